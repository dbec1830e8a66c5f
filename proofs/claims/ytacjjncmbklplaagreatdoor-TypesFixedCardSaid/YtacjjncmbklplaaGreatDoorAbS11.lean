/- The laws on columns' values: what a column takes, by the document: all cases. -/
import Derived.Test.YtacjjncmbklplaaGreatDoorAbS10
set_option maxRecDepth 1000000
namespace Go.Ab.Cols
open Go Go.Ab Go.Ab.Names
theorem assign16 (b sz k n : Int) (s : List UInt8) (t : Bool) (hv : isVal k n s t) (hs : s.length ≤ 9223372036854775807) (L m : Nat) (hL : s.length < L + 102) (σ : Heap) :
    (cAt TC (L + 102) (m + 4)).1 16 [.p (val k n s t), .p (ty b sz)] σ = some (.ret (.p (.tup (assignZ b sz k n s t))), σ) := by
  refine call_ans (ps := [val k n s t, ty b sz]) (n := m + 3) (af := lit16) (fz := true) rfl (by kernel_rfl) ?_ σ
  have h13 := kind13 b sz (L + 102) (m + 1)
  have h29 := fun hb r hr => fits29 b hb n r hr (L + 102) (m + 2)
  have h30 := fun hb (u : List UInt8) (hz : sz ≤ 100) => padded30 b sz hb hz u L (m + 1)
  generalize (cAt TC (L + 102) (m + 3)).1 = C at h13 h29 h30 ⊢
  generalize (cAt TC (L + 102) (m + 3)).2 = D
  unfold assignZ
  rcases kind_cases b sz with ⟨_, hk⟩ | ⟨hb, rfl, hk⟩ | ⟨hb, z1, z2, hk⟩ | ⟨rfl, rfl, hk⟩ <;> rw [hk] at h13 ⊢
  · exact a16_none C D (L + 102) b sz k n s t h13
  · rw [if_neg (by decide)]
    rcases hv with ⟨rfl, rfl, rfl, rfl⟩ | ⟨rfl, rfl, rfl⟩ | ⟨rfl, rfl, rfl⟩ | ⟨rfl, rfl, rfl⟩
    · exact a16_null1 C D (L + 102) b 0 0 _ _ h13
    · rw [if_neg (by decide), if_neg (by decide), if_pos rfl]
      cases hr : inR b n
      · exact a16_num_false C D (L + 102) b 0 n _ _ h13 (h29 hb false hr)
      · exact a16_num_true C D (L + 102) b 0 n _ _ h13 (h29 hb true hr)
    · exact a16_other1 C D (L + 102) b 0 2 0 _ _ h13 (by decide) (by decide)
    · exact a16_other1 C D (L + 102) b 0 3 0 _ _ h13 (by decide) (by decide)
  · rw [if_neg (by decide)]
    rcases hv with ⟨rfl, rfl, rfl, rfl⟩ | ⟨rfl, rfl, rfl⟩ | ⟨rfl, rfl, rfl⟩ | ⟨rfl, rfl, rfl⟩
    · exact a16_null2 C D (L + 102) b sz 0 _ _ h13
    · exact a16_other2 C D (L + 102) b sz 1 n _ _ h13 (by decide) (by decide)
    · rw [if_neg (by decide), if_neg (by decide), if_neg (by decide), if_pos rfl]
      by_cases hle : (s.length : Int) ≤ sz
      · rw [if_pos hle]
        refine a16_text C D (L + 102) b sz 0 s _ h13 _ fun X ρ h8 h3 h4 => ?_
        exact tail16_fits C D (L + 102) b sz s X ρ hL hs (by omega) h8 h3 h4 s (fun u hu => hu.1 hle) hle _ (h30 hb s z2)
      · rw [if_neg hle]
        by_cases htr : Lib.trimB (s.drop sz.toNat) 32 = []
        · rw [if_pos htr]
          refine a16_text C D (L + 102) b sz 0 s _ h13 _ fun X ρ h8 h3 h4 => ?_
          have hp := h30 hb (s.take sz.toNat) z2
          rw [padB_full b sz _ (by rw [List.length_take]; omega)] at hp
          exact tail16_fits C D (L + 102) b sz s X ρ hL hs (by omega) h8 h3 h4 (s.take sz.toNat) (fun u hu => hu.2.1 (by omega) htr) (by rw [List.length_take]; omega) _ hp
        · rw [if_neg htr]
          refine a16_text C D (L + 102) b sz 0 s _ h13 _ fun X ρ h8 h3 h4 => ?_
          exact tail16_long C D (L + 102) b sz s X ρ hL hs (by omega) h8 h3 h4 (fun u hu => hu.2.2 (by omega) htr)
    · exact a16_other2 C D (L + 102) b sz 3 0 _ _ h13 (by decide) (by decide)
  · rw [if_neg (by decide)]
    rcases hv with ⟨rfl, rfl, rfl, rfl⟩ | ⟨rfl, rfl, rfl⟩ | ⟨rfl, rfl, rfl⟩ | ⟨rfl, rfl, rfl⟩
    · exact a16_null3 C D (L + 102) 6 0 0 _ _ h13
    · exact a16_other3 C D (L + 102) 6 0 1 n _ _ h13 (by decide) (by decide)
    · exact a16_other3 C D (L + 102) 6 0 2 0 _ _ h13 (by decide) (by decide)
    · exact a16_bool C D (L + 102) 6 0 0 _ t h13

end Go.Ab.Cols
