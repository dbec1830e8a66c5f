/- The laws on columns' values: what a column takes, by the program: all cases. -/
import Derived.Test.YtacjjncmbklplaaDoorAbB6
set_option maxRecDepth 1000000
namespace Go.Ab.Back
open Go Go.Ab
theorem padB_full (b sz : Int) (s : List UInt8) (h : sz.toNat ≤ s.length) : padB b sz s = s := by
  unfold padB
  split
  · rw [show sz.toNat - s.length = 0 from by omega]; simp
  · rfl
theorem assign14 (b sz k n : Int) (s : List UInt8) (t : Bool) (hv : isVal k n s t) (h1 : -9223372036854775808 ≤ n) (h2 : n ≤ 9223372036854775807) (hs : s.length ≤ 9223372036854775807) (L m : Nat) (σ : Heap) :
    (cAt TB L (m + 4)).1 9 [.p (val k n s t), .p (ty b sz)] σ = some (.ret (.p (.tup (assignZ b sz k n s t))), σ) := by
  refine call_ans (ps := [val k n s t, ty b sz]) (n := m + 3) (af := lit14) (fz := true) rfl (by kernel_rfl) ?_ σ
  have h12 := kind12 b sz L (m + 1)
  have h24 := fun hb r hr => ranged24 b hb n h1 h2 r hr L (m + 1)
  have h25 := fun (u : List UInt8) (hu : u.length ≤ 9223372036854775807) => trim25 u hu L (m + 2)
  have h26 := fun hb (u : List UInt8) (hu : (u.length : Int) ≤ sz) (hz : sz ≤ 100) => pad26 b sz hb u hu hz L (m + 1)
  have hl26 := fun (u : List UInt8) (hu : sz < (u.length : Int)) => long26 b sz u hu L (m + 1)
  generalize (cAt TB L (m + 3)).1 = C at h12 h24 h25 h26 hl26 ⊢
  generalize (cAt TB L (m + 3)).2 = D
  have hd : (s.drop sz.toNat).length ≤ 9223372036854775807 := by rw [List.length_drop]; omega
  unfold assignZ
  rcases kind_cases b sz with ⟨_, hk⟩ | ⟨hb, rfl, hk⟩ | ⟨hb, z1, z2, hk⟩ | ⟨rfl, rfl, hk⟩ <;> rw [hk] at h12 ⊢
  · exact a14_none C D L b sz k n s t h12
  · rw [if_neg (by decide)]
    rcases hv with ⟨rfl, rfl, rfl, rfl⟩ | ⟨rfl, rfl, rfl⟩ | ⟨rfl, rfl, rfl⟩ | ⟨rfl, rfl, rfl⟩
    · exact a14_null1 C D L b 0 0 _ _ h12
    · rw [if_neg (by decide), if_neg (by decide), if_pos rfl]
      cases hr : inR b n
      · exact a14_num_false C D L b 0 n _ _ h12 (h24 hb false hr)
      · exact a14_num_true C D L b 0 n _ _ h12 (h24 hb true hr)
    · exact a14_other1 C D L b 0 2 0 _ _ h12 (by decide) (by decide)
    · exact a14_other1 C D L b 0 3 0 _ _ h12 (by decide) (by decide)
  · rw [if_neg (by decide)]
    rcases hv with ⟨rfl, rfl, rfl, rfl⟩ | ⟨rfl, rfl, rfl⟩ | ⟨rfl, rfl, rfl⟩ | ⟨rfl, rfl, rfl⟩
    · exact a14_null2 C D L b sz 0 _ _ h12
    · exact a14_other2 C D L b sz 1 n _ _ h12 (by decide) (by decide)
    · rw [if_neg (by decide), if_neg (by decide), if_neg (by decide), if_pos rfl]
      by_cases hle : (s.length : Int) ≤ sz
      · rw [if_pos hle]
        exact a14_short C D L b sz 0 s _ h12 hle _ (h26 hb s hle z2)
      · rw [if_neg hle]
        by_cases htr : Lib.trimB (s.drop sz.toNat) 32 = []
        · rw [if_pos htr]
          have h25 := h25 _ hd
          rw [htr] at h25
          have hp := h26 hb (s.take sz.toNat) (by rw [List.length_take]; omega) z2
          rw [padB_full b sz _ (by rw [List.length_take]; omega)] at hp
          exact a14_cut C D L b sz 0 s _ h12 (by omega) (by omega) h25 _ hp
        · rw [if_neg htr]
          exact a14_long C D L b sz 0 s _ h12 (by omega) (by omega) _ (by simpa using htr) (h25 _ hd) (hl26 s (by omega))
    · exact a14_other2 C D L b sz 3 0 _ _ h12 (by decide) (by decide)
  · rw [if_neg (by decide)]
    rcases hv with ⟨rfl, rfl, rfl, rfl⟩ | ⟨rfl, rfl, rfl⟩ | ⟨rfl, rfl, rfl⟩ | ⟨rfl, rfl, rfl⟩
    · exact a14_null3 C D L 6 0 0 _ _ h12
    · exact a14_other3 C D L 6 0 1 n _ _ h12 (by decide) (by decide)
    · exact a14_other3 C D L 6 0 2 0 _ _ h12 (by decide) (by decide)
    · exact a14_bool C D L 6 0 0 _ t h12

end Go.Ab.Back
