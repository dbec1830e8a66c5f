/- The law TypesFixed: what stands in a column stays. -/
import Derived.Test.YtacjjncmbklplaaGreatDoorAbS18
set_option maxRecDepth 1000000
namespace Go.Ab.Cols
open Go Go.Ab Go.Ab.Names
theorem trimRight_blanks (u w : List UInt8) (h : ∀ x ∈ w, x = 32) : Lib.trimRightB (u ++ w) 32 = Lib.trimRightB u 32 := by
  unfold Lib.trimRightB
  rw [List.reverse_append, List.dropWhile_append_of_pos (by intro a ha; simp [h a (by simpa using ha)])]
theorem trimRight_pad (b sz : Int) (s : List UInt8) : Lib.trimRightB (padB b sz s) 32 = Lib.trimRightB s 32 := by
  unfold padB
  split
  · exact trimRight_blanks s _ fun x hx => (List.mem_replicate.1 hx).2
  · rfl
theorem trimRight_take (z : Nat) (s : List UInt8) (h : Lib.trimB (s.drop z) 32 = []) : Lib.trimRightB (s.take z) 32 = Lib.trimRightB s 32 := by
  have := trimRight_blanks (s.take z) (s.drop z) ((blank_iff _ _).1 h)
  rw [List.take_append_drop] at this
  exact this.symm
theorem padB_length (b sz : Int) (s : List UInt8) (h : (s.length : Int) ≤ sz) : ((padB b sz s).length : Int) ≤ sz ∧ padB b sz (padB b sz s) = padB b sz s := by
  unfold padB
  split
  · have e : (s ++ List.replicate (sz.toNat - s.length) 32).length = sz.toNat := by simp; omega
    rw [e, Nat.sub_self]
    exact ⟨by omega, by simp⟩
  · exact ⟨h, rfl⟩
theorem assignZ_text (b sz n : Int) (s : List UInt8) (t : Bool) (hk : kindZ b sz = 2) (h : (s.length : Int) ≤ sz) : assignZ b sz 2 n s t = [val 2 0 (padB b sz s) false, done] := by
  unfold assignZ
  rw [hk, if_neg (by decide), if_neg (by decide), if_neg (by decide), if_neg (by decide), if_pos rfl, if_pos h]
theorem fixed (b sz k n : Int) (s : List UInt8) (t : Bool) (hv : isVal k n s t) :
    (∃ e : List UInt8, assignZ b sz k n s t = [null, .str e] ∧ (e == [48, 48, 48, 48, 48]) = false) ∨
    (∃ (n2 : Int) (s2 : List UInt8) (t2 : Bool), assignZ b sz k n s t = [val k n2 s2 t2, done] ∧ isVal k n2 s2 t2 ∧ (k = 0 ∨ k = kindZ b sz) ∧ kindZ b sz ≠ 0 ∧ assignZ b sz k n2 s2 t2 = [val k n2 s2 t2, done] ∧
      (k = 1 → n2 = n) ∧ (k = 3 → t2 = t) ∧ (k = 2 → Lib.trimRightB s2 32 = Lib.trimRightB s 32 ∧ (s2.length : Int) ≤ sz ∧ padB b sz s2 = s2 ∧ (b = 4 ∨ b = 5) ∧ sz ≤ 100)) := by
  by_cases h0 : kindZ b sz = 0
  · left
    refine ⟨[52, 50, 56, 48, 52], ?_, by decide⟩
    unfold assignZ
    rw [if_pos h0]
    rfl
  by_cases hk0 : k = 0
  · right
    rcases hv with ⟨rfl, rfl, rfl, rfl⟩ | ⟨rfl, _⟩ | ⟨rfl, _⟩ | ⟨rfl, _⟩
    · have e : assignZ b sz 0 0 [] false = [val 0 0 [] false, done] := by
        unfold assignZ
        rw [if_neg h0, if_pos rfl]
        rfl
      exact ⟨0, [], false, e, .inl ⟨rfl, rfl, rfl, rfl⟩, .inl rfl, h0, e, fun h => absurd h (by decide), fun h => absurd h (by decide), fun h => absurd h (by decide)⟩
    all_goals cases hk0
  by_cases hkk : k = kindZ b sz
  · rcases kind_cases b sz with ⟨_, hz⟩ | ⟨hb, rfl, hz⟩ | ⟨hb, z1, z2, hz⟩ | ⟨rfl, rfl, hz⟩
    · exact absurd hz h0
    · rw [hz] at hkk
      subst hkk
      rcases hv with ⟨h, _⟩ | ⟨_, rfl, rfl⟩ | ⟨h, _⟩ | ⟨h, _⟩
      · cases h
      · have e : assignZ b 0 1 n [] false = if inR b n then [val 1 n [] false, done] else [null, outOf] := by
          unfold assignZ
          rw [hz, if_neg (by decide), if_neg (by decide), if_neg (by decide), if_pos rfl]
        rw [e]
        cases hr : inR b n
        · exact .inl ⟨_, rfl, by decide⟩
        · rw [hr] at e
          exact .inr ⟨n, [], false, rfl, .inr (.inl ⟨rfl, rfl, rfl⟩), .inr hz.symm, h0, e, fun _ => rfl, fun h => absurd h (by decide), fun h => absurd h (by decide)⟩
      · cases h
      · cases h
    · rw [hz] at hkk
      subst hkk
      rcases hv with ⟨h, _⟩ | ⟨h, _⟩ | ⟨_, rfl, rfl⟩ | ⟨h, _⟩
      · cases h
      · cases h
      · by_cases hle : (s.length : Int) ≤ sz
        · obtain ⟨l1, l2⟩ := padB_length b sz s hle
          refine .inr ⟨0, padB b sz s, false, assignZ_text b sz 0 s false hz hle, .inr (.inr (.inl ⟨rfl, rfl, rfl⟩)), .inr hz.symm, h0, ?_, fun h => absurd h (by decide), fun h => absurd h (by decide), fun _ => ⟨trimRight_pad b sz s, l1, l2, hb, z2⟩⟩
          rw [assignZ_text b sz 0 _ false hz l1, l2]
        · have e : assignZ b sz 2 0 s false = if Lib.trimB (s.drop sz.toNat) 32 = [] then [val 2 0 (s.take sz.toNat) false, done] else [null, tooLong] := by
            unfold assignZ
            rw [hz, if_neg (by decide), if_neg (by decide), if_neg (by decide), if_neg (by decide), if_pos rfl, if_neg hle]
          rw [e]
          by_cases htr : Lib.trimB (s.drop sz.toNat) 32 = []
          · rw [if_pos htr]
            have hl : (s.take sz.toNat).length = sz.toNat := by rw [List.length_take]; omega
            have hp : padB b sz (s.take sz.toNat) = s.take sz.toNat := padB_full b sz _ (by omega)
            refine .inr ⟨0, s.take sz.toNat, false, rfl, .inr (.inr (.inl ⟨rfl, rfl, rfl⟩)), .inr hz.symm, h0, ?_, fun h => absurd h (by decide), fun h => absurd h (by decide), fun _ => ⟨trimRight_take _ s htr, by omega, hp, hb, z2⟩⟩
            rw [assignZ_text b sz 0 _ false hz (by omega), hp]
          · rw [if_neg htr]
            exact .inl ⟨_, rfl, by decide⟩
      · cases h
    · rw [hz] at hkk
      subst hkk
      rcases hv with ⟨h, _⟩ | ⟨h, _⟩ | ⟨h, _⟩ | ⟨_, rfl, rfl⟩
      · cases h
      · cases h
      · cases h
      · have e : assignZ 6 0 3 0 [] t = [val 3 0 [] t, done] := by
          unfold assignZ
          rw [hz, if_neg (by decide), if_neg (by decide), if_neg (by decide), if_neg (by decide), if_neg (by decide)]
        exact .inr ⟨0, [], t, e, .inr (.inr (.inr ⟨rfl, rfl, rfl⟩)), .inr hz.symm, h0, e, fun h => absurd h (by decide), fun _ => rfl, fun h => absurd h (by decide)⟩
  · left
    refine ⟨[52, 50, 56, 48, 52], ?_, by decide⟩
    unfold assignZ
    rw [if_neg h0, if_neg hk0, if_pos hkk]
    rfl
theorem cast17 (b sz k n : Int) (s : List UInt8) (t : Bool) (hv : isVal k n s t) (h1 : -9223372036854775808 ≤ n) (h2 : n ≤ 9223372036854775807) (hs : s.length ≤ 9223372036854775807) (hk : k = 0 ∨ k = kindZ b sz) (h0 : kindZ b sz ≠ 0) (hf : assignZ b sz k n s t = [val k n s t, done])
    (hx : k = 2 → (s.length : Int) ≤ sz ∧ padB b sz s = s ∧ (b = 4 ∨ b = 5) ∧ sz ≤ 100) (L m : Nat) (σ : Heap) :
    (cAt TC L (m + 5)).1 17 [.p (val k n s t), .p (ty b sz)] σ = some (.ret (.p (.tup [val k n s t, done])), σ) := by
  refine call_ans (ps := [val k n s t, ty b sz]) (n := m + 4) (af := lit17) (fz := true) rfl (by kernel_rfl) ?_ σ
  have h12 := kind12 b sz L (m + 2)
  have h14 := assign14 b sz k n s t hv h1 h2 hs L m
  have h26 := fun hb (u : List UInt8) (hu : (u.length : Int) ≤ sz) (hz : sz ≤ 100) => pad26 b sz hb u hu hz L (m + 2)
  rw [hf] at h14
  generalize (cAt TC L (m + 4)).1 = C at h12 h14 h26 ⊢
  generalize (cAt TC L (m + 4)).2 = D
  rcases kind_cases b sz with ⟨_, hz⟩ | ⟨_, _, hz⟩ | ⟨_, _, _, hz⟩ | ⟨_, _, hz⟩
  · exact absurd hz h0
  · rw [hz] at h12 hk
    rcases hk with rfl | rfl
    · exact c17_10 C D L b sz n s t h12 h14
    · exact c17_11 C D L b sz n s t h12 h14
  · rw [hz] at h12 hk
    rcases hk with rfl | rfl
    · exact c17_20 C D L b sz n s t h12 h14
    · obtain ⟨l1, l2, l3, l4⟩ := hx rfl
      have h26 := h26 l3 s l1 l4
      rw [l2] at h26
      rcases hv with ⟨h, _⟩ | ⟨h, _⟩ | ⟨_, rfl, rfl⟩ | ⟨h, _⟩
      · cases h
      · cases h
      · exact c17_text C D L b sz 0 s false h12 l1 h26
      · cases h
  · rw [hz] at h12 hk
    rcases hk with rfl | rfl
    · exact c17_30 C D L b sz n s t h12 h14
    · exact c17_33 C D L b sz n s t h12 h14
theorem order20 (k n m : Int) (x y : List UInt8) (t u : Bool) (hk : k = 0 ∨ k = 1 ∨ k = 2 ∨ k = 3) (hx : x.length ≤ 9223372036854775807) (hy : y.length ≤ 9223372036854775807) (h1 : k = 1 → n = m) (h3 : k = 3 → t = u) (h2 : k = 2 → Lib.trimRightB x 32 = Lib.trimRightB y 32) (L j : Nat) (σ : Heap) :
    (cAt TC L (j + 3)).1 20 [.p (val k n x t), .p (val k m y u)] σ = some (.ret (.p (.int .i64 0)), σ) := by
  refine call_ans (ps := [val k n x t, val k m y u]) (n := j + 2) (af := lit20) (fz := true) rfl (by kernel_rfl) ?_ σ
  have h39 := cmp39 k hk L j
  have h40 := cmp40 n L j
  have hwx := words42 x hx L j
  have hwy := words42 y hy L j
  have h41 := cmp41 (Lib.trimRightB x 32) L (j + 1)
  generalize (cAt TC L (j + 2)).1 = C at h39 h40 hwx hwy h41 ⊢
  generalize (cAt TC L (j + 2)).2 = D
  rcases hk with rfl | rfl | rfl | rfl
  · exact o20_null C D L n m x y t u h39
  · obtain rfl := h1 rfl
    exact o20_num C D L n x y t u h39 h40
  · rw [← h2 rfl] at hwy
    exact o20_text C D L n m _ x y t u h39 hwx hwy h41
  · obtain rfl := h3 rfl
    exact o20_bool C D L n m x y t h39

end Go.Ab.Cols
