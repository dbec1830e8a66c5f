/- The law TypesBack: a number's figures, read again. -/
import Derived.Test.YtacjjncmbklplaaDoorAbB10
import Derived.Lib.ParseIntBCases
set_option maxRecDepth 1000000
namespace Go.Ab.Back
open Go Go.Ab Go.Lib
theorem dec_small {u : Nat} (h : u < 10) : decDigits u = [UInt8.ofNat (48 + u)] := decDigits_one h
theorem dec_big {u : Nat} (h : ¬ u < 10) : decDigits u = decDigits (u / 10) ++ [UInt8.ofNat (48 + u % 10)] := by
  rw [decDigits, dif_neg h]
theorem digit_nat (d : Nat) (h : d < 10) : (UInt8.ofNat (48 + d)).toNat = 48 + d := by
  simp
  omega
theorem dec_digits : ∀ (u : Nat), ∀ x ∈ decDigits u, 48 ≤ x.toNat ∧ x.toNat ≤ 57 := by
  intro u
  induction u using Nat.strongRecOn with
  | _ u ih =>
    intro x hx
    by_cases h : u < 10
    · rw [dec_small h] at hx
      simp only [List.mem_cons, List.mem_nil_iff, or_false] at hx
      subst hx
      rw [digit_nat u h]
      omega
    · rw [dec_big h] at hx
      rcases List.mem_append.1 hx with hx | hx
      · exact ih (u / 10) (by omega) x hx
      · simp only [List.mem_cons, List.mem_nil_iff, or_false] at hx
        subst hx
        rw [digit_nat _ (by omega)]
        omega
theorem dec_ne (u : Nat) : decDigits u ≠ [] := by
  intro h
  have := decDigits_length u
  rw [h] at this
  have := nDigits_pos u
  simp at *
  omega
theorem nd_le : ∀ (k u : Nat), u < 10 ^ (k + 1) → nDigits u ≤ k + 1 := by
  intro k
  induction k with
  | zero => intro u h; rw [nDigits_small (by simpa using h)]; omega
  | succ k ih =>
    intro u h
    by_cases hu : u < 10
    · rw [nDigits_small hu]; omega
    · rw [nDigits_big hu]
      have : u / 10 < 10 ^ (k + 1) := by
        rw [Nat.pow_succ] at h
        omega
      have := ih _ this
      omega
theorem dec_len (u : Nat) (h : u ≤ 9223372036854775808) : (decDigits u).length ≤ 19 := by
  rw [decDigits_length]
  exact nd_le 18 u (by omega)
theorem pm_append (M : Nat) (r : List UInt8) : ∀ (l : List UInt8) (acc v : Nat), parseUintM M acc l = .ok v → parseUintM M acc (l ++ r) = parseUintM M v r
  | [], acc, v, h => by
    simp only [parseUintM] at h
    injection h with h
    subst h
    rfl
  | c :: l, acc, v, h => by
    simp only [List.cons_append, parseUintM] at h ⊢
    split at h
    · rename_i h1
      rw [if_pos h1]
      split at h
      · cases h
      · rename_i h2
        rw [if_neg h2]
        split at h
        · cases h
        · rename_i h3
          rw [if_neg h3]
          exact pm_append M r l _ v h
    · cases h
theorem pm_one (M acc d : Nat) (hd : d < 10) (ha : acc < 1844674407370955162) (hM : acc * 10 + d ≤ M) : parseUintM M acc [UInt8.ofNat (48 + d)] = .ok (acc * 10 + d) := by
  simp only [parseUintM]
  rw [digit_nat d hd, if_pos (by omega), if_neg (by omega), if_neg (by omega)]
  congr 1
  omega
theorem pm_dec (M : Nat) (hM : 9223372036854775808 ≤ M) : ∀ (u : Nat), u ≤ 9223372036854775808 → parseUintM M 0 (decDigits u) = .ok u := by
  intro u
  induction u using Nat.strongRecOn with
  | _ u ih =>
    intro hu
    by_cases h : u < 10
    · rw [dec_small h, pm_one M 0 u h (by omega) (by omega)]
      congr 1
      omega
    · rw [dec_big h, pm_append M _ _ 0 (u / 10) (ih (u / 10) (by omega) (by omega)), pm_one M (u / 10) (u % 10) (by omega) (by omega) (by omega)]
      congr 1
      omega
theorem pu_dec (u : Nat) (hu : u ≤ 9223372036854775808) : parseUintB 64 (decDigits u) = .ok u := by
  unfold parseUintB
  rw [if_neg (dec_ne u)]
  exact pm_dec _ (by decide) u hu
theorem itoa_neg' (n : Int) (h : n < 0) : itoa n = 45 :: decDigits n.natAbs := by unfold itoa; rw [if_pos h]
theorem itoa_pos' (n : Int) (h : ¬ n < 0) : itoa n = decDigits n.toNat := by unfold itoa; rw [if_neg h]
theorem parse_itoa (n : Int) (h1 : -9223372036854775808 ≤ n) (h2 : n ≤ 9223372036854775807) : parseIntB 64 (itoa n) = .ok n := by
  by_cases h : n < 0
  · rw [itoa_neg' n h, parseIntB_minus, pu_dec _ (by omega)]
    simp only [signedC]
    rw [if_neg (by simp; omega)]
    congr 1
    omega
  · rw [itoa_pos' n h]
    cases hd : decDigits n.toNat with
    | nil => exact absurd hd (dec_ne _)
    | cons c r =>
      have hc := dec_digits n.toNat c (by rw [hd]; simp)
      rw [parseIntB_plain 64 c r (by omega) (by omega), ← hd, pu_dec _ (by omega)]
      simp only [signlessC]
      rw [if_neg (by simp; omega)]
      congr 1
      omega
theorem itoa_len (n : Int) (h1 : -9223372036854775808 ≤ n) (h2 : n ≤ 9223372036854775807) : (itoa n).length ≤ 20 := by
  by_cases h : n < 0
  · rw [itoa_neg' n h]
    have := dec_len n.natAbs (by omega)
    simp
    omega
  · rw [itoa_pos' n h]
    have := dec_len n.toNat (by omega)
    omega
theorem itoa_noblank (n : Int) : ∀ x ∈ itoa n, x ≠ 32 := by
  intro x hx e
  subst e
  by_cases h : n < 0
  · rw [itoa_neg' n h] at hx
    rcases List.mem_cons.1 hx with hx | hx
    · cases hx
    · have := dec_digits _ _ hx
      simp at this
  · rw [itoa_pos' n h] at hx
    have := dec_digits _ _ hx
    simp at this
theorem dropWhile_none (l : List UInt8) (h : ∀ x ∈ l, x ≠ 32) : l.dropWhile (· == 32) = l := by
  cases l with
  | nil => rfl
  | cons a r =>
    rw [List.dropWhile_cons]
    have : (a == 32) = false := by simpa using h a (by simp)
    rw [this]
    rfl
theorem trim_id (u : List UInt8) (h : ∀ x ∈ u, x ≠ 32) : trimB u 32 = u := by
  unfold trimB trimLeftB trimRightB
  rw [dropWhile_none u.reverse (fun x hx => h x (by simpa using hx)), List.reverse_reverse]
  exact dropWhile_none u h
theorem trimRight_blanks (u w : List UInt8) (h : ∀ x ∈ w, x = 32) : trimRightB (u ++ w) 32 = trimRightB u 32 := by
  unfold trimRightB
  rw [List.reverse_append, List.dropWhile_append_of_pos (by intro a ha; simp [h a (by simpa using ha)])]
theorem trim_pad (b sz : Int) (u : List UInt8) (h : ∀ x ∈ u, x ≠ 32) : trimB (padB b sz u) 32 = u := by
  have : trimB (padB b sz u) 32 = trimB u 32 := by
    unfold trimB
    congr 1
    unfold padB
    split
    · exact trimRight_blanks u _ fun x hx => (List.mem_replicate.1 hx).2
    · rfl
  rw [this, trim_id u h]

end Go.Ab.Back
