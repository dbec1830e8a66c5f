/- The laws of keys: codes of values, and their order (plain Lean, no program in sight). -/
import Derived.Lib.TrimByte
set_option linter.unusedSectionVars false
set_option linter.unusedSimpArgs false
set_option linter.unusedVariables false
namespace Go.Ab.Key
/-- a value -/
inductive V where
  | null | num (n : Int) | text (s : List UInt8) | bool (b : Bool)
  deriving DecidableEq
/-- how two texts stand, byte by byte -/
def cmpL : List UInt8 → List UInt8 → Ordering
  | [], [] => .eq
  | [], _ :: _ => .lt
  | _ :: _, [] => .gt
  | a :: s, b :: t => if a < b then .lt else if b < a then .gt else cmpL s t
/-- a text without the blanks at its end -/
abbrev trimB (s : List UInt8) : List UInt8 := Lib.trimRightB s 32
/-- each zero byte is marked -/
def esc : List UInt8 → List UInt8
  | [] => []
  | c :: s => if c = 0 then 0 :: 255 :: esc s else c :: esc s
/-- k bytes of a number, the greatest first -/
def be : Nat → Nat → List UInt8
  | 0, _ => []
  | k + 1, u => UInt8.ofNat (u / 256 ^ k) :: be k (u % 256 ^ k)
/-- a number's code: from 0 on -/
def off (n : Int) : Nat := (n + 9223372036854775808).toNat
def inR (n : Int) : Prop := -9223372036854775808 ≤ n ∧ n ≤ 9223372036854775807
def enc1 : V → List UInt8
  | .null => [1]
  | .num n => 2 :: be 8 (off n)
  | .text s => 3 :: (esc (trimB s) ++ [0, 0])
  | .bool b => [4, if b then 1 else 0]
def encL (l : List V) : List UInt8 := l.flatMap enc1
/-- a right value's number -/
def V.ok : V → Prop
  | .num n => inR n
  | _ => True
def rank : V → Nat
  | .null => 0
  | .num _ => 1
  | .text _ => 2
  | .bool _ => 3
/-- how two values stand -/
def ordV : V → V → Ordering
  | .null, .null => .eq
  | .num a, .num b => compare a b
  | .text s, .text t => cmpL (trimB s) (trimB t)
  | .bool a, .bool b => compare a.toNat b.toNat
  | a, b => compare (rank a) (rank b)
/-- how two lists stand, value by value -/
def ordL : List V → List V → Ordering
  | [], [] => .eq
  | [], _ :: _ => .lt
  | _ :: _, [] => .gt
  | a :: x, b :: y => (ordV a b).then (ordL x y)

theorem cmpL_cons (a b : UInt8) (s t : List UInt8) : cmpL (a :: s) (b :: t) = if a < b then .lt else if b < a then .gt else cmpL s t := rfl
theorem cmpL_same (a : UInt8) (s t : List UInt8) : cmpL (a :: s) (a :: t) = cmpL s t := by
  have : ¬ a < a := UInt8.lt_irrefl a
  simp [cmpL_cons, this]
theorem cmpL_lt {a b : UInt8} (h : a < b) (s t : List UInt8) : cmpL (a :: s) (b :: t) = .lt := by simp [cmpL_cons, h]
theorem cmpL_gt {a b : UInt8} (h : b < a) (s t : List UInt8) : cmpL (a :: s) (b :: t) = .gt := by
  have : ¬ a < b := UInt8.lt_asymm h
  simp [cmpL_cons, h, this]
theorem cmpL_eq : ∀ {s t : List UInt8}, cmpL s t = .eq ↔ s = t
  | [], [] => by simp [cmpL]
  | [], _ :: _ => by simp [cmpL]
  | _ :: _, [] => by simp [cmpL]
  | a :: s, b :: t => by
    rw [cmpL_cons]
    by_cases h1 : a < b
    · have : a ≠ b := fun h => UInt8.lt_irrefl b (h ▸ h1)
      simp [h1, this]
    · by_cases h2 : b < a
      · have : a ≠ b := fun h => UInt8.lt_irrefl b (h ▸ h2)
        simp [h1, h2, this]
      · have : a = b := UInt8.le_antisymm (UInt8.not_lt.1 h2) (UInt8.not_lt.1 h1)
        simp [h1, h2, this, cmpL_eq]
/-- a byte's order is its number's -/
theorem ofNat_lt {a b : Nat} (ha : a < 256) (hb : b < 256) : UInt8.ofNat a < UInt8.ofNat b ↔ a < b := by
  rw [UInt8.lt_iff_toNat_lt, UInt8.toNat_ofNat_of_lt' ha, UInt8.toNat_ofNat_of_lt' hb]
theorem div_lt_pow {k u : Nat} (h : u < 256 ^ (k + 1)) : u / 256 ^ k < 256 := by
  rw [Nat.div_lt_iff_lt_mul (Nat.pow_pos (by decide))]
  rw [Nat.pow_succ, Nat.mul_comm] at h
  exact h
theorem be_cmp : ∀ (k u v : Nat) (p q : List UInt8), u < 256 ^ k → v < 256 ^ k → cmpL (be k u ++ p) (be k v ++ q) = (compare u v).then (cmpL p q)
  | 0, u, v, p, q, hu, hv => by
    have hu0 : u = 0 := by simpa using hu
    have hv0 : v = 0 := by simpa using hv
    subst hu0 hv0
    simp [be]
  | k + 1, u, v, p, q, hu, hv => by
    have hm : 0 < 256 ^ k := Nat.pow_pos (by decide)
    have h1 := div_lt_pow hu
    have h2 := div_lt_pow hv
    have e1 := Nat.div_add_mod u (256 ^ k)
    have e2 := Nat.div_add_mod v (256 ^ k)
    have m1 := Nat.mod_lt u hm
    have m2 := Nat.mod_lt v hm
    simp only [be, List.cons_append, cmpL_cons, ofNat_lt h1 h2, ofNat_lt h2 h1]
    by_cases hlt : u / 256 ^ k < v / 256 ^ k
    · have : u < v := by
        have : 256 ^ k * (u / 256 ^ k) + 256 ^ k ≤ 256 ^ k * (v / 256 ^ k) := by
          rw [← Nat.mul_succ]; exact Nat.mul_le_mul_left _ hlt
        omega
      simp [hlt, Nat.compare_eq_lt.2 this]
    · by_cases hgt : v / 256 ^ k < u / 256 ^ k
      · have : v < u := by
          have : 256 ^ k * (v / 256 ^ k) + 256 ^ k ≤ 256 ^ k * (u / 256 ^ k) := by
            rw [← Nat.mul_succ]; exact Nat.mul_le_mul_left _ hgt
          omega
        simp [hlt, hgt, Nat.compare_eq_gt.2 this]
      · have heq : u / 256 ^ k = v / 256 ^ k := by omega
        rw [if_neg hlt, if_neg hgt, be_cmp k _ _ p q m1 m2]
        congr 1
        have hc : compare (u % 256 ^ k) (v % 256 ^ k) = compare u v := by
          rw [heq] at e1
          rcases Nat.lt_trichotomy u v with h | h | h
          · rw [Nat.compare_eq_lt.2 h, Nat.compare_eq_lt.2 (by omega)]
          · subst h; rw [Nat.compare_eq_eq.2 rfl, Nat.compare_eq_eq.2 rfl]
          · rw [Nat.compare_eq_gt.2 h, Nat.compare_eq_gt.2 (by omega)]
        exact hc
theorem esc_cmp : ∀ (s t p q : List UInt8), cmpL (esc s ++ ([0, 0] ++ p)) (esc t ++ ([0, 0] ++ q)) = (cmpL s t).then (cmpL p q)
  | [], [], p, q => by simp [esc, cmpL_same, cmpL]
  | [], d :: t, p, q => by
    by_cases hd : d = 0
    · subst hd
      have : (0 : UInt8) < 255 := by decide
      simp [esc, cmpL_same, cmpL_lt this, cmpL]
    · have : (0 : UInt8) < d := by
        rcases UInt8.lt_or_lt_of_ne (Ne.symm hd) with h | h
        · exact h
        · exact absurd h (by simp)
      simp [esc, hd, cmpL_lt this, cmpL]
  | c :: s, [], p, q => by
    by_cases hc : c = 0
    · subst hc
      have : (0 : UInt8) < 255 := by decide
      simp [esc, cmpL_same, cmpL_gt this, cmpL]
    · have : (0 : UInt8) < c := by
        rcases UInt8.lt_or_lt_of_ne (Ne.symm hc) with h | h
        · exact h
        · exact absurd h (by simp)
      simp [esc, hc, cmpL_gt this, cmpL]
  | c :: s, d :: t, p, q => by
    have ih := esc_cmp s t p q
    by_cases hc : c = 0
    · by_cases hd : d = 0
      · subst hc hd
        simp only [esc, if_true, List.cons_append, cmpL_same]
        exact ih
      · have : (0 : UInt8) < d := by
          rcases UInt8.lt_or_lt_of_ne (Ne.symm hd) with h | h
          · exact h
          · exact absurd h (by simp)
        subst hc
        simp [esc, hd, cmpL_lt this]
    · by_cases hd : d = 0
      · have : (0 : UInt8) < c := by
          rcases UInt8.lt_or_lt_of_ne (Ne.symm hc) with h | h
          · exact h
          · exact absurd h (by simp)
        subst hd
        simp [esc, hc, cmpL_gt this]
      · simp only [esc, hc, hd, if_false, List.cons_append, cmpL_cons]
        by_cases h1 : c < d
        · simp [h1]
        · by_cases h2 : d < c
          · simp [h1, h2]
          · simp only [h1, h2, if_false]
            exact ih
theorem off_lt {n : Int} (h : inR n) : off n < 256 ^ 8 := by
  unfold off inR at *
  have : (256 : Nat) ^ 8 = 18446744073709551616 := by decide
  omega
theorem off_cmp {a b : Int} (ha : inR a) (hb : inR b) : compare (off a) (off b) = compare a b := by
  unfold off inR at *
  rcases Int.lt_trichotomy a b with h | h | h
  · rw [Int.compare_eq_lt.2 h, Nat.compare_eq_lt.2 (by omega)]
  · subst h; simp
  · rw [Int.compare_eq_gt.2 h, Nat.compare_eq_gt.2 (by omega)]
/-- codes stand as values do, whatever follows -/
theorem enc1_cmp (a b : V) (p q : List UInt8) (ha : a.ok) (hb : b.ok) : cmpL (enc1 a ++ p) (enc1 b ++ q) = (ordV a b).then (cmpL p q) := by
  cases a with
  | null =>
    cases b with
    | null => simp [enc1, cmpL_same, ordV]
    | num n => simp [enc1, ordV, rank, cmpL_lt (show (1 : UInt8) < 2 by decide)]; rfl
    | text s => simp [enc1, ordV, rank, cmpL_lt (show (1 : UInt8) < 3 by decide)]; rfl
    | bool b => simp [enc1, ordV, rank, cmpL_lt (show (1 : UInt8) < 4 by decide)]; rfl
  | num m =>
    cases b with
    | null => simp [enc1, ordV, rank, cmpL_gt (show (1 : UInt8) < 2 by decide)]; rfl
    | num n =>
      simp only [enc1, List.cons_append, cmpL_same, ordV]
      rw [be_cmp 8 _ _ _ _ (off_lt ha) (off_lt hb), off_cmp ha hb]
    | text s => simp [enc1, ordV, rank, cmpL_lt (show (2 : UInt8) < 3 by decide)]; rfl
    | bool b => simp [enc1, ordV, rank, cmpL_lt (show (2 : UInt8) < 4 by decide)]; rfl
  | text s =>
    cases b with
    | null => simp [enc1, ordV, rank, cmpL_gt (show (1 : UInt8) < 3 by decide)]; rfl
    | num n => simp [enc1, ordV, rank, cmpL_gt (show (2 : UInt8) < 3 by decide)]; rfl
    | text t =>
      simp only [enc1, List.cons_append, cmpL_same, ordV, List.append_assoc]
      exact esc_cmp _ _ _ _
    | bool b => simp [enc1, ordV, rank, cmpL_lt (show (3 : UInt8) < 4 by decide)]; rfl
  | bool c =>
    cases b with
    | null => simp [enc1, ordV, rank, cmpL_gt (show (1 : UInt8) < 4 by decide)]; rfl
    | num n => simp [enc1, ordV, rank, cmpL_gt (show (2 : UInt8) < 4 by decide)]; rfl
    | text s => simp [enc1, ordV, rank, cmpL_gt (show (3 : UInt8) < 4 by decide)]; rfl
    | bool d =>
      cases c <;> cases d <;> simp [enc1, cmpL_same, ordV, cmpL_lt (show (0 : UInt8) < 1 by decide), cmpL_gt (show (0 : UInt8) < 1 by decide)] <;> rfl
theorem enc1_ne (a : V) : ∃ c r, enc1 a = c :: r ∧ c ≤ 4 := by
  cases a with
  | null => exact ⟨1, [], rfl, by decide⟩
  | num n => exact ⟨2, _, rfl, by decide⟩
  | text s => exact ⟨3, _, rfl, by decide⟩
  | bool b => exact ⟨4, _, rfl, by decide⟩
/-- KEYS STAND AS THEIR VALUES DO -/
theorem encL_cmp : ∀ (x y : List V), (∀ v ∈ x, v.ok) → (∀ v ∈ y, v.ok) → cmpL (encL x) (encL y) = ordL x y
  | [], [], _, _ => rfl
  | [], b :: y, _, _ => by
    obtain ⟨c, r, h, _⟩ := enc1_ne b
    simp [encL, h, cmpL, ordL]
  | a :: x, [], _, _ => by
    obtain ⟨c, r, h, _⟩ := enc1_ne a
    simp [encL, h, cmpL, ordL]
  | a :: x, b :: y, hx, hy => by
    have ih := encL_cmp x y (fun v hv => hx v (by simp [hv])) (fun v hv => hy v (by simp [hv]))
    simp only [encL, List.flatMap_cons, ordL] at *
    rw [enc1_cmp a b _ _ (hx a (by simp)) (hy b (by simp)), ih]
/-- is the second list a beginning of the first one, value by value? -/
def begins : List V → List V → Bool
  | _, [] => true
  | [], _ :: _ => false
  | b :: z, a :: x => ordV b a == .eq && begins z x
theorem begins_between : ∀ (z x : List V), (∀ v ∈ z, v.ok) → (∀ v ∈ x, v.ok) → begins z x = (cmpL (encL z) (encL x) != .lt && cmpL (encL z) (encL x ++ [255]) != .gt)
  | z, [], hz, _ => by
    cases z with
    | nil => rfl
    | cons b z =>
      obtain ⟨c, r, h, hc⟩ := enc1_ne b
      have : c < 255 := UInt8.lt_of_le_of_lt hc (by decide)
      simp [begins, encL, h, cmpL, cmpL_cons, this]
  | [], a :: x, _, _ => by
    obtain ⟨c, r, h, _⟩ := enc1_ne a
    simp [begins, encL, h, cmpL]
  | b :: z, a :: x, hz, hx => by
    have ih := begins_between z x (fun v hv => hz v (by simp [hv])) (fun v hv => hx v (by simp [hv]))
    simp only [begins]
    have e1 : cmpL (encL (b :: z)) (encL (a :: x)) = (ordV b a).then (cmpL (encL z) (encL x)) := by
      simp only [encL, List.flatMap_cons]
      exact enc1_cmp b a _ _ (hz b (by simp)) (hx a (by simp))
    have e2 : cmpL (encL (b :: z)) (encL (a :: x) ++ [255]) = (ordV b a).then (cmpL (encL z) (encL x ++ [255])) := by
      simp only [encL, List.flatMap_cons, List.append_assoc]
      exact enc1_cmp b a _ _ (hz b (by simp)) (hx a (by simp))
    rw [e1, e2, ih]
    cases ordV b a <;> simp
end Go.Ab.Key

/- EvalCounts: the plain law: the least, the greatest, the unlike (no program in sight). -/
namespace Go.Ab.Key
theorem cmpL_trans : ∀ {a b c : List UInt8}, cmpL a b ≠ .gt → cmpL b c ≠ .gt → cmpL a c ≠ .gt
  | [], _, [], _, _ => by simp [cmpL]
  | [], _, _ :: _, _, _ => by simp [cmpL]
  | _ :: _, [], _, h, _ => by simp [cmpL] at h
  | _ :: _, _ :: _, [], _, h => by simp [cmpL] at h
  | x :: a, y :: b, z :: c, h, k => by
    rw [cmpL_cons] at h k ⊢
    by_cases h1 : x < y
    · by_cases h2 : y < z
      · simp [UInt8.lt_trans h1 h2]
      · by_cases h3 : z < y
        · simp [h2, h3] at k
        · have : y = z := UInt8.le_antisymm (UInt8.not_lt.1 h3) (UInt8.not_lt.1 h2)
          subst this
          simp [h1]
    · by_cases h2 : y < x
      · simp [h1, h2] at h
      · have : x = y := UInt8.le_antisymm (UInt8.not_lt.1 h2) (UInt8.not_lt.1 h1)
        subst this
        simp only [h1, if_false] at h
        by_cases h3 : x < z
        · simp [h3]
        · by_cases h4 : z < x
          · simp [h3, h4] at k
          · simp only [h3, h4, if_false] at k ⊢
            exact cmpL_trans h k
theorem cmpL_swap : ∀ a b : List UInt8, cmpL b a = (cmpL a b).swap
  | [], [] => rfl
  | [], _ :: _ => rfl
  | _ :: _, [] => rfl
  | x :: a, y :: b => by
    rw [cmpL_cons, cmpL_cons]
    by_cases h1 : x < y
    · have h2 : ¬ y < x := UInt8.lt_asymm h1
      simp [h1, h2]
    · by_cases h2 : y < x
      · simp [h1, h2]
      · simp [h1, h2, cmpL_swap a b]
theorem ordV_swap (a b : V) : ordV b a = (ordV a b).swap := by
  cases a with
  | null => cases b <;> rfl
  | num x => cases b with
    | num y => simp only [ordV]; exact (Int.compare_swap x y).symm
    | _ => rfl
  | text s => cases b with
    | text t => exact cmpL_swap _ _
    | _ => rfl
  | bool x => cases b with
    | bool y => cases x <;> cases y <;> rfl
    | _ => rfl
theorem ordV_trans {a b c : V} (h : ordV a b ≠ .gt) (k : ordV b c ≠ .gt) : ordV a c ≠ .gt := by
  cases a <;> cases b <;> cases c <;> first
    | exact cmpL_trans h k
    | (simp only [ordV, rank] at h k ⊢; first | exact absurd rfl h | exact absurd rfl k | exact h | exact k | decide)
    | (rename_i x y z; simp only [ordV, ne_eq, Int.compare_eq_gt, Int.not_lt] at h k ⊢; omega)
    | (rename_i x y z; revert h k; cases x <;> cases y <;> cases z <;> decide)
theorem ordV_self (v : V) : ordV v v = .eq := by
  have h := ordV_swap v v
  cases ho : ordV v v <;> rw [ho] at h <;> first | rfl | cases h
/-- the least of a list -/
def least (x : List V) (m : V) : V := x.foldl (fun m a => if ordV a m = .lt then a else m) m
theorem least_spec : ∀ (x : List V) (m : V), (least x m = m ∨ least x m ∈ x) ∧ ordV (least x m) m ≠ .gt ∧ ∀ a ∈ x, ordV (least x m) a ≠ .gt
  | [], m => ⟨.inl rfl, by simp [least, ordV_self], fun a h => by simp at h⟩
  | b :: x, m => by
    have hl : least (b :: x) m = least x (if ordV b m = .lt then b else m) := rfl
    rw [hl]
    by_cases h : ordV b m = .lt
    · rw [if_pos h]
      obtain ⟨h1, h2, h3⟩ := least_spec x b
      refine ⟨.inr ?_, ordV_trans h2 (by rw [h]; decide), fun a ha => ?_⟩
      · rcases h1 with h1 | h1
        · rw [h1]; exact List.mem_cons_self ..
        · exact List.mem_cons_of_mem _ h1
      · rcases List.mem_cons.1 ha with rfl | ha
        · exact h2
        · exact h3 a ha
    · rw [if_neg h]
      obtain ⟨h1, h2, h3⟩ := least_spec x m
      have hmb : ordV m b ≠ .gt := by
        rw [ordV_swap b m]
        cases ho : ordV b m <;> simp [Ordering.swap]
        exact h ho
      refine ⟨?_, h2, fun a ha => ?_⟩
      · rcases h1 with h1 | h1
        · exact .inl h1
        · exact .inr (List.mem_cons_of_mem _ h1)
      · rcases List.mem_cons.1 ha with rfl | ha
        · exact ordV_trans h2 hmb
        · exact h3 a ha
end Go.Ab.Key
