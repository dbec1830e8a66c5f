/- The laws of keys: codes of values, and their order (plain Lean, no program in sight). -/
import Derived.Lib.TrimByte
import Derived.Test.YtikebbklkiodlaaDoorAbE3
import Derived.KernelRfl
set_option linter.unusedSectionVars false
set_option linter.unusedSimpArgs false
set_option linter.unusedVariables false
namespace Go.Ab.Key
/-- a value -/
inductive V where
  | null | num (n : Int) | text (s : List UInt8) | bool (b : Bool)
  deriving DecidableEq
/-- how two texts stand, byte by byte -/
def cmpL : List UInt8 → List UInt8 → Ordering
  | [], [] => .eq
  | [], _ :: _ => .lt
  | _ :: _, [] => .gt
  | a :: s, b :: t => if a < b then .lt else if b < a then .gt else cmpL s t
/-- a text without the blanks at its end -/
abbrev trimB (s : List UInt8) : List UInt8 := Lib.trimRightB s 32
/-- each zero byte is marked -/
def esc : List UInt8 → List UInt8
  | [] => []
  | c :: s => if c = 0 then 0 :: 255 :: esc s else c :: esc s
/-- k bytes of a number, the greatest first -/
def be : Nat → Nat → List UInt8
  | 0, _ => []
  | k + 1, u => UInt8.ofNat (u / 256 ^ k) :: be k (u % 256 ^ k)
/-- a number's code: from 0 on -/
def off (n : Int) : Nat := (n + 9223372036854775808).toNat
def inR (n : Int) : Prop := -9223372036854775808 ≤ n ∧ n ≤ 9223372036854775807
def enc1 : V → List UInt8
  | .null => [1]
  | .num n => 2 :: be 8 (off n)
  | .text s => 3 :: (esc (trimB s) ++ [0, 0])
  | .bool b => [4, if b then 1 else 0]
def encL (l : List V) : List UInt8 := l.flatMap enc1
/-- a right value's number -/
def V.ok : V → Prop
  | .num n => inR n
  | _ => True
def rank : V → Nat
  | .null => 0
  | .num _ => 1
  | .text _ => 2
  | .bool _ => 3
/-- how two values stand -/
def ordV : V → V → Ordering
  | .null, .null => .eq
  | .num a, .num b => compare a b
  | .text s, .text t => cmpL (trimB s) (trimB t)
  | .bool a, .bool b => compare a.toNat b.toNat
  | a, b => compare (rank a) (rank b)
/-- how two lists stand, value by value -/
def ordL : List V → List V → Ordering
  | [], [] => .eq
  | [], _ :: _ => .lt
  | _ :: _, [] => .gt
  | a :: x, b :: y => (ordV a b).then (ordL x y)

theorem cmpL_cons (a b : UInt8) (s t : List UInt8) : cmpL (a :: s) (b :: t) = if a < b then .lt else if b < a then .gt else cmpL s t := rfl
theorem cmpL_same (a : UInt8) (s t : List UInt8) : cmpL (a :: s) (a :: t) = cmpL s t := by
  have : ¬ a < a := UInt8.lt_irrefl a
  simp [cmpL_cons, this]
theorem cmpL_lt {a b : UInt8} (h : a < b) (s t : List UInt8) : cmpL (a :: s) (b :: t) = .lt := by simp [cmpL_cons, h]
theorem cmpL_gt {a b : UInt8} (h : b < a) (s t : List UInt8) : cmpL (a :: s) (b :: t) = .gt := by
  have : ¬ a < b := UInt8.lt_asymm h
  simp [cmpL_cons, h, this]
theorem cmpL_eq : ∀ {s t : List UInt8}, cmpL s t = .eq ↔ s = t
  | [], [] => by simp [cmpL]
  | [], _ :: _ => by simp [cmpL]
  | _ :: _, [] => by simp [cmpL]
  | a :: s, b :: t => by
    rw [cmpL_cons]
    by_cases h1 : a < b
    · have : a ≠ b := fun h => UInt8.lt_irrefl b (h ▸ h1)
      simp [h1, this]
    · by_cases h2 : b < a
      · have : a ≠ b := fun h => UInt8.lt_irrefl b (h ▸ h2)
        simp [h1, h2, this]
      · have : a = b := UInt8.le_antisymm (UInt8.not_lt.1 h2) (UInt8.not_lt.1 h1)
        simp [h1, h2, this, cmpL_eq]
/-- a byte's order is its number's -/
theorem ofNat_lt {a b : Nat} (ha : a < 256) (hb : b < 256) : UInt8.ofNat a < UInt8.ofNat b ↔ a < b := by
  rw [UInt8.lt_iff_toNat_lt, UInt8.toNat_ofNat_of_lt' ha, UInt8.toNat_ofNat_of_lt' hb]
theorem div_lt_pow {k u : Nat} (h : u < 256 ^ (k + 1)) : u / 256 ^ k < 256 := by
  rw [Nat.div_lt_iff_lt_mul (Nat.pow_pos (by decide))]
  rw [Nat.pow_succ, Nat.mul_comm] at h
  exact h
theorem be_cmp : ∀ (k u v : Nat) (p q : List UInt8), u < 256 ^ k → v < 256 ^ k → cmpL (be k u ++ p) (be k v ++ q) = (compare u v).then (cmpL p q)
  | 0, u, v, p, q, hu, hv => by
    have hu0 : u = 0 := by simpa using hu
    have hv0 : v = 0 := by simpa using hv
    subst hu0 hv0
    simp [be]
  | k + 1, u, v, p, q, hu, hv => by
    have hm : 0 < 256 ^ k := Nat.pow_pos (by decide)
    have h1 := div_lt_pow hu
    have h2 := div_lt_pow hv
    have e1 := Nat.div_add_mod u (256 ^ k)
    have e2 := Nat.div_add_mod v (256 ^ k)
    have m1 := Nat.mod_lt u hm
    have m2 := Nat.mod_lt v hm
    simp only [be, List.cons_append, cmpL_cons, ofNat_lt h1 h2, ofNat_lt h2 h1]
    by_cases hlt : u / 256 ^ k < v / 256 ^ k
    · have : u < v := by
        have : 256 ^ k * (u / 256 ^ k) + 256 ^ k ≤ 256 ^ k * (v / 256 ^ k) := by
          rw [← Nat.mul_succ]; exact Nat.mul_le_mul_left _ hlt
        omega
      simp [hlt, Nat.compare_eq_lt.2 this]
    · by_cases hgt : v / 256 ^ k < u / 256 ^ k
      · have : v < u := by
          have : 256 ^ k * (v / 256 ^ k) + 256 ^ k ≤ 256 ^ k * (u / 256 ^ k) := by
            rw [← Nat.mul_succ]; exact Nat.mul_le_mul_left _ hgt
          omega
        simp [hlt, hgt, Nat.compare_eq_gt.2 this]
      · have heq : u / 256 ^ k = v / 256 ^ k := by omega
        rw [if_neg hlt, if_neg hgt, be_cmp k _ _ p q m1 m2]
        congr 1
        have hc : compare (u % 256 ^ k) (v % 256 ^ k) = compare u v := by
          rw [heq] at e1
          rcases Nat.lt_trichotomy u v with h | h | h
          · rw [Nat.compare_eq_lt.2 h, Nat.compare_eq_lt.2 (by omega)]
          · subst h; rw [Nat.compare_eq_eq.2 rfl, Nat.compare_eq_eq.2 rfl]
          · rw [Nat.compare_eq_gt.2 h, Nat.compare_eq_gt.2 (by omega)]
        exact hc
theorem esc_cmp : ∀ (s t p q : List UInt8), cmpL (esc s ++ ([0, 0] ++ p)) (esc t ++ ([0, 0] ++ q)) = (cmpL s t).then (cmpL p q)
  | [], [], p, q => by simp [esc, cmpL_same, cmpL]
  | [], d :: t, p, q => by
    by_cases hd : d = 0
    · subst hd
      have : (0 : UInt8) < 255 := by decide
      simp [esc, cmpL_same, cmpL_lt this, cmpL]
    · have : (0 : UInt8) < d := by
        rcases UInt8.lt_or_lt_of_ne (Ne.symm hd) with h | h
        · exact h
        · exact absurd h (by simp)
      simp [esc, hd, cmpL_lt this, cmpL]
  | c :: s, [], p, q => by
    by_cases hc : c = 0
    · subst hc
      have : (0 : UInt8) < 255 := by decide
      simp [esc, cmpL_same, cmpL_gt this, cmpL]
    · have : (0 : UInt8) < c := by
        rcases UInt8.lt_or_lt_of_ne (Ne.symm hc) with h | h
        · exact h
        · exact absurd h (by simp)
      simp [esc, hc, cmpL_gt this, cmpL]
  | c :: s, d :: t, p, q => by
    have ih := esc_cmp s t p q
    by_cases hc : c = 0
    · by_cases hd : d = 0
      · subst hc hd
        simp only [esc, if_true, List.cons_append, cmpL_same]
        exact ih
      · have : (0 : UInt8) < d := by
          rcases UInt8.lt_or_lt_of_ne (Ne.symm hd) with h | h
          · exact h
          · exact absurd h (by simp)
        subst hc
        simp [esc, hd, cmpL_lt this]
    · by_cases hd : d = 0
      · have : (0 : UInt8) < c := by
          rcases UInt8.lt_or_lt_of_ne (Ne.symm hc) with h | h
          · exact h
          · exact absurd h (by simp)
        subst hd
        simp [esc, hc, cmpL_gt this]
      · simp only [esc, hc, hd, if_false, List.cons_append, cmpL_cons]
        by_cases h1 : c < d
        · simp [h1]
        · by_cases h2 : d < c
          · simp [h1, h2]
          · simp only [h1, h2, if_false]
            exact ih
theorem off_lt {n : Int} (h : inR n) : off n < 256 ^ 8 := by
  unfold off inR at *
  have : (256 : Nat) ^ 8 = 18446744073709551616 := by decide
  omega
theorem off_cmp {a b : Int} (ha : inR a) (hb : inR b) : compare (off a) (off b) = compare a b := by
  unfold off inR at *
  rcases Int.lt_trichotomy a b with h | h | h
  · rw [Int.compare_eq_lt.2 h, Nat.compare_eq_lt.2 (by omega)]
  · subst h; simp
  · rw [Int.compare_eq_gt.2 h, Nat.compare_eq_gt.2 (by omega)]
/-- codes stand as values do, whatever follows -/
theorem enc1_cmp (a b : V) (p q : List UInt8) (ha : a.ok) (hb : b.ok) : cmpL (enc1 a ++ p) (enc1 b ++ q) = (ordV a b).then (cmpL p q) := by
  cases a with
  | null =>
    cases b with
    | null => simp [enc1, cmpL_same, ordV]
    | num n => simp [enc1, ordV, rank, cmpL_lt (show (1 : UInt8) < 2 by decide)]; rfl
    | text s => simp [enc1, ordV, rank, cmpL_lt (show (1 : UInt8) < 3 by decide)]; rfl
    | bool b => simp [enc1, ordV, rank, cmpL_lt (show (1 : UInt8) < 4 by decide)]; rfl
  | num m =>
    cases b with
    | null => simp [enc1, ordV, rank, cmpL_gt (show (1 : UInt8) < 2 by decide)]; rfl
    | num n =>
      simp only [enc1, List.cons_append, cmpL_same, ordV]
      rw [be_cmp 8 _ _ _ _ (off_lt ha) (off_lt hb), off_cmp ha hb]
    | text s => simp [enc1, ordV, rank, cmpL_lt (show (2 : UInt8) < 3 by decide)]; rfl
    | bool b => simp [enc1, ordV, rank, cmpL_lt (show (2 : UInt8) < 4 by decide)]; rfl
  | text s =>
    cases b with
    | null => simp [enc1, ordV, rank, cmpL_gt (show (1 : UInt8) < 3 by decide)]; rfl
    | num n => simp [enc1, ordV, rank, cmpL_gt (show (2 : UInt8) < 3 by decide)]; rfl
    | text t =>
      simp only [enc1, List.cons_append, cmpL_same, ordV, List.append_assoc]
      exact esc_cmp _ _ _ _
    | bool b => simp [enc1, ordV, rank, cmpL_lt (show (3 : UInt8) < 4 by decide)]; rfl
  | bool c =>
    cases b with
    | null => simp [enc1, ordV, rank, cmpL_gt (show (1 : UInt8) < 4 by decide)]; rfl
    | num n => simp [enc1, ordV, rank, cmpL_gt (show (2 : UInt8) < 4 by decide)]; rfl
    | text s => simp [enc1, ordV, rank, cmpL_gt (show (3 : UInt8) < 4 by decide)]; rfl
    | bool d =>
      cases c <;> cases d <;> simp [enc1, cmpL_same, ordV, cmpL_lt (show (0 : UInt8) < 1 by decide), cmpL_gt (show (0 : UInt8) < 1 by decide)] <;> rfl
theorem enc1_ne (a : V) : ∃ c r, enc1 a = c :: r ∧ c ≤ 4 := by
  cases a with
  | null => exact ⟨1, [], rfl, by decide⟩
  | num n => exact ⟨2, _, rfl, by decide⟩
  | text s => exact ⟨3, _, rfl, by decide⟩
  | bool b => exact ⟨4, _, rfl, by decide⟩
/-- KEYS STAND AS THEIR VALUES DO -/
theorem encL_cmp : ∀ (x y : List V), (∀ v ∈ x, v.ok) → (∀ v ∈ y, v.ok) → cmpL (encL x) (encL y) = ordL x y
  | [], [], _, _ => rfl
  | [], b :: y, _, _ => by
    obtain ⟨c, r, h, _⟩ := enc1_ne b
    simp [encL, h, cmpL, ordL]
  | a :: x, [], _, _ => by
    obtain ⟨c, r, h, _⟩ := enc1_ne a
    simp [encL, h, cmpL, ordL]
  | a :: x, b :: y, hx, hy => by
    have ih := encL_cmp x y (fun v hv => hx v (by simp [hv])) (fun v hv => hy v (by simp [hv]))
    simp only [encL, List.flatMap_cons, ordL] at *
    rw [enc1_cmp a b _ _ (hx a (by simp)) (hy b (by simp)), ih]
/-- is the second list a beginning of the first one, value by value? -/
def begins : List V → List V → Bool
  | _, [] => true
  | [], _ :: _ => false
  | b :: z, a :: x => ordV b a == .eq && begins z x
theorem begins_between : ∀ (z x : List V), (∀ v ∈ z, v.ok) → (∀ v ∈ x, v.ok) → begins z x = (cmpL (encL z) (encL x) != .lt && cmpL (encL z) (encL x ++ [255]) != .gt)
  | z, [], hz, _ => by
    cases z with
    | nil => rfl
    | cons b z =>
      obtain ⟨c, r, h, hc⟩ := enc1_ne b
      have : c < 255 := UInt8.lt_of_le_of_lt hc (by decide)
      simp [begins, encL, h, cmpL, cmpL_cons, this]
  | [], a :: x, _, _ => by
    obtain ⟨c, r, h, _⟩ := enc1_ne a
    simp [begins, encL, h, cmpL]
  | b :: z, a :: x, hz, hx => by
    have ih := begins_between z x (fun v hv => hz v (by simp [hv])) (fun v hv => hx v (by simp [hv]))
    simp only [begins]
    have e1 : cmpL (encL (b :: z)) (encL (a :: x)) = (ordV b a).then (cmpL (encL z) (encL x)) := by
      simp only [encL, List.flatMap_cons]
      exact enc1_cmp b a _ _ (hz b (by simp)) (hx a (by simp))
    have e2 : cmpL (encL (b :: z)) (encL (a :: x) ++ [255]) = (ordV b a).then (cmpL (encL z) (encL x ++ [255])) := by
      simp only [encL, List.flatMap_cons, List.append_assoc]
      exact enc1_cmp b a _ _ (hz b (by simp)) (hx a (by simp))
    rw [e1, e2, ih]
    cases ordV b a <;> simp
end Go.Ab.Key

/- General parts of the laws of keys, for other programs. -/
set_option maxRecDepth 1000000
namespace Go.Ab.Cnt
open Go Go.Ab Go.Ab.Key
variable [Marks]
theorem seqN {C : Oracle} {L : Nat} {a b : ACode} {st st1 : St} (h : exec C L a st = some (.normal, st1)) : exec C L (.seq a b) st = exec C L b st1 := by
  simp only [exec, h]
theorem seqR {C : Oracle} {L : Nat} {a b : ACode} {st st1 : St} (h : exec C L a st = some (.ret, st1)) : exec C L (.seq a b) st = some (.ret, st1) := by
  simp only [exec, h]
theorem seqX {C : Oracle} {L id : Nat} {a b : ACode} {st st1 : St} (h : exec C L a st = some (.exit id, st1)) : exec C L (.seq a b) st = some (.exit id, st1) := by
  simp only [exec, h]
theorem condT {C : Oracle} {L : Nat} {c : Opd} {a b : ACode} {st : St} (h : ev st.env c = some (.p (.bool true))) : exec C L (.cond c a b) st = exec C L a st := by
  simp only [exec, h]
theorem condF {C : Oracle} {L : Nat} {c : Opd} {a b : ACode} {st : St} (h : ev st.env c = some (.p (.bool false))) : exec C L (.cond c a b) st = exec C L b st := by
  simp only [exec, h]
theorem blockN {C : Oracle} {L id : Nat} {b : ACode} {st st1 : St} (h : exec C L b st = some (.normal, st1)) : exec C L (.block id b) st = some (.normal, st1) := by
  simp only [exec, h]
theorem blockX {C : Oracle} {L id : Nat} {b : ACode} {st st1 : St} (h : exec C L b st = some (.exit id, st1)) : exec C L (.block id b) st = some (.normal, st1) := by
  simp only [exec, h, if_true]
theorem blockR {C : Oracle} {L id : Nat} {b : ACode} {st st1 : St} (h : exec C L b st = some (.ret, st1)) : exec C L (.block id b) st = some (.ret, st1) := by
  simp only [exec, h]
/-- a call's end -/
def finX (D : DOracle) (af : AFunc) : Option (AExit × St) → Option (CRes × Heap)
  | some (.pan v, st) => finA D af st (some v)
  | some (.normal, st) => finA D af st none
  | some (.ret, st) => finA D af st none
  | _ => none
theorem runFunc_eq (C : Oracle) (D : DOracle) (L : Nat) (af : AFunc) (args : List AV) (σ : Heap) : runFunc C D L af args σ = finX D af (exec C L af.body ⟨params 0 args, [], σ⟩) := rfl
theorem wrap_id (n : Int) (h1 : -9223372036854775808 ≤ n) (h2 : n ≤ 9223372036854775807) : IntKind.i64.wrap n = n := by
  simp only [IntKind.wrap, IntKind.bits, IntKind.signed]
  simp
  split <;> omega
/-- a call with pure arguments whose answer is a new slice -/
theorem wrap_slice {g : List AV → Heap → Option (CRes × Heap)} {fz : Bool} {ps : List PV} {id ver n esz : Nat} {cells : List PV} {ty : Option Nat} {σr : Heap} (h : g (ps.map .p) [] = some (.ret (.sl id ver 0 n esz), σr))
    (ho : σr[id]? = some (.arr (.pv cells) ver 0 ty)) (σ : Heap) : wrapF g fz (ps.map .p) σ = some (.ret (.sl σ.length 0 0 n esz), σ ++ [.arr (.pv cells) 0 0 ty]) := by
  have key : innerW g (ps.map .p) σ [] = some (.ret (.sl σ.length 0 0 n esz), σ ++ [.arr (.pv cells) 0 0 ty]) := by
    have hout : outL 0 (.ret (.sl id ver 0 n esz)) σr = [(id, ver)] := by
      have hb : Nat.blt id 0 = false := by
        unfold Nat.blt
        simp [Nat.ble]
      simp [outL, keepK, resIds, idsV, collect, listOf, idsO, ho, versO, hb, Obj.ver]
    have hsh : shrinkH [(id, ver)] σr = [.arr (.pv cells) 0 0 ty] := by
      simp [shrinkH, ho, shO, renC]
    unfold innerW
    have h1 : (uniq [] && inOK [] σ.length) = true := rfl
    have h2 : shrinkH [] σ = [] := rfl
    simp only [h1, renL_pure, h2, h, List.length_nil, hout]
    have h4 : (uniq [(id, ver)] && backOK [] [Obj.arr (.pv cells) 0 0 ty]) = true := rfl
    simp only [hsh, h4]
    have hbeq : Nat.beq id id = true := Nat.beq_refl id
    simp [renR, renV, fwd, posOf, hbeq, bwd, mergeH, putBack, bkO, renC]
  unfold wrapF
  cases fz with
  | false =>
    simp only [touch_pure, List.all_nil]
    exact key
  | true =>
    simp only [frzA_pure, touch_pure, List.all_nil]
    exact key
theorem call_slice {T : Table} {L n f : Nat} {af : AFunc} {fz : Bool} {ps : List PV} {id ver k esz : Nat} {cells : List PV} {ty : Option Nat} {σr : Heap} (hT : T f = some (.code af fz)) (hf : fits af (ps.map .p) = true)
    (h : runFunc (cAt T L n).1 (cAt T L n).2 L af (ps.map .p) [] = some (.ret (.sl id ver 0 k esz), σr)) (ho : σr[id]? = some (.arr (.pv cells) ver 0 ty)) (σ : Heap) :
    (cAt T L (n + 1)).1 f (ps.map .p) σ = some (.ret (.sl σ.length 0 0 k esz), σ ++ [.arr (.pv cells) 0 0 ty]) := by
  simp only [cAt, callT, hT]
  exact wrap_slice (by unfold runCode; rw [hf]; exact h) ho σ
/-- a value's cells -/
def vc : V → List PV
  | .null => [.int .i64 0, .int .i64 0, .str [], .bool false]
  | .num n => [.int .i64 1, .int .i64 n, .str [], .bool false]
  | .text s => [.int .i64 2, .int .i64 0, .str s, .bool false]
  | .bool b => [.int .i64 3, .int .i64 0, .str [], .bool b]
def vcs (l : List V) : List PV := (l.map vc).flatten
theorem vc_len (v : V) : (vc v).length = 4 := by cases v <;> rfl
theorem vcs_len (l : List V) : (vcs l).length = l.length * 4 := by
  induction l with
  | nil => rfl
  | cons v r ih => simp only [vcs, List.map_cons, List.flatten_cons, List.length_append, vc_len, List.length_cons] at *; omega
theorem flat_at {α : Type} (f : α → List PV) (hf : ∀ x, (f x).length = 4) : ∀ (l : List α) (i : Nat) (x : α), l[i]? = some x → ((l.map f).flatten.drop (i * 4)).take 4 = f x
  | [], i, x, h => by simp at h
  | y :: r, 0, x, h => by
    simp at h
    subst h
    simp only [List.map_cons, List.flatten_cons, Nat.zero_mul, List.drop_zero]
    rw [← hf y, List.take_left]
  | y :: r, i + 1, x, h => by
    have ih := flat_at f hf r i x (by simpa using h)
    simp only [List.map_cons, List.flatten_cons]
    rw [show (i + 1) * 4 = (f y).length + i * 4 from by rw [hf]; omega, List.drop_append, List.drop_eq_nil_of_le (by omega)]
    simpa using ih
/-- a slice of values that grows -/
def VBuf (σ : Heap) (b : AV) (l : List V) : Prop := (b = .nil0 ∧ l = []) ∨ l ≠ [] ∧ ∃ id ver, b = .sl id ver 0 l.length 4 ∧ σ[id]? = some (.arr (.pv (vcs l)) ver 0 (some 39))
theorem vcs_snoc (l : List V) (v : V) : vcs (l ++ [v]) = vcs l ++ vc v := by simp [vcs]
/-- what Row answers: a slice that is new, or nil -/
def sliceR (l : List V) (σ : Heap) : Option (CRes × Heap) := match l with
  | [] => some (.ret .nil0, σ)
  | v :: r => some (.ret (.sl σ.length 0 0 (v :: r).length 4), σ ++ [.arr (.pv (vcs (v :: r))) 0 0 (some 39)])
theorem wrap_nil {g : List AV → Heap → Option (CRes × Heap)} {fz : Bool} {ps : List PV} {σr : Heap} (h : g (ps.map .p) [] = some (.ret .nil0, σr)) (σ : Heap) :
    wrapF g fz (ps.map .p) σ = some (.ret .nil0, σ) := by
  have key : innerW g (ps.map .p) σ [] = some (.ret .nil0, σ) := by
    unfold innerW
    have h1 : (uniq [] && inOK [] σ.length) = true := rfl
    have h2 : shrinkH [] σ = [] := rfl
    have h3 : outL ([] : List (Nat × Nat)).length (.ret .nil0) σr = [] := rfl
    simp only [h1, h2, renL_pure, h, h3]
    have h4 : (uniq [] && backOK [] (shrinkH [] σr)) = true := rfl
    simp only [h4, renR, renV]
    have h5 : shrinkH [] σr = [] := rfl
    rw [h5]
    have h6 : mergeH [] σ [] = σ := by simp [mergeH, putBack]
    rw [h6]
  unfold wrapF
  cases fz with
  | false =>
    simp only [touch_pure, List.all_nil]
    exact key
  | true =>
    simp only [frzA_pure, touch_pure, List.all_nil]
    exact key
theorem flat_v (l : List V) (i : Nat) (v : V) (h : l[i]? = some v) : ((vcs l).drop (i * 4)).take 4 = vc v := flat_at vc vc_len l i v h
/-- an object that is not the slice's -/
def NB (b : AV) (j : Nat) : Prop := ∀ id ver off len esz, b = .sl id ver off len esz → id ≠ j
theorem NB_nil (j : Nat) : NB .nil0 j := fun _ _ _ _ _ h => by cases h
/-- a slice that holds values -/
def SlAt (σ : Heap) (v : AV) (x : List V) : Prop := (v = .nil0 ∧ x = []) ∨ ∃ id ver wm rest ty, v = .sl id ver 0 x.length 4 ∧ σ[id]? = some (.arr (.pv (vcs x ++ rest)) ver wm ty)
/-- whatever slices were there are there -/
def Keeps (σ σ' : Heap) : Prop := ∀ v x, SlAt σ v x → SlAt σ' v x
theorem Keeps.refl (σ : Heap) : Keeps σ σ := fun _ _ h => h
theorem Keeps.trans {σ1 σ2 σ3 : Heap} (h : Keeps σ1 σ2) (k : Keeps σ2 σ3) : Keeps σ1 σ3 := fun v x q => k v x (h v x q)
theorem Keeps.push (σ : Heap) (o : Obj) : Keeps σ (σ ++ [o]) := by
  rintro v x (h | ⟨id, ver, wm, rest, ty, rfl, ho⟩)
  · exact .inl h
  · exact .inr ⟨id, ver, wm, rest, ty, rfl, by rw [List.getElem?_append_left (List.getElem?_eq_some_iff.1 ho).1]; exact ho⟩
theorem frz_one {tl : List Nat} {σ : Heap} {v : AV} {x : List V} (h : SlAt σ v x) (ht : ∀ id ver n, v = .sl id ver 0 n 4 → tl.contains id = true) :
    ∃ σ1, frz tl 9 σ v = some (.vsl (vcs x) x.length, σ1) ∧ Keeps σ σ1 := by
  rcases h with ⟨rfl, rfl⟩ | ⟨id, ver, wm, rest, ty, rfl, ho⟩
  · exact ⟨σ, rfl, .refl _⟩
  · have hid : id < σ.length := (List.getElem?_eq_some_iff.1 ho).1
    have hc := ht id ver x.length rfl
    have hl : x.length * 4 ≤ (vcs x ++ rest).length := by rw [List.length_append, vcs_len]; omega
    have htk : (vcs x ++ rest).take (x.length * 4) = vcs x := by rw [← vcs_len, List.take_left]
    refine ⟨σ.set id (.arr (.pv (vcs x ++ rest)) ver (Nat.max wm (0 + x.length * 4)) ty), ?_, ?_⟩
    · have hl' : x.length * 4 ≤ (vcs x).length + rest.length := by rw [vcs_len]; omega
      simp only [frz, ho, Cells.len, hc, Nat.zero_add, List.drop_zero, htk, and_true, true_and]
      rw [if_pos hl]
    · rintro v' x' (h | ⟨id', ver', wm', rest', ty', rfl, ho'⟩)
      · exact .inl h
      · by_cases he : id = id'
        · subst he
          rw [ho] at ho'
          simp only [Option.some.injEq, Obj.arr.injEq, Cells.pv.injEq] at ho'
          obtain ⟨e1, rfl, rfl, rfl⟩ := ho'
          exact .inr ⟨id, ver, _, rest', ty, rfl, by rw [List.getElem?_set_self hid, e1]⟩
        · exact .inr ⟨id', ver', wm', rest', ty', rfl, by rw [List.getElem?_set_ne he]; exact ho'⟩
theorem touch_one {σ : Heap} {v : AV} {x : List V} (h : SlAt σ v x) : ∀ id ver n, v = .sl id ver 0 n 4 → (touch σ [v]).contains id = true := by
  intro id ver n hv
  rcases h with ⟨rfl, _⟩ | ⟨id', ver', wm, rest, ty, rfl, ho⟩
  · cases hv
  · cases hv
    simp [touch, idsL, idsV, collect, idsO, ho]
theorem touch_two {σ : Heap} {v u : AV} {x y : List V} (h : SlAt σ v x) (k : SlAt σ u y) : (∀ id ver n, v = .sl id ver 0 n 4 → (touch σ [v, u]).contains id = true) ∧ (∀ id ver n, u = .sl id ver 0 n 4 → (touch σ [v, u]).contains id = true) := by
  rcases h with ⟨rfl, _⟩ | ⟨id1, ver1, wm1, rest1, ty1, rfl, ho1⟩ <;> rcases k with ⟨rfl, _⟩ | ⟨id2, ver2, wm2, rest2, ty2, rfl, ho2⟩
  · exact ⟨fun _ _ _ h => (by cases h), fun _ _ _ h => (by cases h)⟩
  · refine ⟨fun _ _ _ h => (by cases h), fun _ _ _ h => ?_⟩
    cases h
    simp [touch, idsL, idsV, collect, idsO, ho2]
  · refine ⟨fun _ _ _ h => ?_, fun _ _ _ h => (by cases h)⟩
    cases h
    simp [touch, idsL, idsV, collect, idsO, ho1]
  · by_cases he : id1 = id2
    · subst he
      refine ⟨fun _ _ _ h => ?_, fun _ _ _ h => ?_⟩ <;> cases h <;> simp [touch, idsL, idsV, collect, idsO, ho1]
    · have he' : ¬ id2 = id1 := fun h => he h.symm
      refine ⟨fun _ _ _ h => ?_, fun _ _ _ h => ?_⟩ <;> cases h <;> simp [touch, idsL, idsV, collect, idsO, ho1, ho2, he, he']
theorem cAt_frz {T : Table} {L n f : Nat} {af : AFunc} {as0 : List AV} {ps : List PV} {σ σ1 : Heap} (hT : T f = some (.code af true)) (hf : frzA (touch σ as0) 9 σ as0 = (ps.map .p, σ1)) :
    (cAt T L (n + 1)).1 f as0 σ = (cAt T L (n + 1)).1 f (ps.map .p) σ1 := by
  simp only [cAt, callT, hT, wrapF, hf, frzA_pure, touch_pure, List.all_nil]
theorem cmpL_refl : ∀ s : List UInt8, cmpL s s = .eq := fun s => cmpL_eq.2 rfl
theorem ordV_refl (v : V) : ordV v v = .eq := by
  cases v with
  | null => rfl
  | num n => simp [ordV]
  | text s => exact cmpL_refl _
  | bool b => simp [ordV]
theorem SlAt.len {σ : Heap} {v : AV} {x : List V} (h : SlAt σ v x) : lenA v = some x.length := by
  rcases h with ⟨rfl, rfl⟩ | ⟨_, _, _, _, _, rfl, _⟩ <;> rfl
theorem SlAt.str {σ : Heap} {v : AV} {x : List V} (h : SlAt σ v x) : ∀ s, v ≠ .p (.str s) := by
  intro s hv
  rcases h with ⟨rfl, _⟩ | ⟨_, _, _, _, _, rfl, _⟩ <;> cases hv
theorem wanted_true {ρ : Env} {j : Nat} (h : ρ.get j = some (.p (.bool true))) : wantedA (some (j, true)) ρ = some true := by
  simp only [wantedA, h]; rfl
/-- one operation that asks for a slice's length -/
theorem run_len {C : Oracle} {d k : Nat} {g : Option (Nat × Bool)} {r : List AOper} {ρ : Env} {σ : Heap} {v : AV} {n : Nat} (hl : lenA v = some n) (hs : ∀ s, v ≠ .p (.str s)) (hw : wantedA g ρ = some true) (h : ρ.get k = some v) :
    runOps C (⟨some d, .len false (.t k), g⟩ :: r) ⟨ρ, [], σ⟩ = runOps C r ⟨(d, .p (.int .i64 (n : Int))) :: ρ, [], σ⟩ := by
  have hp : pureOp ρ (.len false (.t k)) = some (.p (.int .i64 (n : Int))) := by
    simp only [pureOp, ev, h]
    cases v with
    | p u => cases u <;> first | exact absurd rfl (hs _) | (simp only [lenA] at hl ⊢ ; first | (cases hl; done) | (obtain rfl := Option.some.inj hl; rfl) | (cases hl))
    | _ => simp only [lenA] at hl ⊢ <;> first | (obtain rfl := Option.some.inj hl; rfl) | (cases hl)
  simp only [runOps, hw, stepOp, hp, putE]
/-- one operation that takes the head of a slice -/
theorem run_slice {C : Oracle} {d k j : Nat} {g : Option (Nat × Bool)} {r : List AOper} {ρ : Env} {σ : Heap} {v u : AV} {X : Int} (hl : sliceA 4 v none (some (.p (.int .i64 X))) = some u) (hs : ∀ s, v ≠ .p (.str s)) (hw : wantedA g ρ = some true) (h : ρ.get k = some v) (hj : ρ.get j = some (.p (.int .i64 X))) :
    runOps C (⟨some d, .slice 4 (.t k) none (some (.t j)), g⟩ :: r) ⟨ρ, [], σ⟩ = runOps C r ⟨(d, u) :: ρ, [], σ⟩ := by
  have hp : pureOp ρ (.slice 4 (.t k) none (some (.t j))) = some u := by
    simp only [pureOp, ev, evO, h, hj, Option.map_some]
    cases v with
    | p u => cases u <;> first | exact absurd rfl (hs _) | exact hl
    | _ => exact hl
  simp only [runOps, hw, stepOp, hp, putE]
theorem SlAt.elems {σ : Heap} {v : AV} {x : List V} (h : SlAt σ v x) : elemsA σ 4 v = some (x.length, .pv (vcs x)) := by
  rcases h with ⟨rfl, rfl⟩ | ⟨id, ver, wm, rest, ty, rfl, ho⟩
  · rfl
  · have hl : x.length * 4 ≤ (vcs x ++ rest).length := by rw [List.length_append, vcs_len]; omega
    have htk : (vcs x ++ rest).take (x.length * 4) = vcs x := by rw [← vcs_len, List.take_left]
    simp only [elemsA, ho, Cells.len, Nat.zero_add, true_and, if_true]
    rw [if_pos hl]
    simp only [takeC, dropC, List.drop_zero, htk]
theorem SlAt.slice {σ : Heap} {v : AV} {x : List V} (h : SlAt σ v x) (k : Nat) (hk : k ≤ x.length) : ∃ u, sliceA 4 v none (some (.p (.int .i64 (k : Int)))) = some u ∧ SlAt σ u (x.take k) ∧ (∀ s, v ≠ .p (.str s)) := by
  rcases h with ⟨rfl, rfl⟩ | ⟨id, ver, wm, rest, ty, rfl, ho⟩
  · obtain rfl : k = 0 := by simpa using hk
    exact ⟨.nil0, rfl, .inl ⟨rfl, rfl⟩, fun _ h => by cases h⟩
  · refine ⟨.sl id ver 0 k 4, ?_, .inr ⟨id, ver, wm, (vcs x).drop (k * 4) ++ rest, ty, ?_, ?_⟩, fun _ h => by cases h⟩
    · have h1 : (0 : Int) ≤ (k : Int) := by omega
      have h2 : (k : Int) ≤ (x.length : Int) := by omega
      simp [sliceA, boundsA, boundA, hk]
    · simp [Nat.min_eq_left hk]
    · rw [ho]
      have hv : vcs x = vcs (x.take k) ++ (vcs x).drop (k * 4) := by
        have h1 : vcs x = vcs (x.take k) ++ vcs (x.drop k) := by
          unfold vcs
          rw [← List.flatten_append, ← List.map_append, List.take_append_drop]
        have h2 : (vcs (x.take k)).length = k * 4 := by rw [vcs_len, List.length_take, Nat.min_eq_left hk]
        rw [h1]
        congr 1
        rw [← h2, List.drop_left]
      rw [← List.append_assoc, ← hv]
/-- a slice that its owner may append to -/
def Own (σ : Heap) (id : Nat) (d : AV) (l : List V) : Prop := ∃ ver wm ty, d = .sl id ver 0 l.length 4 ∧ σ[id]? = some (.arr (.pv (vcs l)) ver wm ty) ∧ wm ≤ l.length * 4
theorem Own.at {σ : Heap} {id : Nat} {d : AV} {l : List V} (h : Own σ id d l) : SlAt σ d l := by
  obtain ⟨ver, wm, ty, rfl, ho, _⟩ := h
  exact .inr ⟨id, ver, wm, [], ty, rfl, by simpa using ho⟩
theorem Own.push {σ : Heap} {id : Nat} {d : AV} {l : List V} (h : Own σ id d l) (τ : Heap) : Own (σ ++ τ) id d l := by
  obtain ⟨ver, wm, ty, rfl, ho, hw⟩ := h
  exact ⟨ver, wm, ty, rfl, by rw [List.getElem?_append_left (List.getElem?_eq_some_iff.1 ho).1]; exact ho, hw⟩
theorem Own.append {σ : Heap} {id : Nat} {d : AV} {l : List V} (h : Own σ id d l) (x : List V) (hl : l.length + x.length ≤ LIM) :
    ∃ d2 σ2, appendTo σ 39 4 d x.length (.pv (vcs x)) = some (d2, σ2) ∧ Own σ2 id d2 (l ++ x) ∧ ∀ v y, NB v id → SlAt σ v y → SlAt σ2 v y := by
  obtain ⟨ver, wm, ty, rfl, ho, hw⟩ := h
  have hid : id < σ.length := (List.getElem?_eq_some_iff.1 ho).1
  have hlen : l.length * 4 ≤ (vcs l).length := by rw [vcs_len]; exact Nat.le_refl _
  cases x with
  | nil =>
    refine ⟨.sl id ver 0 l.length 4, σ, ?_, ⟨ver, wm, ty, by simp, by simpa using ho, by simpa using hw⟩, fun v y _ h => h⟩
    have hl' : l.length ≤ LIM := by simpa using hl
    simp [appendTo, ho, Cells.len, hlen, hw, hl']
  | cons a x =>
    have ht : (vcs l).take (l.length * 4) = vcs l := List.take_of_length_le (by rw [vcs_len]; exact Nat.le_refl _)
    refine ⟨.sl id (ver + 1) 0 (l.length + (a :: x).length) 4, σ.set id (.arr (.pv (vcs l ++ vcs (a :: x))) (ver + 1) wm (if ty = some 39 then some 39 else none)), ?_, ⟨ver + 1, wm, if ty = some 39 then some 39 else none, by simp, ?_, ?_⟩, ?_⟩
    · simp only [appendTo, ho, Cells.len]
      rw [if_pos ⟨trivial, trivial, trivial, hlen, hw, hl⟩, if_neg (by simp)]
      simp only [takeC, catC, ht]
    · rw [List.getElem?_set_self hid]
      simp [vcs]
    · simp only [List.length_append]
      omega
    · rintro v y hn (h | ⟨id', ver', wm', rest', ty', rfl, ho'⟩)
      · exact .inl h
      · exact .inr ⟨id', ver', wm', rest', ty', rfl, by rw [List.getElem?_set_ne (fun e => hn id' ver' 0 y.length 4 rfl e.symm)]; exact ho'⟩
theorem SlAt.nb {σ : Heap} {v : AV} {x : List V} (h : SlAt σ v x) {j : Nat} (hj : σ.length ≤ j) : NB v j := by
  intro id ver off len esz hb
  rcases h with ⟨h, _⟩ | ⟨id', _, _, _, _, h, ho⟩
  · rw [h] at hb; cases hb
  · rw [h] at hb
    cases hb
    have := (List.getElem?_eq_some_iff.1 ho).1
    omega
theorem seqE {C : Oracle} {D : DOracle} {L : Nat} {af : AFunc} {a b : ACode} {st : St} {r : Option PV} (Q : Env → Prop) (σ1 : Heap) (h : ∃ ρ1, exec C L a st = some (.normal, ⟨ρ1, [], σ1⟩) ∧ Q ρ1)
    (k : ∀ ρ1, Q ρ1 → ansV (finX D af (exec C L b ⟨ρ1, [], σ1⟩)) = r) : ansV (finX D af (exec C L (.seq a b) st)) = r := by
  obtain ⟨ρ1, h1, h2⟩ := h
  rw [seqN h1]
  exact k ρ1 h2
/-- an answer that leads to no object -/
def PureR (r : CRes) : Prop := (∃ v, r = .ret (.p v)) ∨ ∃ v, r = .pan (.p v)
theorem PureR.ren {r : CRes} (h : PureR r) (g : Nat → Nat → Option (Nat × Nat)) : renR g r = r := by
  rcases h with ⟨v, rfl⟩ | ⟨v, rfl⟩ <;> rfl
theorem PureR.ids {r : CRes} (h : PureR r) : resIds r = [] := by
  rcases h with ⟨v, rfl⟩ | ⟨v, rfl⟩ <;> rfl
/-- a call that is handed one object, of plain cells -/
theorem wrap_one {g : List AV → Heap → Option (CRes × Heap)} {xs as0 : List AV} {σ τ : Heap} {id ver : Nat} {c c' : List PV} {ty ty' : Option Nat} {r : CRes} (h : g as0 [.arr (.pv c) 0 0 ty] = some (r, .arr (.pv c') 0 0 ty' :: τ)) (hr : PureR r)
    (ho : σ[id]? = some (.arr (.pv c) ver 0 ty)) (hids : idsL xs = [id]) (hfz : frzA [id] 9 σ xs = (xs, σ)) (hren : renL (fwd [(id, ver)]) xs = as0) : wrapF g true xs σ = some (r, σ.set id (.arr (.pv c') ver 0 ty')) := by
  have hid : id < σ.length := (List.getElem?_eq_some_iff.1 ho).1
  have ht : touch σ xs = [id] := by simp [touch, collect, hids, ho, idsO]
  have hout : outL 1 r (.arr (.pv c') 0 0 ty' :: τ) = [(0, 0)] := by
    simp [outL, keepK, hr.ids, collect, listOf, idsO, Nat.blt, Nat.ble]
  have hlo : listOf σ [id] = [(id, ver)] := by simp [listOf, versO, ho, Obj.ver]
  have hsh : shrinkH [(id, ver)] σ = [.arr (.pv c) 0 0 ty] := by simp [shrinkH, ho, shO, renC]
  have hsh2 : shrinkH [(0, 0)] (.arr (.pv c') 0 0 ty' :: τ) = [.arr (.pv c') 0 0 ty'] := by simp [shrinkH, shO, renC]
  have h1 : (uniq [(id, ver)] && inOK [(id, ver)] σ.length) = true := by simp [uniq, posOf, inOK, hid]
  have h4 : (uniq [(0, 0)] && backOK [(id, ver)] [Obj.arr (.pv c') 0 0 ty']) = true := rfl
  have hm : mergeH [(id, ver)] σ [Obj.arr (.pv c') 0 0 ty'] = σ.set id (.arr (.pv c') ver 0 ty') := by simp [mergeH, putBack, bkO, renC]
  unfold wrapF
  simp only [ht, hfz]
  have hall : ([id].all fun x => [id].contains x) = true := by simp
  simp only [hall]
  unfold innerW
  simp only [hlo, h1, hren, hsh, h, List.length_cons, List.length_nil, Nat.zero_add, hout, hsh2, h4, hr.ren, hm]
theorem frz_ptr (tl : List Nat) (σ : Heap) (k : PV) (id ver off : Nat) : frzA tl 9 σ [.p k, .ptr id ver off] = ([.p k, .ptr id ver off], σ) := rfl
theorem wrap_tup {g : List AV → Heap → Option (CRes × Heap)} {fz : Bool} {ps : List PV} {id ver n esz : Nat} {cells : List PV} {ty : Option Nat} {k : PV} {σr : Heap} (h : g (ps.map .p) [] = some (.ret (.tup [.sl id ver 0 n esz, .p k]), σr))
    (ho : σr[id]? = some (.arr (.pv cells) ver 0 ty)) (σ : Heap) : wrapF g fz (ps.map .p) σ = some (.ret (.tup [.sl σ.length 0 0 n esz, .p k]), σ ++ [.arr (.pv cells) 0 0 ty]) := by
  have key : innerW g (ps.map .p) σ [] = some (.ret (.tup [.sl σ.length 0 0 n esz, .p k]), σ ++ [.arr (.pv cells) 0 0 ty]) := by
    have hout : outL 0 (.ret (.tup [.sl id ver 0 n esz, .p k])) σr = [(id, ver)] := by
      have hb : Nat.blt id 0 = false := by
        unfold Nat.blt
        simp [Nat.ble]
      simp [outL, keepK, resIds, idsV, idsL, collect, listOf, idsO, ho, versO, hb, Obj.ver]
    have hsh : shrinkH [(id, ver)] σr = [.arr (.pv cells) 0 0 ty] := by
      simp [shrinkH, ho, shO, renC]
    unfold innerW
    have h1 : (uniq [] && inOK [] σ.length) = true := rfl
    have h2 : shrinkH [] σ = [] := rfl
    simp only [h1, renL_pure, h2, h, List.length_nil, hout]
    have h4 : (uniq [(id, ver)] && backOK [] [Obj.arr (.pv cells) 0 0 ty]) = true := rfl
    simp only [hsh, h4]
    have hbeq : Nat.beq id id = true := Nat.beq_refl id
    simp [renR, renV, renL, fwd, posOf, hbeq, bwd, mergeH, putBack, bkO, renC]
  unfold wrapF
  cases fz with
  | false =>
    simp only [touch_pure, List.all_nil]
    exact key
  | true =>
    simp only [frzA_pure, touch_pure, List.all_nil]
    exact key
theorem wrap_tnil {g : List AV → Heap → Option (CRes × Heap)} {fz : Bool} {ps : List PV} {k : PV} {σr : Heap} (h : g (ps.map .p) [] = some (.ret (.tup [.nil0, .p k]), σr)) (σ : Heap) :
    wrapF g fz (ps.map .p) σ = some (.ret (.tup [.nil0, .p k]), σ) := by
  have key : innerW g (ps.map .p) σ [] = some (.ret (.tup [.nil0, .p k]), σ) := by
    unfold innerW
    have h1 : (uniq [] && inOK [] σ.length) = true := rfl
    have h2 : shrinkH [] σ = [] := rfl
    have h3 : outL ([] : List (Nat × Nat)).length (.ret (.tup [.nil0, .p k])) σr = [] := rfl
    simp only [h1, h2, renL_pure, h, h3]
    have h4 : (uniq [] && backOK [] (shrinkH [] σr)) = true := rfl
    simp only [h4, renR, renV, renL]
    have h5 : shrinkH [] σr = [] := rfl
    rw [h5]
    have h6 : mergeH [] σ [] = σ := by simp [mergeH, putBack]
    rw [h6]
  unfold wrapF
  cases fz with
  | false =>
    simp only [touch_pure, List.all_nil]
    exact key
  | true =>
    simp only [frzA_pure, touch_pure, List.all_nil]
    exact key
theorem seqP {C : Oracle} {L : Nat} {a b : ACode} {st st1 : St} {v : AV} (h : exec C L a st = some (.pan v, st1)) : exec C L (.seq a b) st = some (.pan v, st1) := by
  simp only [exec, h]
theorem trimB_snoc (l : List UInt8) (c : UInt8) : trimB (l ++ [c]) = if c = 32 then trimB l else l ++ [c] := by
  show Lib.trimRightB _ _ = if c = 32 then Lib.trimRightB _ _ else _
  unfold Lib.trimRightB
  rw [List.reverse_append]
  by_cases h : c = 32
  · simp [h]
  · simp [h]
theorem trim_rev (P : List UInt8 → Prop) (h0 : P []) (h1 : ∀ l c, P l → P (l ++ [c])) (s : List UInt8) : P s := by
  have : ∀ l : List UInt8, P l.reverse := by
    intro l
    induction l with
    | nil => exact h0
    | cons c l ih => rw [List.reverse_cons]; exact h1 _ _ ih
  have h := this s.reverse
  rwa [List.reverse_reverse] at h
theorem SlAt.push {σ : Heap} {v : AV} {x : List V} (h : SlAt σ v x) (τ : Heap) : SlAt (σ ++ τ) v x := by
  rcases h with h | ⟨id, ver, wm, rest, ty, rfl, ho⟩
  · exact .inl h
  · exact .inr ⟨id, ver, wm, rest, ty, rfl, by rw [List.getElem?_append_left (List.getElem?_eq_some_iff.1 ho).1]; exact ho⟩
theorem wanted_false {ρ : Env} {j : Nat} (h : ρ.get j = some (.p (.bool false))) : wantedA (some (j, false)) ρ = some true := by
  simp only [wantedA, h]; rfl
theorem VBuf.push {σ : Heap} {b : AV} {l : List V} (h : VBuf σ b l) (τ : Heap) : VBuf (σ ++ τ) b l := by
  rcases h with h | ⟨hne, id, ver, hb, ho⟩
  · exact .inl h
  · exact .inr ⟨hne, id, ver, hb, by rw [List.getElem?_append_left (List.getElem?_eq_some_iff.1 ho).1]; exact ho⟩
theorem VBuf.app {σ : Heap} {b : AV} {l : List V} (h : VBuf σ b l) (v : V) (hl : l.length + 1 ≤ LIM) : ∃ b2 σ2, appendTo σ 39 4 b 1 (.pv (vc v)) = some (b2, σ2) ∧ VBuf σ2 b2 (l ++ [v]) := by
  have hL : LIM = 4294967296 := rfl
  rcases h with ⟨rfl, rfl⟩ | ⟨hne, id, ver, rfl, ho⟩
  · refine ⟨.sl σ.length 0 0 1 4, σ ++ [.arr (.pv (vc v)) 0 0 (some 39)], ?_, .inr ⟨by simp, σ.length, 0, rfl, ?_⟩⟩
    · simp [appendTo, hL]
    · simp [vcs]
  · have hid : id < σ.length := (List.getElem?_eq_some_iff.1 ho).1
    have hv := vcs_len l
    have ht : (vcs l).take (l.length * 4) = vcs l := List.take_of_length_le (by omega)
    refine ⟨.sl id (ver + 1) 0 (l.length + 1) 4, σ.set id (.arr (.pv (vcs l ++ vc v)) (ver + 1) 0 (some 39)), ?_, .inr ⟨by simp, id, ver + 1, by simp, ?_⟩⟩
    · simp [appendTo, ho, Cells.len, hv, hl, takeC, catC, ht]
    · rw [List.getElem?_set_self hid, vcs_snoc]
def ordI : Ordering → Int
  | .lt => -1
  | .eq => 0
  | .gt => 1
theorem less_cmp : ∀ (x y : List UInt8), Op.bytesLess x y = (cmpL x y == .lt)
  | [], [] => rfl
  | [], _ :: _ => rfl
  | _ :: _, [] => rfl
  | a :: x, b :: y => by
    have ih := less_cmp x y
    simp only [Op.bytesLess, cmpL_cons]
    by_cases h1 : a < b
    · simp [h1]
    · by_cases h2 : b < a
      · have : (a == b) = false := beq_eq_false_iff_ne.2 (fun h => UInt8.lt_irrefl b (h ▸ h2))
        simp [h1, h2, this]
      · have : a = b := UInt8.le_antisymm (UInt8.not_lt.1 h2) (UInt8.not_lt.1 h1)
        subst this
        simp [h1, ih]
theorem eq_cmp (x y : List UInt8) : (x == y) = (cmpL x y == .eq) := by
  rw [Bool.eq_iff_iff]
  simp [cmpL_eq]
theorem byte_ne {c k : UInt8} (h : c ≠ k) : ((c.toNat : Int) == (k.toNat : Int)) = false := by
  have : c.toNat ≠ k.toNat := fun e => h (UInt8.toNat_inj.1 e)
  simp
  omega
theorem call_ext {T : Table} {L n f : Nat} {g : List PV → Option PV} {fz : Bool} {ps : List PV} {v : PV} (hT : T f = some (.ext (extP g) fz)) (h : g ps = some v) (σ : Heap) : (cAt T L (n + 1)).1 f (ps.map .p) σ = some (.ret (.p v), σ) := by
  simp only [cAt, callT, hT]
  refine wrap_pure (σr := []) ?_ σ
  unfold extP
  have : allP (ps.map .p) = some ps := by
    clear h
    induction ps with
    | nil => rfl
    | cons p r ih => simp only [List.map_cons, allP, ih]
  rw [this]
  simp only [h]
end Go.Ab.Cnt
