/- The law EvalSame: for every three values. -/
import Derived.Test.YtcafoohjffcaeaaGreatDoorAbM12
set_option linter.unusedSectionVars false
set_option linter.unusedSimpArgs false
set_option linter.unusedVariables false
set_option maxRecDepth 1000000
namespace Go.Ab.Same
open Go Go.Ab Go.Proofs Go.RowKit
/-- a value's shape -/
def shapeOf (k : Int) (b : Bool) : Shape := if k = 0 then .null else if k = 1 then .num else if k = 2 then .text else if b then .yes else .no
def ord3 (a b c : Int) (i : Nat) : Int := match i with
  | 0 => a
  | 1 => b
  | _ => c
def txt3 (a b c : List UInt8) (i : Nat) : List UInt8 := match i with
  | 0 => a
  | 1 => b
  | 2 => c
  | 10 => Lib.trimRightB a 32
  | 11 => Lib.trimRightB b 32
  | 12 => Lib.trimRightB c 32
  | _ => []
def ordOf (z : Int) : Ordering := if z = -1 then .lt else if z = 0 then .eq else .gt
theorem cmp_cases : ∀ a b : List UInt8, Lib.compareBytes a b = -1 ∨ Lib.compareBytes a b = 0 ∨ Lib.compareBytes a b = 1
  | [], [] => .inr (.inl rfl)
  | [], _ :: _ => .inl rfl
  | _ :: _, [] => .inr (.inr rfl)
  | a :: xs, b :: ys => by
    simp only [Lib.compareBytes]
    split
    · exact .inl rfl
    · split
      · exact .inr (.inr rfl)
      · exact cmp_cases xs ys
theorem ordZ_of (a b : List UInt8) : ordZ (ordOf (Lib.compareBytes a b)) = Lib.compareBytes a b := by
  rcases cmp_cases a b with h | h | h <;> rw [h] <;> rfl
section
variable (x0 x1 x2 : Int) (s0 s1 s2 : List UInt8) (tx : Bool)
def o1Of : Ordering := match tx with
  | true => ordOf (Lib.compareBytes (Lib.trimRightB s0 32) (Lib.trimRightB s1 32))
  | false => compare x0 x1
def o2Of : Ordering := match tx with
  | true => ordOf (Lib.compareBytes (Lib.trimRightB s0 32) (Lib.trimRightB s2 32))
  | false => compare x0 x2
theorem marks_ok : MarksOK (ord3 x0 x1 x2) tx (o1Of x0 x1 s0 s1 tx) (o2Of x0 x2 s0 s2 tx) := by
  intro i j c h
  unfold cmpI at h
  split at h
  · obtain rfl := Option.some.inj h; rfl
  · obtain rfl := Option.some.inj h; rfl
  · cases h
@[reducible] def mk : Marks := marksOf (ord3 x0 x1 x2) (txt3 s0 s1 s2) tx (o1Of x0 x1 s0 s1 tx) (o2Of x0 x2 s0 s2 tx) (marks_ok x0 x1 x2 s0 s1 s2 tx)
theorem trim_m (h0 : s0.length ≤ maxLen) (h1 : s1.length ≤ maxLen) (h2 : s2.length ≤ maxLen) : @TrimM (mk x0 x1 x2 s0 s1 s2 tx) := by
  intro i l hi hl
  obtain rfl := Option.some.inj hl
  show _ ∧ some _ = some _
  match i, hi with
  | 0, _ => exact ⟨h0, rfl⟩
  | 1, _ => exact ⟨h1, rfl⟩
  | 2, _ => exact ⟨h2, rfl⟩
  | 3, _ => exact ⟨Nat.zero_le _, rfl⟩
  | 4, _ => exact ⟨Nat.zero_le _, rfl⟩
  | 5, _ => exact ⟨Nat.zero_le _, rfl⟩
  | 6, _ => exact ⟨Nat.zero_le _, rfl⟩
  | 7, _ => exact ⟨Nat.zero_le _, rfl⟩
  | 8, _ => exact ⟨Nat.zero_le _, rfl⟩
  | 9, _ => exact ⟨Nat.zero_le _, rfl⟩
theorem cmp_m : @CmpM (mk x0 x1 x2 s0 s1 s2 tx) (cmpT tx (o1Of x0 x1 s0 s1 tx) (o2Of x0 x2 s0 s2 tx)) := by
  intro i j c a b h ha hb
  obtain rfl := Option.some.inj ha
  obtain rfl := Option.some.inj hb
  unfold cmpT at h
  split at h
  · obtain rfl := Option.some.inj h
    exact (ordZ_of _ _).symm
  · obtain rfl := Option.some.inj h
    exact (ordZ_of _ _).symm
  · cases h
end
theorem all_of {l : List (PV × PV)} {f : PV × PV → Bool} (h : l.all f = true) {m n : PV} (hm : (l.any fun x => peq m x.1 && peq n x.2) = true) : ∃ x, m = x.1 ∧ n = x.2 ∧ f x = true := by
  rw [List.any_eq_true] at hm
  obtain ⟨x, hx, he⟩ := hm
  simp only [Bool.and_eq_true] at he
  exact ⟨x, peq_eq he.1, peq_eq he.2, List.all_eq_true.1 h x hx⟩
section
variable (ns : Nat → Int) (ss : Nat → List UInt8) (o1 o2 : Ordering)
theorem forms_ok (A B C : Shape) (h : MarksOK ns (isText A) o1 o2) : sameB (marksOf ns ss (isText A) o1 o2 h) (isText A) o1 o2 (rowsP A B C) (formsOf A B C) = true := by
  obtain ⟨c0, c1, c2, c3, hc⟩ : ∃ c0 c1 c2 c3, cellsOf (valS 2 C) = [c0, c1, c2, c3] := by cases C <;> exact ⟨_, _, _, _, rfl⟩
  have h3 : sameB (marksOf ns ss (isText A) o1 o2 h) (isText A) o1 o2 (rowsP A B C) forms3 = true := by
    unfold rowsP
    rw [hc]
    cases A
    · exact f3_null ns ss o1 o2 h c0 c1 c2 c3 B
    · exact f3_num ns ss o1 o2 h c0 c1 c2 c3 B
    · exact f3_text ns ss o1 o2 h c0 c1 c2 c3 B
    · exact f3_yes ns ss o1 o2 h c0 c1 c2 c3 B
    · exact f3_no ns ss o1 o2 h c0 c1 c2 c3 B
  unfold formsOf
  cases ha : alike A B && alike A C with
  | false => exact h3
  | true =>
    simp only [Bool.and_eq_true] at ha
    obtain ⟨hb, hcc⟩ := ha
    have h2 : sameB (marksOf ns ss (isText A) o1 o2 h) (isText A) o1 o2 (rowsP A B C) forms2 = true := by
      unfold rowsP
      rw [hc]
      cases A
      · exact f2_null ns ss o1 o2 h c0 c1 c2 c3 B hb
      · exact f2_num ns ss o1 o2 h c0 c1 c2 c3 B hb
      · exact f2_text ns ss o1 o2 h c0 c1 c2 c3 B hb
      · exact f2_yes ns ss o1 o2 h c0 c1 c2 c3 B hb
      · exact f2_no ns ss o1 o2 h c0 c1 c2 c3 B hb
    have h1 : sameB (marksOf ns ss (isText A) o1 o2 h) (isText A) o1 o2 (rowsP A B C) formsC = true := by
      unfold rowsP
      cases A
      · cases B
        · exact fC_null_null ns ss o1 o2 h C hcc
        · exact fC_null_num ns ss o1 o2 h C hcc
        · exact fC_null_text ns ss o1 o2 h C hcc
        · exact fC_null_yes ns ss o1 o2 h C hcc
        · exact fC_null_no ns ss o1 o2 h C hcc
      · cases B
        · exact fC_num_null ns ss o1 o2 h C hcc
        · exact fC_num_num ns ss o1 o2 h C hcc
        · cases hb
        · cases hb
        · cases hb
      · cases B
        · exact fC_text_null ns ss o1 o2 h C hcc
        · cases hb
        · exact fC_text_text ns ss o1 o2 h C hcc
        · cases hb
        · cases hb
      · cases B
        · exact fC_yes_null ns ss o1 o2 h C hcc
        · cases hb
        · cases hb
        · exact fC_yes_yes ns ss o1 o2 h C hcc
        · exact fC_yes_no ns ss o1 o2 h C hcc
      · cases B
        · exact fC_no_null ns ss o1 o2 h C hcc
        · cases hb
        · cases hb
        · exact fC_no_yes ns ss o1 o2 h C hcc
        · exact fC_no_no ns ss o1 o2 h C hcc
    unfold sameB at h1 h2 h3 ⊢
    rw [List.all_append, List.all_append, h1, h2, h3]
    rfl
end
theorem isT_of {x : Option (CRes × Heap)} (h : isT x = true) : ∃ σ, x = some (.ret (.p (.bool true)), σ) := by
  unfold isT at h
  split at h
  · exact ⟨_, rfl⟩
  · cases h
/-- the law's table -/
theorem tm_ok (ns : Nat → Int) (ss : Nat → List UInt8) (o1 o2 : Ordering) (A B C : Shape) (h : MarksOK ns (isText A) o1 o2) (hM : @TrimM (marksOf ns ss (isText A) o1 o2 h)) (hT : @CmpM (marksOf ns ss (isText A) o1 o2 h) (cmpT (isText A) o1 o2)) :
    @TableOK (marksOf ns ss (isText A) o1 o2 h) Tryz.prog G (TM (cmpT (isText A) o1 o2) A B C) := by
  letI inst : Marks := marksOf ns ss (isText A) o1 o2 h
  have hts : TableOK Tryz.prog G (TS (cmpT (isText A) o1 o2)) := ts_ok hM hT
  refine ahead_ok ?_ hts
  intro f i hf
  unfold TR at hf
  split at hf
  · obtain rfl := Option.some.inj hf
    refine memo_ok hts ?_ ⟨Tryz.f18, _, Tryz.func18, rfl, by decide⟩
    intro ps v hv
    unfold g18 at hv
    split at hv
    · rename_i m n r
      split at hv
      · rename_i hc
        obtain rfl := Option.some.inj hv
        simp only [Bool.and_eq_true] at hc
        obtain rfl := peq_eq hc.1
        obtain ⟨x, rfl, rfl, hx⟩ := all_of (forms_ok ns ss o1 o2 A B C h) hc.2
        obtain ⟨σ, hσ⟩ := isT_of hx
        exact ⟨rfl, 100, 20, σ, hσ⟩
      · cases hv
    · cases hv
  · obtain rfl := Option.some.inj hf
    refine memo_ok hts ?_ ⟨Tryz.f8, _, Tryz.func8, rfl, by decide⟩
    intro ps v hv
    unfold g8 at hv
    split at hv
    · obtain rfl := Option.some.inj hv
      obtain ⟨σ, hσ⟩ := isT_of (alive8 ns ss (isText A) o1 o2 h)
      exact ⟨rfl, 100, 20, σ, hσ⟩
    · cases hv
  · cases hf
theorem law_all (ns : Nat → Int) (ss : Nat → List UInt8) (tx : Bool) (o1 o2 : Ordering) (h : MarksOK ns tx o1 o2) (T : Nat → Nat → Option Ordering) (A B C : Shape) : runL (marksOf ns ss tx o1 o2 h) T A B C = some (.bool true) := by
  cases A
  · exact law_null ns ss tx o1 o2 h T B C
  · exact law_num ns ss tx o1 o2 h T B C
  · exact law_text ns ss tx o1 o2 h T B C
  · exact law_yes ns ss tx o1 o2 h T B C
  · exact law_no ns ss tx o1 o2 h T B C
/-- a value with a mark stands for the value -/
theorem val_rep (inst : Marks) {S : Nat → Nat → Prop} {w : World} (i : Nat) (k x : Int) (s : List UInt8) (b : Bool) (hv : IsVal k x s b) (hx : @Marks.int inst i .i64 = some x) (hs : @Marks.str inst i = some s) {c : Value} (h : @RepP noMarks S w (.agg (cv k x s b)) c) :
    @RepP inst S w (valS i (shapeOf k b)) c := by
  cases h with
  | @agg _ cvs h h1 =>
    obtain ⟨cl⟩ := cvs
    simp only at h h1
    cases h with
    | cons a0 h =>
      cases h with
      | cons a1 h =>
        cases h with
        | cons a2 h =>
          cases h with
          | cons a3 h =>
            cases h
            cases a0; cases a1; cases a3
            cases a2 with
            | @str _ s' a2 =>
              rcases hv with ⟨rfl, rfl, rfl, rfl⟩ | ⟨rfl, rfl, rfl⟩ | ⟨rfl, rfl, rfl⟩ | ⟨rfl, rfl, rfl⟩
              · exact .agg (.cons (.int _ _) (.cons (.int _ _) (.cons (.str a2) (.cons (.bool _) .nil)))) h1
              · exact .agg (.cons (.int _ _) (.cons (.isym hx) (.cons (.str a2) (.cons (.bool _) .nil)))) h1
              · exact .agg (.cons (.int _ _) (.cons (.int _ _) (.cons (.ssym hs a2) (.cons (.bool _) .nil)))) h1
              · cases b
                · exact .agg (.cons (.int _ _) (.cons (.int _ _) (.cons (.str a2) (.cons (.bool _) .nil)))) h1
                · exact .agg (.cons (.int _ _) (.cons (.int _ _) (.cons (.str a2) (.cons (.bool _) .nil)))) h1
theorem glob_none (inst : Marks) {W : World} : @GlobOK inst (Ex W) W G := fun g l hl => by cases hl
/-- the law's call -/
theorem law5 {W : World} (k0 x0 k1 x1 k2 x2 : Int) (s0 s1 s2 : List UInt8) (b0 b1 b2 : Bool) (hs0 : s0.length ≤ maxLen) (hs1 : s1.length ≤ maxLen) (hs2 : s2.length ≤ maxLen) {v0 v1 v2 : Value}
    (h0 : @RepP noMarks (Ex W) W (.agg (cv k0 x0 s0 b0)) v0) (h1 : @RepP noMarks (Ex W) W (.agg (cv k1 x1 s1 b1)) v1) (h2 : @RepP noMarks (Ex W) W (.agg (cv k2 x2 s2 b2)) v2) :
    Calls Tryz.prog 5 #[v0, v1, v2] W fun e w' => e = .returned (.bool true) ∧ Kept W w' := by
  by_cases hv : IsVal k0 x0 s0 b0 ∧ IsVal k1 x1 s1 b1 ∧ IsVal k2 x2 s2 b2
  · obtain ⟨e0, e1, e2⟩ := hv
    let A := shapeOf k0 b0
    let M := mk x0 x1 x2 s0 s1 s2 (isText A)
    have ht : @TableOK M Tryz.prog G (TM (cmpT (isText A) (o1Of x0 x1 s0 s1 (isText A)) (o2Of x0 x2 s0 s2 (isText A))) A (shapeOf k1 b1) (shapeOf k2 b2)) :=
      tm_ok _ _ _ _ _ _ _ (marks_ok x0 x1 x2 s0 s1 s2 (isText A)) (trim_m x0 x1 x2 s0 s1 s2 (isText A) hs0 hs1 hs2) (cmp_m x0 x1 x2 s0 s1 s2 (isText A))
    have hl := law_all (ord3 x0 x1 x2) (txt3 s0 s1 s2) (isText A) _ _ (marks_ok x0 x1 x2 s0 s1 s2 (isText A)) (cmpT (isText A) (o1Of x0 x1 s0 s1 (isText A)) (o2Of x0 x2 s0 s2 (isText A))) A (shapeOf k1 b1) (shapeOf k2 b2)
    have hq : (TM (cmpT (isText A) (o1Of x0 x1 s0 s1 (isText A)) (o2Of x0 x2 s0 s2 (isText A))) A (shapeOf k1 b1) (shapeOf k2 b2)) 5 = some (.code lit5 true) := by rfl
    have hrun := @call_ans M _ 100 20 5 lit5 true [valS 0 A, valS 1 (shapeOf k1 b1), valS 2 (shapeOf k2 b2)] (.bool true) hq (by rfl) hl []
    exact @law_calls M W Tryz.prog G [] _ ht 100 21 5 _ hrun #[v0, v1, v2] (glob_none M)
      (.cons (.p (val_rep M 0 _ _ _ _ e0 rfl rfl h0)) (.cons (.p (val_rep M 1 _ _ _ _ e1 rfl rfl h1)) (.cons (.p (val_rep M 2 _ _ _ _ e2 rfl rfl h2)) .nil)))
  · obtain ⟨L, n, hrun⟩ := @law5_stop noMarks k0 x0 k1 x1 k2 x2 s0 s1 s2 b0 b1 b2 hv
    exact @law_calls noMarks W Tryz.prog G [] _ rowOf_ok L n 5 _ hrun #[v0, v1, v2] (glob_none noMarks) (.cons (.p h0) (.cons (.p h1) (.cons (.p h2) .nil)))
end Go.Ab.Same
