/- EvalCounts: the table of functions and the library's contracts. -/
import Derived.Test.YtcafoohjffcaeaaGreatDoorAbV1
import Derived.Shelf.Strings.Trim
import Derived.Shelf.Small.Strs
import Derived.Lib.SliceRun
import Derived.WalkKit
import Derived.ProofKit
import Derived.Test.YtcafoohjffcaeaaGreatDoorProg
set_option linter.unusedSectionVars false
set_option linter.unusedSimpArgs false
set_option linter.unusedVariables false
set_option maxRecDepth 1000000
namespace Go.Ab.Cnt
open Go Go.Ab Go.Ab.Key Go.Proofs Go.RowKit
def ren162 : Go.Shelf.Ren where
  f := fun x => match x with
    | 162 => 70
    | 232 => 99
    | 227 => 100
    | 234 => 101
    | 236 => 102
    | 228 => 114
    | 271 => 115
    | 151 => 116
    | 120 => 133
    | 197 => 127
    | 152 => 134
    | 260 => 144
    | 137 => 150
    | 119 => 151
    | 224 => 152
    | 225 => 153
    | 217 => 162
    | 266 => 163
    | n => n
  t := fun x => match x with
    | 9 => 9
    | 4 => 4
    | 3 => 3
    | 5 => 5
    | 117 => 121
    | 116 => 120
    | 0 => 0
    | 124 => 124
    | 21 => 21
    | 105 => 140
    | 46 => 125
    | 119 => 197
    | 139 => 200
    | 138 => 199
    | n => n
  g := fun x => match x with
    | 3 => 4
    | 4 => 5
    | n => n
theorem lays162 : Lays.n162 Tryz.prog ren162 := by
  constructor <;> first | kernel_rfl | (intro w; kernel_rfl)
def ren106 : Go.Shelf.Ren where
  f := fun x => match x with
    | 106 => 43
    | 213 => 69
    | 265 => 98
    | n => n
  t := fun x => match x with
    | 9 => 9
    | 3 => 3
    | n => n
  g := fun x => x
theorem lays106 : Lays.n106 Tryz.prog ren106 := by
  constructor <;> first | kernel_rfl | (intro w; kernel_rfl)

theorem mk_list (s : ByteArray) (l : List UInt8) (h : s.data.toList = l) : s = ⟨l.toArray⟩ := by
  subst h; simp
theorem cmp_lib : ∀ a b : List UInt8, Lib.compareBytes a b = ordI (cmpL a b)
  | [], [] => rfl
  | [], _ :: _ => rfl
  | _ :: _, [] => rfl
  | x :: a, y :: b => by
    have ih := cmp_lib a b
    simp only [Lib.compareBytes, cmpL_cons]
    split
    · rfl
    · split
      · rfl
      · exact ih
def G0 : Globs := fun _ => none
def trimO : List PV → Option PV
  | [.str s, .str c] => if c = [32] ∧ s.length ≤ maxLen then some (.str (trimB s)) else none
  | _ => none
def cmpO : List PV → Option PV
  | [.str a, .str b] => some (.int .i64 (ordI (cmpL a b)))
  | _ => none
def lit26 : AFunc := { ntmps := 8, results := [ARes.tmp 2], body := (ACode.region [{ dst := some 2, op := AOp.mv (Opd.c AV.nil0), guard := none }]).seq (((ACode.region [{ dst := some 3, op := AOp.mv (Opd.t 0), guard := none }, { dst := some 4, op := AOp.bin (Bin.nil NilK.slice false) (Opd.t 3) (Opd.c AV.nil0), guard := none }]).seq (ACode.cond (Opd.t 4) ((ACode.region [{ dst := some 2, op := AOp.mv (Opd.c AV.nil0), guard := none }]).seq ACode.ret) ACode.skip)).seq ((ACode.region [{ dst := some 5, op := AOp.buildSlice [AV.p (PV.int IntKind.i64 (0)), AV.p (PV.int IntKind.i64 (0)), AV.p (PV.str []), AV.p (PV.bool false)] 0 4 [], guard := none }, { dst := some 6, op := AOp.mv (Opd.t 0), guard := none }, { dst := some 7, op := AOp.append 30 4 [AV.p (PV.int IntKind.i64 (0)), AV.p (PV.int IntKind.i64 (0)), AV.p (PV.str []), AV.p (PV.bool false)] (Opd.t 5) (Opd.t 6), guard := none }, { dst := some 2, op := AOp.mv (Opd.t 7), guard := none }]).seq ACode.ret)) }
def cloneO : List PV → Option PV
  | [.vsl [] 0] => some (.vsl [] 0)
  | _ => none
section
variable [Marks]
/-- slices.Clone: an empty list, of which it is not known whether it is nil, and all others -/
def g26 (xs : List AV) (σ : Heap) : Option (CRes × Heap) := match extP cloneO xs σ with
  | some r => some r
  | none => runCode (cAt (fun _ => none) 1 0).1 (cAt (fun _ => none) 1 0).2 1 lit26 xs σ
def TX : Table
  | 26 => some (.ext g26 true)
  | 70 => some (.ext (extP trimO) true)
  | 43 => some (.ext (extP cmpO) true)
  | _ => none
noncomputable def TC : Table := ahead TX (rowOf Go.Proofs.Tryz.prog G0 [45] [25, 40, 6, 7])
theorem trim_ok : RawOK Tryz.prog G0 70 (extP trimO) := by
  refine extP_sound ⟨Tryz.f70, _, Tryz.func70, rfl, by decide⟩ ?_
  intro ps v hv S w cargs hG hr
  unfold trimO at hv
  split at hv
  · rename_i s c
    split at hv
    · rename_i hc
      obtain rfl := Option.some.inj hv
      obtain ⟨cl⟩ := cargs
      simp only at hr
      cases hr with
      | cons h1 hr =>
        cases hr with
        | cons h2 hr =>
          cases hr with
          | nil =>
            cases h1 with
            | @str _ s' h1 =>
              cases h2 with
              | @str _ c' h2 =>
                subst h1
                rw [hc.1] at h2
                have hc2 : c' = ⟨#[32]⟩ := by have := mk_list _ _ h2; simpa using this
                subst hc2
                have hsz : s'.size ≤ 9223372036854775807 := by
                  rw [Lib.size_eq]
                  exact Nat.le_trans hc.2 (by decide)
                refine (Any.strings_TrimRight_one lays162 s' 32 (by decide) w hsz).mono fun e w' hw => ⟨⟨_, hw.1, fun S w' => .str (by simp)⟩, ?_⟩
                have hw := hw.2
                subst hw; exact Below.refl _ _
    · cases hv
  · cases hv
theorem cmp_ok : RawOK Tryz.prog G0 43 (extP cmpO) := by
  refine extP_sound ⟨Tryz.f43, _, Tryz.func43, rfl, by decide⟩ ?_
  intro ps v hv S w cargs hG hr
  unfold cmpO at hv
  split at hv
  · rename_i a b
    obtain rfl := Option.some.inj hv
    obtain ⟨cl⟩ := cargs
    simp only at hr
    cases hr with
    | cons h1 hr =>
      cases hr with
      | cons h2 hr =>
        cases hr with
        | nil =>
          cases h1 with
          | @str _ a' h1 =>
            cases h2 with
            | @str _ b' h2 =>
              subst h1 h2
              refine (Any.strings_Compare lays106 a' b' w).mono fun e w' hw => ⟨⟨_, hw.1, fun S w' => ?_⟩, ?_⟩
              · rw [cmp_lib]; exact .int _ _
              · have hw := hw.2
                subst hw
                exact Below.refl _ _
  · cases hv
theorem clone_none (n c : Nat) (w : World) : Calls Tryz.prog 26 #[.slice none n c] w fun e w' => (∃ a m, e = .returned (.slice a 0 m)) ∧ Below w.heap.size w w' := by
  have t25 : Tryz.prog.underlying 25 = some (.slice 30) := by kernel_rfl
  have q25 : ∀ (w : World) (a : Option Addr) (n c n' c' : Nat), (binOp .eql 25 (.slice a n c) (.slice none n' c')).run Tryz.prog w = .ok (.bool a.isNone) w := fun w a n c n' c' => Lib.run_eql_slice_nil w _ _ a n c n' c' t25
  go_enter Tryz.func26, Tryz.ntmps26
  go_wp2
  go_ret
  exact ⟨⟨_, _, rfl⟩, Below.refl _ _⟩
theorem clone_some (p : Addr) (c : Nat) (w : World) : Calls Tryz.prog 26 #[.slice (some p) 0 c] w fun e w' => (∃ a m, e = .returned (.slice a 0 m)) ∧ Below w.heap.size w w' := by
  have t25 : Tryz.prog.underlying 25 = some (.slice 30) := by kernel_rfl
  have q25 : ∀ (w : World) (a : Option Addr) (n c n' c' : Nat), (binOp .eql 25 (.slice a n c) (.slice none n' c')).run Tryz.prog w = .ok (.bool a.isNone) w := fun w a n c n' c' => Lib.run_eql_slice_nil w _ _ a n c n' c' t25
  go_enter Tryz.func26, Tryz.ntmps26
  go_wp2
  go_ret
  exact ⟨⟨_, _, rfl⟩, (Below.refl _ w).alloc (Nat.le_refl _) _⟩
theorem clone_ok : RawOK Tryz.prog G0 26 g26 := by
  intro args σ r σ' h μ S w cargs hg hG ha
  unfold g26 at h
  split at h
  · rename_i r1 h1
    obtain rfl := Option.some.inj h
    refine extP_sound (g := cloneO) ⟨Tryz.f26, _, Tryz.func26, rfl, by decide⟩ ?_ args σ r σ' h1 μ S w cargs hg hG ha
    intro ps v hv S w cargs hG hr
    unfold cloneO at hv
    split at hv
    · obtain rfl := Option.some.inj hv
      obtain ⟨cl⟩ := cargs
      simp only at hr
      have key : ∀ (a : Option Addr) (c : Nat), Calls Tryz.prog 26 #[.slice a 0 c] w fun e w' => (∃ c, e = .returned c ∧ ∀ S w', RepP S w' (.vsl [] 0) c) ∧ Below w.heap.size w w' := by
        intro a c
        have h2 : Calls Tryz.prog 26 #[.slice a 0 c] w fun e w' => (∃ a m, e = .returned (.slice a 0 m)) ∧ Below w.heap.size w w' := by
          cases a with
          | none => exact clone_none 0 c w
          | some p => exact clone_some p c w
        exact h2.mono fun e w' ⟨⟨a, m, he⟩, hb⟩ => ⟨⟨_, he, fun S w' => .vsl0 m a⟩, hb⟩
      cases hr with
      | cons h1 hr =>
        cases hr with
        | nil =>
          cases h1 with
          | vsl0 cap a => exact key a cap
          | vsl h hc => exact key _ _
    · cases hv
  · unfold runCode at h
    split at h
    · rename_i hfit
      have hT : TableOK Tryz.prog G0 (fun _ => none) := fun f i h => by cases h
      exact func_sound (table_sound hT 1 0).1 (table_sound hT 1 0).2 (hints := []) Tryz.func26 (by kernel_rfl) hfit h hg hG ha
    · cases h
theorem table_ok : TableOK Tryz.prog G0 TC := by
  refine ahead_ok ?_ rowOf_ok
  intro f i h
  unfold TX at h
  split at h
  · obtain rfl := Option.some.inj h; exact clone_ok
  · obtain rfl := Option.some.inj h; exact trim_ok
  · obtain rfl := Option.some.inj h; exact cmp_ok
  · cases h
end
end Go.Ab.Cnt
