/- The law EvalSame: the table of functions is the program's; the law for every three values. -/
import Derived.Test.YtcafoohjffcaeaaGreatDoorAbM3
import Derived.Test.YtcafoohjffcaeaaGreatDoorAbM4
import Derived.Test.YtcafoohjffcaeaaGreatDoorAbM5
import Derived.Test.YtcafoohjffcaeaaGreatDoorAbM6
import Derived.Test.YtcafoohjffcaeaaGreatDoorAbM7
import Derived.Test.YtcafoohjffcaeaaGreatDoorAbM8
import Derived.Test.YtcafoohjffcaeaaGreatDoorAbM9
import Derived.Test.YtcafoohjffcaeaaGreatDoorAbM10
import Derived.Test.YtcafoohjffcaeaaGreatDoorAbM11
import Derived.Shelf.Strings.Trim
import Derived.Shelf.Small.Strs
set_option linter.unusedSectionVars false
set_option linter.unusedSimpArgs false
set_option linter.unusedVariables false
set_option maxRecDepth 1000000
namespace Go.Ab.Same
open Go Go.Ab Go.Proofs Go.RowKit
def ren162 : Go.Shelf.Ren where
  f := fun x => match x with
    | 162 => 70
    | 232 => 99
    | 227 => 100
    | 234 => 101
    | 236 => 102
    | 228 => 114
    | 271 => 115
    | 151 => 116
    | 120 => 133
    | 197 => 127
    | 152 => 134
    | 260 => 144
    | 137 => 150
    | 119 => 151
    | 224 => 152
    | 225 => 153
    | 217 => 162
    | 266 => 163
    | n => n
  t := fun x => match x with
    | 9 => 9
    | 4 => 4
    | 3 => 3
    | 5 => 5
    | 117 => 121
    | 116 => 120
    | 0 => 0
    | 124 => 124
    | 21 => 21
    | 105 => 140
    | 46 => 125
    | 119 => 197
    | 139 => 200
    | 138 => 199
    | n => n
  g := fun x => match x with
    | 3 => 4
    | 4 => 5
    | n => n
theorem lays162 : Lays.n162 Tryz.prog ren162 := by
  constructor <;> first | kernel_rfl | (intro w; kernel_rfl)
def ren106 : Go.Shelf.Ren where
  f := fun x => match x with
    | 106 => 43
    | 213 => 69
    | 265 => 98
    | n => n
  t := fun x => match x with
    | 9 => 9
    | 3 => 3
    | n => n
  g := fun x => x
theorem lays106 : Lays.n106 Tryz.prog ren106 := by
  constructor <;> first | kernel_rfl | (intro w; kernel_rfl)

theorem mk_list (s : ByteArray) (l : List UInt8) (h : s.data.toList = l) : s = ⟨l.toArray⟩ := by
  subst h; simp
section
variable [Marks]
/-- a text without blanks behind: what the marks must say -/
def TrimM : Prop := ∀ i l, i < 10 → Marks.str i = some l → l.length ≤ maxLen ∧ Marks.str (i + 10) = some (Lib.trimRightB l 32)
theorem trim_ok (hM : TrimM) : RawOK Tryz.prog G 70 (extP trimO) := by
  refine extP_sound ⟨Tryz.f70, _, Tryz.func70, rfl, by decide⟩ ?_
  intro ps v hv S w cargs hG hr
  unfold trimO at hv
  split at hv
  · rename_i i c
    split at hv
    · rename_i hc
      obtain rfl := Option.some.inj hv
      obtain ⟨cl⟩ := cargs
      simp only at hr
      cases hr with
      | cons h1 hr =>
        cases hr with
        | cons h2 hr =>
          cases hr with
          | nil =>
            cases h1 with
            | @ssym _ l s' h1 hl =>
              cases h2 with
              | @str _ c' h2 =>
                rw [hc.1] at h2
                have hc2 : c' = ⟨#[32]⟩ := by have := mk_list _ _ h2; simpa using this
                subst hc2
                obtain ⟨k1, k2⟩ := hM i l hc.2 h1
                have hsz : s'.size ≤ 9223372036854775807 := by
                  rw [Lib.size_eq, hl]
                  exact Nat.le_trans k1 (by decide)
                refine (Any.strings_TrimRight_one lays162 s' 32 (by decide) w hsz).mono fun e w' hw => ⟨⟨_, hw.1, fun S w' => .ssym k2 (by simp [hl])⟩, ?_⟩
                have hw := hw.2
                subst hw; exact Below.refl _ _
    · cases hv
  · cases hv
/-- what the table of comparisons says is so -/
def CmpM (T : Nat → Nat → Option Ordering) : Prop := ∀ i j c a b, T i j = some c → Marks.str i = some a → Marks.str j = some b → Lib.compareBytes a b = ordZ c
theorem cmp_ok {T : Nat → Nat → Option Ordering} (hT : CmpM T) : RawOK Tryz.prog G 43 (extP (cmpO T)) := by
  refine extP_sound ⟨Tryz.f43, _, Tryz.func43, rfl, by decide⟩ ?_
  intro ps v hv S w cargs hG hr
  unfold cmpO at hv
  split at hv
  · rename_i i j
    split at hv
    · rename_i c hc
      obtain rfl := Option.some.inj hv
      obtain ⟨cl⟩ := cargs
      simp only at hr
      cases hr with
      | cons h1 hr =>
        cases hr with
        | cons h2 hr =>
          cases hr with
          | nil =>
            cases h1 with
            | @ssym _ a a' h1 ha =>
              cases h2 with
              | @ssym _ b b' h2 hb =>
                subst ha hb
                refine (Any.strings_Compare lays106 a' b' w).mono fun e w' hw => ⟨⟨_, hw.1, fun S w' => ?_⟩, ?_⟩
                · rw [hT i j c _ _ hc h1 h2]; exact .int _ _
                · have hw := hw.2
                  subst hw
                  exact Below.refl _ _
    · cases hv
  · cases hv
theorem tl_ok {T : Nat → Nat → Option Ordering} (hM : TrimM) (hT : CmpM T) : TableOK Tryz.prog G (TL T) := by
  intro f i h
  unfold TL at h
  split at h
  · obtain rfl := Option.some.inj h; exact trim_ok hM
  · obtain rfl := Option.some.inj h; exact cmp_ok hT
  · obtain rfl := Option.some.inj h; exact ⟨Tryz.f5, [], Tryz.func5, c5⟩
  · obtain rfl := Option.some.inj h; exact ⟨Tryz.f7, [], Tryz.func7, c7⟩
  · obtain rfl := Option.some.inj h; exact ⟨Tryz.f8, [], Tryz.func8, c8⟩
  · obtain rfl := Option.some.inj h; exact ⟨Tryz.f13, [], Tryz.func13, c13⟩
  · obtain rfl := Option.some.inj h; exact ⟨Tryz.f14, [], Tryz.func14, c14⟩
  · obtain rfl := Option.some.inj h; exact ⟨Tryz.f16, [], Tryz.func16, c16⟩
  · obtain rfl := Option.some.inj h; exact ⟨Tryz.f17, [], Tryz.func17, c17⟩
  · obtain rfl := Option.some.inj h; exact ⟨Tryz.f18, [], Tryz.func18, c18⟩
  · obtain rfl := Option.some.inj h; exact ⟨Tryz.f19, [], Tryz.func19, c19⟩
  · obtain rfl := Option.some.inj h; exact ⟨Tryz.f21, [], Tryz.func21, c21⟩
  · obtain rfl := Option.some.inj h; exact ⟨Tryz.f24, [], Tryz.func24, c24⟩
  · obtain rfl := Option.some.inj h; exact ⟨Tryz.f28, [], Tryz.func28, c28⟩
  · obtain rfl := Option.some.inj h; exact ⟨Tryz.f31, [], Tryz.func31, c31⟩
  · obtain rfl := Option.some.inj h; exact ⟨Tryz.f33, [], Tryz.func33, c33⟩
  · obtain rfl := Option.some.inj h; exact ⟨Tryz.f36, [], Tryz.func36, c36⟩
  · obtain rfl := Option.some.inj h; exact ⟨Tryz.f37, [], Tryz.func37, c37⟩
  · obtain rfl := Option.some.inj h; exact ⟨Tryz.f41, [], Tryz.func41, c41⟩
  · obtain rfl := Option.some.inj h; exact ⟨Tryz.f42, [], Tryz.func42, c42⟩
  · obtain rfl := Option.some.inj h; exact ⟨Tryz.f44, [], Tryz.func44, c44⟩
  · obtain rfl := Option.some.inj h; exact ⟨Tryz.f50, [], Tryz.func50, c50⟩
  · obtain rfl := Option.some.inj h; exact ⟨Tryz.f51, [], Tryz.func51, c51⟩
  · obtain rfl := Option.some.inj h; exact ⟨Tryz.f52, [], Tryz.func52, c52⟩
  · obtain rfl := Option.some.inj h; exact ⟨Tryz.f58, [], Tryz.func58, c58⟩
  · obtain rfl := Option.some.inj h; exact ⟨Tryz.f59, [], Tryz.func59, c59⟩
  · obtain rfl := Option.some.inj h; exact ⟨Tryz.f62, [], Tryz.func62, c62⟩
  · obtain rfl := Option.some.inj h; exact ⟨Tryz.f65, [], Tryz.func65, c65⟩
  · obtain rfl := Option.some.inj h; exact ⟨Tryz.f66, [], Tryz.func66, c66⟩
  · obtain rfl := Option.some.inj h; exact ⟨Tryz.f67, [], Tryz.func67, c67⟩
  · obtain rfl := Option.some.inj h; exact ⟨Tryz.f68, [], Tryz.func68, c68⟩
  · obtain rfl := Option.some.inj h; exact ⟨Tryz.f78, [], Tryz.func78, c78⟩
  · obtain rfl := Option.some.inj h; exact ⟨Tryz.f79, [], Tryz.func79, c79⟩
  · obtain rfl := Option.some.inj h; exact ⟨Tryz.f88, [], Tryz.func88, c88⟩
  · obtain rfl := Option.some.inj h; exact ⟨Tryz.f90, [], Tryz.func90, c90⟩
  · obtain rfl := Option.some.inj h; exact ⟨Tryz.f91, [], Tryz.func91, c91⟩
  · obtain rfl := Option.some.inj h; exact ⟨Tryz.f92, [], Tryz.func92, c92⟩
  · obtain rfl := Option.some.inj h; exact ⟨Tryz.f93, [], Tryz.func93, c93⟩
  · obtain rfl := Option.some.inj h; exact ⟨Tryz.f94, [], Tryz.func94, c94⟩
  · obtain rfl := Option.some.inj h; exact ⟨Tryz.f97, [], Tryz.func97, c97⟩
  · obtain rfl := Option.some.inj h; exact ⟨Tryz.f113, [], Tryz.func113, c113⟩
  · cases h
theorem ts_ok {T : Nat → Nat → Option Ordering} (hM : TrimM) (hT : CmpM T) : TableOK Tryz.prog G (TS T) := ahead_ok (tl_ok hM hT) rowOf_ok
end
end Go.Ab.Same
