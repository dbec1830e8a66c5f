/- Contracts of the library at this program: strings.Trim, TrimRight, Repeat, Compare. -/
import Derived.Test.YtacjjncmbklplaaGreatDoorAbS10
import Derived.Shelf.Strings.Trim
import Derived.Shelf.Strings.Repeat
import Derived.Shelf.Small.Strs
set_option linter.unusedSectionVars false
set_option linter.unusedSimpArgs false
set_option linter.unusedVariables false
set_option maxRecDepth 1000000
namespace Go.Ab.Cols
open Go Go.Ab Go.Ab.Names Go.Proofs Go.RowKit
def ren160 : Go.Shelf.Ren where
  f := fun x => match x with
    | 160 => 25
    | 232 => 46
    | 231 => 45
    | 227 => 47
    | 234 => 49
    | 233 => 48
    | 236 => 51
    | 235 => 50
    | 228 => 64
    | 271 => 67
    | 151 => 66
    | 197 => 65
    | 120 => 88
    | 152 => 87
    | 260 => 86
    | 137 => 104
    | 119 => 105
    | 224 => 106
    | 225 => 107
    | 217 => 116
    | 266 => 117
    | n => n
  t := fun x => match x with
    | 9 => 9
    | 4 => 4
    | 3 => 3
    | 5 => 5
    | 117 => 66
    | 116 => 65
    | 0 => 0
    | 124 => 69
    | 21 => 21
    | 105 => 82
    | 46 => 85
    | 119 => 141
    | 139 => 144
    | 138 => 143
    | n => n
  g := fun x => match x with
    | 3 => 4
    | 4 => 5
    | n => n
theorem lays160 : Lays.n160 Tryz.prog ren160 := by
  constructor <;> first | kernel_rfl | (intro w; kernel_rfl)
def ren162 : Go.Shelf.Ren where
  f := fun x => match x with
    | 162 => 63
    | 232 => 46
    | 227 => 47
    | 234 => 49
    | 236 => 51
    | 228 => 64
    | 271 => 67
    | 151 => 66
    | 120 => 88
    | 197 => 65
    | 152 => 87
    | 260 => 86
    | 137 => 104
    | 119 => 105
    | 224 => 106
    | 225 => 107
    | 217 => 116
    | 266 => 117
    | n => n
  t := fun x => match x with
    | 9 => 9
    | 4 => 4
    | 3 => 3
    | 5 => 5
    | 117 => 66
    | 116 => 65
    | 0 => 0
    | 124 => 69
    | 21 => 21
    | 105 => 82
    | 46 => 85
    | 119 => 141
    | 139 => 144
    | 138 => 143
    | n => n
  g := fun x => match x with
    | 3 => 4
    | 4 => 5
    | n => n
theorem lays162 : Lays.n162 Tryz.prog ren162 := by
  constructor <;> first | kernel_rfl | (intro w; kernel_rfl)
def ren105 : Go.Shelf.Ren where
  f := fun x => match x with
    | 105 => 52
    | 212 => 68
    | 99 => 69
    | 165 => 70
    | 166 => 71
    | 170 => 72
    | 169 => 73
    | 263 => 89
    | 264 => 90
    | 206 => 91
    | 240 => 92
    | 241 => 93
    | 276 => 108
    | 277 => 109
    | n => n
  t := fun x => match x with
    | 9 => 9
    | 3 => 3
    | 4 => 4
    | 20 => 20
    | 0 => 0
    | 46 => 85
    | 109 => 86
    | 5 => 5
    | 72 => 91
    | 76 => 93
    | 51 => 114
    | 146 => 115
    | 53 => 98
    | 148 => 110
    | 70 => 89
    | 37 => 71
    | 75 => 73
    | 127 => 117
    | 164 => 147
    | 80 => 96
    | n => n
  g := fun x => x
theorem lays105 : Lays.n105 Tryz.prog ren105 := by
  constructor <;> first | kernel_rfl | (intro w; kernel_rfl)
def ren106 : Go.Shelf.Ren where
  f := fun x => match x with
    | 106 => 41
    | 213 => 62
    | 265 => 85
    | n => n
  t := fun x => match x with
    | 9 => 9
    | 3 => 3
    | n => n
  g := fun x => x
theorem lays106 : Lays.n106 Tryz.prog ren106 := by
  constructor <;> first | kernel_rfl | (intro w; kernel_rfl)
theorem extra105 : Builder.Extra Tryz.prog ren105 where
  sizeBuilder := by kernel_rfl
  liesBuilder := by kernel_rfl
  t5 := by kernel_rfl
  a5 := fun w => by kernel_rfl
  z5 := fun w => by kernel_rfl
  v5 := fun w => by kernel_rfl
  infoByte := by kernel_rfl
  cellsByte := by kernel_rfl
  sizeByte := by kernel_rfl
  neB5 := by decide
theorem repeat_one (n : Nat) : Lib.repeatL [32] n = List.replicate n 32 := by
  induction n with
  | zero => rfl
  | succ n ih => rw [Lib.repeatL, ih, List.replicate_succ]; rfl
theorem mk_list (s : ByteArray) (l : List UInt8) (h : s.data.toList = l) : s = ⟨l.toArray⟩ := by
  subst h; simp
theorem enters_of_func {P : Program} {f : Nat} {fn : Func} {c : Code} (h : P.funcs[f]? = some fn) (hb : fn.body = some c) (hn : fn.name ≠ "runtime.NumGoroutine") : Enters P f := ⟨fn, c, h, hb, hn⟩
theorem trim_ok : RawOK Tryz.prog Names.G 25 (extP trimO) := by
  refine extP_sound ⟨Tryz.f25, _, Tryz.func25, rfl, by decide⟩ ?_
  intro ps v hv S w cargs hG hr
  unfold trimO at hv
  split at hv
  · rename_i s c
    split at hv
    · rename_i hc
      obtain rfl := Option.some.inj hv
      obtain ⟨cl⟩ := cargs
      simp only at hr
      cases hr with
      | cons h1 hr =>
        cases hr with
        | cons h2 hr =>
          cases hr with
          | nil =>
            cases h1 with
            | @str _ s' h1 =>
              cases h2 with
              | @str _ c' h2 =>
                subst h1
                rw [hc.1] at h2
                have hc2 : c' = ⟨#[32]⟩ := by have := mk_list _ _ h2; simpa using this
                subst hc2
                refine (Any.strings_Trim_one lays160 s' 32 (by decide) w (by rw [Lib.size_eq]; exact hc.2)).mono fun e w' ⟨he, hw⟩ => ⟨⟨_, he, fun S w' => .str (by simp)⟩, ?_⟩
                rcases hw with rfl | rfl
                · exact Below.refl _ _
                · exact (Below.refl _ _).drew
    · cases hv
  · cases hv
theorem trimR_ok : RawOK Tryz.prog Names.G 63 (extP trimRO) := by
  refine extP_sound ⟨Tryz.f63, _, Tryz.func63, rfl, by decide⟩ ?_
  intro ps v hv S w cargs hG hr
  unfold trimRO at hv
  split at hv
  · rename_i s c
    split at hv
    · rename_i hc
      obtain rfl := Option.some.inj hv
      obtain ⟨cl⟩ := cargs
      simp only at hr
      cases hr with
      | cons h1 hr =>
        cases hr with
        | cons h2 hr =>
          cases hr with
          | nil =>
            cases h1 with
            | @str _ s' h1 =>
              cases h2 with
              | @str _ c' h2 =>
                subst h1
                rw [hc.1] at h2
                have hc2 : c' = ⟨#[32]⟩ := by have := mk_list _ _ h2; simpa using this
                subst hc2
                refine (Any.strings_TrimRight_one lays162 s' 32 (by decide) w (by rw [Lib.size_eq]; exact hc.2)).mono fun e w' hw => ⟨⟨_, hw.1, fun S w' => .str (by simp)⟩, ?_⟩
                have hw := hw.2
                first
                  | (rcases hw with rfl | rfl
                     · exact Below.refl _ _
                     · exact (Below.refl _ _).drew)
                  | (subst hw; exact Below.refl _ _)
    · cases hv
  · cases hv
theorem rep_ok : RawOK Tryz.prog Names.G 52 (extP repO) := by
  refine extP_sound ⟨Tryz.f52, _, Tryz.func52, rfl, by decide⟩ ?_
  intro ps v hv S w cargs hG hr
  unfold repO at hv
  split at hv
  · rename_i s k n
    split at hv
    · rename_i hc
      obtain ⟨rfl, rfl, h0, hn⟩ := hc
      obtain rfl := Option.some.inj hv
      obtain ⟨cl⟩ := cargs
      simp only at hr
      cases hr with
      | cons h1 hr =>
        cases hr with
        | cons h2 hr =>
          cases hr with
          | nil =>
            cases h1 with
            | @str _ s' h1 =>
              cases h2 with
              | int _ _ =>
                obtain ⟨m, rfl⟩ : ∃ m : Nat, n = m := ⟨n.toNat, by omega⟩
                have hs : s'.size = 1 := by rw [Lib.size_eq, h1]; rfl
                refine (Any.strings_Repeat lays105 extra105 s' m w (by omega) (by rw [hs]; omega)).mono fun e w' hw => ⟨⟨_, hw.1, fun S w' => .str (by rw [h1, repeat_one]; simp)⟩, hw.2⟩
    · cases hv
  · cases hv
theorem cmp_ok : RawOK Tryz.prog Names.G 41 (extP cmpO) := by
  refine extP_sound ⟨Tryz.f41, _, Tryz.func41, rfl, by decide⟩ ?_
  intro ps v hv S w cargs hG hr
  unfold cmpO at hv
  split at hv
  · rename_i a b
    obtain rfl := Option.some.inj hv
    obtain ⟨cl⟩ := cargs
    simp only at hr
    cases hr with
    | cons h1 hr =>
      cases hr with
      | cons h2 hr =>
        cases hr with
        | nil =>
          cases h1 with
          | @str _ a' h1 =>
            cases h2 with
            | @str _ b' h2 =>
              subst h1 h2
              refine (Any.strings_Compare lays106 a' b' w).mono fun e w' hw => ⟨⟨_, hw.1, fun S w' => .int _ _⟩, ?_⟩
              have hw := hw.2
              subst hw
              exact Below.refl _ _
  · cases hv

end Go.Ab.Cols
