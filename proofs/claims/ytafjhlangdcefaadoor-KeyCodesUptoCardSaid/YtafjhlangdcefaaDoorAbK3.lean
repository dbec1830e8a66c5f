/- The laws of keys: contracts of the library at this program: strings.TrimRight, strings.ReplaceAll, (*strings.Builder).copyCheck. -/
import Derived.Test.YtafjhlangdcefaaDoorAbK2
import Derived.Shelf.Strings.Trim
import Derived.Shelf.Strings.Replace
import Derived.Shelf.Strings.Builder1
set_option linter.unusedSectionVars false
set_option linter.unusedSimpArgs false
set_option linter.unusedVariables false
set_option maxRecDepth 1000000
namespace Go.Ab.Key
open Go Go.Ab Go.Proofs Go.RowKit
def ren162 : Go.Shelf.Ren where
  f := fun x => match x with
    | 162 => 19
    | 232 => 31
    | 227 => 32
    | 234 => 33
    | 236 => 34
    | 228 => 47
    | 271 => 48
    | 151 => 49
    | 120 => 57
    | 197 => 46
    | 152 => 58
    | 260 => 56
    | 137 => 65
    | 119 => 66
    | 224 => 63
    | 225 => 62
    | 217 => 61
    | 266 => 67
    | n => n
  t := fun x => match x with
    | 9 => 9
    | 4 => 4
    | 3 => 3
    | 5 => 5
    | 117 => 64
    | 116 => 63
    | 0 => 0
    | 124 => 67
    | 21 => 21
    | 105 => 81
    | 46 => 53
    | 119 => 93
    | 139 => 96
    | 138 => 95
    | n => n
  g := fun x => match x with
    | 3 => 1
    | 4 => 2
    | n => n
theorem lays162 : Lays.n162 Tryd.prog ren162 := by
  constructor <;> first | kernel_rfl | (intro w; kernel_rfl)
def ren155 : Go.Shelf.Ren where
  f := fun x => match x with
    | 155 => 18
    | 154 => 30
    | 138 => 43
    | 165 => 44
    | 143 => 45
    | 166 => 37
    | 197 => 46
    | 169 => 38
    | 195 => 52
    | 218 => 53
    | 240 => 50
    | 241 => 54
    | 219 => 55
    | 260 => 56
    | 276 => 59
    | 277 => 60
    | 217 => 61
    | 225 => 62
    | 224 => 63
    | 267 => 64
    | 266 => 67
    | 314 => 68
    | n => n
  t := fun x => match x with
    | 9 => 9
    | 3 => 3
    | 4 => 4
    | 72 => 71
    | 0 => 0
    | 76 => 74
    | 105 => 81
    | 21 => 21
    | 5 => 5
    | 70 => 69
    | 20 => 20
    | 37 => 43
    | 75 => 73
    | 127 => 85
    | 164 => 89
    | 46 => 53
    | 119 => 93
    | 139 => 96
    | 138 => 95
    | 146 => 99
    | 51 => 98
    | 80 => 76
    | n => n
  g := fun x => match x with
    | 1 => 0
    | 3 => 1
    | 4 => 2
    | n => n
theorem lays155 : Lays.n155 Tryd.prog ren155 := by
  constructor <;> first | kernel_rfl | (intro w; kernel_rfl)
theorem extra155 : Builder.Extra Tryd.prog ren155 where
  sizeBuilder := by kernel_rfl
  liesBuilder := by kernel_rfl
  t5 := by kernel_rfl
  a5 := fun w => by kernel_rfl
  z5 := fun w => by kernel_rfl
  v5 := fun w => by kernel_rfl
  infoByte := by kernel_rfl
  cellsByte := by kernel_rfl
  sizeByte := by kernel_rfl
  neB5 := by decide
theorem mk_list (s : ByteArray) (l : List UInt8) (h : s.data.toList = l) : s = ⟨l.toArray⟩ := by
  subst h; simp
section
variable [Marks] {G : Globs}
theorem trim_ok : RawOK Tryd.prog G 19 (extP trimO) := by
  refine extP_sound ⟨Tryd.f19, _, Tryd.func19, rfl, by decide⟩ ?_
  intro ps v hv S w cargs hG hr
  unfold trimO at hv
  split at hv
  · rename_i s c
    split at hv
    · rename_i hc
      obtain rfl := Option.some.inj hv
      obtain ⟨cl⟩ := cargs
      simp only at hr
      cases hr with
      | cons h1 hr =>
        cases hr with
        | cons h2 hr =>
          cases hr with
          | nil =>
            cases h1 with
            | @str _ s' h1 =>
              cases h2 with
              | @str _ c' h2 =>
                subst h1
                rw [hc.1] at h2
                have hc2 : c' = ⟨#[32]⟩ := by have := mk_list _ _ h2; simpa using this
                subst hc2
                have hsz : s'.size ≤ 9223372036854775807 := by
                  rw [Lib.size_eq]
                  exact Nat.le_trans hc.2 (by decide)
                refine (Any.strings_TrimRight_one lays162 s' 32 (by decide) w hsz).mono fun e w' hw => ⟨⟨_, hw.1, fun S w' => .str (by simp)⟩, ?_⟩
                have hw := hw.2
                subst hw; exact Below.refl _ _
    · cases hv
  · cases hv
end
/-- ReplaceAll of each zero byte -/
theorem idx_ne {b : UInt8} (s : List UInt8) (h : b ≠ 0) : Lib.index (b :: s) [0] = if Lib.index s [0] == -1 then -1 else Lib.index s [0] + 1 := by
  rw [Lib.index_one, Lib.index_one]
  have : (b == 0) = false := by simpa using h
  simp only [Lib.indexByte, this]
  simp
theorem idx_eq (s : List UInt8) : Lib.index (0 :: s) [0] = 0 := by
  rw [Lib.index_one]
  simp [Lib.indexByte]
theorem replaceK_zero : ∀ (s : List UInt8) (k : Nat), s.count 0 = k → Lib.replaceK [0] [0, 255] k s = esc s
  | [], k, h => by
    have : k = 0 := by simpa using h.symm
    subst this; rfl
  | b :: s, k, h => by
    by_cases hb : b = 0
    · subst hb
      obtain ⟨k, rfl⟩ : ∃ j, k = j + 1 := ⟨s.count 0, by simpa using h.symm⟩
      have ih := replaceK_zero s k (by simpa using h)
      have h0 : ¬ (Lib.index (0 :: s) [0] == -1) = true := by rw [idx_eq]; decide
      rw [Lib.replaceK, if_neg h0, idx_eq]
      simp [esc, ih]
    · have hc : s.count 0 = k := by
        rw [List.count_cons_of_ne hb] at h
        exact h
      have ih := replaceK_zero s k hc
      simp only [esc, hb, if_false]
      rw [← ih]
      cases k with
      | zero => rfl
      | succ k =>
        rw [Lib.replaceK, Lib.replaceK, idx_ne s hb]
        have hge := Lib.index_ge s [0]
        by_cases hm : Lib.index s [0] = -1
        · simp [hm]
        · have hm' : (Lib.index s [0] == -1) = false := by simpa using hm
          have hm2 : ¬ (Lib.index s [0] + 1 == -1) = true := by
            intro h
            have := beq_iff_eq.1 h
            omega
          simp only [hm', Bool.false_eq_true, if_false, hm2]
          have e : (Lib.index s [0] + 1).toNat = (Lib.index s [0]).toNat + 1 := by omega
          rw [e]
          simp only [List.take_succ_cons, List.cons_append]
          congr 1
theorem replaceAll_esc (s : List UInt8) : Lib.replaceAll s [0] [0, 255] = esc s := by
  unfold Lib.replaceAll Lib.replace
  rw [if_neg (by decide)]
  refine replaceK_zero s _ ?_
  unfold Lib.replaceNum
  rw [if_pos (.inl (by decide)), Lib.count_one]
section
variable [Marks]
theorem repl_ok (m : Int) : RawOK Tryd.prog (G 0 m) 18 (extP replO) := by
  refine extP_sound ⟨Tryd.f18, _, Tryd.func18, rfl, by decide⟩ ?_
  intro ps v hv S w cargs hG hr
  unfold replO at hv
  split at hv
  · rename_i s o n
    split at hv
    · rename_i hc
      obtain rfl := Option.some.inj hv
      obtain ⟨cl⟩ := cargs
      simp only at hr
      cases hr with
      | cons h1 hr =>
        cases hr with
        | cons h2 hr =>
          cases hr with
          | cons h3 hr =>
            cases hr
            cases h1 with
            | @str _ s' h1 =>
              cases h2 with
              | @str _ o' h2 =>
                cases h3 with
                | @str _ n' h3 =>
                  subst h1
                  obtain ⟨ho, hn, hs⟩ := hc
                  subst ho hn
                  have ho2 : o' = ⟨#[0]⟩ := by have := mk_list _ _ h2; simpa using this
                  have hn2 : n' = ⟨#[0, 255]⟩ := by have := mk_list _ _ h3; simpa using this
                  subst ho2 hn2
                  have hcell : w.cell? ⟨0, 0, none⟩ = some (.int .i64 m) := by
                    have := (hG 0 [.int .i64 m] (by simp [G])).1
                    cases this with
                    | cons _ hc _ h _ => rw [hc, h.int_inv]
                  have hcount : Lib.countB s' ⟨#[0]⟩ ≤ 16777216 + 1 := by
                    have := Lib.count_le s'.data.toList [0]
                    have e : Lib.countB s' ⟨#[0]⟩ = Lib.count s'.data.toList [0] := rfl
                    omega
                  have hsz : s'.size = s'.data.toList.length := Lib.size_eq s'
                  have h2' : (⟨#[0, 255]⟩ : ByteArray).size = 2 := rfl
                  refine (Any.strings_ReplaceAll lays155 extra155 s' ⟨#[0]⟩ ⟨#[0, 255]⟩ m w (by omega) hcell (by decide) (by rw [h2']; omega)).mono fun e w' hw => ⟨⟨_, hw.1, fun S w' => .str ?_⟩, hw.2⟩
                  simp [replaceAll_esc]
    · cases hv
  · cases hv
theorem setCell_heap (w : World) (b : Nat) {vs : Array Value} {e : Nat} {fz : Nat × Nat} (v : Value) (hb : w.heap[b]? = some (.cells vs e fz)) :
    (w.setCell ⟨b, 0, none⟩ v).heap[b]? = some (.cells (vs.setIfInBounds 0 v) e fz) ∧ (∀ b', b' ≠ b → (w.setCell ⟨b, 0, none⟩ v).heap[b']? = w.heap[b']?) ∧ (w.setCell ⟨b, 0, none⟩ v).heap.size = w.heap.size := by
  unfold World.setCell
  refine ⟨?_, fun b' hne => ?_, by simp⟩
  · simp [Array.getElem?_modify, hb]
  · simp only [Array.getElem?_modify]
    rw [if_neg (fun h => hne h.symm)]
theorem lies_builder (n : Nat) (hn : 2 ≤ n) : liesAt Tryd.prog Tryd.prog.depth 71 (n / Tryd.prog.cellsOf 71) 0 71 1 = true := by
  have hc : Tryd.prog.cellsOf 71 = 2 := by kernel_rfl
  have hd : Tryd.prog.depth = (2 * (Tryd.prog.types.size + Made.depth) + 1) + 1 := rfl
  rw [hd]
  simp only [liesAt, Bool.or_eq_true]
  left
  rw [hd]
  simp [rowAt, hc, sameLayout]
  omega
set_option maxRecDepth 100000 in
/-- copyCheck at a builder that was not used: it stores its own address -/
theorem copy_fresh (b n : Nat) (w : World) (h0 : w.cell? ⟨b, 0, none⟩ = some (.pointer none)) (hsh : w.shape? b = some (71, n)) (hn : 2 ≤ n) (hfz : w.frozen? ⟨b, 0, none⟩ = false) :
    Calls Tryd.prog 50 #[.pointer (some ⟨b, 0, none⟩)] w fun e w' => e = .returned (.tuple #[]) ∧ w' = w.setCell ⟨b, 0, none⟩ (.pointer (some ⟨b, 0, none⟩)) := by
  have L : Lays.n240 Tryd.prog ren155 := { lays155 with }
  obtain ⟨j, hj, hjs⟩ := Option.map_eq_some_iff.1 extra155.toX72.sizeBuilder
  have mixed := L.mixed
  have t72 := L.t72; have a72 := L.a72; have z72 := L.z72; have v72 := L.v72; have u72 := run_underlying L.t72
  have t70 := L.t70; have a70 := L.a70; have z70 := L.z70; have v70 := L.v70; have u70 := run_underlying L.t70
  have t9 := L.t9; have a9 := L.a9; have z9 := L.z9; have v9 := L.v9; have u9 := run_underlying L.t9
  have t4 := L.t4; have a4 := L.a4; have z4 := L.z4; have v4 := L.v4; have u4 := run_underlying L.t4
  have t164 := L.t164; have a164 := L.a164; have z164 := L.z164; have v164 := L.v164; have u164 := run_underlying L.t164
  show Calls Tryd.prog (ren155.f 240) _ _ _
  go_enter L.f240, Body.n240_ntmps ren155
  go_wp2
  rw [Lib.run_to_unsafe w ⟨b, 0, none⟩ L.t70 L.t164 hj (by rw [hjs]; decide) hsh (by show 0 < n; omega)]
  simp only [Result.andThen]
  rw [Oper.upon_value]
  go_wp2
  rw [run_callFunc_extern L.f276 (by kernel_rfl) (by kernel_rfl) (by kernel_rfl) (e := Extern.AbiNoEscape.same) (by kernel_rfl)]
  rw [Lib.run_noEscape]
  simp only [Result.andThen]
  rw [Oper.upon_value]
  go_wp2
  rw [Lib.run_from_unsafe w ⟨b, 0, none⟩ L.t164 L.t70 hj hsh (lies_builder n hn)]
  simp only [Result.andThen]
  rw [Oper.upon_value]
  go_wp2
  go_end0
  exact ⟨rfl, rfl⟩
/-- copyCheck -/
theorem copy_ok {G : Globs} : RawOK Tryd.prog G 50 (copyO 71) := by
  intro args σ r σ' h μ S w cargs hg hG ha
  have hE : Enters Tryd.prog 50 := ⟨Tryd.f50, _, Tryd.func50, rfl, by decide⟩
  unfold copyO at h
  split at h
  case h_2 => cases h
  rename_i id ver
  obtain ⟨cl⟩ := cargs
  simp only at ha
  cases ha with
  | cons h1 ha =>
    cases ha
    obtain ⟨b, n, hμ, rfl⟩ := h1.ptrA
    split at h
    case h_2 => cases h
    rename_i c v wm t hob
    split at h
    case isFalse => cases h
    rename_i hcond
    obtain ⟨rfl, rfl, rfl, hlen⟩ := hcond
    obtain ⟨b', n', vs, lo, hi, k1, k2, k3, k4, k5, k6, k7⟩ := (hg.obj id _ hob).typed
    rw [hμ] at k1
    cases k1
    split at h
    · rename_i h0
      simp only [Option.some.injEq, Prod.mk.injEq] at h
      obtain ⟨rfl, rfl⟩ := h
      obtain ⟨cv, q1, _, q3⟩ := k5 0 _ h0
      rw [q3.nilptr_inv] at q1
      have hnz : ¬ (lo ≤ 0 ∧ 0 < hi) := (k6 0 (Nat.le_refl _) (by omega)).2
      refine ⟨hE, (copy_fresh b n w (by rw [cell_in k2]; exact q1) (by simp [World.shape?, k2, k3]) (by omega) ?_).mono fun e w' hw => ?_⟩
      · simp only [World.frozen?, k2]
        simp
        omega
      · obtain ⟨rfl, rfl⟩ := hw
        obtain ⟨f1, f2, f3⟩ := setCell_heap w b (.pointer (some ⟨b, 0, none⟩)) k2
        obtain ⟨μ', g1, g2, _⟩ := set_cells (w1 := w.setCell ⟨b, 0, none⟩ (.pointer (some ⟨b, 0, none⟩))) (c' := spliceC c 0 (.av [.ptr id v 0])) (ver' := v) (off := 0) (new := [.pointer (some ⟨b, 0, none⟩)]) (nc := [.ptr id v 0]) hg hob hμ k2 k3 k4 f1
          (by
            have hp : 0 < vs.size := by omega
            obtain ⟨l⟩ := vs
            cases l with
            | nil => simp at hp
            | cons x r => simp [splice]) (by simp; omega) f2 f3 ⟨rfl, rfl, rfl⟩ (Nat.le_refl _) (.cons (.ptr hμ) .nil) (by simp [one])
          (fun j x hx => by
            rcases spliceC_get (by show 0 + 1 ≤ c.len; omega) hx with h | h | h
            · exact .inl h
            · exact .inr (.inl ⟨h.1, by simpa [Cells.len] using h.2.1, by simpa [Cells.toList] using h.2.2⟩)
            · exact .inr (.inr ⟨by simpa [Cells.len] using h.1, h.2⟩)) (by rw [spliceC_len (by show 0 + 1 ≤ c.len; omega)]; exact k4) (.inl rfl)
        exact ⟨μ', S, g1, g2, .p (.tup .nil)⟩
    · rename_i id' ver' h0
      split at h
      · rename_i hcond
        obtain ⟨rfl, rfl⟩ := hcond
        simp only [Option.some.injEq, Prod.mk.injEq] at h
        obtain ⟨rfl, rfl⟩ := h
        obtain ⟨cv, q1, _, q3⟩ := k5 0 _ h0
        obtain ⟨b2, n2, hμ2, rfl⟩ := q3.ptrA
        rw [hμ] at hμ2
        cases hμ2
        refine ⟨hE, (Any.Builder_copyCheck_used { lays155 with } extra155.toX72 b w (by rw [cell_in k2]; exact q1)).mono fun e w' hw => ?_⟩
        obtain ⟨rfl, rfl⟩ := hw
        exact ⟨μ, S, hg, .refl _ _ _ _, .p (.tup .nil)⟩
      · cases h
    · cases h
end
end Go.Ab.Key
