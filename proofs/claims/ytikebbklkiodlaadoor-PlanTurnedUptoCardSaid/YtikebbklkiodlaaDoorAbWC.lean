/- PlanTurned: the table of functions is the program's: the library's functions by contract (strings.TrimRight, strings.ReplaceAll). -/
import Derived.Test.YtikebbklkiodlaaDoorAbW6
import Derived.Shelf.Strings.Trim
import Derived.Shelf.Strings.Replace
import Derived.Shelf.Strings.Builder1
import Derived.Test.YtikebbklkiodlaaDoorAbPA
import Derived.Shelf.Vars
import Derived.Test.YtikebbklkiodlaaDoorCards
import Derived.Test.YtikebbklkiodlaaDoorTie
set_option linter.unusedSectionVars false
set_option linter.unusedSimpArgs false
set_option linter.unusedVariables false
set_option maxRecDepth 1000000
namespace Go.Ab.Turn
open Go Go.Ab Go.Ab.Plan Go.Ab.Key Go.Ab.Cnt Go.Proofs Go.RowKit
def ren162 : Go.Shelf.Ren where
  f := fun x => match x with
    | 162 => 34
    | 232 => 39
    | 227 => 40
    | 234 => 41
    | 236 => 42
    | 228 => 49
    | 271 => 50
    | 151 => 51
    | 120 => 58
    | 197 => 47
    | 152 => 59
    | 260 => 57
    | 137 => 66
    | 119 => 67
    | 224 => 64
    | 225 => 63
    | 217 => 62
    | 266 => 68
    | n => n
  t := fun x => match x with
    | 9 => 9
    | 4 => 4
    | 3 => 3
    | 5 => 5
    | 117 => 103
    | 116 => 102
    | 0 => 0
    | 124 => 106
    | 21 => 21
    | 105 => 116
    | 46 => 129
    | 119 => 130
    | 139 => 133
    | 138 => 132
    | n => n
  g := fun x => match x with
    | 3 => 2
    | 4 => 3
    | n => n
theorem lays162 : Lays.n162 Tryd.prog ren162 := by
  constructor <;> first | kernel_rfl | (intro w; kernel_rfl)
def ren155 : Go.Shelf.Ren where
  f := fun x => match x with
    | 155 => 33
    | 154 => 38
    | 138 => 43
    | 165 => 44
    | 143 => 45
    | 166 => 46
    | 197 => 47
    | 169 => 48
    | 195 => 52
    | 218 => 53
    | 240 => 54
    | 241 => 55
    | 219 => 56
    | 260 => 57
    | 276 => 60
    | 277 => 61
    | 217 => 62
    | 225 => 63
    | 224 => 64
    | 267 => 65
    | 266 => 68
    | 314 => 69
    | n => n
  t := fun x => match x with
    | 9 => 9
    | 3 => 3
    | 4 => 4
    | 72 => 110
    | 0 => 0
    | 76 => 114
    | 105 => 116
    | 21 => 21
    | 5 => 5
    | 70 => 108
    | 20 => 20
    | 37 => 89
    | 75 => 113
    | 127 => 123
    | 164 => 125
    | 46 => 129
    | 119 => 130
    | 139 => 133
    | 138 => 132
    | 146 => 136
    | 51 => 135
    | 80 => 118
    | n => n
  g := fun x => match x with
    | 1 => 1
    | 3 => 2
    | 4 => 3
    | n => n
theorem lays155 : Lays.n155 Tryd.prog ren155 := by
  constructor <;> first | kernel_rfl | (intro w; kernel_rfl)
theorem extra155 : Builder.Extra Tryd.prog ren155 where
  sizeBuilder := by kernel_rfl
  liesBuilder := by kernel_rfl
  t5 := by kernel_rfl
  a5 := fun w => by kernel_rfl
  z5 := fun w => by kernel_rfl
  v5 := fun w => by kernel_rfl
  infoByte := by kernel_rfl
  cellsByte := by kernel_rfl
  sizeByte := by kernel_rfl
  neB5 := by decide
theorem mk_list (s : ByteArray) (l : List UInt8) (h : s.data.toList = l) : s = ⟨l.toArray⟩ := by
  subst h; simp
section
variable [Mx]
theorem trim_ok : RawOK Tryd.prog GT 34 (extP Enc.trimO) := by
  refine extP_sound ⟨Tryd.f34, _, Tryd.func34, rfl, by decide⟩ ?_
  intro ps v hv S w cargs hG hr
  unfold Enc.trimO at hv
  split at hv
  · rename_i s c
    split at hv
    · rename_i hc
      obtain rfl := Option.some.inj hv
      obtain ⟨cl⟩ := cargs
      simp only at hr
      cases hr with
      | cons h1 hr =>
        cases hr with
        | cons h2 hr =>
          cases hr with
          | nil =>
            cases h1 with
            | @str _ s' h1 =>
              cases h2 with
              | @str _ c' h2 =>
                subst h1
                rw [hc.1] at h2
                have hc2 : c' = ⟨#[32]⟩ := by have := mk_list _ _ h2; simpa using this
                subst hc2
                have hsz : s'.size ≤ 9223372036854775807 := by
                  rw [Lib.size_eq]
                  exact Nat.le_trans hc.2 (by decide)
                refine (Any.strings_TrimRight_one lays162 s' 32 (by decide) w hsz).mono fun e w' hw => ⟨⟨_, hw.1, fun S w' => .str (by simp)⟩, ?_⟩
                have hw := hw.2
                subst hw; exact Below.refl _ _
    · cases hv
  · cases hv
end
/-- ReplaceAll of each zero byte -/
theorem idx_ne {b : UInt8} (s : List UInt8) (h : b ≠ 0) : Lib.index (b :: s) [0] = if Lib.index s [0] == -1 then -1 else Lib.index s [0] + 1 := by
  rw [Lib.index_one, Lib.index_one]
  have : (b == 0) = false := by simpa using h
  simp only [Lib.indexByte, this]
  simp
theorem idx_eq (s : List UInt8) : Lib.index (0 :: s) [0] = 0 := by
  rw [Lib.index_one]
  simp [Lib.indexByte]
theorem replaceK_zero : ∀ (s : List UInt8) (k : Nat), s.count 0 = k → Lib.replaceK [0] [0, 255] k s = esc s
  | [], k, h => by
    have : k = 0 := by simpa using h.symm
    subst this; rfl
  | b :: s, k, h => by
    by_cases hb : b = 0
    · subst hb
      obtain ⟨k, rfl⟩ : ∃ j, k = j + 1 := ⟨s.count 0, by simpa using h.symm⟩
      have ih := replaceK_zero s k (by simpa using h)
      have h0 : ¬ (Lib.index (0 :: s) [0] == -1) = true := by rw [idx_eq]; decide
      rw [Lib.replaceK, if_neg h0, idx_eq]
      simp [esc, ih]
    · have hc : s.count 0 = k := by
        rw [List.count_cons_of_ne hb] at h
        exact h
      have ih := replaceK_zero s k hc
      simp only [esc, hb, if_false]
      rw [← ih]
      cases k with
      | zero => rfl
      | succ k =>
        rw [Lib.replaceK, Lib.replaceK, idx_ne s hb]
        have hge := Lib.index_ge s [0]
        by_cases hm : Lib.index s [0] = -1
        · simp [hm]
        · have hm' : (Lib.index s [0] == -1) = false := by simpa using hm
          have hm2 : ¬ (Lib.index s [0] + 1 == -1) = true := by
            intro h
            have := beq_iff_eq.1 h
            omega
          simp only [hm', Bool.false_eq_true, if_false, hm2]
          have e : (Lib.index s [0] + 1).toNat = (Lib.index s [0]).toNat + 1 := by omega
          rw [e]
          simp only [List.take_succ_cons, List.cons_append]
          congr 1
theorem replaceAll_esc (s : List UInt8) : Lib.replaceAll s [0] [0, 255] = esc s := by
  unfold Lib.replaceAll Lib.replace
  rw [if_neg (by decide)]
  refine replaceK_zero s _ ?_
  unfold Lib.replaceNum
  rw [if_pos (.inl (by decide)), Lib.count_one]
section
variable [Mx]
theorem repl_ok : RawOK Tryd.prog GT 33 (extP Enc.replO) := by
  refine extP_sound ⟨Tryd.f33, _, Tryd.func33, rfl, by decide⟩ ?_
  intro ps v hv S w cargs hG hr
  unfold Enc.replO at hv
  split at hv
  · rename_i s o n
    split at hv
    · rename_i hc
      obtain rfl := Option.some.inj hv
      obtain ⟨cl⟩ := cargs
      simp only at hr
      cases hr with
      | cons h1 hr =>
        cases hr with
        | cons h2 hr =>
          cases hr with
          | cons h3 hr =>
            cases hr
            cases h1 with
            | @str _ s' h1 =>
              cases h2 with
              | @str _ o' h2 =>
                cases h3 with
                | @str _ n' h3 =>
                  subst h1
                  obtain ⟨ho, hn, hs⟩ := hc
                  subst ho hn
                  have ho2 : o' = ⟨#[0]⟩ := by have := mk_list _ _ h2; simpa using this
                  have hn2 : n' = ⟨#[0, 255]⟩ := by have := mk_list _ _ h3; simpa using this
                  subst ho2 hn2
                  have hcell : w.cell? ⟨1, 0, none⟩ = some (.int .i64 Mx.m) := by
                    have := (hG 1 [.int .i64 Mx.m] (by simp [GT])).1
                    cases this with
                    | cons _ hc _ h _ => rw [hc, h.int_inv]
                  have hcount : Lib.countB s' ⟨#[0]⟩ ≤ 16777216 + 1 := by
                    have := Lib.count_le s'.data.toList [0]
                    have e : Lib.countB s' ⟨#[0]⟩ = Lib.count s'.data.toList [0] := rfl
                    omega
                  have hsz : s'.size = s'.data.toList.length := Lib.size_eq s'
                  have h2' : (⟨#[0, 255]⟩ : ByteArray).size = 2 := rfl
                  refine (Any.strings_ReplaceAll lays155 extra155 s' ⟨#[0]⟩ ⟨#[0, 255]⟩ Mx.m w (by omega) hcell (by decide) (by rw [h2']; omega)).mono fun e w' hw => ⟨⟨_, hw.1, fun S w' => .str ?_⟩, hw.2⟩
                  simp [replaceAll_esc]
    · cases hv
  · cases hv
theorem lit5_is : cFunc Tryd.prog GT [] Tryd.f5 = some lit5 := by kernel_rfl
theorem lit14_is : cFunc Tryd.prog GT [] Tryd.f14 = some lit14 := by kernel_rfl
theorem lit15_is : cFunc Tryd.prog GT [] Tryd.f15 = some lit15 := by kernel_rfl
theorem lit16_is : cFunc Tryd.prog GT [] Tryd.f16 = some lit16 := by kernel_rfl
theorem lit17_is : cFunc Tryd.prog GT [] Tryd.f17 = some lit17 := by kernel_rfl
theorem lit18_is : cFunc Tryd.prog GT [] Tryd.f18 = some lit18 := by kernel_rfl
theorem lit22_is : cFunc Tryd.prog GT [] Tryd.f22 = some lit22 := by kernel_rfl
theorem lit23_is : cFunc Tryd.prog GT [] Tryd.f23 = some lit23 := by kernel_rfl
theorem lit24_is : cFunc Tryd.prog GT [] Tryd.f24 = some lit24 := by kernel_rfl
theorem lit25_is : cFunc Tryd.prog GT [] Tryd.f25 = some lit25 := by kernel_rfl
theorem lit26_is : cFunc Tryd.prog GT [] Tryd.f26 = some lit26 := by kernel_rfl
theorem lit27_is : cFunc Tryd.prog GT [] Tryd.f27 = some lit27 := by kernel_rfl
theorem lit28_is : cFunc Tryd.prog GT [] Tryd.f28 = some lit28 := by kernel_rfl
theorem lit29_is : cFunc Tryd.prog GT [] Tryd.f29 = some lit29 := by kernel_rfl
theorem lit30_is : cFunc Tryd.prog GT [] Tryd.f30 = some lit30 := by kernel_rfl
theorem lit31_is : cFunc Tryd.prog GT [] Tryd.f31 = some lit31 := by kernel_rfl
theorem lit35_is : cFunc Tryd.prog GT [] Tryd.f35 = some lit35 := by kernel_rfl
theorem lit36_is : cFunc Tryd.prog GT [] Tryd.f36 = some lit36 := by kernel_rfl
theorem table_okT : TableOK Tryd.prog GT TT := by
  refine ahead_ok ?_ (ahead_ok rowIm_ok rowOf_ok)
  intro f i h
  unfold TX at h
  split at h
  · obtain rfl := Option.some.inj h; exact ⟨by decide, Tryd.f5, [], Tryd.func5, lit5_is⟩
  · obtain rfl := Option.some.inj h; exact ⟨by decide, Tryd.f14, [], Tryd.func14, lit14_is⟩
  · obtain rfl := Option.some.inj h; exact ⟨by decide, Tryd.f15, [], Tryd.func15, lit15_is⟩
  · obtain rfl := Option.some.inj h; exact ⟨by decide, Tryd.f16, [], Tryd.func16, lit16_is⟩
  · obtain rfl := Option.some.inj h; exact ⟨by decide, Tryd.f17, [], Tryd.func17, lit17_is⟩
  · obtain rfl := Option.some.inj h; exact ⟨by decide, Tryd.f18, [], Tryd.func18, lit18_is⟩
  · obtain rfl := Option.some.inj h; exact ⟨by decide, rfl, Tryd.f22, [], Tryd.func22, lit22_is⟩
  · obtain rfl := Option.some.inj h; exact ⟨by decide, Tryd.f23, [], Tryd.func23, lit23_is⟩
  · obtain rfl := Option.some.inj h; exact ⟨by decide, rfl, Tryd.f24, [], Tryd.func24, lit24_is⟩
  · obtain rfl := Option.some.inj h; exact ⟨by decide, rfl, Tryd.f25, [], Tryd.func25, lit25_is⟩
  · obtain rfl := Option.some.inj h; exact ⟨by decide, Tryd.f26, [], Tryd.func26, lit26_is⟩
  · obtain rfl := Option.some.inj h; exact ⟨by decide, Tryd.f27, [], Tryd.func27, lit27_is⟩
  · obtain rfl := Option.some.inj h; exact ⟨by decide, Tryd.f28, [], Tryd.func28, lit28_is⟩
  · obtain rfl := Option.some.inj h; exact ⟨by decide, rfl, Tryd.f29, [], Tryd.func29, lit29_is⟩
  · obtain rfl := Option.some.inj h; exact ⟨by decide, Tryd.f30, [], Tryd.func30, lit30_is⟩
  · obtain rfl := Option.some.inj h; exact ⟨by decide, Tryd.f31, [], Tryd.func31, lit31_is⟩
  · obtain rfl := Option.some.inj h; exact ⟨by decide, repl_ok⟩
  · obtain rfl := Option.some.inj h; exact ⟨by decide, trim_ok⟩
  · obtain rfl := Option.some.inj h; exact ⟨by decide, Tryd.f35, [], Tryd.func35, lit35_is⟩
  · obtain rfl := Option.some.inj h; exact ⟨by decide, Tryd.f36, [], Tryd.func36, lit36_is⟩
  · obtain rfl := Option.some.inj h; exact rfl
  · cases h
end
end Go.Ab.Turn

/- PlanTurned: arguments of a caller: a list of integers, and a tree. -/
set_option maxRecDepth 1000000
namespace Go.Ab.Turn
open Go Go.Ab Go.Ab.Plan Go.Ab.Key Go.Ab.Cnt Go.Proofs Go.Proofs.YtikebbklkiodlaaDoor Go.ChangeShapes Go.WideShapes Go.RowKit
theorem closed : closedB Tryd.prog [41, 45, 43, 9, 2, 3] = true := by kernel_rfl
theorem laidOut : laidOutB Tryd.prog = true := by kernel_rfl
theorem own_knob : ownKnob Tryd.prog.godebug = none := by kernel_rfl
theorem wf_range {n : Int} (h : (Lit.int .i64 n).wf = true) : inR n := by
  have h1 : IntKind.i64.min = -9223372036854775808 := rfl
  have h2 : IntKind.i64.max = 9223372036854775807 := rfl
  simp [Lit.wf] at h
  unfold inR
  omega
variable [Marks]
theorem ints_rows : ∀ (rows : List (List PV)), (∀ r ∈ rows, OfT Tryd.prog 3 r) → ∃ l : List Int, rows.flatten = ints l ∧ rows.length = l.length ∧ ∀ c ∈ l, inR c
  | [], _ => ⟨[], rfl, rfl, fun r h => by simp at h⟩
  | p :: rows, h => by
    obtain ⟨n, rfl, hn⟩ := (h p (by simp)).of_int Tryd.underlying3
    obtain ⟨l, h1, h2, h3⟩ := ints_rows rows (fun q hq => h q (by simp [hq]))
    refine ⟨n :: l, by simp [ints, h1], by simp [h2], fun q hq => ?_⟩
    rcases List.mem_cons.1 hq with rfl | hq
    · exact wf_range hn
    · exact h3 q hq
/-- a slice of integers -/
theorem ints_of {u : PV} (h : OfT Tryd.prog 41 [u]) : ∃ l : List Int, u = .vsl (ints l) l.length ∧ ∀ r ∈ l, inR r := by
  obtain ⟨rows, e, h1, _, _⟩ := h.of_sl Tryd.underlying41
  obtain ⟨l, e1, e2, h3⟩ := ints_rows rows h1
  simp only [List.cons.injEq, and_true] at e
  exact ⟨l, by rw [e, e1, e2], h3⟩
theorem rows_of (n : Nat) (ih : ∀ ps, szL ps ≤ n → OfT Tryd.prog 45 ps → ∃ t, ps = cells t ∧ (szL ps ≤ 1048576 → okT t)) : ∀ (rows : List (List PV)), (∀ r ∈ rows, OfT Tryd.prog 45 r) → szL rows.flatten ≤ n →
    ∃ l : List T, rows.flatten = cellsL l ∧ rows.length = l.length ∧ (szL rows.flatten ≤ 1048576 → allTL (fun _ s n k => inR n ∧ s.length ≤ 1048576 ∧ k ≤ 1048576) l)
  | [], _, _ => ⟨[], rfl, rfl, fun _ => trivial⟩
  | p :: rows, h, hs => by
    simp only [List.flatten_cons, szL_app] at hs ⊢
    obtain ⟨t, rfl, ht⟩ := ih p (by omega) (h p (by simp))
    obtain ⟨l, h1, h2, h3⟩ := rows_of n ih rows (fun q hq => h q (by simp [hq])) (by omega)
    exact ⟨t :: l, by simp [cellsL, h1], by simp [h2], fun hz => ⟨ht (by omega), h3 (by omega)⟩⟩
theorem len_sz : ∀ l : List T, l.length ≤ szL (cellsL l)
  | [] => Nat.zero_le _
  | .mk op s n k :: r => by
    have := len_sz r
    simp only [List.length_cons, cellsL, cells, szL_app, szL, szP] at *
    omega
/-- a tree -/
theorem node_of : ∀ (n : Nat) (ps : List PV), szL ps ≤ n → OfT Tryd.prog 45 ps → ∃ t, ps = cells t ∧ (szL ps ≤ 1048576 → okT t)
  | 0, ps, hs, h => by
    obtain ⟨p0, p1, p2, p3, rfl, h0, h1, h2, h3⟩ := h.of_struct4 Tryd.underlying45
    obtain ⟨a, rfl, _⟩ := h0.of_str Tryd.underlying9
    simp only [szL_app, szL, szP] at hs
    omega
  | n + 1, ps, hs, h => by
    obtain ⟨p0, p1, p2, p3, rfl, h0, h1, h2, h3⟩ := h.of_struct4 Tryd.underlying45
    obtain ⟨a, rfl, _⟩ := h0.of_str Tryd.underlying9
    obtain ⟨b, rfl, _⟩ := h1.of_str Tryd.underlying9
    obtain ⟨c, rfl, hc⟩ := h2.of_int Tryd.underlying2
    obtain ⟨rows, rfl, g1, _, _⟩ := h3.of_sl Tryd.underlying43
    simp only [szL_app, szL, szP] at hs ⊢
    obtain ⟨l, e1, e2, e3⟩ := rows_of n (node_of n) rows g1 (by omega)
    have hl := len_sz l
    rw [← e1] at hl
    refine ⟨.mk a b c l, by simp [cells, e1, e2], fun hz => ⟨⟨wf_range hc, by omega, by omega⟩, e3 (by omega)⟩⟩
mutual
theorem clauses_sz : ∀ t : T, (clauses t).length ≤ szL (cells t)
  | .mk op s n l => by
    unfold clauses
    split
    · have := clausesL_sz l
      simp only [cells, szL, szP]
      omega
    · simp [cells, szL, szP]
      omega
theorem clausesL_sz : ∀ l : List T, (clausesL l).length ≤ szL (cellsL l)
  | [] => Nat.zero_le _
  | t :: r => by
    have h1 := clauses_sz t
    have h2 := clausesL_sz r
    simp only [clausesL, cellsL, List.length_append, szL_app]
    omega
end
theorem bulk_ok {H : Type} : BulkOK (Rows.uptoBulk (H := H)) where
  str l := by simp [Rows.uptoBulk]
  lit l := by cases l <;> simp [Rows.uptoBulk]
  sl es rs := by
    have : ∀ ds : List (DataW H), (ds.map Rows.uptoBulk).sum = Rows.uptoBulkAll ds := by
      intro ds
      induction ds with
      | nil => simp [Rows.uptoBulkAll]
      | cons d r ih => simp [Rows.uptoBulkAll, ih]
    rw [this]
    simp only [Rows.uptoBulk]
    omega
  agg ps := by
    have : ∀ ds : List (DataW H), (ds.map Rows.uptoBulk).sum = Rows.uptoBulkAll ds := by
      intro ds
      induction ds with
      | nil => simp [Rows.uptoBulkAll]
      | cons d r ih => simp [Rows.uptoBulkAll, ih]
    rw [this]
    simp only [Rows.uptoBulk]
    omega
end Go.Ab.Turn
