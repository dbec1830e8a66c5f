/- A function whose answers are known: a row of a table that tells them. -/
import Derived.Test.YtcafoohjffcaeaaGreatDoorAbE4
set_option linter.unusedSectionVars false
set_option linter.unusedSimpArgs false
set_option linter.unusedVariables false
set_option maxRecDepth 100000
namespace Go.Ab
variable [Marks]
open Go Go.Ab Go.RowKit
variable {P : Program} {G : Globs}
theorem memo_ok {T : Table} {f : Nat} {g : List PV → Option PV} (hT : TableOK P G T)
    (h : ∀ ps v, g ps = some v → v = .bool true ∧ ∃ L n σ', (cAt T L n).1 f (ps.map .p) [] = some (.ret (.p (.bool true)), σ')) (hE : Enters P f) : RawOK P G f (extP g) := by
  intro args σ r σ' hr μ S w cargs hg hG ha
  unfold extP at hr
  split at hr
  · rename_i ps hps
    split at hr
    · rename_i v hv
      simp only [Option.some.injEq, Prod.mk.injEq] at hr
      obtain ⟨rfl, rfl⟩ := hr
      rw [allP_eq hps] at ha
      obtain ⟨rfl, L, n, σ1, hrun⟩ := h ps v hv
      have hg0 : Good (fun _ _ => none) S w [] := ⟨fun id o h => by simp at h, fun id id' o o' b n n' h => by simp at h, fun id ver x h => (by cases h), hg.sb⟩
      obtain ⟨_, hc⟩ := (table_sound hT L n).1.1 f _ [] _ _ hrun (fun _ _ => none) S w cargs hg0 hG (RepL.of_pv ha.toP)
      refine ⟨hE, hc.mono fun e w' ⟨μ', S', g', fr, r'⟩ => ?_⟩
      have hb : Below w.heap.size w w' := ⟨fr.os, fr.tape, fr.output, fr.size, fun b hb => fr.keepB b hb (by rintro ⟨id, o, m, h1, _⟩; simp at h1)⟩
      obtain ⟨g1, f1⟩ := below_good hg hb
      cases e with
      | returned c =>
        have r' : Rep S' w' μ' (.p (.bool true)) c := r'
        refine ⟨μ, S, g1, f1, ?_⟩
        rw [r'.bool]
        exact .p (.bool _)
      | panicked ch => exact r'.elim
      | outgrown => exact r'.elim
    · cases hr
  · cases hr

mutual
/-- are two pure values the same? -/
def peq : PV → PV → Bool
  | .bool a, .bool b => a == b
  | .int k a, .int k' b => decide (k = k') && decide (a = b)
  | .str a, .str b => decide (a = b)
  | .nilfn, .nilfn => true
  | .agg l, .agg m => peqs l m
  | .vsl l n, .vsl m k => peqs l m && Nat.beq n k
  | .isym i k, .isym j k' => Nat.beq i j && decide (k = k')
  | .ssym i, .ssym j => Nat.beq i j
  | _, _ => false
def peqs : List PV → List PV → Bool
  | [], [] => true
  | a :: l, b :: m => peq a b && peqs l m
  | _, _ => false
end
mutual
theorem peq_eq : ∀ {a b : PV}, peq a b = true → a = b
  | .bool a, b, h => by cases b <;> simp [peq] at h; rw [h]
  | .int k a, b, h => by cases b <;> simp [peq] at h; rw [h.1, h.2]
  | .str a, b, h => by cases b <;> simp [peq] at h; rw [h]
  | .nilfn, b, h => by cases b <;> simp [peq] at h; rfl
  | .agg l, b, h => by
    cases b <;> simp only [peq] at h <;> first | (cases h; done) | rw [peqs_eq h]
  | .vsl l n, b, h => by
    cases b <;> simp only [peq, Bool.and_eq_true] at h <;> first | (cases h; done) | rw [peqs_eq h.1, Nat.eq_of_beq_eq_true h.2]
  | .isym i k, b, h => by
    cases b <;> simp only [peq, Bool.and_eq_true, decide_eq_true_eq] at h <;> first | (cases h; done) | rw [Nat.eq_of_beq_eq_true h.1, h.2]
  | .ssym i, b, h => by
    cases b <;> simp only [peq] at h <;> first | (cases h; done) | rw [Nat.eq_of_beq_eq_true h]
  | .nilptr, b, h => by cases b <;> simp [peq] at h
  | .nilmap, b, h => by cases b <;> simp [peq] at h
  | .nilif, b, h => by cases b <;> simp [peq] at h
  | .undef, b, h => by cases b <;> simp [peq] at h
  | .iface _ _, b, h => by cases b <;> simp [peq] at h
  | .fn _, b, h => by cases b <;> simp [peq] at h
  | .tup _, b, h => by cases b <;> simp [peq] at h
  | .vptr _, b, h => by cases b <;> simp [peq] at h
theorem peqs_eq : ∀ {a b : List PV}, peqs a b = true → a = b
  | [], b, h => by cases b <;> simp [peqs] at h; rfl
  | x :: l, b, h => by
    cases b with
    | nil => simp [peqs] at h
    | cons y m =>
      simp only [peqs, Bool.and_eq_true] at h
      rw [peq_eq h.1, peqs_eq h.2]
end
end Go.Ab
