/- EvalTotals of the given program answers true for every node and every slice of values, and leaves them as they were (the tied card, first form). Proved through an abstract interpreter of the model's code that is proved sound in the texts beside this one. -/
import Derived.Test.YtcafoohjffcaeaaGreatDoorAbXE
import Derived.Test.YtcafoohjffcaeaaGreatDoorCards
import Derived.Test.YtcafoohjffcaeaaGreatDoorTie
set_option linter.unusedSectionVars false
set_option linter.unusedSimpArgs false
set_option linter.unusedVariables false
set_option maxRecDepth 1000000
namespace Go.Ab.Cnt.Totals
open Go Go.Ab Go.Ab.Cnt Go.Proofs Go.Proofs.YtcafoohjffcaeaaGreatDoor Go.ChangeShapes Go.WideShapes Go.RowKit

theorem closed : closedB Tryz.prog [24, 22, 25, 30, 28, 9, 2, 4] = true := by kernel_rfl
theorem laidOut : laidOutB Tryz.prog = true := by kernel_rfl
theorem own : ownKnob Tryz.prog.godebug = none := by kernel_rfl

theorem wf_range {n : Int} (h : (Lit.int .i64 n).wf = true) : in64 n := by
  have h1 : IntKind.i64.min = -9223372036854775808 := rfl
  have h2 : IntKind.i64.max = 9223372036854775807 := rfl
  simp [Lit.wf] at h
  constructor <;> omega
theorem node_of {ps : List PV} (h : OfT Tryz.prog 24 ps) : ∃ op N, ps = nodeA op N := by
  obtain ⟨p0, p1, p2, p3, rfl, h0, h1, h2, h3⟩ := h.of_struct4 Tryz.underlying24
  obtain ⟨o, rfl, _⟩ := h0.of_str Tryz.underlying9
  obtain ⟨s, rfl, _⟩ := h1.of_str Tryz.underlying9
  obtain ⟨n, rfl, _⟩ := h2.of_int Tryz.underlying2
  obtain ⟨rows, rfl, _⟩ := h3.of_sl Tryz.underlying22
  exact ⟨o, ⟨s, n, _⟩, rfl⟩
theorem val_cells {ps : List PV} (h : OfT Tryz.prog 30 ps) : ∃ r : Raw, ps = r.cells ∧ r.s.length ≤ maxLen ∧ in64 r.n := by
  obtain ⟨p0, p1, p2, p3, rfl, h0, h1, h2, h3⟩ := h.of_struct4 Tryz.underlying30
  obtain ⟨k, rfl, _⟩ := h0.of_int Tryz.underlying28
  obtain ⟨x, rfl, hx⟩ := h1.of_int Tryz.underlying2
  obtain ⟨s, rfl, hs⟩ := h2.of_str Tryz.underlying9
  obtain ⟨b, rfl⟩ := h3.of_bool Tryz.underlying4
  exact ⟨⟨k, x, s, b⟩, rfl, hs, wf_range hx⟩
theorem raws_of : ∀ (rows : List (List PV)), (∀ r ∈ rows, OfT Tryz.prog 30 r) → ∃ l : List Raw, rows.flatten = raws l ∧ rows.length = l.length ∧ ∀ r ∈ l, r.s.length ≤ maxLen ∧ in64 r.n
  | [], _ => ⟨[], rfl, rfl, fun r h => by cases h⟩
  | a :: rows, h => by
    obtain ⟨r, rfl, hs, hn⟩ := val_cells (h a (List.mem_cons_self ..))
    obtain ⟨l, h1, h2, h3⟩ := raws_of rows (fun b hb => h b (List.mem_cons_of_mem _ hb))
    refine ⟨r :: l, ?_, by simp [h2], fun q hq => ?_⟩
    · rw [List.flatten_cons, h1]; rfl
    · rcases List.mem_cons.1 hq with rfl | hq
      · exact ⟨hs, hn⟩
      · exact h3 q hq
theorem slice_of {u : PV} (h : OfT Tryz.prog 25 [u]) : ∃ l : List Raw, u = .vsl (raws l) l.length ∧ l.length ≤ maxLen ∧ ∀ r ∈ l, r.s.length ≤ maxLen ∧ in64 r.n := by
  obtain ⟨rows, e, h1, _, h4⟩ := h.of_sl Tryz.underlying25
  obtain ⟨l, e1, e2, h3⟩ := raws_of rows h1
  simp only [List.cons.injEq, and_true] at e
  exact ⟨l, by rw [e, e1, e2], by omega, h3⟩
theorem contract (H : Type) (enc : TypeId × Value → H) (W : World) (base : Nat) (args : Array Value) (ds gs : List (DataW H)) (before : List MemPlace)
    (hval : ∀ (j : Nat) t v, Tryz.f3.params[j]? = some t → args[j]? = some v → Value.okWide Tryz.prog W .any base t v)
    (hW : DataW.Whole enc Tryz.prog Tryz.f3.params.toList Rows.evalTotalsSpec.vars false W args.toList ds gs before) :
    Calls Tryz.prog 3 args W fun e W' => ∃ v, e = .returned v ∧ Rows.evalTotalsSpec.post enc Tryz.prog Tryz.f3 false true false false W args v W' := by
  have hW' := hW
  have hlt := hW.lt
  obtain ⟨p, q, hA0, hV, rfl, hfz, hnd⟩ := hW
  have hA : DataW.TrodAll enc Tryz.prog W 0 (fun _ => true) true Tryz.f3.params.toList args.toList ds p := hA0
  rw [Tryz.params3] at hA hval
  obtain ⟨v0, vs0, d0, ds0, p0, q0, hargs, rfl, rfl, h0, r0⟩ := trodAll_cons hA
  obtain ⟨v1, vs1, d1, ds1, p1, q1, rfl, rfl, rfl, h1, r1⟩ := trodAll_cons r0
  obtain ⟨rfl, rfl, rfl⟩ := trodAll_nil r1
  obtain rfl : args = #[v0, v1] := by cases args; simp_all
  obtain ⟨rfl, rfl⟩ := trodVars_none hV
  obtain ⟨c0, l0, e0, hr0, ht0⟩ := open_structP closed (by decide) Tryz.underlying24 (hval 0 24 v0 rfl rfl) h0
  obtain ⟨u1, hr1, ht1⟩ := open_sliceP closed (by decide) Tryz.underlying25 (hval 1 25 v1 rfl rfl) h1
  clear hA0
  simp only [List.append_nil] at hW' hlt
  obtain ⟨op, N, rfl⟩ := node_of ht0
  obtain ⟨l1, rfl, hl1, hs1⟩ := slice_of ht1
  have hrun := law3 (maxLen + 1) 0 op N l1 (by omega) (Nat.le_trans hl1 (by decide)) (fun r hr => (hs1 r hr).1) (fun r hr => (hs1 r hr).2) (by omega) []
  refine (law_calls table_ok hrun (fun g l hl => by cases hl) (.cons hr0 (.cons hr1 .nil))).mono fun e W' ⟨he, hg⟩ => ?_
  subst he
  exact ⟨_, rfl, post_of_kept (pa := p0 ++ (p1 ++ [])) (pv := []) hW' (fun _ _ _ => trodAll_cons_mk (shut_bool Tryz.underlying4 _) trodAll_mk0)
    (fun sp hs => ⟨p0, p1 ++ [], trod_kept laidOut (by kernel_rfl) (of_decide_eq_true (by kernel_rfl)) h0 hg (fun x hx => hlt x (by simp [hx])) (fun x hx => hs x (by simp [hx])), ⟨p1, [], trod_kept laidOut (by kernel_rfl) (of_decide_eq_true (by kernel_rfl)) h1 hg (fun x hx => hlt x (by simp [hx])) (fun x hx => hs x (by simp [hx])), trodAll_mk0, rfl⟩, rfl⟩)
    (fun _ _ => rfl) (by simp) hg (ok_one (by kernel_rfl) rfl (okWide_bool_mk Tryz.underlying4 _))⟩

abbrev input : Array Value := #[.agg #[.string .empty, .string .empty, .int .i64 0, .slice none 0 0], .slice none 0 0]
noncomputable def start (os : Os) : World := World.laidAll Tryz.prog os Rows.evalTotalsRow.laid
theorem laid_met (os : Os) : laidMetH Tryz.prog Rows.evalTotalsRow.laid (((start os).forCall (fun _ _ => 0) ⟨#[], input, []⟩).memory) := by
  rw [MakeChecks.laidMetH_plain _ _ _ (by kernel_rfl)]
  exact laidMet_laidAll _ (by kernel_rfl) (by kernel_rfl)
theorem reads (os : Os) {H : Type} (enc : TypeId × Value → H) : ∃ ds places, DataW.whole enc Tryz.prog ((start os).forCall (fun _ _ => 0) ⟨#[], input, []⟩).memory Tryz.f3.params.toList Rows.evalTotalsSpec.vars false input.toList 8 = some (ds, [], places) :=
  ⟨[.agg [.lit (.string []), .lit (.string []), .lit (.int .i64 0), .nil], .nil], [], by kernel_rfl⟩

theorem lifted (os : Os) (started : os.Started) (H : Type) (enc : TypeId × Value → H) (F : Stop.Interp) :
    ReturnsInHanded {} Tryz.checked os 3 .any ((OpenSpec.ofChange Rows.evalTotalsSpec).preRow enc Tryz.prog Tryz.f3 Rows.evalTotalsRow.domain false Rows.evalTotalsRow.laid) (((OpenSpec.ofChange Rows.evalTotalsSpec).at F).post enc Tryz.prog Tryz.f3 false true false false) := by
  obtain ⟨ds, places, hx⟩ := reads os enc
  refine returnsInHanded_of_row (C := Tryz.checked) (s := OpenSpec.ofChange Rows.evalTotalsSpec) own started (by kernel_rfl) Tryz.func3
    (witness_row_atRef (enc := enc) (C := Tryz.checked) false (start os) input (World.laidAll_os _ _ _) (by kernel_rfl) (by kernel_rfl) (by kernel_rfl)
      (OpenSpec.preRow_of_cond 8 hx (by kernel_rfl) (fun k hk => by cases hk) (by kernel_rfl) (laid_met os))) ?_
  intro W base args ds gs before hval hW _ _ _ _ _ _
  exact contract H enc W base args ds gs before hval hW

theorem said : Rows.EvalTotalsSaid :=
  OpenClaim.holds_of_cond 3 Tryz.f3 rfl rfl rfl rfl rfl rfl rfl ⟨rfl, rfl, rfl, rfl, rfl⟩ rfl rfl rfl rfl rfl (by kernel_rfl) Tryz.func3 (by kernel_rfl)
    (of_decide_eq_true (by kernel_rfl)) (by unfold Func.isWrapper; first | (rw [if_pos (by decide +kernel)]; kernel_rfl) | (rw [if_neg (by decide +kernel)]; exact ⟨rfl, rfl⟩))
    (fun os started H enc _ F => by rw [OpenClaim.pre_eq_preRow]; exact lifted os started H enc F)

theorem plain (f : FuncId) (fn : Func) (hf : Tryz.pinned.checked.prog.funcNamed "stile/stilelaw17.EvalTotals" = some f) (hfn : Tryz.pinned.checked.prog.funcs[f]? = some fn) :
    true = Tryz.pinned.checked.prog.looks [] ∧ ∀ (j : Nat) t, fn.params[j]? = some t → Tryz.pinned.checked.prog.wantsStandIn t = false := by
  obtain rfl : f = 3 := Option.some.inj ((show Tryz.prog.funcNamed "stile/stilelaw17.EvalTotals" = some 3 by kernel_rfl).symm.trans hf) |>.symm
  obtain rfl : fn = Tryz.f3 := (Option.some.inj (Tryz.func3.symm.trans hfn)).symm
  refine ⟨by kernel_rfl, fun j t ht => ?_⟩
  rw [Tryz.params3] at ht
  have : t = 24 ∨ t = 25 := by
    have := Array.mem_of_getElem? ht
    simpa using this
  rcases this with rfl | rfl
  · exact (show Tryz.prog.wantsStandIn 24 = false by kernel_rfl)
  · exact (show Tryz.prog.wantsStandIn 25 = false by kernel_rfl)

theorem card : Rows.EvalTotalsCardSaid :=
  Claim7.holds_tied_plain_at .later [] _ _ _ _ said (fun _ h => by cases h) (by kernel_rfl) (fun _ h => by cases h) evalTotals_row_tie rfl ⟨rfl, rfl⟩ (by kernel_rfl) rfl plain (by kernel_rfl)

end Go.Ab.Cnt.Totals

namespace Go.Proofs.YtcafoohjffcaeaaGreatDoor
/-- the tied card of EvalTotals -/
theorem evalTotals_card : Rows.EvalTotalsCardSaid := Go.Ab.Cnt.Totals.card
end Go.Proofs.YtcafoohjffcaeaaGreatDoor
