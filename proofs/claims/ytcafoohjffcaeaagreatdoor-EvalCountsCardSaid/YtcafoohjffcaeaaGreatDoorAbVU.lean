/- EvalCounts of the given program answers true for every slice of values, and leaves it as it was (the tied card, first form). Proved through an abstract interpreter of the model's code that is proved sound in the texts beside this one. -/
import Derived.Test.YtcafoohjffcaeaaGreatDoorAbVT
import Derived.Test.YtcafoohjffcaeaaGreatDoorCards
import Derived.Test.YtcafoohjffcaeaaGreatDoorTie
set_option linter.unusedSectionVars false
set_option linter.unusedSimpArgs false
set_option linter.unusedVariables false
set_option maxRecDepth 1000000
namespace Go.Ab.Cnt.Counts
open Go Go.Ab Go.Ab.Cnt Go.Proofs Go.Proofs.YtcafoohjffcaeaaGreatDoor Go.ChangeShapes Go.WideShapes Go.RowKit

theorem closed : closedB Tryz.prog [25, 30, 28, 9, 2, 4] = true := by kernel_rfl
theorem laidOut : laidOutB Tryz.prog = true := by kernel_rfl
theorem own : ownKnob Tryz.prog.godebug = none := by kernel_rfl

theorem val_cells {ps : List PV} (h : OfT Tryz.prog 30 ps) : ∃ r : Raw, ps = r.cells ∧ r.s.length ≤ maxLen := by
  obtain ⟨p0, p1, p2, p3, rfl, h0, h1, h2, h3⟩ := h.of_struct4 Tryz.underlying30
  obtain ⟨k, rfl, _⟩ := h0.of_int Tryz.underlying28
  obtain ⟨x, rfl, _⟩ := h1.of_int Tryz.underlying2
  obtain ⟨s, rfl, hs⟩ := h2.of_str Tryz.underlying9
  obtain ⟨b, rfl⟩ := h3.of_bool Tryz.underlying4
  exact ⟨⟨k, x, s, b⟩, rfl, hs⟩
theorem raws_of : ∀ (rows : List (List PV)), (∀ r ∈ rows, OfT Tryz.prog 30 r) → ∃ l : List Raw, rows.flatten = raws l ∧ rows.length = l.length ∧ ∀ r ∈ l, r.s.length ≤ maxLen
  | [], _ => ⟨[], rfl, rfl, fun r h => by cases h⟩
  | a :: rows, h => by
    obtain ⟨r, rfl, hs⟩ := val_cells (h a (List.mem_cons_self ..))
    obtain ⟨l, h1, h2, h3⟩ := raws_of rows (fun b hb => h b (List.mem_cons_of_mem _ hb))
    refine ⟨r :: l, ?_, by simp [h2], fun q hq => ?_⟩
    · rw [List.flatten_cons, h1]; rfl
    · rcases List.mem_cons.1 hq with rfl | hq
      · exact hs
      · exact h3 q hq
theorem slice_of {u : PV} (h : OfT Tryz.prog 25 [u]) : ∃ l : List Raw, u = .vsl (raws l) l.length ∧ l.length ≤ maxLen ∧ ∀ r ∈ l, r.s.length ≤ maxLen := by
  obtain ⟨rows, e, h1, _, h4⟩ := h.of_sl Tryz.underlying25
  obtain ⟨l, e1, e2, h3⟩ := raws_of rows h1
  simp only [List.cons.injEq, and_true] at e
  exact ⟨l, by rw [e, e1, e2], by omega, h3⟩
theorem contract (H : Type) (enc : TypeId × Value → H) (W : World) (base : Nat) (args : Array Value) (ds gs : List (DataW H)) (before : List MemPlace)
    (hval : ∀ (j : Nat) t v, Tryz.f6.params[j]? = some t → args[j]? = some v → Value.okWide Tryz.prog W .any base t v)
    (hW : DataW.Whole enc Tryz.prog Tryz.f6.params.toList Rows.evalCountsSpec.vars false W args.toList ds gs before) :
    Calls Tryz.prog 6 args W fun e W' => ∃ v, e = .returned v ∧ Rows.evalCountsSpec.post enc Tryz.prog Tryz.f6 false true false false W args v W' := by
  have hW' := hW
  have hlt := hW.lt
  obtain ⟨p, q, hA0, hV, rfl, hfz, hnd⟩ := hW
  have hA : DataW.TrodAll enc Tryz.prog W 0 (fun _ => true) true Tryz.f6.params.toList args.toList ds p := hA0
  rw [Tryz.params6] at hA hval
  obtain ⟨v0, vs0, d0, ds0, p0, q0, hargs, rfl, rfl, h0, r0⟩ := trodAll_cons hA
  obtain ⟨rfl, rfl, rfl⟩ := trodAll_nil r0
  obtain rfl : args = #[v0] := by cases args; simp_all
  obtain ⟨rfl, rfl⟩ := trodVars_none hV
  obtain ⟨u0, hr0, ht0⟩ := open_sliceP closed (by decide) Tryz.underlying25 (hval 0 25 v0 rfl rfl) h0
  clear hA0
  simp only [List.append_nil] at hW' hlt
  obtain ⟨l0, rfl, hl0, hs0⟩ := slice_of ht0
  have hrun := law6 (maxLen + 1) 0 l0 (by omega) (Nat.le_trans hl0 (by decide)) hs0 (by omega) []
  refine (law_calls table_ok hrun (fun g l hl => by cases hl) (.cons hr0 .nil)).mono fun e W' ⟨he, hg⟩ => ?_
  subst he
  exact ⟨_, rfl, post_of_kept (pa := p0 ++ []) (pv := []) hW' (fun _ _ _ => trodAll_cons_mk (shut_bool Tryz.underlying4 _) trodAll_mk0)
    (fun sp hs => ⟨p0, [], trod_kept laidOut (by kernel_rfl) (of_decide_eq_true (by kernel_rfl)) h0 hg (fun x hx => hlt x (by simp [hx])) (fun x hx => hs x (by simp [hx])), trodAll_mk0, rfl⟩)
    (fun _ _ => rfl) (by simp) hg (ok_one (by kernel_rfl) rfl (okWide_bool_mk Tryz.underlying4 _))⟩

abbrev input : Array Value := #[.slice none 0 0]
noncomputable def start (os : Os) : World := World.laidAll Tryz.prog os Rows.evalCountsRow.laid
theorem laid_met (os : Os) : laidMetH Tryz.prog Rows.evalCountsRow.laid (((start os).forCall (fun _ _ => 0) ⟨#[], input, []⟩).memory) := by
  rw [MakeChecks.laidMetH_plain _ _ _ (by kernel_rfl)]
  exact laidMet_laidAll _ (by kernel_rfl) (by kernel_rfl)
theorem reads (os : Os) {H : Type} (enc : TypeId × Value → H) : ∃ ds places, DataW.whole enc Tryz.prog ((start os).forCall (fun _ _ => 0) ⟨#[], input, []⟩).memory Tryz.f6.params.toList Rows.evalCountsSpec.vars false input.toList 8 = some (ds, [], places) :=
  ⟨[.nil], [], by kernel_rfl⟩

theorem lifted (os : Os) (started : os.Started) (H : Type) (enc : TypeId × Value → H) (F : Stop.Interp) :
    ReturnsInHanded {} Tryz.checked os 6 .any ((OpenSpec.ofChange Rows.evalCountsSpec).preRow enc Tryz.prog Tryz.f6 Rows.evalCountsRow.domain false Rows.evalCountsRow.laid) (((OpenSpec.ofChange Rows.evalCountsSpec).at F).post enc Tryz.prog Tryz.f6 false true false false) := by
  obtain ⟨ds, places, hx⟩ := reads os enc
  refine returnsInHanded_of_row (C := Tryz.checked) (s := OpenSpec.ofChange Rows.evalCountsSpec) own started (by kernel_rfl) Tryz.func6
    (witness_row_atRef (enc := enc) (C := Tryz.checked) false (start os) input (World.laidAll_os _ _ _) (by kernel_rfl) (by kernel_rfl) (by kernel_rfl)
      (OpenSpec.preRow_of_cond 8 hx (by kernel_rfl) (fun k hk => by cases hk) (by kernel_rfl) (laid_met os))) ?_
  intro W base args ds gs before hval hW _ _ _ _ _ _
  exact contract H enc W base args ds gs before hval hW

theorem said : Rows.EvalCountsSaid :=
  OpenClaim.holds_of_cond 6 Tryz.f6 rfl rfl rfl rfl rfl rfl rfl ⟨rfl, rfl, rfl, rfl, rfl⟩ rfl rfl rfl rfl rfl (by kernel_rfl) Tryz.func6 (by kernel_rfl)
    (of_decide_eq_true (by kernel_rfl)) (by unfold Func.isWrapper; first | (rw [if_pos (by decide +kernel)]; kernel_rfl) | (rw [if_neg (by decide +kernel)]; exact ⟨rfl, rfl⟩))
    (fun os started H enc _ F => by rw [OpenClaim.pre_eq_preRow]; exact lifted os started H enc F)

theorem plain (f : FuncId) (fn : Func) (hf : Tryz.pinned.checked.prog.funcNamed "stile/stilelaw17.EvalCounts" = some f) (hfn : Tryz.pinned.checked.prog.funcs[f]? = some fn) :
    true = Tryz.pinned.checked.prog.looks [] ∧ ∀ (j : Nat) t, fn.params[j]? = some t → Tryz.pinned.checked.prog.wantsStandIn t = false := by
  obtain rfl : f = 6 := Option.some.inj ((show Tryz.prog.funcNamed "stile/stilelaw17.EvalCounts" = some 6 by kernel_rfl).symm.trans hf) |>.symm
  obtain rfl : fn = Tryz.f6 := (Option.some.inj (Tryz.func6.symm.trans hfn)).symm
  refine ⟨by kernel_rfl, fun j t ht => ?_⟩
  rw [Tryz.params6] at ht
  have : t = 25 := by
    have := Array.mem_of_getElem? ht
    simpa using this
  subst this
  exact (show Tryz.prog.wantsStandIn 25 = false by kernel_rfl)

theorem card : Rows.EvalCountsCardSaid :=
  Claim7.holds_tied_plain_at .later [] _ _ _ _ said (fun _ h => by cases h) (by kernel_rfl) (fun _ h => by cases h) evalCounts_row_tie rfl ⟨rfl, rfl⟩ (by kernel_rfl) rfl plain (by kernel_rfl)

end Go.Ab.Cnt.Counts

namespace Go.Proofs.YtcafoohjffcaeaaGreatDoor
/-- the tied card of EvalCounts -/
theorem evalCounts_card : Rows.EvalCountsCardSaid := Go.Ab.Cnt.Counts.card
end Go.Proofs.YtcafoohjffcaeaaGreatDoor
