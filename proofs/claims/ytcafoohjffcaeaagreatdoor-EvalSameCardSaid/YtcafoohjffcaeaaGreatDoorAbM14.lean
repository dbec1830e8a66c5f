/- EvalSame of the given program answers true for every three values, and leaves its arguments as they were (the tied card, first form). Proved through an abstract interpreter of the model's code that is proved sound in the texts beside this one. -/
import Derived.Test.YtcafoohjffcaeaaGreatDoorAbM13
import Derived.Test.YtcafoohjffcaeaaGreatDoorCards
import Derived.Test.YtcafoohjffcaeaaGreatDoorTie
set_option linter.unusedSectionVars false
set_option linter.unusedSimpArgs false
set_option linter.unusedVariables false
set_option maxRecDepth 1000000
namespace Go.Ab.Same.Same
open Go Go.Ab Go.Ab.Same Go.Proofs Go.Proofs.YtcafoohjffcaeaaGreatDoor Go.ChangeShapes Go.WideShapes Go.RowKit

theorem closed : closedB Tryz.prog [30, 28, 9, 2, 4] = true := by kernel_rfl
theorem laidOut : laidOutB Tryz.prog = true := by kernel_rfl
theorem own : ownKnob Tryz.prog.godebug = none := by kernel_rfl

theorem val_cells {ps : List PV} (h : OfT Tryz.prog 30 ps) : ∃ k x s b, ps = cv k x s b ∧ s.length ≤ maxLen := by
  obtain ⟨p0, p1, p2, p3, rfl, h0, h1, h2, h3⟩ := h.of_struct4 Tryz.underlying30
  obtain ⟨k, rfl, _⟩ := h0.of_int Tryz.underlying28
  obtain ⟨x, rfl, _⟩ := h1.of_int Tryz.underlying2
  obtain ⟨s, rfl, hs⟩ := h2.of_str Tryz.underlying9
  obtain ⟨b, rfl⟩ := h3.of_bool Tryz.underlying4
  exact ⟨k, x, s, b, rfl, hs⟩
theorem contract (H : Type) (enc : TypeId × Value → H) (W : World) (base : Nat) (args : Array Value) (ds gs : List (DataW H)) (before : List MemPlace)
    (hval : ∀ (j : Nat) t v, Tryz.f5.params[j]? = some t → args[j]? = some v → Value.okWide Tryz.prog W .any base t v)
    (hW : DataW.Whole enc Tryz.prog Tryz.f5.params.toList Rows.evalSameSpec.vars false W args.toList ds gs before) :
    Calls Tryz.prog 5 args W fun e W' => ∃ v, e = .returned v ∧ Rows.evalSameSpec.post enc Tryz.prog Tryz.f5 false true false false W args v W' := by
  have hW' := hW
  have hlt := hW.lt
  obtain ⟨p, q, hA0, hV, rfl, hfz, hnd⟩ := hW
  have hA : DataW.TrodAll enc Tryz.prog W 0 (fun _ => true) true Tryz.f5.params.toList args.toList ds p := hA0
  rw [Tryz.params5] at hA hval
  obtain ⟨v0, vs0, d0, ds0, p0, q0, hargs, rfl, rfl, h0, r0⟩ := trodAll_cons hA
  obtain ⟨v1, vs1, d1, ds1, p1, q1, rfl, rfl, rfl, h1, r1⟩ := trodAll_cons r0
  obtain ⟨v2, vs2, d2, ds2, p2, q2, rfl, rfl, rfl, h2, r2⟩ := trodAll_cons r1
  obtain ⟨rfl, rfl, rfl⟩ := trodAll_nil r2
  obtain rfl : args = #[v0, v1, v2] := by cases args; simp_all
  obtain ⟨rfl, rfl⟩ := trodVars_none hV
  obtain ⟨c0, l0, e0, hr0, ht0⟩ := open_structP closed (by decide) Tryz.underlying30 (hval 0 30 v0 rfl rfl) h0
  obtain ⟨c1, l1, e1, hr1, ht1⟩ := open_structP closed (by decide) Tryz.underlying30 (hval 1 30 v1 rfl rfl) h1
  obtain ⟨c2, l2, e2, hr2, ht2⟩ := open_structP closed (by decide) Tryz.underlying30 (hval 2 30 v2 rfl rfl) h2
  clear hA0
  simp only [List.append_nil] at hW' hlt
  obtain ⟨k0, x0, s0, b0, rfl, hs0⟩ := val_cells ht0
  obtain ⟨k1, x1, s1, b1, rfl, hs1⟩ := val_cells ht1
  obtain ⟨k2, x2, s2, b2, rfl, hs2⟩ := val_cells ht2
  refine (law5 k0 x0 k1 x1 k2 x2 s0 s1 s2 b0 b1 b2 hs0 hs1 hs2 hr0.pv hr1.pv hr2.pv).mono fun e W' ⟨he, hg⟩ => ?_
  subst he
  exact ⟨_, rfl, post_of_kept (pa := p0 ++ (p1 ++ (p2 ++ []))) (pv := []) hW' (fun _ _ _ => trodAll_cons_mk (shut_bool Tryz.underlying4 _) trodAll_mk0)
    (fun sp hs => ⟨p0, p1 ++ (p2 ++ []), trod_kept laidOut (by kernel_rfl) (of_decide_eq_true (by kernel_rfl)) h0 hg (fun x hx => hlt x (by simp [hx])) (fun x hx => hs x (by simp [hx])),
      ⟨p1, p2 ++ [], trod_kept laidOut (by kernel_rfl) (of_decide_eq_true (by kernel_rfl)) h1 hg (fun x hx => hlt x (by simp [hx])) (fun x hx => hs x (by simp [hx])),
      ⟨p2, [], trod_kept laidOut (by kernel_rfl) (of_decide_eq_true (by kernel_rfl)) h2 hg (fun x hx => hlt x (by simp [hx])) (fun x hx => hs x (by simp [hx])), trodAll_mk0, rfl⟩, rfl⟩, rfl⟩)
    (fun _ _ => rfl) (by simp) hg (ok_one (by kernel_rfl) rfl (okWide_bool_mk Tryz.underlying4 _))⟩

abbrev zero : Value := .agg #[.int .i64 0, .int .i64 0, .string .empty, .bool false]
abbrev input : Array Value := #[zero, zero, zero]
noncomputable def start (os : Os) : World := World.laidAll Tryz.prog os Rows.evalSameRow.laid
theorem laid_met (os : Os) : laidMetH Tryz.prog Rows.evalSameRow.laid (((start os).forCall (fun _ _ => 0) ⟨#[], input, []⟩).memory) := by
  rw [MakeChecks.laidMetH_plain _ _ _ (by kernel_rfl)]
  exact laidMet_laidAll _ (by kernel_rfl) (by kernel_rfl)
theorem reads (os : Os) {H : Type} (enc : TypeId × Value → H) : ∃ ds places, DataW.whole enc Tryz.prog ((start os).forCall (fun _ _ => 0) ⟨#[], input, []⟩).memory Tryz.f5.params.toList Rows.evalSameSpec.vars false input.toList 8 = some (ds, [], places) :=
  ⟨[.agg [.lit (.int .i64 0), .lit (.int .i64 0), .lit (.string []), .lit (.bool false)], .agg [.lit (.int .i64 0), .lit (.int .i64 0), .lit (.string []), .lit (.bool false)], .agg [.lit (.int .i64 0), .lit (.int .i64 0), .lit (.string []), .lit (.bool false)]], [], by kernel_rfl⟩

theorem lifted (os : Os) (started : os.Started) (H : Type) (enc : TypeId × Value → H) (F : Stop.Interp) :
    ReturnsInHanded {} Tryz.checked os 5 .any ((OpenSpec.ofChange Rows.evalSameSpec).preRow enc Tryz.prog Tryz.f5 Rows.evalSameRow.domain false Rows.evalSameRow.laid) (((OpenSpec.ofChange Rows.evalSameSpec).at F).post enc Tryz.prog Tryz.f5 false true false false) := by
  obtain ⟨ds, places, hx⟩ := reads os enc
  refine returnsInHanded_of_row (C := Tryz.checked) (s := OpenSpec.ofChange Rows.evalSameSpec) own started (by kernel_rfl) Tryz.func5
    (witness_row_atRef (enc := enc) (C := Tryz.checked) false (start os) input (World.laidAll_os _ _ _) (by kernel_rfl) (by kernel_rfl) (by kernel_rfl)
      (OpenSpec.preRow_of_cond 8 hx (by kernel_rfl) (fun k hk => by cases hk) (by kernel_rfl) (laid_met os))) ?_
  intro W base args ds gs before hval hW _ _ _ _ _ _
  exact contract H enc W base args ds gs before hval hW

theorem said : Rows.EvalSameSaid :=
  OpenClaim.holds_of_cond 5 Tryz.f5 rfl rfl rfl rfl rfl rfl rfl ⟨rfl, rfl, rfl, rfl, rfl⟩ rfl rfl rfl rfl rfl (by kernel_rfl) Tryz.func5 (by kernel_rfl)
    (of_decide_eq_true (by kernel_rfl)) (by unfold Func.isWrapper; first | (rw [if_pos (by decide +kernel)]; kernel_rfl) | (rw [if_neg (by decide +kernel)]; exact ⟨rfl, rfl⟩))
    (fun os started H enc _ F => by rw [OpenClaim.pre_eq_preRow]; exact lifted os started H enc F)

theorem plain (f : FuncId) (fn : Func) (hf : Tryz.pinned.checked.prog.funcNamed "stile/stilelaw17.EvalSame" = some f) (hfn : Tryz.pinned.checked.prog.funcs[f]? = some fn) :
    true = Tryz.pinned.checked.prog.looks [] ∧ ∀ (j : Nat) t, fn.params[j]? = some t → Tryz.pinned.checked.prog.wantsStandIn t = false := by
  obtain rfl : f = 5 := Option.some.inj ((show Tryz.prog.funcNamed "stile/stilelaw17.EvalSame" = some 5 by kernel_rfl).symm.trans hf) |>.symm
  obtain rfl : fn = Tryz.f5 := (Option.some.inj (Tryz.func5.symm.trans hfn)).symm
  refine ⟨by kernel_rfl, fun j t ht => ?_⟩
  rw [Tryz.params5] at ht
  have : t = 30 := by
    have := Array.mem_of_getElem? ht
    simpa using this
  subst this
  exact (show Tryz.prog.wantsStandIn 30 = false by kernel_rfl)

theorem card : Rows.EvalSameCardSaid :=
  Claim7.holds_tied_plain_at .later [] _ _ _ _ said (fun _ h => by cases h) (by kernel_rfl) (fun _ h => by cases h) evalSame_row_tie rfl ⟨rfl, rfl⟩ (by kernel_rfl) rfl plain (by kernel_rfl)

end Go.Ab.Same.Same

namespace Go.Proofs.YtcafoohjffcaeaaGreatDoor
/-- the tied card of EvalSame -/
theorem evalSame_card : Rows.EvalSameCardSaid := Go.Ab.Same.Same.card
end Go.Proofs.YtcafoohjffcaeaaGreatDoor
