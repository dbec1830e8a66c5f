/- PlanTurned of the given program answers true for every list of integers and every condition, where both are together of bulk at most 1048576, and leaves its arguments as they were (the tied card, second form); the package variables that it names read as their texts lay them when the call begins. Proved through an abstract interpreter of the model's code that is proved sound in the texts beside this one. -/
import Derived.Test.YtikebbklkiodlaaDoorAbWC
set_option linter.unusedSectionVars false
set_option linter.unusedSimpArgs false
set_option linter.unusedVariables false
set_option maxRecDepth 1000000
namespace Go.Ab.Turn
open Go Go.Ab Go.Ab.Plan Go.Ab.Key Go.Ab.Cnt Go.Proofs Go.Proofs.YtikebbklkiodlaaDoor Go.ChangeShapes Go.WideShapes Go.RowKit
theorem glob_ok {W : World} (hL : laidMet Tryd.prog Rows.planTurnedUptoRow.laid W) (h : W.ShapedOpen Tryd.prog) : ∃ m : Int, letI : Mx := ⟨m⟩; GlobOK (Ex W) W GT := by
  obtain ⟨m, hm⟩ := cell_of_shapedOpen_int (P := Tryd.prog) (g := 1) (t := 3) (zero := #[.int .i64 0]) (k := .i64) h (by decide +kernel) (by kernel_rfl) rfl (by kernel_rfl) (by kernel_rfl) (by kernel_rfl)
  obtain ⟨cs, hh, hs, _⟩ := h.1 1 #[.int .i64 0] 3 (by decide +kernel) (by kernel_rfl)
  refine ⟨m, ?_⟩
  letI : Mx := ⟨m⟩
  show GlobOK (Ex W) W GT
  have hmem : ("stile/types.bases", (Rows.laid_stile_types_bases : DataW Unit)) ∈ Rows.planTurnedUptoRow.laid := by simp [Rows.planTurnedUptoRow]
  have hb := bases_ok hL hmem
  intro g l hl
  unfold GT at hl
  split at hl
  · rename_i hg
    subst hg
    obtain rfl := Option.some.inj hl
    exact hb 0 _ rfl
  · split at hl
    · rename_i hg
      subst hg
      obtain rfl := Option.some.inj hl
      refine ⟨.cons (ex_of hm) hm rfl (.int _ _) (.nil _ _), ?_, ?_⟩
      · exact (Array.getElem?_eq_some_iff.1 hh).1
      · have hs' : cs.size = 1 := hs
        simp [World.cell?, hh, hs']
    · cases hl
theorem contract (H : Type) (enc : TypeId × Value → H) (W : World) (base : Nat) (args : Array Value) (ds gs : List (DataW H)) (before : List MemPlace)
    (hval : ∀ (j : Nat) t v, Tryd.f5.params[j]? = some t → args[j]? = some v → Value.okWide Tryd.prog W .any base t v)
    (hW : DataW.Whole enc Tryd.prog Tryd.f5.params.toList Rows.planTurnedSpec.vars false W args.toList ds gs before) (hcond : Rows.uptoSmall H (ds ++ gs) = true) (hL : laidMetH Tryd.prog Rows.planTurnedUptoRow.laid W) (hsh : W.ShapedOpen Tryd.prog) :
    Calls Tryd.prog 5 args W fun e W' => ∃ v, e = .returned v ∧ Rows.planTurnedSpec.post enc Tryd.prog Tryd.f5 false true false false W args v W' := by
  rw [MakeChecks.laidMetH_plain _ _ _ (by kernel_rfl)] at hL
  obtain ⟨m, hG⟩ := glob_ok hL hsh
  letI : Mx := ⟨m⟩
  have hW' := hW
  have hlt := hW.lt
  obtain ⟨p, q, hA0, hV, rfl, hfz, hnd⟩ := hW
  have hA : DataW.TrodAll enc Tryd.prog W 0 (fun _ => true) true Tryd.f5.params.toList args.toList ds p := hA0
  rw [Tryd.params5] at hA hval
  obtain ⟨v0, vs0, d0, ds0, p0, q0, hargs, rfl, rfl, h0, r0⟩ := trodAll_cons hA
  obtain ⟨v1, vs1, d1, ds1, p1, q1, rfl, rfl, rfl, h1, r1⟩ := trodAll_cons r0
  obtain ⟨rfl, rfl, rfl⟩ := trodAll_nil r1
  obtain rfl : args = #[v0, v1] := by cases args; simp_all
  obtain ⟨rfl, rfl⟩ := trodVars_none hV
  obtain ⟨u0, hr0, ht0, hz0⟩ := open_sliceB (B := Rows.uptoBulk) bulk_ok closed (by decide) Tryd.underlying41 (hval 0 41 v0 rfl rfl) h0
  obtain ⟨c1, u1, rfl, hr1, ht1, hz1⟩ := open_structB (B := Rows.uptoBulk) bulk_ok closed (by decide) Tryd.underlying45 (hval 1 45 v1 rfl rfl) h1
  clear hA0
  simp only [List.append_nil] at hW' hlt
  obtain ⟨x, rfl, hx⟩ := ints_of ht0
  obtain ⟨t, rfl, hok⟩ := node_of _ u1 (Nat.le_refl _) ht1
  simp only [Rows.uptoSmall, List.append_nil, Rows.uptoBulkAll, decide_eq_true_eq] at hcond
  have hcl := clauses_sz t
  have hLm : LIM = 4294967296 := rfl
  have hrun := law5 (broad t + 2 * (clauses t).length + 1) (2 * deep t + 10) x t hx (hok (by omega)) (by omega) (by omega) (by omega) (by omega)
  refine (law_calls (fun _ _ _ _ _ => Iff.rfl) table_okT (by decide) hrun hG (.cons hr0 (.cons hr1 .nil))).mono fun e W' ⟨he, hg⟩ => ?_
  subst he
  exact ⟨_, rfl, post_of_kept (pa := p0 ++ (p1 ++ [])) (pv := []) hW' (fun _ _ _ => trodAll_cons_mk (shut_bool Tryd.underlying4 _) trodAll_mk0)
    (fun sp hs => ⟨p0, p1 ++ [], trod_kept laidOut (by kernel_rfl) (of_decide_eq_true (by kernel_rfl)) h0 hg (fun x hx => hlt x (by simp [hx])) (fun x hx => hs x (by simp [hx])), ⟨p1, [], trod_kept laidOut (by kernel_rfl) (of_decide_eq_true (by kernel_rfl)) h1 hg (fun x hx => hlt x (by simp [hx])) (fun x hx => hs x (by simp [hx])), trodAll_mk0, rfl⟩, rfl⟩)
    (fun _ _ => rfl) (by simp) hg (ok_one (by kernel_rfl) rfl (okWide_bool_mk Tryd.underlying4 _))⟩

abbrev input : Array Value := #[.slice none 0 0, .agg #[.string .empty, .string .empty, .int .i64 0, .slice none 0 0]]
noncomputable def start (os : Os) : World := World.laidAll Tryd.prog os Rows.planTurnedUptoRow.laid
theorem laid_met (os : Os) : laidMetH Tryd.prog Rows.planTurnedUptoRow.laid (((start os).forCall (fun _ _ => 0) ⟨#[], input, []⟩).memory) := by
  rw [MakeChecks.laidMetH_plain _ _ _ (by kernel_rfl)]
  exact laidMet_laidAll _ (by kernel_rfl) (by kernel_rfl)
theorem reads (os : Os) {H : Type} (enc : TypeId × Value → H) : ∃ ds places, DataW.whole enc Tryd.prog ((start os).forCall (fun _ _ => 0) ⟨#[], input, []⟩).memory Tryd.f5.params.toList Rows.planTurnedSpec.vars false input.toList 8 = some (ds, [], places) ∧ Rows.uptoSmall H (ds ++ []) = true :=
  ⟨[.nil, .agg [.lit (.string []), .lit (.string []), .lit (.int .i64 0), .nil]], [], by kernel_rfl, by kernel_rfl⟩

theorem lifted (os : Os) (started : os.Started) (H : Type) (enc : TypeId × Value → H) (F : Stop.Interp) :
    ReturnsInHanded {} Tryd.checked os 5 .any ((Rows.OpenSpec.upto Rows.planTurnedSpec).preRow enc Tryd.prog Tryd.f5 Rows.planTurnedUptoRow.domain false Rows.planTurnedUptoRow.laid) (((Rows.OpenSpec.upto Rows.planTurnedSpec).at F).post enc Tryd.prog Tryd.f5 false true false false) := by
  obtain ⟨ds, places, hx, hsm⟩ := reads os enc
  refine returnsInHanded_of_row (C := Tryd.checked) (s := Rows.OpenSpec.upto Rows.planTurnedSpec) own_knob started (by kernel_rfl) Tryd.func5
    (witness_row_atRef (enc := enc) (C := Tryd.checked) false (start os) input (World.laidAll_os _ _ _) (by kernel_rfl) (by kernel_rfl) (by kernel_rfl)
      (OpenSpec.preRow_of_cond 8 hx (by kernel_rfl) (fun k hk => by cases hk; exact hsm) (by kernel_rfl) (laid_met os))) ?_
  intro W base args ds gs before hval hW _ hcond _ hL hsh _
  exact contract H enc W base args ds gs before hval hW (hcond _ rfl) hL hsh

theorem said_upto : Rows.PlanTurnedUptoSaid :=
  OpenClaim.holds_of_cond 5 Tryd.f5 rfl rfl rfl rfl rfl rfl rfl ⟨rfl, rfl, rfl, rfl, rfl⟩ rfl rfl rfl rfl rfl (by kernel_rfl) Tryd.func5 (by kernel_rfl)
    (of_decide_eq_true (by kernel_rfl)) (by unfold Func.isWrapper; first | (rw [if_pos (by decide +kernel)]; kernel_rfl) | (rw [if_neg (by decide +kernel)]; exact ⟨rfl, rfl⟩))
    (fun os started H enc _ F => by rw [OpenClaim.pre_eq_preRow]; exact lifted os started H enc F)

theorem plain (f : FuncId) (fn : Func) (hf : Tryd.pinned.checked.prog.funcNamed "stile/stilelaw18.PlanTurned" = some f) (hfn : Tryd.pinned.checked.prog.funcs[f]? = some fn) :
    false = Tryd.pinned.checked.prog.looks [] ∧ ∀ (j : Nat) t, fn.params[j]? = some t → Tryd.pinned.checked.prog.wantsStandIn t = false := by
  obtain rfl : f = 5 := Option.some.inj ((show Tryd.prog.funcNamed "stile/stilelaw18.PlanTurned" = some 5 by kernel_rfl).symm.trans hf) |>.symm
  obtain rfl : fn = Tryd.f5 := (Option.some.inj (Tryd.func5.symm.trans hfn)).symm
  refine ⟨by kernel_rfl, fun j t ht => ?_⟩
  rw [Tryd.params5] at ht
  have : t = 41 ∨ t = 45 := by
    have := Array.mem_of_getElem? ht
    simp at this
    omega
  rcases this with rfl | rfl
  · exact (show Tryd.prog.wantsStandIn 41 = false by kernel_rfl)
  · exact (show Tryd.prog.wantsStandIn 45 = false by kernel_rfl)

theorem card : Rows.PlanTurnedUptoCardSaid :=
  Claim7.holds_tied_plain_at .later [] _ _ _ _ said_upto (fun _ h => by cases h) (by kernel_rfl) (fun _ h => by cases h) planTurnedUpto_row_tie rfl ⟨rfl, rfl⟩ (by kernel_rfl) rfl plain (by kernel_rfl)

end Go.Ab.Turn

namespace Go.Proofs.YtikebbklkiodlaaDoor
/-- the tied card of PlanTurned, second form -/
theorem planTurned_card : Rows.PlanTurnedUptoCardSaid := Go.Ab.Turn.card
end Go.Proofs.YtikebbklkiodlaaDoor
#print axioms Go.Proofs.YtikebbklkiodlaaDoor.planTurned_card
