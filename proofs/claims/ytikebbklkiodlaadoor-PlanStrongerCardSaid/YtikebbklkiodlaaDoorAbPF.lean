/- PlanStronger of the given program answers true for every path and whether it is written, and leaves its arguments as they were (the tied card, first form); the package variables that it names read as their texts lay them when the call begins. Proved through an abstract interpreter of the model's code that is proved sound in the texts beside this one. -/
import Derived.Test.YtikebbklkiodlaaDoorAbPE
import Derived.Test.YtikebbklkiodlaaDoorAbPC
import Derived.Test.YtikebbklkiodlaaDoorCards
import Derived.Test.YtikebbklkiodlaaDoorTie
set_option linter.unusedSectionVars false
set_option linter.unusedSimpArgs false
set_option linter.unusedVariables false
set_option maxRecDepth 1000000
namespace Go.Ab.Plan.Stronger
open Go Go.Ab Go.Ab.Plan Go.Proofs Go.Proofs.YtikebbklkiodlaaDoor Go.ChangeShapes Go.WideShapes Go.RowKit

theorem closed : closedB Tryd.prog [23, 9, 4] = true := by kernel_rfl
theorem laidOut : laidOutB Tryd.prog = true := by kernel_rfl
theorem own : ownKnob Tryd.prog.godebug = none := by kernel_rfl

/-- the arguments' cells -/
theorem arg_cells {ps : List PV} (h : OfT Tryd.prog 23 ps) : ∃ a s1 s2 b, ps = [.bool a, .str s1, .str s2, .bool b] := by
  obtain ⟨q0, q1, q2, q3, rfl, g0, g1, g2, g3⟩ := h.of_struct4 Tryd.underlying23
  obtain ⟨a, rfl⟩ := g0.of_bool Tryd.underlying4
  obtain ⟨s1, rfl, _⟩ := g1.of_str Tryd.underlying9
  obtain ⟨s2, rfl, _⟩ := g2.of_str Tryd.underlying9
  obtain ⟨b, rfl⟩ := g3.of_bool Tryd.underlying4
  exact ⟨a, s1, s2, b, rfl⟩
theorem arg_vals {S : Nat → Nat → Prop} {w : World} {s1 s2 : List UInt8} {a b : Bool} {cs : List Value} (h : RepPL S w [.bool a, .str s1, .str s2, .bool b] cs) :
    ∃ x1 x2 : ByteArray, cs = [.bool a, .string x1, .string x2, .bool b] := by
  cases h with | cons h2 h => cases h with | cons h3 h => cases h with | cons h4 h => cases h with | cons h5 h =>
  cases h
  cases h2
  cases h3
  cases h4
  cases h5
  exact ⟨_, _, rfl⟩
theorem isT_of {x : Option (CRes × Heap)} (h : isT x = true) : ∃ σ, x = some (.ret (.p (.bool true)), σ) := by
  unfold isT at h
  split at h
  · exact ⟨_, rfl⟩
  · cases h
/-- the law's call -/
theorem walk {W : World} (x1 x2 : ByteArray) (a b c : Bool) (hL : laidMet Tryd.prog Rows.planStrongerRow.laid W) :
    Calls Tryd.prog 4 #[.agg #[.bool a, .string x1, .string x2, .bool b], .bool c] W fun e w' => e = .returned (.bool true) ∧ Kept W w' := by
  have hmem : ("stile/types.bases", (Rows.laid_stile_types_bases : DataW Unit)) ∈ Rows.planStrongerRow.laid := by simp [Rows.planStrongerRow]
  have hs : LitsOK 0 0 := ⟨fun h => absurd h (by decide), fun h => absurd h (by decide)⟩
  letI := mkM 0 [x1.data.toList, x2.data.toList] 0 hs
  obtain ⟨σ, hrun⟩ := isT_of (stronger [x1.data.toList, x2.data.toList] hs a b c)
  refine law_calls (mkM_ok 0 _ 0 hs) table_ok (by decide) hrun (bases_ok hL hmem) (.cons (.p (.agg ?_ ?_)) (.cons (.p (.bool _)) .nil))
  · exact .cons (.bool _) (.cons (.ssym (t := 0) rfl rfl) (.cons (.ssym (t := 1) rfl rfl) (.cons (.bool _) .nil)))
  · intro c hc
    simp at hc
    rcases hc with rfl | rfl | rfl | rfl <;> rfl

theorem contract (H : Type) (enc : TypeId × Value → H) (W : World) (base : Nat) (args : Array Value) (ds gs : List (DataW H)) (before : List MemPlace)
    (hval : ∀ (j : Nat) t v, Tryd.f4.params[j]? = some t → args[j]? = some v → Value.okWide Tryd.prog W .any base t v)
    (hW : DataW.Whole enc Tryd.prog Tryd.f4.params.toList Rows.planStrongerSpec.vars false W args.toList ds gs before) (hL : laidMetH Tryd.prog Rows.planStrongerRow.laid W) :
    Calls Tryd.prog 4 args W fun e W' => ∃ v, e = .returned v ∧ Rows.planStrongerSpec.post enc Tryd.prog Tryd.f4 false true false false W args v W' := by
  rw [MakeChecks.laidMetH_plain _ _ _ (by kernel_rfl)] at hL
  have hW' := hW
  have hlt := hW.lt
  obtain ⟨p, q, hA0, hV, rfl, hfz, hnd⟩ := hW
  have hA : DataW.TrodAll enc Tryd.prog W 0 (fun _ => true) true Tryd.f4.params.toList args.toList ds p := hA0
  rw [Tryd.params4] at hA hval
  obtain ⟨v0, vs0, d0, ds0, p0, q0, hargs, rfl, rfl, h0, r0⟩ := trodAll_cons hA
  obtain ⟨v1, vs1, d1, ds1, p1, q1, rfl, rfl, rfl, h1, r1⟩ := trodAll_cons r0
  obtain ⟨rfl, rfl, rfl⟩ := trodAll_nil r1
  obtain rfl : args = #[v0, v1] := by cases args; simp_all
  obtain ⟨rfl, rfl⟩ := trodVars_none hV
  obtain ⟨c0, l0, e0, hr0, ht0⟩ := open_structP closed (by decide) Tryd.underlying23 (hval 0 23 v0 rfl rfl) h0
  obtain ⟨c, rfl, rfl, rfl⟩ := open_bool Tryd.underlying4 (hval 1 4 v1 rfl rfl) h1
  clear hA0
  simp only [List.append_nil] at hW' hlt
  obtain ⟨a, s1, s2, b, rfl⟩ := arg_cells ht0
  obtain ⟨cs, e1, hcs, _⟩ := hr0.aggP
  obtain ⟨x1, x2, hx⟩ := arg_vals hcs
  have hv0 : v0 = .agg #[.bool a, .string x1, .string x2, .bool b] := by
    rw [e1]
    congr 1
    rw [← Array.toList_inj, hx]
  have hcall := walk x1 x2 a b c hL
  rw [← hv0] at hcall
  refine hcall.mono fun e W' ⟨he, hg⟩ => ?_
  subst he
  exact ⟨_, rfl, post_of_kept (pa := p0 ++ []) (pv := []) hW' (fun _ _ _ => trodAll_cons_mk (shut_bool Tryd.underlying4 _) trodAll_mk0)
    (fun sp hs => ⟨p0, [], trod_kept laidOut (by kernel_rfl) (of_decide_eq_true (by kernel_rfl)) h0 hg (fun x hx => hlt x (by simp [hx])) (fun x hx => hs x (by simp [hx])), trodAll_cons_mk (shut_bool Tryd.underlying4 _) trodAll_mk0, by simp⟩)
    (fun _ _ => rfl) (by simp) hg (ok_one (by kernel_rfl) rfl (okWide_bool_mk Tryd.underlying4 _))⟩

abbrev zero : Value := .agg #[.bool false, .string .empty, .string .empty, .bool false]
abbrev input : Array Value := #[zero, .bool false]
noncomputable def start (os : Os) : World := World.laidAll Tryd.prog os Rows.planStrongerRow.laid
theorem laid_met (os : Os) : laidMetH Tryd.prog Rows.planStrongerRow.laid (((start os).forCall (fun _ _ => 0) ⟨#[], input, []⟩).memory) := by
  rw [MakeChecks.laidMetH_plain _ _ _ (by kernel_rfl)]
  exact laidMet_laidAll _ (by kernel_rfl) (by kernel_rfl)
theorem reads (os : Os) {H : Type} (enc : TypeId × Value → H) : ∃ ds places, DataW.whole enc Tryd.prog ((start os).forCall (fun _ _ => 0) ⟨#[], input, []⟩).memory Tryd.f4.params.toList Rows.planStrongerSpec.vars false input.toList 8 = some (ds, [], places) :=
  ⟨[.agg [.lit (.bool false), .lit (.string []), .lit (.string []), .lit (.bool false)], .lit (.bool false)], [], by kernel_rfl⟩

theorem lifted (os : Os) (started : os.Started) (H : Type) (enc : TypeId × Value → H) (F : Stop.Interp) :
    ReturnsInHanded {} Tryd.checked os 4 .any ((OpenSpec.ofChange Rows.planStrongerSpec).preRow enc Tryd.prog Tryd.f4 Rows.planStrongerRow.domain false Rows.planStrongerRow.laid) (((OpenSpec.ofChange Rows.planStrongerSpec).at F).post enc Tryd.prog Tryd.f4 false true false false) := by
  obtain ⟨ds, places, hx⟩ := reads os enc
  refine returnsInHanded_of_row (C := Tryd.checked) (s := OpenSpec.ofChange Rows.planStrongerSpec) own started (by kernel_rfl) Tryd.func4
    (witness_row_atRef (enc := enc) (C := Tryd.checked) false (start os) input (World.laidAll_os _ _ _) (by kernel_rfl) (by kernel_rfl) (by kernel_rfl)
      (OpenSpec.preRow_of_cond 8 hx (by kernel_rfl) (fun k hk => by cases hk) (by kernel_rfl) (laid_met os))) ?_
  intro W base args ds gs before hval hW _ _ _ hL _ _
  exact contract H enc W base args ds gs before hval hW hL

theorem said : Rows.PlanStrongerSaid :=
  OpenClaim.holds_of_cond 4 Tryd.f4 rfl rfl rfl rfl rfl rfl rfl ⟨rfl, rfl, rfl, rfl, rfl⟩ rfl rfl rfl rfl rfl (by kernel_rfl) Tryd.func4 (by kernel_rfl)
    (of_decide_eq_true (by kernel_rfl)) (by unfold Func.isWrapper; first | (rw [if_pos (by decide +kernel)]; kernel_rfl) | (rw [if_neg (by decide +kernel)]; exact ⟨rfl, rfl⟩))
    (fun os started H enc _ F => by rw [OpenClaim.pre_eq_preRow]; exact lifted os started H enc F)

theorem plain (f : FuncId) (fn : Func) (hf : Tryd.pinned.checked.prog.funcNamed "stile/stilelaw18.PlanStronger" = some f) (hfn : Tryd.pinned.checked.prog.funcs[f]? = some fn) :
    false = Tryd.pinned.checked.prog.looks [] ∧ ∀ (j : Nat) t, fn.params[j]? = some t → Tryd.pinned.checked.prog.wantsStandIn t = false := by
  obtain rfl : f = 4 := Option.some.inj ((show Tryd.prog.funcNamed "stile/stilelaw18.PlanStronger" = some 4 by kernel_rfl).symm.trans hf) |>.symm
  obtain rfl : fn = Tryd.f4 := (Option.some.inj (Tryd.func4.symm.trans hfn)).symm
  refine ⟨by kernel_rfl, fun j t ht => ?_⟩
  rw [Tryd.params4] at ht
  have : t = 23 ∨ t = 4 := by simpa using Array.mem_of_getElem? ht
  rcases this with rfl | rfl
  · exact (show Tryd.prog.wantsStandIn 23 = false by kernel_rfl)
  · exact (show Tryd.prog.wantsStandIn 4 = false by kernel_rfl)

theorem card : Rows.PlanStrongerCardSaid :=
  Claim7.holds_tied_plain_at .later [] _ _ _ _ said (fun _ h => by cases h) (by kernel_rfl) (fun _ h => by cases h) planStronger_row_tie rfl ⟨rfl, rfl⟩ (by kernel_rfl) rfl plain (by kernel_rfl)

end Go.Ab.Plan.Stronger

namespace Go.Proofs.YtikebbklkiodlaaDoor
/-- the tied card of PlanStronger -/
theorem planStronger_card : Rows.PlanStrongerCardSaid := Go.Ab.Plan.Stronger.card
end Go.Proofs.YtikebbklkiodlaaDoor
