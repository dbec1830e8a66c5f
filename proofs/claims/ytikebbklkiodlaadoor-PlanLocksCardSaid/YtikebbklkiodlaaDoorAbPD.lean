/- PlanLocks of the given program answers true for every level, table, path and whether it is written, and leaves its argument as it was (the tied card, first form); the package variables that it names read as their texts lay them when the call begins. Proved through an abstract interpreter of the model's code that is proved sound in the texts beside this one. -/
import Derived.Test.YtikebbklkiodlaaDoorAbPB
import Derived.Test.YtikebbklkiodlaaDoorAbPC
import Derived.Test.YtikebbklkiodlaaDoorCards
import Derived.Test.YtikebbklkiodlaaDoorTie
set_option linter.unusedSectionVars false
set_option linter.unusedSimpArgs false
set_option linter.unusedVariables false
set_option maxRecDepth 1000000
namespace Go.Ab.Plan.Locks
open Go Go.Ab Go.Ab.Plan Go.Proofs Go.Proofs.YtikebbklkiodlaaDoor Go.ChangeShapes Go.WideShapes Go.RowKit

theorem closed : closedB Tryd.prog [25, 23, 3, 9, 4] = true := by kernel_rfl
theorem laidOut : laidOutB Tryd.prog = true := by kernel_rfl
theorem own : ownKnob Tryd.prog.godebug = none := by kernel_rfl

/-- the argument's cells -/
theorem arg_cells {ps : List PV} (h : OfT Tryd.prog 25 ps) : ∃ n s0 a s1 s2 b c, ps = [.int .i64 n, .str s0, .bool a, .str s1, .str s2, .bool b, .bool c] := by
  obtain ⟨p0, p1, p2, p3, rfl, h0, h1, h2, h3⟩ := h.of_struct4 Tryd.underlying25
  obtain ⟨n, rfl, _⟩ := h0.of_int Tryd.underlying3
  obtain ⟨s0, rfl, _⟩ := h1.of_str Tryd.underlying9
  obtain ⟨q0, q1, q2, q3, rfl, g0, g1, g2, g3⟩ := h2.of_struct4 Tryd.underlying23
  obtain ⟨a, rfl⟩ := g0.of_bool Tryd.underlying4
  obtain ⟨s1, rfl, _⟩ := g1.of_str Tryd.underlying9
  obtain ⟨s2, rfl, _⟩ := g2.of_str Tryd.underlying9
  obtain ⟨b, rfl⟩ := g3.of_bool Tryd.underlying4
  obtain ⟨c, rfl⟩ := h3.of_bool Tryd.underlying4
  exact ⟨n, s0, a, s1, s2, b, c, rfl⟩
theorem arg_vals {S : Nat → Nat → Prop} {w : World} {n : Int} {s0 s1 s2 : List UInt8} {a b c : Bool} {cs : List Value} (h : RepPL S w [.int .i64 n, .str s0, .bool a, .str s1, .str s2, .bool b, .bool c] cs) :
    ∃ x0 x1 x2 : ByteArray, cs = [.int .i64 n, .string x0, .bool a, .string x1, .string x2, .bool b, .bool c] ∧ x0.data.toList = s0 ∧ x1.data.toList = s1 ∧ x2.data.toList = s2 := by
  cases h with | cons h0 h => cases h with | cons h1 h => cases h with | cons h2 h => cases h with | cons h3 h => cases h with | cons h4 h => cases h with | cons h5 h => cases h with | cons h6 h =>
  cases h
  cases h0
  cases h1 with | str e1 =>
  cases h2
  cases h3 with | str e3 =>
  cases h4 with | str e4 =>
  cases h5
  cases h6
  exact ⟨_, _, _, rfl, e1, e3, e4⟩
theorem isT_of {x : Option (CRes × Heap)} (h : isT x = true) : ∃ σ, x = some (.ret (.p (.bool true)), σ) := by
  unfold isT at h
  split at h
  · exact ⟨_, rfl⟩
  · cases h
/-- the law's call -/
theorem walk {W : World} (n : Int) (x0 x1 x2 : ByteArray) (a b c : Bool) (hL : laidMet Tryd.prog Rows.planLocksRow.laid W) :
    Calls Tryd.prog 3 #[.agg #[.int .i64 n, .string x0, .bool a, .string x1, .string x2, .bool b, .bool c]] W fun e w' => e = .returned (.bool true) ∧ Kept W w' := by
  have hmem : ("stile/types.bases", (Rows.laid_stile_types_bases : DataW Unit)) ∈ Rows.planLocksRow.laid := by simp [Rows.planLocksRow]
  have run : ∀ (s : Nat) (h : LitsOK s n) (v : PV), (letI := mkM n [x0.data.toList, x1.data.toList, x2.data.toList] s h; RepP (Ex W) W v (.int .i64 n)) →
      isT ((@cAt (mkM n [x0.data.toList, x1.data.toList, x2.data.toList] s h) TP 400 40).1 3 [.p (.agg [v, .ssym 0, .bool a, .ssym 1, .ssym 2, .bool b, .bool c])] []) = true →
      Calls Tryd.prog 3 #[.agg #[.int .i64 n, .string x0, .bool a, .string x1, .string x2, .bool b, .bool c]] W fun e w' => e = .returned (.bool true) ∧ Kept W w' := by
    intro s h v hv hrun
    letI := mkM n [x0.data.toList, x1.data.toList, x2.data.toList] s h
    obtain ⟨σ, hrun⟩ := isT_of hrun
    refine law_calls (mkM_ok n _ s h) table_ok (by decide) hrun (bases_ok hL hmem) (.cons (.p (.agg ?_ ?_)) .nil)
    · exact .cons hv (.cons (.ssym (t := 0) rfl rfl) (.cons (.bool _) (.cons (.ssym (t := 1) rfl rfl) (.cons (.ssym (t := 2) rfl rfl) (.cons (.bool _) (.cons (.bool _) .nil))))))
    · intro c hc
      simp at hc
      rcases hc with rfl | rfl | rfl | rfl | rfl | rfl | rfl <;> rfl
  rcases Int.lt_or_le n 0 with h | h
  · have hs : LitsOK 1 n := ⟨fun _ => h, fun h => absurd h (by decide)⟩
    exact run 1 hs (.isym 0 .i64) (by letI := mkM n [x0.data.toList, x1.data.toList, x2.data.toList] 1 hs; exact .isym rfl) (locks_1 n _ hs a b c)
  · rcases Int.lt_or_le 2 n with h2 | h2
    · have hs : LitsOK 2 n := ⟨fun h => absurd h (by decide), fun _ => h2⟩
      exact run 2 hs (.isym 0 .i64) (by letI := mkM n [x0.data.toList, x1.data.toList, x2.data.toList] 2 hs; exact .isym rfl) (locks_2 n _ hs a b c)
    · have hs : LitsOK 0 n := ⟨fun h => absurd h (by decide), fun h => absurd h (by decide)⟩
      have h3 : n = 0 ∨ n = 1 ∨ n = 2 := by omega
      rcases h3 with rfl | rfl | rfl
      · exact run 0 hs (.int .i64 0) (by letI := mkM 0 [x0.data.toList, x1.data.toList, x2.data.toList] 0 hs; exact .int _ _) (locks_c0 _ _ hs a b c)
      · exact run 0 hs (.int .i64 1) (by letI := mkM 1 [x0.data.toList, x1.data.toList, x2.data.toList] 0 hs; exact .int _ _) (locks_c1 _ _ hs a b c)
      · exact run 0 hs (.int .i64 2) (by letI := mkM 2 [x0.data.toList, x1.data.toList, x2.data.toList] 0 hs; exact .int _ _) (locks_c2 _ _ hs a b c)

theorem contract (H : Type) (enc : TypeId × Value → H) (W : World) (base : Nat) (args : Array Value) (ds gs : List (DataW H)) (before : List MemPlace)
    (hval : ∀ (j : Nat) t v, Tryd.f3.params[j]? = some t → args[j]? = some v → Value.okWide Tryd.prog W .any base t v)
    (hW : DataW.Whole enc Tryd.prog Tryd.f3.params.toList Rows.planLocksSpec.vars false W args.toList ds gs before) (hL : laidMetH Tryd.prog Rows.planLocksRow.laid W) :
    Calls Tryd.prog 3 args W fun e W' => ∃ v, e = .returned v ∧ Rows.planLocksSpec.post enc Tryd.prog Tryd.f3 false true false false W args v W' := by
  rw [MakeChecks.laidMetH_plain _ _ _ (by kernel_rfl)] at hL
  have hW' := hW
  have hlt := hW.lt
  obtain ⟨p, q, hA0, hV, rfl, hfz, hnd⟩ := hW
  have hA : DataW.TrodAll enc Tryd.prog W 0 (fun _ => true) true Tryd.f3.params.toList args.toList ds p := hA0
  rw [Tryd.params3] at hA hval
  obtain ⟨v0, vs0, d0, ds0, p0, q0, hargs, rfl, rfl, h0, r0⟩ := trodAll_cons hA
  obtain ⟨rfl, rfl, rfl⟩ := trodAll_nil r0
  obtain rfl : args = #[v0] := by cases args; simp_all
  obtain ⟨rfl, rfl⟩ := trodVars_none hV
  obtain ⟨c0, l0, e0, hr0, ht0⟩ := open_structP closed (by decide) Tryd.underlying25 (hval 0 25 v0 rfl rfl) h0
  clear hA0
  simp only [List.append_nil] at hW' hlt
  obtain ⟨n, s0, a, s1, s2, b, c, rfl⟩ := arg_cells ht0
  obtain ⟨cs, e1, hcs, _⟩ := hr0.aggP
  obtain ⟨x0, x1, x2, hx, _, _, _⟩ := arg_vals hcs
  have hv0 : v0 = .agg #[.int .i64 n, .string x0, .bool a, .string x1, .string x2, .bool b, .bool c] := by
    rw [e1]
    congr 1
    rw [← Array.toList_inj, hx]
  have hcall := walk n x0 x1 x2 a b c hL
  rw [← hv0] at hcall
  refine hcall.mono fun e W' ⟨he, hg⟩ => ?_
  subst he
  exact ⟨_, rfl, post_of_kept (pa := p0 ++ []) (pv := []) hW' (fun _ _ _ => trodAll_cons_mk (shut_bool Tryd.underlying4 _) trodAll_mk0)
    (fun sp hs => ⟨p0, [], trod_kept laidOut (by kernel_rfl) (of_decide_eq_true (by kernel_rfl)) h0 hg (fun x hx => hlt x (by simp [hx])) (fun x hx => hs x (by simp [hx])), trodAll_mk0, rfl⟩)
    (fun _ _ => rfl) (by simp) hg (ok_one (by kernel_rfl) rfl (okWide_bool_mk Tryd.underlying4 _))⟩

abbrev zero : Value := .agg #[.int .i64 0, .string .empty, .bool false, .string .empty, .string .empty, .bool false, .bool false]
abbrev input : Array Value := #[zero]
noncomputable def start (os : Os) : World := World.laidAll Tryd.prog os Rows.planLocksRow.laid
theorem laid_met (os : Os) : laidMetH Tryd.prog Rows.planLocksRow.laid (((start os).forCall (fun _ _ => 0) ⟨#[], input, []⟩).memory) := by
  rw [MakeChecks.laidMetH_plain _ _ _ (by kernel_rfl)]
  exact laidMet_laidAll _ (by kernel_rfl) (by kernel_rfl)
theorem reads (os : Os) {H : Type} (enc : TypeId × Value → H) : ∃ ds places, DataW.whole enc Tryd.prog ((start os).forCall (fun _ _ => 0) ⟨#[], input, []⟩).memory Tryd.f3.params.toList Rows.planLocksSpec.vars false input.toList 8 = some (ds, [], places) :=
  ⟨[.agg [.lit (.int .i64 0), .lit (.string []), .agg [.lit (.bool false), .lit (.string []), .lit (.string []), .lit (.bool false)], .lit (.bool false)]], [], by kernel_rfl⟩

theorem lifted (os : Os) (started : os.Started) (H : Type) (enc : TypeId × Value → H) (F : Stop.Interp) :
    ReturnsInHanded {} Tryd.checked os 3 .any ((OpenSpec.ofChange Rows.planLocksSpec).preRow enc Tryd.prog Tryd.f3 Rows.planLocksRow.domain false Rows.planLocksRow.laid) (((OpenSpec.ofChange Rows.planLocksSpec).at F).post enc Tryd.prog Tryd.f3 false true false false) := by
  obtain ⟨ds, places, hx⟩ := reads os enc
  refine returnsInHanded_of_row (C := Tryd.checked) (s := OpenSpec.ofChange Rows.planLocksSpec) own started (by kernel_rfl) Tryd.func3
    (witness_row_atRef (enc := enc) (C := Tryd.checked) false (start os) input (World.laidAll_os _ _ _) (by kernel_rfl) (by kernel_rfl) (by kernel_rfl)
      (OpenSpec.preRow_of_cond 8 hx (by kernel_rfl) (fun k hk => by cases hk) (by kernel_rfl) (laid_met os))) ?_
  intro W base args ds gs before hval hW _ _ _ hL _ _
  exact contract H enc W base args ds gs before hval hW hL

theorem said : Rows.PlanLocksSaid :=
  OpenClaim.holds_of_cond 3 Tryd.f3 rfl rfl rfl rfl rfl rfl rfl ⟨rfl, rfl, rfl, rfl, rfl⟩ rfl rfl rfl rfl rfl (by kernel_rfl) Tryd.func3 (by kernel_rfl)
    (of_decide_eq_true (by kernel_rfl)) (by unfold Func.isWrapper; first | (rw [if_pos (by decide +kernel)]; kernel_rfl) | (rw [if_neg (by decide +kernel)]; exact ⟨rfl, rfl⟩))
    (fun os started H enc _ F => by rw [OpenClaim.pre_eq_preRow]; exact lifted os started H enc F)

theorem plain (f : FuncId) (fn : Func) (hf : Tryd.pinned.checked.prog.funcNamed "stile/stilelaw18.PlanLocks" = some f) (hfn : Tryd.pinned.checked.prog.funcs[f]? = some fn) :
    false = Tryd.pinned.checked.prog.looks [] ∧ ∀ (j : Nat) t, fn.params[j]? = some t → Tryd.pinned.checked.prog.wantsStandIn t = false := by
  obtain rfl : f = 3 := Option.some.inj ((show Tryd.prog.funcNamed "stile/stilelaw18.PlanLocks" = some 3 by kernel_rfl).symm.trans hf) |>.symm
  obtain rfl : fn = Tryd.f3 := (Option.some.inj (Tryd.func3.symm.trans hfn)).symm
  refine ⟨by kernel_rfl, fun j t ht => ?_⟩
  rw [Tryd.params3] at ht
  obtain rfl : t = 25 := by simpa using Array.mem_of_getElem? ht
  exact (show Tryd.prog.wantsStandIn 25 = false by kernel_rfl)

theorem card : Rows.PlanLocksCardSaid :=
  Claim7.holds_tied_plain_at .later [] _ _ _ _ said (fun _ h => by cases h) (by kernel_rfl) (fun _ h => by cases h) planLocks_row_tie rfl ⟨rfl, rfl⟩ (by kernel_rfl) rfl plain (by kernel_rfl)

end Go.Ab.Plan.Locks

namespace Go.Proofs.YtikebbklkiodlaaDoor
/-- the tied card of PlanLocks -/
theorem planLocks_card : Rows.PlanLocksCardSaid := Go.Ab.Plan.Locks.card
end Go.Proofs.YtikebbklkiodlaaDoor
