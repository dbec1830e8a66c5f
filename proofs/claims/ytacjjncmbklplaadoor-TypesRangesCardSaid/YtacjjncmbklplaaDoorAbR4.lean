/- TypesRanges of the given program answers true for every number and leaves its argument as it was (the tied card, first form); the package variables that it names read as their texts lay them when the call begins. Proved through an abstract interpreter of the model's code that is proved sound in the texts beside this one. -/
import Derived.Test.YtacjjncmbklplaaDoorAbR3
import Derived.Test.YtacjjncmbklplaaDoorCards
import Derived.Test.YtacjjncmbklplaaDoorTie
import Derived.WalkKit
import Derived.ProofKit
import Derived.OpenShut
import Derived.Deep.DeepHandedRow
import Derived.Deep.DeepWitnessRowRef
import Derived.Lay
import Derived.MakeChecks
set_option maxRecDepth 100000
namespace Go.Ab.Ranges
open Go Go.Ab Go.Proofs Go.Proofs.YtacjjncmbklplaaDoor Go.ChangeShapes Go.WideShapes Go.RowKit

theorem table_ok : TableOK Tryd.prog G T := by
  intro f i h
  unfold T at h
  split at h
  · obtain rfl := Option.some.inj h; exact ⟨Tryd.f4, [], Tryd.func4, c4⟩
  · obtain rfl := Option.some.inj h; exact ⟨Tryd.f6, [], Tryd.func6, c6⟩
  · obtain rfl := Option.some.inj h; exact ⟨Tryd.f7, [], Tryd.func7, c7⟩
  · obtain rfl := Option.some.inj h; exact ⟨Tryd.f8, [], Tryd.func8, c8⟩
  · obtain rfl := Option.some.inj h; exact ⟨Tryd.f9, [], Tryd.func9, c9⟩
  · obtain rfl := Option.some.inj h; exact ⟨Tryd.f11, [], Tryd.func11, c11⟩
  · obtain rfl := Option.some.inj h; exact ⟨Tryd.f12, [], Tryd.func12, c12⟩
  · obtain rfl := Option.some.inj h; exact ⟨Tryd.f14, [], Tryd.func14, c14⟩
  · obtain rfl := Option.some.inj h; exact ⟨Tryd.f15, [], Tryd.func15, c15⟩
  · obtain rfl := Option.some.inj h; exact ⟨Tryd.f16, [], Tryd.func16, c16⟩
  · obtain rfl := Option.some.inj h; exact ⟨Tryd.f17, [], Tryd.func17, c17⟩
  · obtain rfl := Option.some.inj h; exact ⟨Tryd.f18, [], Tryd.func18, c18⟩
  · obtain rfl := Option.some.inj h; exact ⟨Tryd.f19, [], Tryd.func19, c19⟩
  · obtain rfl := Option.some.inj h; exact ⟨Tryd.f21, [], Tryd.func21, c21⟩
  · obtain rfl := Option.some.inj h; exact ⟨Tryd.f22, [], Tryd.func22, c22⟩
  · obtain rfl := Option.some.inj h; exact ⟨Tryd.f23, [], Tryd.func23, c23⟩
  · obtain rfl := Option.some.inj h; exact ⟨Tryd.f25, [], Tryd.func25, c25⟩
  · obtain rfl := Option.some.inj h; exact ⟨Tryd.f26, [], Tryd.func26, c26⟩
  · obtain rfl := Option.some.inj h; exact ⟨Tryd.f35, [], Tryd.func35, c35⟩
  · cases h

/-- the law's call, for every number -/
theorem walk {W : World} (n : Int) (h1 : -9223372036854775808 ≤ n) (h2 : n ≤ 9223372036854775807) (hL : laidMet Tryd.prog Rows.typesRangesRow.laid W) :
    Calls Tryd.prog 4 #[.int .i64 n] W fun e w' => e = .returned (.bool true) ∧ Kept W w' :=
  law_calls table_ok (law_of n (fits48 n h1 h2) (fits32 n h1 h2) (fits0 n h1 h2) []) (glob_ok hL) (.cons (.p (.int _ _)) .nil)

theorem post_of_kept {H : Type} {enc : TypeId × Value → H} {P : Program} {f : Func} {s : ChangeSpec} {apart fresh handsOn again : Bool} {W W' : World} {args : Array Value} {v : Value} {ds gs : List (DataW H)} {before pa pv : List MemPlace}
    (hW : DataW.Whole enc P f.params.toList s.vars apart W args.toList ds gs before)
    (hres : ∀ (b : Nat) (sp : Nat → Bool) (hd : Bool), DataW.TrodAll enc P W' b sp hd f.resultTypes.toList (v.resultList f.resultTypes.size) (s.fn H (ds ++ gs)).results [])
    (hargs : ∀ sp : Nat → Bool, (∀ p ∈ before, sp p.block = true) → DataW.TrodAll enc P W' 0 sp true f.params.toList args.toList (s.fn H (ds ++ gs)).args pa)
    (hvars : ∀ sp : Nat → Bool, (∀ p ∈ before, sp p.block = true) → DataW.TrodVars enc P W' sp s.vars (s.fn H (ds ++ gs)).vars pv)
    (hps : before = pa ++ pv) (hk : Kept W W')
    (hok : ∀ (j : Nat) (t : TypeId) (r : Value), f.resultTypes[j]? = some t → (v.resultList f.resultTypes.size)[j]? = some r → Value.okWide P W' .any 0 t r) :
    s.post enc P f apart fresh handsOn again W args v W' := by
  have hlt := hW.lt
  have hold : ∀ p ∈ before, (fun b => decide (b < W.heap.size)) p.block = true := fun p hp => by simpa using hlt p hp
  refine ⟨ds, gs, before, [], pa, pv, hW, hres _ _ _, hargs _ hold, hvars _ hold, World.keptBut_mono (fun p hp => ⟨hp, ?_⟩) (hk.but (· ∈ before)), fun _ => ?_⟩
  · rw [hps, List.mem_append] at hp
    exact Or.inr hp
  · obtain ⟨_, _, _, _, _, hz, hn⟩ := hW
    refine ⟨hok, _, _, ([] ++ pa) ++ pv, ⟨[] ++ pa, pv, trodAll_append (hargs _ (fun _ _ => rfl)) (hres _ _ _), hvars _ (fun _ _ => rfl), rfl, ?_, ?_⟩, ?_⟩
    · intro b off hp
      have hmem : MemPlace.cell b off ∈ before := by rw [hps]; simpa using hp
      rw [hk.frozen _ (show b < W.heap.size from hlt _ hmem)]
      exact hz b off hmem
    · intro ha
      have := hn ha
      rw [hps] at this
      simpa using this
    · intro p hp _
      rw [hps]
      simpa using hp

theorem own : ownKnob Tryd.prog.godebug = none := by kernel_rfl

theorem contract (H : Type) (enc : TypeId × Value → H) (W : World) (base : Nat) (args : Array Value) (ds gs : List (DataW H)) (before : List MemPlace)
    (hval : ∀ (j : Nat) t v, Tryd.f4.params[j]? = some t → args[j]? = some v → Value.okWide Tryd.prog W .any base t v)
    (hW : DataW.Whole enc Tryd.prog Tryd.f4.params.toList Rows.typesRangesSpec.vars false W args.toList ds gs before) (hL : laidMetH Tryd.prog Rows.typesRangesRow.laid W) :
    Calls Tryd.prog 4 args W fun e W' => ∃ v, e = .returned v ∧ Rows.typesRangesSpec.post enc Tryd.prog Tryd.f4 false true false false W args v W' := by
  rw [MakeChecks.laidMetH_plain _ _ _ (by kernel_rfl)] at hL
  have hW' := hW
  obtain ⟨p, q, hA0, hV, rfl, hfz, hnd⟩ := hW
  have hA : DataW.TrodAll enc Tryd.prog W 0 (fun _ => true) true Tryd.f4.params.toList args.toList ds p := hA0
  rw [Tryd.params4] at hA hval
  obtain ⟨v0, vs0, d0, ds0, p0, q0, hargs, rfl, rfl, h0, r0⟩ := trodAll_cons hA
  obtain ⟨rfl, rfl, rfl⟩ := trodAll_nil r0
  obtain rfl : args = #[v0] := by cases args; simp_all
  obtain ⟨rfl, rfl⟩ := trodVars_none hV
  obtain ⟨n, rfl, rfl, rfl, hwf⟩ := open_int Tryd.underlying2 (hval 0 2 v0 rfl rfl) h0
  clear hA0
  simp only [List.append_nil] at hW'
  have hr : -9223372036854775808 ≤ n ∧ n ≤ 9223372036854775807 := by
    simpa [Lit.wf, IntKind.min, IntKind.max, IntKind.signed, IntKind.bits] using hwf
  refine (walk n hr.1 hr.2 hL).mono fun e W' ⟨he, hg⟩ => ?_
  subst he
  exact ⟨_, rfl, post_of_kept (pa := []) (pv := []) hW' (fun _ _ _ => trodAll_cons_mk (shut_bool Tryd.underlying4 _) trodAll_mk0) (fun _ _ => trodAll_cons_mk (shut_int Tryd.underlying2 hwf) trodAll_mk0) (fun _ _ => rfl) rfl
    hg (ok_one (by kernel_rfl) rfl (okWide_bool_mk Tryd.underlying4 _))⟩

noncomputable def start (os : Os) : World := World.laidAll Tryd.prog os Rows.typesRangesRow.laid
theorem laid_met (os : Os) : laidMetH Tryd.prog Rows.typesRangesRow.laid (((start os).forCall (fun _ _ => 0) ⟨#[], #[.int .i64 0], []⟩).memory) := by
  rw [MakeChecks.laidMetH_plain _ _ _ (by kernel_rfl)]
  exact laidMet_laidAll _ (by kernel_rfl) (by kernel_rfl)
theorem reads (os : Os) {H : Type} (enc : TypeId × Value → H) : ∃ places, DataW.whole enc Tryd.prog ((start os).forCall (fun _ _ => 0) ⟨#[], #[.int .i64 0], []⟩).memory Tryd.f4.params.toList Rows.typesRangesSpec.vars false #[Value.int .i64 0].toList 8 = some ([.lit (.int .i64 0)], [], places) :=
  ⟨[], by kernel_rfl⟩

theorem lifted (os : Os) (started : os.Started) (H : Type) (enc : TypeId × Value → H) (F : Stop.Interp) :
    ReturnsInHanded {} Tryd.checked os 4 .any ((OpenSpec.ofChange Rows.typesRangesSpec).preRow enc Tryd.prog Tryd.f4 Rows.typesRangesRow.domain false Rows.typesRangesRow.laid) (((OpenSpec.ofChange Rows.typesRangesSpec).at F).post enc Tryd.prog Tryd.f4 false true false false) := by
  obtain ⟨places, hx⟩ := reads os enc
  refine returnsInHanded_of_row (C := Tryd.checked) (s := OpenSpec.ofChange Rows.typesRangesSpec) own started (by kernel_rfl) Tryd.func4
    (witness_row_atRef (enc := enc) (C := Tryd.checked) false (start os) #[.int .i64 0] (World.laidAll_os _ _ _) (by kernel_rfl) (by kernel_rfl) (by kernel_rfl)
      (OpenSpec.preRow_of_cond 8 hx (by kernel_rfl) (fun k hk => by cases hk) (by kernel_rfl) (laid_met os))) ?_
  intro W base args ds gs before hval hW _ _ _ hL _ _
  exact contract H enc W base args ds gs before hval hW hL

theorem said : Rows.TypesRangesSaid :=
  OpenClaim.holds_of_cond 4 Tryd.f4 rfl rfl rfl rfl rfl rfl rfl ⟨rfl, rfl, rfl, rfl, rfl⟩ rfl rfl rfl rfl rfl (by kernel_rfl) Tryd.func4 (by kernel_rfl)
    (of_decide_eq_true (by kernel_rfl)) (by unfold Func.isWrapper; first | (rw [if_pos (by decide +kernel)]; kernel_rfl) | (rw [if_neg (by decide +kernel)]; exact ⟨rfl, rfl⟩))
    (fun os started H enc _ F => by rw [OpenClaim.pre_eq_preRow]; exact lifted os started H enc F)

theorem plain (f : FuncId) (fn : Func) (hf : Tryd.pinned.checked.prog.funcNamed "stile/stilelaw02.TypesRanges" = some f) (hfn : Tryd.pinned.checked.prog.funcs[f]? = some fn) :
    true = Tryd.pinned.checked.prog.looks [] ∧ ∀ (j : Nat) t, fn.params[j]? = some t → Tryd.pinned.checked.prog.wantsStandIn t = false := by
  obtain rfl : f = 4 := Option.some.inj ((show Tryd.prog.funcNamed "stile/stilelaw02.TypesRanges" = some 4 by kernel_rfl).symm.trans hf) |>.symm
  obtain rfl : fn = Tryd.f4 := (Option.some.inj (Tryd.func4.symm.trans hfn)).symm
  refine ⟨by kernel_rfl, fun j t ht => ?_⟩
  rw [Tryd.params4] at ht
  obtain rfl : t = 2 := by simpa using Array.mem_of_getElem? ht
  exact (show Tryd.prog.wantsStandIn 2 = false by kernel_rfl)

theorem card : Rows.TypesRangesCardSaid :=
  Claim7.holds_tied_plain_at .later [] _ _ _ _ said (fun _ h => by cases h) (by kernel_rfl) (fun _ h => by cases h) typesRanges_row_tie rfl ⟨rfl, rfl⟩ (by kernel_rfl) rfl plain (by kernel_rfl)

end Go.Ab.Ranges

namespace Go.Proofs.YtacjjncmbklplaaDoor
/-- the tied card of TypesRanges -/
theorem typesRanges_card : Rows.TypesRangesCardSaid := Go.Ab.Ranges.card
end Go.Proofs.YtacjjncmbklplaaDoor
