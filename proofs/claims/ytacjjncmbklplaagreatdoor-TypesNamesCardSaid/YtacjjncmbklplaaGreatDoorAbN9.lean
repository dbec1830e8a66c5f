/- TypesNames of the given program answers true for every two numbers and leaves its arguments as they were (the tied card, first form); the package variables that it names read as their texts lay them when the call begins. Proved through an abstract interpreter of the model's code that is proved sound in the texts beside this one. -/
import Derived.Test.YtacjjncmbklplaaGreatDoorAbN8
import Derived.Test.YtacjjncmbklplaaGreatDoorCards
import Derived.Test.YtacjjncmbklplaaGreatDoorTie
set_option maxRecDepth 100000
namespace Go.Ab.Names
open Go Go.Ab Go.Proofs Go.Proofs.YtacjjncmbklplaaGreatDoor Go.ChangeShapes Go.WideShapes Go.RowKit

theorem table_ok : TableOK Tryz.prog G T := by
  intro f i h
  unfold T at h
  split at h
  · obtain rfl := Option.some.inj h; exact ⟨Tryz.f3, [], Tryz.func3, c3⟩
  · obtain rfl := Option.some.inj h; exact ⟨Tryz.f7, [], Tryz.func7, c7⟩
  · obtain rfl := Option.some.inj h; exact ⟨Tryz.f8, [], Tryz.func8, c8⟩
  · obtain rfl := Option.some.inj h; exact ⟨Tryz.f9, [], Tryz.func9, c9⟩
  · obtain rfl := Option.some.inj h; exact ⟨Tryz.f10, [], Tryz.func10, c10⟩
  · obtain rfl := Option.some.inj h; exact ⟨Tryz.f11, [], Tryz.func11, c11⟩
  · obtain rfl := Option.some.inj h; exact ⟨Tryz.f12, [], Tryz.func12, c12⟩
  · obtain rfl := Option.some.inj h; exact ⟨Tryz.f13, [], Tryz.func13, c13⟩
  · obtain rfl := Option.some.inj h; exact ⟨Tryz.f14, [], Tryz.func14, c14⟩
  · obtain rfl := Option.some.inj h; exact ⟨Tryz.f17, [], Tryz.func17, c17⟩
  · obtain rfl := Option.some.inj h; exact ⟨Tryz.f21, [], Tryz.func21, c21⟩
  · obtain rfl := Option.some.inj h; exact ⟨Tryz.f22, [], Tryz.func22, c22⟩
  · obtain rfl := Option.some.inj h; exact ⟨Tryz.f23, [], Tryz.func23, c23⟩
  · obtain rfl := Option.some.inj h; exact ⟨Tryz.f24, [], Tryz.func24, c24⟩
  · obtain rfl := Option.some.inj h; exact ⟨Tryz.f25, [], Tryz.func25, c25⟩
  · obtain rfl := Option.some.inj h; exact ⟨Tryz.f26, [], Tryz.func26, c26⟩
  · obtain rfl := Option.some.inj h; exact ⟨Tryz.f28, [], Tryz.func28, c28⟩
  · obtain rfl := Option.some.inj h; exact ⟨Tryz.f31, [], Tryz.func31, c31⟩
  · obtain rfl := Option.some.inj h; exact ⟨Tryz.f32, [], Tryz.func32, c32⟩
  · obtain rfl := Option.some.inj h; exact ⟨Tryz.f33, [], Tryz.func33, c33⟩
  · obtain rfl := Option.some.inj h; exact ⟨Tryz.f37, [], Tryz.func37, c37⟩
  · obtain rfl := Option.some.inj h; exact ⟨Tryz.f38, [], Tryz.func38, c38⟩
  · obtain rfl := Option.some.inj h; exact ⟨Tryz.f43, [], Tryz.func43, c43⟩
  · obtain rfl := Option.some.inj h; exact ⟨Tryz.f44, [], Tryz.func44, c44⟩
  · obtain rfl := Option.some.inj h; exact ⟨Tryz.f45, [], Tryz.func45, c45⟩
  · obtain rfl := Option.some.inj h; exact ⟨Tryz.f46, [], Tryz.func46, c46⟩
  · obtain rfl := Option.some.inj h; exact ⟨Tryz.f52, [], Tryz.func52, c52⟩
  · obtain rfl := Option.some.inj h; exact ⟨Tryz.f53, [], Tryz.func53, c53⟩
  · obtain rfl := Option.some.inj h; exact ⟨Tryz.f74, [], Tryz.func74, c74⟩
  · obtain rfl := Option.some.inj h; exact ⟨Tryz.f75, [], Tryz.func75, c75⟩
  · obtain rfl := Option.some.inj h; exact ⟨Tryz.f76, [], Tryz.func76, c76⟩
  · obtain rfl := Option.some.inj h; exact ⟨Tryz.f77, [], Tryz.func77, c77⟩
  · obtain rfl := Option.some.inj h; exact ⟨Tryz.f94, [], Tryz.func94, c94⟩
  · obtain rfl := Option.some.inj h; exact ⟨Tryz.f95, [], Tryz.func95, c95⟩
  · obtain rfl := Option.some.inj h; exact ⟨Tryz.f96, [], Tryz.func96, c96⟩
  · obtain rfl := Option.some.inj h; exact ⟨Tryz.f97, [], Tryz.func97, c97⟩
  · obtain rfl := Option.some.inj h; exact ⟨Tryz.f98, [], Tryz.func98, c98⟩
  · cases h

/-- the law's call, for every two numbers -/
theorem walk {W : World} (b s : Int) (hL : laidMet Tryz.prog Rows.typesNamesRow.laid W) :
    Calls Tryz.prog 3 #[.int .i64 b, .int .i64 s] W fun e w' => e = .returned (.bool true) ∧ Kept W w' :=
  law_calls table_ok (law b s []) (glob_ok hL) (.cons (.p (.int _ _)) (.cons (.p (.int _ _)) .nil))

theorem own : ownKnob Tryz.prog.godebug = none := by kernel_rfl

theorem contract (H : Type) (enc : TypeId × Value → H) (W : World) (base : Nat) (args : Array Value) (ds gs : List (DataW H)) (before : List MemPlace)
    (hval : ∀ (j : Nat) t v, Tryz.f3.params[j]? = some t → args[j]? = some v → Value.okWide Tryz.prog W .any base t v)
    (hW : DataW.Whole enc Tryz.prog Tryz.f3.params.toList Rows.typesNamesSpec.vars false W args.toList ds gs before) (hL : laidMetH Tryz.prog Rows.typesNamesRow.laid W) :
    Calls Tryz.prog 3 args W fun e W' => ∃ v, e = .returned v ∧ Rows.typesNamesSpec.post enc Tryz.prog Tryz.f3 false true false false W args v W' := by
  rw [MakeChecks.laidMetH_plain _ _ _ (by kernel_rfl)] at hL
  have hW' := hW
  obtain ⟨p, q, hA0, hV, rfl, hfz, hnd⟩ := hW
  have hA : DataW.TrodAll enc Tryz.prog W 0 (fun _ => true) true Tryz.f3.params.toList args.toList ds p := hA0
  rw [Tryz.params3] at hA hval
  obtain ⟨v0, vs0, d0, ds0, p0, q0, hargs, rfl, rfl, h0, r0⟩ := trodAll_cons hA
  obtain ⟨v1, vs1, d1, ds1, p1, q1, rfl, rfl, rfl, h1, r1⟩ := trodAll_cons r0
  obtain ⟨rfl, rfl, rfl⟩ := trodAll_nil r1
  obtain rfl : args = #[v0, v1] := by cases args; simp_all
  obtain ⟨rfl, rfl⟩ := trodVars_none hV
  obtain ⟨n, rfl, rfl, rfl, hwf⟩ := open_int Tryz.underlying3 (hval 0 3 v0 rfl rfl) h0
  obtain ⟨m, rfl, rfl, rfl, hwf'⟩ := open_int Tryz.underlying3 (hval 1 3 v1 rfl rfl) h1
  clear hA0
  simp only [List.append_nil] at hW'
  refine (walk n m hL).mono fun e W' ⟨he, hg⟩ => ?_
  subst he
  exact ⟨_, rfl, post_of_kept (pa := []) (pv := []) hW' (fun _ _ _ => trodAll_cons_mk (shut_bool Tryz.underlying4 _) trodAll_mk0) (fun _ _ => trodAll_cons_mk (shut_int Tryz.underlying3 hwf) (trodAll_cons_mk (shut_int Tryz.underlying3 hwf') trodAll_mk0)) (fun _ _ => rfl) rfl
    hg (ok_one (by kernel_rfl) rfl (okWide_bool_mk Tryz.underlying4 _))⟩

noncomputable def start (os : Os) : World := World.laidAll Tryz.prog os Rows.typesNamesRow.laid
theorem laid_met (os : Os) : laidMetH Tryz.prog Rows.typesNamesRow.laid (((start os).forCall (fun _ _ => 0) ⟨#[], #[.int .i64 0, .int .i64 0], []⟩).memory) := by
  rw [MakeChecks.laidMetH_plain _ _ _ (by kernel_rfl)]
  exact laidMet_laidAll _ (by kernel_rfl) (by kernel_rfl)
theorem reads (os : Os) {H : Type} (enc : TypeId × Value → H) : ∃ places, DataW.whole enc Tryz.prog ((start os).forCall (fun _ _ => 0) ⟨#[], #[.int .i64 0, .int .i64 0], []⟩).memory Tryz.f3.params.toList Rows.typesNamesSpec.vars false #[Value.int .i64 0, Value.int .i64 0].toList 8 = some ([.lit (.int .i64 0), .lit (.int .i64 0)], [], places) :=
  ⟨[], by kernel_rfl⟩

theorem lifted (os : Os) (started : os.Started) (H : Type) (enc : TypeId × Value → H) (F : Stop.Interp) :
    ReturnsInHanded {} Tryz.checked os 3 .any ((OpenSpec.ofChange Rows.typesNamesSpec).preRow enc Tryz.prog Tryz.f3 Rows.typesNamesRow.domain false Rows.typesNamesRow.laid) (((OpenSpec.ofChange Rows.typesNamesSpec).at F).post enc Tryz.prog Tryz.f3 false true false false) := by
  obtain ⟨places, hx⟩ := reads os enc
  refine returnsInHanded_of_row (C := Tryz.checked) (s := OpenSpec.ofChange Rows.typesNamesSpec) own started (by kernel_rfl) Tryz.func3
    (witness_row_atRef (enc := enc) (C := Tryz.checked) false (start os) #[.int .i64 0, .int .i64 0] (World.laidAll_os _ _ _) (by kernel_rfl) (by kernel_rfl) (by kernel_rfl)
      (OpenSpec.preRow_of_cond 8 hx (by kernel_rfl) (fun k hk => by cases hk) (by kernel_rfl) (laid_met os))) ?_
  intro W base args ds gs before hval hW _ _ _ hL _ _
  exact contract H enc W base args ds gs before hval hW hL

theorem said : Rows.TypesNamesSaid :=
  OpenClaim.holds_of_cond 3 Tryz.f3 rfl rfl rfl rfl rfl rfl rfl ⟨rfl, rfl, rfl, rfl, rfl⟩ rfl rfl rfl rfl rfl (by kernel_rfl) Tryz.func3 (by kernel_rfl)
    (of_decide_eq_true (by kernel_rfl)) (by unfold Func.isWrapper; first | (rw [if_pos (by decide +kernel)]; kernel_rfl) | (rw [if_neg (by decide +kernel)]; exact ⟨rfl, rfl⟩))
    (fun os started H enc _ F => by rw [OpenClaim.pre_eq_preRow]; exact lifted os started H enc F)

theorem plain (f : FuncId) (fn : Func) (hf : Tryz.pinned.checked.prog.funcNamed "stile/stilelaw02.TypesNames" = some f) (hfn : Tryz.pinned.checked.prog.funcs[f]? = some fn) :
    true = Tryz.pinned.checked.prog.looks [] ∧ ∀ (j : Nat) t, fn.params[j]? = some t → Tryz.pinned.checked.prog.wantsStandIn t = false := by
  obtain rfl : f = 3 := Option.some.inj ((show Tryz.prog.funcNamed "stile/stilelaw02.TypesNames" = some 3 by kernel_rfl).symm.trans hf) |>.symm
  obtain rfl : fn = Tryz.f3 := (Option.some.inj (Tryz.func3.symm.trans hfn)).symm
  refine ⟨by kernel_rfl, fun j t ht => ?_⟩
  rw [Tryz.params3] at ht
  obtain rfl : t = 3 := by simpa using Array.mem_of_getElem? ht
  exact (show Tryz.prog.wantsStandIn 3 = false by kernel_rfl)

theorem card : Rows.TypesNamesCardSaid :=
  Claim7.holds_tied_plain_at .later [] _ _ _ _ said (fun _ h => by cases h) (by kernel_rfl) (fun _ h => by cases h) typesNames_row_tie rfl ⟨rfl, rfl⟩ (by kernel_rfl) rfl plain (by kernel_rfl)

end Go.Ab.Names

namespace Go.Proofs.YtacjjncmbklplaaGreatDoor
/-- the tied card of TypesNames -/
theorem typesNames_card : Rows.TypesNamesCardSaid := Go.Ab.Names.card
end Go.Proofs.YtacjjncmbklplaaGreatDoor
