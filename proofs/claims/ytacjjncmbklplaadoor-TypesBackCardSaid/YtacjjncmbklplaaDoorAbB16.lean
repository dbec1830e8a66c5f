/- TypesBack of the given program answers true for every number, truth, size and form, and leaves its argument as it was (the tied card, first form); the package variables that it names read as their texts lay them when the call begins. Proved through an abstract interpreter of the model's code that is proved sound in the texts beside this one, and the library's contracts for strings.Trim, strings.Repeat, strconv.FormatInt and strconv.ParseInt. -/
import Derived.Test.YtacjjncmbklplaaDoorAbB15
import Derived.Test.YtacjjncmbklplaaDoorCards
import Derived.Test.YtacjjncmbklplaaDoorTie
set_option maxRecDepth 1000000
namespace Go.Ab.Back.Back
open Go Go.Ab Go.Ab.Back Go.Proofs Go.Proofs.YtacjjncmbklplaaDoor Go.ChangeShapes Go.WideShapes Go.RowKit

def baseZ (fixed : Bool) : Int := if fixed then 4 else 5
theorem padR_fits (b sz : Int) (u : List UInt8) (h : (u.length : Int) ≤ sz) : padR b sz u = [val 2 0 (padB b sz u) false, done] := if_pos h
theorem law (n z : Int) (t fx : Bool) (hn1 : -9223372036854775808 ≤ n) (hn2 : n ≤ 9223372036854775807) (hz1 : -9223372036854775808 ≤ z) (hz2 : z ≤ 9223372036854775807) (σ : Heap) :
    (cAt TB 100 14).1 3 [.p (.agg [.int .i64 n, .bool t, .int .i64 z, .bool fx])] σ = some (.ret (.p (.bool true)), σ) := by
  refine call_ans (ps := [.agg [.int .i64 n, .bool t, .int .i64 z, .bool fx]]) (n := 13) (af := lit3) (fz := true) rfl (by kernel_rfl) ?_ σ
  have hl := lenZ_of z
  have hb : baseZ fx = 4 ∨ baseZ fx = 5 := by unfold baseZ; cases fx <;> simp
  have h8 := alive7 0 1
  have h7 := num28 n 100 12
  have h6a := cast6 (baseZ fx) (lenZ z) 1 n [] false (.inr (.inl ⟨rfl, rfl, rfl⟩)) hb (by omega) hl.2 hn1 hn2 (by simp) 100 8
  have e1 : castT (baseZ fx) (lenZ z) 1 n [] false = [val 2 0 (padB (baseZ fx) (lenZ z) (Lib.itoa n)) false, done] := by
    unfold castT
    rw [if_neg (by decide), if_pos rfl]
    exact padR_fits _ _ _ (by have := itoa_len n hn1 hn2; omega)
  rw [e1] at h6a
  have h6b := castN (baseZ fx) (lenZ z) n hn1 hn2 hl.2 100 9
  have h6c := cast6 (baseZ fx) (lenZ z) 3 0 [] t (.inr (.inr (.inr ⟨rfl, rfl, rfl⟩))) hb (by omega) hl.2 (by omega) (by omega) (by simp) 100 8
  have e2 : castT (baseZ fx) (lenZ z) 3 0 [] t = [val 2 0 (padB (baseZ fx) (lenZ z) (if t then [84, 82, 85, 69] else [70, 65, 76, 83, 69])) false, done] := by
    unfold castT
    rw [if_neg (by decide), if_neg (by decide), if_neg (by decide)]
    cases t
    · exact padR_fits _ _ _ (by simp; omega)
    · exact padR_fits _ _ _ (by simp; omega)
  rw [e2] at h6c
  have h6d := castB (baseZ fx) (lenZ z) t hl.2 0 8
  cases fx
  · exact law3_false _ _ 100 n z (lenZ z) t hz1 hz2 rfl _ _ h8 h7 h6a h6b h6c h6d
  · exact law3_true _ _ 100 n z (lenZ z) t hz1 hz2 rfl _ _ h8 h7 h6a h6b h6c h6d
/-- the law's call, for every number, truth, size and form -/
theorem walk {W : World} (n : Int) (t : Bool) (z : Int) (fx : Bool) (hn : (Lit.int .i64 n).wf = true) (hz : (Lit.int .i64 z).wf = true) (hL : laidMet Tryd.prog Rows.typesBackRow.laid W) :
    Calls Tryd.prog 3 #[.agg #[.int .i64 n, .bool t, .int .i64 z, .bool fx]] W fun e w' => e = .returned (.bool true) ∧ Kept W w' := by
  obtain ⟨hn1, hn2⟩ := bounds_i64 hn
  obtain ⟨hz1, hz2⟩ := bounds_i64 hz
  refine law_calls table_ok (law n z t fx hn1 hn2 hz1 hz2 []) (glob_ok hL) (.cons (.p ?_) .nil)
  exact .agg (.cons (.int _ _) (.cons (.bool _) (.cons (.int _ _) (.cons (.bool _) .nil)))) (by simp [Go.Ab.one])

theorem own : ownKnob Tryd.prog.godebug = none := by kernel_rfl

theorem contract (H : Type) (enc : TypeId × Value → H) (W : World) (base : Nat) (args : Array Value) (ds gs : List (DataW H)) (before : List MemPlace)
    (hval : ∀ (j : Nat) t v, Tryd.f3.params[j]? = some t → args[j]? = some v → Value.okWide Tryd.prog W .any base t v)
    (hW : DataW.Whole enc Tryd.prog Tryd.f3.params.toList Rows.typesBackSpec.vars false W args.toList ds gs before) (hL : laidMetH Tryd.prog Rows.typesBackRow.laid W) :
    Calls Tryd.prog 3 args W fun e W' => ∃ v, e = .returned v ∧ Rows.typesBackSpec.post enc Tryd.prog Tryd.f3 false true false false W args v W' := by
  rw [MakeChecks.laidMetH_plain _ _ _ (by kernel_rfl)] at hL
  have hW' := hW
  obtain ⟨p, q, hA0, hV, rfl, hfz, hnd⟩ := hW
  have hA : DataW.TrodAll enc Tryd.prog W 0 (fun _ => true) true Tryd.f3.params.toList args.toList ds p := hA0
  rw [Tryd.params3] at hA hval
  obtain ⟨v0, vs0, d0, ds0, p0, q0, hargs, rfl, rfl, h0, r0⟩ := trodAll_cons hA
  obtain ⟨rfl, rfl, rfl⟩ := trodAll_nil r0
  obtain rfl : args = #[v0] := by cases args; simp_all
  obtain ⟨rfl, rfl⟩ := trodVars_none hV
  obtain ⟨n, t, z, fx, rfl, rfl, rfl, hn, hz⟩ := open_there (hval 0 23 v0 rfl rfl) h0
  clear hA0
  simp only [List.append_nil] at hW'
  refine (walk n t z fx hn hz hL).mono fun e W' ⟨he, hg⟩ => ?_
  subst he
  exact ⟨_, rfl, post_of_kept (pa := []) (pv := []) hW' (fun _ _ _ => trodAll_cons_mk (shut_bool Tryd.underlying4 _) trodAll_mk0) (fun _ _ => trodAll_cons_mk (shut_there hn hz) trodAll_mk0) (fun _ _ => rfl) rfl
    hg (ok_one (by kernel_rfl) rfl (okWide_bool_mk Tryd.underlying4 _))⟩

noncomputable def start (os : Os) : World := World.laidAll Tryd.prog os Rows.typesBackRow.laid
theorem laid_met (os : Os) : laidMetH Tryd.prog Rows.typesBackRow.laid (((start os).forCall (fun _ _ => 0) ⟨#[], #[.agg #[.int .i64 0, .bool false, .int .i64 0, .bool false]], []⟩).memory) := by
  rw [MakeChecks.laidMetH_plain _ _ _ (by kernel_rfl)]
  exact laidMet_laidAll _ (by kernel_rfl) (by kernel_rfl)
theorem reads (os : Os) {H : Type} (enc : TypeId × Value → H) : ∃ places, DataW.whole enc Tryd.prog ((start os).forCall (fun _ _ => 0) ⟨#[], #[.agg #[.int .i64 0, .bool false, .int .i64 0, .bool false]], []⟩).memory Tryd.f3.params.toList Rows.typesBackSpec.vars false #[Value.agg #[.int .i64 0, .bool false, .int .i64 0, .bool false]].toList 8 = some ([.agg [.lit (.int .i64 0), .lit (.bool false), .lit (.int .i64 0), .lit (.bool false)]], [], places) :=
  ⟨[], by kernel_rfl⟩

theorem lifted (os : Os) (started : os.Started) (H : Type) (enc : TypeId × Value → H) (F : Stop.Interp) :
    ReturnsInHanded {} Tryd.checked os 3 .any ((OpenSpec.ofChange Rows.typesBackSpec).preRow enc Tryd.prog Tryd.f3 Rows.typesBackRow.domain false Rows.typesBackRow.laid) (((OpenSpec.ofChange Rows.typesBackSpec).at F).post enc Tryd.prog Tryd.f3 false true false false) := by
  obtain ⟨places, hx⟩ := reads os enc
  refine returnsInHanded_of_row (C := Tryd.checked) (s := OpenSpec.ofChange Rows.typesBackSpec) own started (by kernel_rfl) Tryd.func3
    (witness_row_atRef (enc := enc) (C := Tryd.checked) false (start os) #[.agg #[.int .i64 0, .bool false, .int .i64 0, .bool false]] (World.laidAll_os _ _ _) (by kernel_rfl) (by kernel_rfl) (by kernel_rfl)
      (OpenSpec.preRow_of_cond 8 hx (by kernel_rfl) (fun k hk => by cases hk) (by kernel_rfl) (laid_met os))) ?_
  intro W base args ds gs before hval hW _ _ _ hL _ _
  exact contract H enc W base args ds gs before hval hW hL

theorem said : Rows.TypesBackSaid :=
  OpenClaim.holds_of_cond 3 Tryd.f3 rfl rfl rfl rfl rfl rfl rfl ⟨rfl, rfl, rfl, rfl, rfl⟩ rfl rfl rfl rfl rfl (by kernel_rfl) Tryd.func3 (by kernel_rfl)
    (of_decide_eq_true (by kernel_rfl)) (by unfold Func.isWrapper; first | (rw [if_pos (by decide +kernel)]; kernel_rfl) | (rw [if_neg (by decide +kernel)]; exact ⟨rfl, rfl⟩))
    (fun os started H enc _ F => by rw [OpenClaim.pre_eq_preRow]; exact lifted os started H enc F)

theorem plain (f : FuncId) (fn : Func) (hf : Tryd.pinned.checked.prog.funcNamed "stile/stilelaw02.TypesBack" = some f) (hfn : Tryd.pinned.checked.prog.funcs[f]? = some fn) :
    true = Tryd.pinned.checked.prog.looks [] ∧ ∀ (j : Nat) t, fn.params[j]? = some t → Tryd.pinned.checked.prog.wantsStandIn t = false := by
  obtain rfl : f = 3 := Option.some.inj ((show Tryd.prog.funcNamed "stile/stilelaw02.TypesBack" = some 3 by kernel_rfl).symm.trans hf) |>.symm
  obtain rfl : fn = Tryd.f3 := (Option.some.inj (Tryd.func3.symm.trans hfn)).symm
  refine ⟨by kernel_rfl, fun j t ht => ?_⟩
  rw [Tryd.params3] at ht
  obtain rfl : t = 23 := by
    have := Array.mem_of_getElem? ht
    simpa using this
  exact (show Tryd.prog.wantsStandIn 23 = false by kernel_rfl)

theorem card : Rows.TypesBackCardSaid :=
  Claim7.holds_tied_plain_at .later [] _ _ _ _ said (fun _ h => by cases h) (by kernel_rfl) (fun _ h => by cases h) typesBack_row_tie rfl ⟨rfl, rfl⟩ (by kernel_rfl) rfl plain (by kernel_rfl)

end Go.Ab.Back.Back

namespace Go.Proofs.YtacjjncmbklplaaDoor
/-- the tied card of TypesBack -/
theorem typesBack_card : Rows.TypesBackCardSaid := Go.Ab.Back.Back.card
end Go.Proofs.YtacjjncmbklplaaDoor
