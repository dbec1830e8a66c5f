/- TypesLong of the given program answers true for every raw value, every number and both truths, and leaves its arguments as they were (the tied card, first form); the package variables that it names read as their texts lay them when the call begins. Proved through an abstract interpreter of the model's code that is proved sound in the texts beside this one, and the library's contracts for strings.Trim, strings.Repeat and strconv.FormatInt. -/
import Derived.Test.YtacjjncmbklplaaDoorAbD12
import Derived.Test.YtacjjncmbklplaaDoorCards
import Derived.Test.YtacjjncmbklplaaDoorTie
set_option maxRecDepth 1000000
namespace Go.Ab.Long.Long
open Go Go.Ab Go.Ab.Long Go.Proofs Go.Proofs.YtacjjncmbklplaaDoor Go.ChangeShapes Go.WideShapes Go.RowKit

/-- the law's call, for every raw value, every number and both truths -/
theorem walk {W : World} (c n : Int) (s : ByteArray) (t : Bool) (z : Int) (fx : Bool) (hc : (Lit.int .i64 c).wf = true) (hn : (Lit.int .i64 n).wf = true) (hz : (Lit.int .i64 z).wf = true) (hs : s.size ≤ maxLen) (hL : laidMet Tryd.prog Rows.typesLongRow.laid W) :
    Calls Tryd.prog 5 #[.agg #[.int .i64 c, .int .i64 n, .string s, .bool t], .int .i64 z, .bool fx] W fun e w' => e = .returned (.bool true) ∧ Kept W w' := by
  obtain ⟨hc1, hc2⟩ := bounds_i64 hc
  obtain ⟨hn1, hn2⟩ := bounds_i64 hn
  obtain ⟨hz1, hz2⟩ := bounds_i64 hz
  refine law_calls table_ok (law c n s.data.toList t z fx hc1 hc2 hn1 hn2 hz1 hz2 (by rw [← Lib.size_eq]; unfold maxLen at hs; omega) (valOf_form c n s.data.toList t hn1 hn2) []) (glob_ok hL) (.cons (.p ?_) (.cons (.p (.int _ _)) (.cons (.p (.bool _)) .nil)))
  exact .agg (.cons (.int _ _) (.cons (.int _ _) (.cons (.str rfl) (.cons (.bool _) .nil)))) (by simp [Go.Ab.one])

theorem own : ownKnob Tryd.prog.godebug = none := by kernel_rfl

theorem contract (H : Type) (enc : TypeId × Value → H) (W : World) (base : Nat) (args : Array Value) (ds gs : List (DataW H)) (before : List MemPlace)
    (hval : ∀ (j : Nat) t v, Tryd.f5.params[j]? = some t → args[j]? = some v → Value.okWide Tryd.prog W .any base t v)
    (hW : DataW.Whole enc Tryd.prog Tryd.f5.params.toList Rows.typesLongSpec.vars false W args.toList ds gs before) (hL : laidMetH Tryd.prog Rows.typesLongRow.laid W) :
    Calls Tryd.prog 5 args W fun e W' => ∃ v, e = .returned v ∧ Rows.typesLongSpec.post enc Tryd.prog Tryd.f5 false true false false W args v W' := by
  rw [MakeChecks.laidMetH_plain _ _ _ (by kernel_rfl)] at hL
  have hW' := hW
  obtain ⟨p, q, hA0, hV, rfl, hfz, hnd⟩ := hW
  have hA : DataW.TrodAll enc Tryd.prog W 0 (fun _ => true) true Tryd.f5.params.toList args.toList ds p := hA0
  rw [Tryd.params5] at hA hval
  obtain ⟨v0, vs0, d0, ds0, p0, q0, hargs, rfl, rfl, h0, r0⟩ := trodAll_cons hA
  obtain ⟨v1, vs1, d1, ds1, p1, q1, rfl, rfl, rfl, h1, r1⟩ := trodAll_cons r0
  obtain ⟨v2, vs2, d2, ds2, p2, q2, rfl, rfl, rfl, h2, r2⟩ := trodAll_cons r1
  obtain ⟨rfl, rfl, rfl⟩ := trodAll_nil r2
  obtain rfl : args = #[v0, v1, v2] := by cases args; simp_all
  obtain ⟨rfl, rfl⟩ := trodVars_none hV
  obtain ⟨c, n, s, t, rfl, rfl, rfl, hc, hn, hs⟩ := open_raw (hval 0 38 v0 rfl rfl) h0
  obtain ⟨b, rfl, rfl, rfl, hb⟩ := open_int Tryd.underlying3 (hval 1 3 v1 rfl rfl) h1
  obtain ⟨fx, rfl, rfl, rfl⟩ := open_bool Tryd.underlying4 (hval 2 4 v2 rfl rfl) h2
  clear hA0
  simp only [List.append_nil] at hW'
  refine (walk c n s t b fx hc hn hb hs hL).mono fun e W' ⟨he, hg⟩ => ?_
  subst he
  exact ⟨_, rfl, post_of_kept (pa := []) (pv := []) hW' (fun _ _ _ => trodAll_cons_mk (shut_bool Tryd.underlying4 _) trodAll_mk0) (fun _ _ => trodAll_cons_mk (shut_raw hc hn hs) (trodAll_cons_mk (shut_int Tryd.underlying3 hb) (trodAll_cons_mk (shut_bool Tryd.underlying4 _) trodAll_mk0))) (fun _ _ => rfl) rfl
    hg (ok_one (by kernel_rfl) rfl (okWide_bool_mk Tryd.underlying4 _))⟩

noncomputable def start (os : Os) : World := World.laidAll Tryd.prog os Rows.typesLongRow.laid
theorem laid_met (os : Os) : laidMetH Tryd.prog Rows.typesLongRow.laid (((start os).forCall (fun _ _ => 0) ⟨#[], #[.agg #[.int .i64 0, .int .i64 0, .string .empty, .bool false], .int .i64 0, .bool false], []⟩).memory) := by
  rw [MakeChecks.laidMetH_plain _ _ _ (by kernel_rfl)]
  exact laidMet_laidAll _ (by kernel_rfl) (by kernel_rfl)
theorem reads (os : Os) {H : Type} (enc : TypeId × Value → H) : ∃ places, DataW.whole enc Tryd.prog ((start os).forCall (fun _ _ => 0) ⟨#[], #[.agg #[.int .i64 0, .int .i64 0, .string .empty, .bool false], .int .i64 0, .bool false], []⟩).memory Tryd.f5.params.toList Rows.typesLongSpec.vars false #[Value.agg #[.int .i64 0, .int .i64 0, .string .empty, .bool false], Value.int .i64 0, Value.bool false].toList 8 = some ([.agg [.lit (.int .i64 0), .lit (.int .i64 0), .lit (.string []), .lit (.bool false)], .lit (.int .i64 0), .lit (.bool false)], [], places) :=
  ⟨[], by kernel_rfl⟩

theorem lifted (os : Os) (started : os.Started) (H : Type) (enc : TypeId × Value → H) (F : Stop.Interp) :
    ReturnsInHanded {} Tryd.checked os 5 .any ((OpenSpec.ofChange Rows.typesLongSpec).preRow enc Tryd.prog Tryd.f5 Rows.typesLongRow.domain false Rows.typesLongRow.laid) (((OpenSpec.ofChange Rows.typesLongSpec).at F).post enc Tryd.prog Tryd.f5 false true false false) := by
  obtain ⟨places, hx⟩ := reads os enc
  refine returnsInHanded_of_row (C := Tryd.checked) (s := OpenSpec.ofChange Rows.typesLongSpec) own started (by kernel_rfl) Tryd.func5
    (witness_row_atRef (enc := enc) (C := Tryd.checked) false (start os) #[.agg #[.int .i64 0, .int .i64 0, .string .empty, .bool false], .int .i64 0, .bool false] (World.laidAll_os _ _ _) (by kernel_rfl) (by kernel_rfl) (by kernel_rfl)
      (OpenSpec.preRow_of_cond 8 hx (by kernel_rfl) (fun k hk => by cases hk) (by kernel_rfl) (laid_met os))) ?_
  intro W base args ds gs before hval hW _ _ _ hL _ _
  exact contract H enc W base args ds gs before hval hW hL

theorem said : Rows.TypesLongSaid :=
  OpenClaim.holds_of_cond 5 Tryd.f5 rfl rfl rfl rfl rfl rfl rfl ⟨rfl, rfl, rfl, rfl, rfl⟩ rfl rfl rfl rfl rfl (by kernel_rfl) Tryd.func5 (by kernel_rfl)
    (of_decide_eq_true (by kernel_rfl)) (by unfold Func.isWrapper; first | (rw [if_pos (by decide +kernel)]; kernel_rfl) | (rw [if_neg (by decide +kernel)]; exact ⟨rfl, rfl⟩))
    (fun os started H enc _ F => by rw [OpenClaim.pre_eq_preRow]; exact lifted os started H enc F)

theorem plain (f : FuncId) (fn : Func) (hf : Tryd.pinned.checked.prog.funcNamed "stile/stilelaw02.TypesLong" = some f) (hfn : Tryd.pinned.checked.prog.funcs[f]? = some fn) :
    true = Tryd.pinned.checked.prog.looks [] ∧ ∀ (j : Nat) t, fn.params[j]? = some t → Tryd.pinned.checked.prog.wantsStandIn t = false := by
  obtain rfl : f = 5 := Option.some.inj ((show Tryd.prog.funcNamed "stile/stilelaw02.TypesLong" = some 5 by kernel_rfl).symm.trans hf) |>.symm
  obtain rfl : fn = Tryd.f5 := (Option.some.inj (Tryd.func5.symm.trans hfn)).symm
  refine ⟨by kernel_rfl, fun j t ht => ?_⟩
  rw [Tryd.params5] at ht
  have : t = 38 ∨ t = 3 ∨ t = 4 := by
    have := Array.mem_of_getElem? ht
    simpa using this
  rcases this with rfl | rfl | rfl
  · exact (show Tryd.prog.wantsStandIn 38 = false by kernel_rfl)
  · exact (show Tryd.prog.wantsStandIn 3 = false by kernel_rfl)
  · exact (show Tryd.prog.wantsStandIn 4 = false by kernel_rfl)

theorem card : Rows.TypesLongCardSaid :=
  Claim7.holds_tied_plain_at .later [] _ _ _ _ said (fun _ h => by cases h) (by kernel_rfl) (fun _ h => by cases h) typesLong_row_tie rfl ⟨rfl, rfl⟩ (by kernel_rfl) rfl plain (by kernel_rfl)

end Go.Ab.Long.Long

namespace Go.Proofs.YtacjjncmbklplaaDoor
/-- the tied card of TypesLong -/
theorem typesLong_card : Rows.TypesLongCardSaid := Go.Ab.Long.Long.card
end Go.Proofs.YtacjjncmbklplaaDoor
