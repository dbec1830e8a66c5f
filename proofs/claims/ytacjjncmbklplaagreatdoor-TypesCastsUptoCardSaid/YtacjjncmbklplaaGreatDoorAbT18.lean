/- TypesCasts of the given program answers true for every raw value and every two numbers, their bulk at most 1048576, and leaves its arguments as they were (the tied card, second form); the package variables that it names read as their texts lay them when the call begins. Proved through an abstract interpreter of the model's code that is proved sound in the texts beside this one. -/
import Derived.Test.YtacjjncmbklplaaGreatDoorAbT17
import Derived.Test.YtacjjncmbklplaaGreatDoorCards
import Derived.Test.YtacjjncmbklplaaGreatDoorTie
set_option linter.unusedSectionVars false
set_option linter.unusedSimpArgs false
set_option linter.unusedVariables false
set_option maxRecDepth 1000000
namespace Go.Ab.Cols.Casts
open Go Go.Ab Go.Ab.Cols Go.Proofs Go.Proofs.YtacjjncmbklplaaGreatDoor Go.ChangeShapes Go.WideShapes Go.RowKit

theorem castZ_ans (b sz k n : Int) (s : List UInt8) (t : Bool) : IsAns (castZ b sz k n s t) := by
  unfold castZ
  repeat (first | exact ⟨_, _, _, _, _, rfl⟩ | exact padR_ans _ _ _ | exact assignZ_ans _ _ _ _ _ _ | exact truthZ_ans _ | exact numZ_ans _ _ | split)
theorem law (c n : Int) (s : List UInt8) (t : Bool) (b sz : Int) (hc1 : -9223372036854775808 ≤ c) (hc2 : c ≤ 9223372036854775807) (hn1 : -9223372036854775808 ≤ n) (hn2 : n ≤ 9223372036854775807) (hs : s.length ≤ 1048576) (σ : Heap) :
    (cAt TC (1048600 + 102) 14).1 5 [.p (raw c n s t), .p (.int .i64 b), .p (.int .i64 sz)] σ = some (.ret (.p (.bool true)), σ) := by
  refine call_ans (ps := [raw c n s t, .int .i64 b, .int .i64 sz]) (n := 13) (af := lit5) (fz := true) rfl (by kernel_rfl) ?_ σ
  obtain ⟨k, m, x, u, hv, hk, m1, m2, hx⟩ := valOf_form c n s t hn1 hn2
  have h7 := alive7 1048602 1
  have h15 := value15 c n s t hc1 hc2 (1048600 + 102) 11
  have h17 := cast17 b sz k m x u hk m1 m2 (by omega) (1048600 + 102) 8 (by omega)
  have h18 := cast18 b sz k m x u hk m1 m2 (by omega) 1048600 7 (by omega)
  rw [hv] at h15
  obtain ⟨a, q, y, e, v, hz⟩ := castZ_ans b sz k m x u
  rw [hz] at h17 h18
  exact law5 _ _ _ b sz _ _ _ _ _ _ _ _ a q y e v h7 h15 h17 h18
/-- the law's call, for every raw value and every two numbers -/
theorem walk {W : World} (c n : Int) (s : ByteArray) (t : Bool) (b sz : Int) (hc : (Lit.int .i64 c).wf = true) (hn : (Lit.int .i64 n).wf = true) (hs : s.size ≤ 1048576) (hL : laidMet Tryz.prog Rows.typesCastsUptoRow.laid W) :
    Calls Tryz.prog 5 #[.agg #[.int .i64 c, .int .i64 n, .string s, .bool t], .int .i64 b, .int .i64 sz] W fun e w' => e = .returned (.bool true) ∧ Kept W w' := by
  obtain ⟨hc1, hc2⟩ := bounds_i64 hc
  obtain ⟨hn1, hn2⟩ := bounds_i64 hn
  refine law_calls table_ok (law c n s.data.toList t b sz hc1 hc2 hn1 hn2 (by rw [← Lib.size_eq]; exact hs) []) (Names.glob_ok hL) (.cons (.p ?_) (.cons (.p (.int _ _)) (.cons (.p (.int _ _)) .nil)))
  exact .agg (.cons (.int _ _) (.cons (.int _ _) (.cons (.str rfl) (.cons (.bool _) .nil)))) (by simp [one])

theorem own : ownKnob Tryz.prog.godebug = none := by kernel_rfl

theorem contract (H : Type) (enc : TypeId × Value → H) (W : World) (base : Nat) (args : Array Value) (ds gs : List (DataW H)) (before : List MemPlace)
    (hval : ∀ (j : Nat) t v, Tryz.f5.params[j]? = some t → args[j]? = some v → Value.okWide Tryz.prog W .any base t v)
    (hW : DataW.Whole enc Tryz.prog Tryz.f5.params.toList Rows.typesCastsSpec.vars false W args.toList ds gs before) (hL : laidMetH Tryz.prog Rows.typesCastsUptoRow.laid W) (hcond : Rows.uptoSmall H (ds ++ gs) = true) :
    Calls Tryz.prog 5 args W fun e W' => ∃ v, e = .returned v ∧ Rows.typesCastsSpec.post enc Tryz.prog Tryz.f5 false true false false W args v W' := by
  rw [MakeChecks.laidMetH_plain _ _ _ (by kernel_rfl)] at hL
  have hW' := hW
  obtain ⟨p, q, hA0, hV, rfl, hfz, hnd⟩ := hW
  have hA : DataW.TrodAll enc Tryz.prog W 0 (fun _ => true) true Tryz.f5.params.toList args.toList ds p := hA0
  rw [Tryz.params5] at hA hval
  obtain ⟨v0, vs0, d0, ds0, p0, q0, hargs, rfl, rfl, h0, r0⟩ := trodAll_cons hA
  obtain ⟨v1, vs1, d1, ds1, p1, q1, rfl, rfl, rfl, h1, r1⟩ := trodAll_cons r0
  obtain ⟨v2, vs2, d2, ds2, p2, q2, rfl, rfl, rfl, h2, r2⟩ := trodAll_cons r1
  obtain ⟨rfl, rfl, rfl⟩ := trodAll_nil r2
  obtain rfl : args = #[v0, v1, v2] := by cases args; simp_all
  obtain ⟨rfl, rfl⟩ := trodVars_none hV
  obtain ⟨c, n, s, t, rfl, rfl, rfl, hc, hn, hs⟩ := open_raw (hval 0 32 v0 rfl rfl) h0
  obtain ⟨b, rfl, rfl, rfl, hb⟩ := open_int Tryz.underlying3 (hval 1 3 v1 rfl rfl) h1
  obtain ⟨m, rfl, rfl, rfl, hm⟩ := open_int Tryz.underlying3 (hval 2 3 v2 rfl rfl) h2
  clear hA0
  simp only [List.append_nil] at hW'
  have hsm : s.size ≤ 1048576 := by
    simp only [Rows.uptoSmall, List.append_nil, decide_eq_true_eq] at hcond
    simp [Rows.uptoBulkAll, Rows.uptoBulk] at hcond
    omega
  refine (walk c n s t b m hc hn hsm hL).mono fun e W' ⟨he, hg⟩ => ?_
  subst he
  exact ⟨_, rfl, post_of_kept (pa := []) (pv := []) hW' (fun _ _ _ => trodAll_cons_mk (shut_bool Tryz.underlying4 _) trodAll_mk0) (fun _ _ => trodAll_cons_mk (shut_raw hc hn hs) (trodAll_cons_mk (shut_int Tryz.underlying3 hb) (trodAll_cons_mk (shut_int Tryz.underlying3 hm) trodAll_mk0))) (fun _ _ => rfl) rfl
    hg (ok_one (by kernel_rfl) rfl (okWide_bool_mk Tryz.underlying4 _))⟩

abbrev input : Array Value := #[.agg #[.int .i64 0, .int .i64 0, .string .empty, .bool false], .int .i64 0, .int .i64 0]
noncomputable def start (os : Os) : World := World.laidAll Tryz.prog os Rows.typesCastsUptoRow.laid
theorem laid_met (os : Os) : laidMetH Tryz.prog Rows.typesCastsUptoRow.laid (((start os).forCall (fun _ _ => 0) ⟨#[], #[.agg #[.int .i64 0, .int .i64 0, .string .empty, .bool false], .int .i64 0, .int .i64 0], []⟩).memory) := by
  rw [MakeChecks.laidMetH_plain _ _ _ (by kernel_rfl)]
  exact laidMet_laidAll _ (by kernel_rfl) (by kernel_rfl)
theorem reads (os : Os) {H : Type} (enc : TypeId × Value → H) : ∃ ds places, DataW.whole enc Tryz.prog ((start os).forCall (fun _ _ => 0) ⟨#[], input, []⟩).memory Tryz.f5.params.toList Rows.typesCastsSpec.vars false input.toList 8 = some (ds, [], places) ∧ Rows.uptoSmall H (ds ++ []) = true :=
  ⟨[.agg [.lit (.int .i64 0), .lit (.int .i64 0), .lit (.string []), .lit (.bool false)], .lit (.int .i64 0), .lit (.int .i64 0)], [], by kernel_rfl, by kernel_rfl⟩

theorem lifted (os : Os) (started : os.Started) (H : Type) (enc : TypeId × Value → H) (F : Stop.Interp) :
    ReturnsInHanded {} Tryz.checked os 5 .any ((Rows.OpenSpec.upto Rows.typesCastsSpec).preRow enc Tryz.prog Tryz.f5 Rows.typesCastsUptoRow.domain false Rows.typesCastsUptoRow.laid) (((Rows.OpenSpec.upto Rows.typesCastsSpec).at F).post enc Tryz.prog Tryz.f5 false true false false) := by
  obtain ⟨ds, places, hx, hsm⟩ := reads os enc
  refine returnsInHanded_of_row (C := Tryz.checked) (s := Rows.OpenSpec.upto Rows.typesCastsSpec) own started (by kernel_rfl) Tryz.func5
    (witness_row_atRef (enc := enc) (C := Tryz.checked) false (start os) input (World.laidAll_os _ _ _) (by kernel_rfl) (by kernel_rfl) (by kernel_rfl)
      (OpenSpec.preRow_of_cond 8 hx (by kernel_rfl) (fun k hk => by cases hk; exact hsm) (by kernel_rfl) (laid_met os))) ?_
  intro W base args ds gs before hval hW _ hcond _ hL _ _
  exact contract H enc W base args ds gs before hval hW hL (hcond _ rfl)

theorem said : Rows.TypesCastsUptoSaid :=
  OpenClaim.holds_of_cond 5 Tryz.f5 rfl rfl rfl rfl rfl rfl rfl ⟨rfl, rfl, rfl, rfl, rfl⟩ rfl rfl rfl rfl rfl (by kernel_rfl) Tryz.func5 (by kernel_rfl)
    (of_decide_eq_true (by kernel_rfl)) (by unfold Func.isWrapper; first | (rw [if_pos (by decide +kernel)]; kernel_rfl) | (rw [if_neg (by decide +kernel)]; exact ⟨rfl, rfl⟩))
    (fun os started H enc _ F => by rw [OpenClaim.pre_eq_preRow]; exact lifted os started H enc F)

theorem plain (f : FuncId) (fn : Func) (hf : Tryz.pinned.checked.prog.funcNamed "stile/stilelaw02.TypesCasts" = some f) (hfn : Tryz.pinned.checked.prog.funcs[f]? = some fn) :
    true = Tryz.pinned.checked.prog.looks [] ∧ ∀ (j : Nat) t, fn.params[j]? = some t → Tryz.pinned.checked.prog.wantsStandIn t = false := by
  obtain rfl : f = 5 := Option.some.inj ((show Tryz.prog.funcNamed "stile/stilelaw02.TypesCasts" = some 5 by kernel_rfl).symm.trans hf) |>.symm
  obtain rfl : fn = Tryz.f5 := (Option.some.inj (Tryz.func5.symm.trans hfn)).symm
  refine ⟨by kernel_rfl, fun j t ht => ?_⟩
  rw [Tryz.params5] at ht
  have : t = 32 ∨ t = 3 := by
    have := Array.mem_of_getElem? ht
    simpa using this
  rcases this with rfl | rfl
  · exact (show Tryz.prog.wantsStandIn 32 = false by kernel_rfl)
  · exact (show Tryz.prog.wantsStandIn 3 = false by kernel_rfl)

theorem card : Rows.TypesCastsUptoCardSaid :=
  Claim7.holds_tied_plain_at .later [] _ _ _ _ said (fun _ h => by cases h) (by kernel_rfl) (fun _ h => by cases h) typesCastsUpto_row_tie rfl ⟨rfl, rfl⟩ (by kernel_rfl) rfl plain (by kernel_rfl)

end Go.Ab.Cols.Casts

namespace Go.Proofs.YtacjjncmbklplaaGreatDoor
/-- the tied card of TypesCasts, second form -/
theorem typesCasts_card : Rows.TypesCastsUptoCardSaid := Go.Ab.Cols.Casts.card
end Go.Proofs.YtacjjncmbklplaaGreatDoor
