/- TypesFixed of the given program answers true for every raw value and every two numbers and leaves its arguments as they were (the tied card, first form); the package variables that it names read as their texts lay them when the call begins. Proved through an abstract interpreter of the model's code that is proved sound in the texts beside this one, and the library's contracts for strings.Trim, strings.TrimRight, strings.Repeat and strings.Compare. -/
import Derived.Test.YtacjjncmbklplaaGreatDoorAbS14
import Derived.Test.YtacjjncmbklplaaGreatDoorAbS19
import Derived.Test.YtacjjncmbklplaaGreatDoorCards
import Derived.Test.YtacjjncmbklplaaGreatDoorTie
set_option maxRecDepth 1000000
namespace Go.Ab.Cols.Fixed
open Go Go.Ab Go.Ab.Cols Go.Proofs Go.Proofs.YtacjjncmbklplaaGreatDoor Go.ChangeShapes Go.WideShapes Go.RowKit

theorem law (c n : Int) (s : List UInt8) (t : Bool) (b sz : Int) (hc1 : -9223372036854775808 ≤ c) (hc2 : c ≤ 9223372036854775807) (hn1 : -9223372036854775808 ≤ n) (hn2 : n ≤ 9223372036854775807) (hs : s.length ≤ 9223372036854775807) (σ : Heap) :
    (cAt TC 100 14).1 6 [.p (raw c n s t), .p (.int .i64 b), .p (.int .i64 sz)] σ = some (.ret (.p (.bool true)), σ) := by
  refine call_ans (ps := [raw c n s t, .int .i64 b, .int .i64 sz]) (n := 13) (af := lit6) (fz := true) rfl (by kernel_rfl) ?_ σ
  obtain ⟨k, m, x, u, hv, hk, m1, m2, hx⟩ := valOf_form c n s t hn1 hn2
  have h7 := alive7 0 1
  have h15 := value15 c n s t hc1 hc2 100 11
  have h14 := assign14 b sz k m x u hk m1 m2 (by omega) 100 9
  rw [hv] at h15
  rcases fixed b sz k m x u hk with ⟨e, hz, he⟩ | ⟨n2, s2, t2, hz, hv2, hkk, h0, hf, f1, f3, f2⟩
  · rw [hz] at h14
    exact law6_bad _ _ 100 b sz _ _ _ _ _ _ _ _ e he h7 h15 h14
  · rw [hz] at h14
    have hk4 : k = 0 ∨ k = 1 ∨ k = 2 ∨ k = 3 := by
      rcases hv2 with ⟨h, _⟩ | ⟨h, _⟩ | ⟨h, _⟩ | ⟨h, _⟩
      · exact .inl h
      · exact .inr (.inl h)
      · exact .inr (.inr (.inl h))
      · exact .inr (.inr (.inr h))
    have hn : -9223372036854775808 ≤ n2 ∧ n2 ≤ 9223372036854775807 := by
      rcases hv2 with ⟨_, h, _⟩ | ⟨h, _⟩ | ⟨_, h, _⟩ | ⟨_, h, _⟩
      · omega
      · have := f1 h
        omega
      · omega
      · omega
    have hl : s2.length ≤ 9223372036854775807 := by
      rcases hv2 with ⟨_, _, h, _⟩ | ⟨_, h, _⟩ | ⟨h, _⟩ | ⟨_, _, h⟩
      · rw [h]; simp
      · rw [h]; simp
      · have := f2 h
        omega
      · rw [h]; simp
    have h14' := assign14 b sz k n2 s2 t2 hv2 hn.1 hn.2 hl 100 9
    rw [hf] at h14'
    have h17 := cast17 b sz k n2 s2 t2 hv2 hn.1 hn.2 hl hkk h0 hf (fun h => (f2 h).2) 100 8
    have h19 := right19 k n2 s2 t2 hv2 100 11
    have h20 := order20 k n2 m s2 x t2 u hk4 hl (by omega) f1 f3 (fun h => (f2 h).1) 100 10
    by_cases hk0 : k = 0
    · subst hk0
      exact law6_null _ _ 100 b sz _ _ _ _ _ _ _ _ n2 s2 t2 h7 h15 h14 h14' h17 h19 h20
    · have h12 := kind12 b sz 100 11
      rw [← hkk.resolve_left hk0] at h12
      exact law6_some _ _ 100 b sz _ _ _ _ _ _ _ _ k (by simp [hk0]) n2 s2 t2 h7 h15 h14 h14' h17 h12 h19 h20
/-- the law's call, for every raw value and every two numbers -/
theorem walk {W : World} (c n : Int) (s : ByteArray) (t : Bool) (b sz : Int) (hc : (Lit.int .i64 c).wf = true) (hn : (Lit.int .i64 n).wf = true) (hs : s.size ≤ maxLen) (hL : laidMet Tryz.prog Rows.typesFixedRow.laid W) :
    Calls Tryz.prog 6 #[.agg #[.int .i64 c, .int .i64 n, .string s, .bool t], .int .i64 b, .int .i64 sz] W fun e w' => e = .returned (.bool true) ∧ Kept W w' := by
  obtain ⟨hc1, hc2⟩ := bounds_i64 hc
  obtain ⟨hn1, hn2⟩ := bounds_i64 hn
  refine law_calls table_ok (law c n s.data.toList t b sz hc1 hc2 hn1 hn2 (by rw [← Lib.size_eq]; unfold maxLen at hs; omega) []) (Names.glob_ok hL) (.cons (.p ?_) (.cons (.p (.int _ _)) (.cons (.p (.int _ _)) .nil)))
  exact .agg (.cons (.int _ _) (.cons (.int _ _) (.cons (.str rfl) (.cons (.bool _) .nil)))) (by simp [one])

theorem own : ownKnob Tryz.prog.godebug = none := by kernel_rfl

theorem contract (H : Type) (enc : TypeId × Value → H) (W : World) (base : Nat) (args : Array Value) (ds gs : List (DataW H)) (before : List MemPlace)
    (hval : ∀ (j : Nat) t v, Tryz.f6.params[j]? = some t → args[j]? = some v → Value.okWide Tryz.prog W .any base t v)
    (hW : DataW.Whole enc Tryz.prog Tryz.f6.params.toList Rows.typesFixedSpec.vars false W args.toList ds gs before) (hL : laidMetH Tryz.prog Rows.typesFixedRow.laid W) :
    Calls Tryz.prog 6 args W fun e W' => ∃ v, e = .returned v ∧ Rows.typesFixedSpec.post enc Tryz.prog Tryz.f6 false true false false W args v W' := by
  rw [MakeChecks.laidMetH_plain _ _ _ (by kernel_rfl)] at hL
  have hW' := hW
  obtain ⟨p, q, hA0, hV, rfl, hfz, hnd⟩ := hW
  have hA : DataW.TrodAll enc Tryz.prog W 0 (fun _ => true) true Tryz.f6.params.toList args.toList ds p := hA0
  rw [Tryz.params6] at hA hval
  obtain ⟨v0, vs0, d0, ds0, p0, q0, hargs, rfl, rfl, h0, r0⟩ := trodAll_cons hA
  obtain ⟨v1, vs1, d1, ds1, p1, q1, rfl, rfl, rfl, h1, r1⟩ := trodAll_cons r0
  obtain ⟨v2, vs2, d2, ds2, p2, q2, rfl, rfl, rfl, h2, r2⟩ := trodAll_cons r1
  obtain ⟨rfl, rfl, rfl⟩ := trodAll_nil r2
  obtain rfl : args = #[v0, v1, v2] := by cases args; simp_all
  obtain ⟨rfl, rfl⟩ := trodVars_none hV
  obtain ⟨c, n, s, t, rfl, rfl, rfl, hc, hn, hs⟩ := open_raw (hval 0 32 v0 rfl rfl) h0
  obtain ⟨b, rfl, rfl, rfl, hb⟩ := open_int Tryz.underlying3 (hval 1 3 v1 rfl rfl) h1
  obtain ⟨m, rfl, rfl, rfl, hm⟩ := open_int Tryz.underlying3 (hval 2 3 v2 rfl rfl) h2
  clear hA0
  simp only [List.append_nil] at hW'
  refine (walk c n s t b m hc hn hs hL).mono fun e W' ⟨he, hg⟩ => ?_
  subst he
  exact ⟨_, rfl, post_of_kept (pa := []) (pv := []) hW' (fun _ _ _ => trodAll_cons_mk (shut_bool Tryz.underlying4 _) trodAll_mk0) (fun _ _ => trodAll_cons_mk (shut_raw hc hn hs) (trodAll_cons_mk (shut_int Tryz.underlying3 hb) (trodAll_cons_mk (shut_int Tryz.underlying3 hm) trodAll_mk0))) (fun _ _ => rfl) rfl
    hg (ok_one (by kernel_rfl) rfl (okWide_bool_mk Tryz.underlying4 _))⟩

noncomputable def start (os : Os) : World := World.laidAll Tryz.prog os Rows.typesFixedRow.laid
theorem laid_met (os : Os) : laidMetH Tryz.prog Rows.typesFixedRow.laid (((start os).forCall (fun _ _ => 0) ⟨#[], #[.agg #[.int .i64 0, .int .i64 0, .string .empty, .bool false], .int .i64 0, .int .i64 0], []⟩).memory) := by
  rw [MakeChecks.laidMetH_plain _ _ _ (by kernel_rfl)]
  exact laidMet_laidAll _ (by kernel_rfl) (by kernel_rfl)
theorem reads (os : Os) {H : Type} (enc : TypeId × Value → H) : ∃ places, DataW.whole enc Tryz.prog ((start os).forCall (fun _ _ => 0) ⟨#[], #[.agg #[.int .i64 0, .int .i64 0, .string .empty, .bool false], .int .i64 0, .int .i64 0], []⟩).memory Tryz.f6.params.toList Rows.typesFixedSpec.vars false #[Value.agg #[.int .i64 0, .int .i64 0, .string .empty, .bool false], Value.int .i64 0, Value.int .i64 0].toList 8 = some ([.agg [.lit (.int .i64 0), .lit (.int .i64 0), .lit (.string []), .lit (.bool false)], .lit (.int .i64 0), .lit (.int .i64 0)], [], places) :=
  ⟨[], by kernel_rfl⟩

theorem lifted (os : Os) (started : os.Started) (H : Type) (enc : TypeId × Value → H) (F : Stop.Interp) :
    ReturnsInHanded {} Tryz.checked os 6 .any ((OpenSpec.ofChange Rows.typesFixedSpec).preRow enc Tryz.prog Tryz.f6 Rows.typesFixedRow.domain false Rows.typesFixedRow.laid) (((OpenSpec.ofChange Rows.typesFixedSpec).at F).post enc Tryz.prog Tryz.f6 false true false false) := by
  obtain ⟨places, hx⟩ := reads os enc
  refine returnsInHanded_of_row (C := Tryz.checked) (s := OpenSpec.ofChange Rows.typesFixedSpec) own started (by kernel_rfl) Tryz.func6
    (witness_row_atRef (enc := enc) (C := Tryz.checked) false (start os) #[.agg #[.int .i64 0, .int .i64 0, .string .empty, .bool false], .int .i64 0, .int .i64 0] (World.laidAll_os _ _ _) (by kernel_rfl) (by kernel_rfl) (by kernel_rfl)
      (OpenSpec.preRow_of_cond 8 hx (by kernel_rfl) (fun k hk => by cases hk) (by kernel_rfl) (laid_met os))) ?_
  intro W base args ds gs before hval hW _ _ _ hL _ _
  exact contract H enc W base args ds gs before hval hW hL

theorem said : Rows.TypesFixedSaid :=
  OpenClaim.holds_of_cond 6 Tryz.f6 rfl rfl rfl rfl rfl rfl rfl ⟨rfl, rfl, rfl, rfl, rfl⟩ rfl rfl rfl rfl rfl (by kernel_rfl) Tryz.func6 (by kernel_rfl)
    (of_decide_eq_true (by kernel_rfl)) (by unfold Func.isWrapper; first | (rw [if_pos (by decide +kernel)]; kernel_rfl) | (rw [if_neg (by decide +kernel)]; exact ⟨rfl, rfl⟩))
    (fun os started H enc _ F => by rw [OpenClaim.pre_eq_preRow]; exact lifted os started H enc F)

theorem plain (f : FuncId) (fn : Func) (hf : Tryz.pinned.checked.prog.funcNamed "stile/stilelaw02.TypesFixed" = some f) (hfn : Tryz.pinned.checked.prog.funcs[f]? = some fn) :
    true = Tryz.pinned.checked.prog.looks [] ∧ ∀ (j : Nat) t, fn.params[j]? = some t → Tryz.pinned.checked.prog.wantsStandIn t = false := by
  obtain rfl : f = 6 := Option.some.inj ((show Tryz.prog.funcNamed "stile/stilelaw02.TypesFixed" = some 6 by kernel_rfl).symm.trans hf) |>.symm
  obtain rfl : fn = Tryz.f6 := (Option.some.inj (Tryz.func6.symm.trans hfn)).symm
  refine ⟨by kernel_rfl, fun j t ht => ?_⟩
  rw [Tryz.params6] at ht
  have : t = 32 ∨ t = 3 := by
    have := Array.mem_of_getElem? ht
    simpa using this
  rcases this with rfl | rfl
  · exact (show Tryz.prog.wantsStandIn 32 = false by kernel_rfl)
  · exact (show Tryz.prog.wantsStandIn 3 = false by kernel_rfl)

theorem card : Rows.TypesFixedCardSaid :=
  Claim7.holds_tied_plain_at .later [] _ _ _ _ said (fun _ h => by cases h) (by kernel_rfl) (fun _ h => by cases h) typesFixed_row_tie rfl ⟨rfl, rfl⟩ (by kernel_rfl) rfl plain (by kernel_rfl)

end Go.Ab.Cols.Fixed

namespace Go.Proofs.YtacjjncmbklplaaGreatDoor
/-- the tied card of TypesFixed -/
theorem typesFixed_card : Rows.TypesFixedCardSaid := Go.Ab.Cols.Fixed.card
end Go.Proofs.YtacjjncmbklplaaGreatDoor
