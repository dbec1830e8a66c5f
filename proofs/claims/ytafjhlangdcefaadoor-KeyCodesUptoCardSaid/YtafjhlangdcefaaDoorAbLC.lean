/- The laws of keys: KeyCodes, its closing. Proved through an abstract interpreter of the model's code that is proved sound in the texts beside this one. -/
import Derived.Test.YtafjhlangdcefaaDoorAbLA
set_option linter.unusedSectionVars false
set_option linter.unusedSimpArgs false
set_option linter.unusedVariables false
set_option maxRecDepth 1000000
namespace Go.Ab.Key.KeyCodes
open Go Go.Ab Go.Ab.Key Go.Proofs Go.Proofs.YtafjhlangdcefaaDoor Go.ChangeShapes Go.WideShapes Go.RowKit
theorem open_textB {H : Type} {enc : TypeId × Value → H} {P : Program} {W : World} {base b : Nat} {spare : Nat → Bool} {held : Bool} {t : TypeId} {v : Value} {d : DataW H} {ps : List MemPlace} {r : Reach} {B : DataW H → Nat} (hB : BulkOK B) {T : List TypeId} (hT : closedB P T = true) (ht : t ∈ T)
    (hu : P.underlying t = some .string) (hv : Value.okWide P W r b t v) (h : DataW.Trod enc P W base spare held t v d ps) : ∃ u, Rep (Ex W) W (fun _ _ => none) (.p u) v ∧ (∃ s, u = .str s) ∧ szL [u] ≤ B d := by
  obtain ⟨n, hn⟩ := h
  obtain ⟨vs, h1, h2, h3, _, h5⟩ := trod_repB hB hT n t _ _ ht hn
  obtain ⟨s, rfl, _⟩ := h3.of_str hu
  have hvc : ∃ c, v.cells.toList = [c] ∧ v = c := by
    unfold Value.okWide at hv
    rw [hu] at hv
    simp only [Cell.okWide, Cell.ok, hu] at hv
    cases v <;> first | exact ⟨_, rfl, rfl⟩ | (simp at hv)
  obtain ⟨c, hc, rfl⟩ := hvc
  rw [hc] at h1
  cases h1 with
  | cons h1 _ => exact ⟨_, .p h1, ⟨s, rfl⟩, h5⟩
theorem law (m : Int) (a : List Raw) (s : List UInt8) (ha : ∀ r ∈ a, inR r.k ∧ inR r.n) (hza : szL (raws a) ≤ 1048576) (hs : szL [.str s] ≤ 1048576) :
    ∃ L n σ', (cAt (TE (G 0 m)) L n).1 6 [.p (.vsl (raws a) a.length), .p (.str s)] [] = some (.ret (.p (.bool true)), σ') :=
  law6 m a s ha hza (by simp only [szL, szP] at hs; omega)

theorem contract (H : Type) (enc : TypeId × Value → H) (W : World) (base : Nat) (args : Array Value) (ds gs : List (DataW H)) (before : List MemPlace)
    (hval : ∀ (j : Nat) t v, Tryd.f6.params[j]? = some t → args[j]? = some v → Value.okWide Tryd.prog W .any base t v)
    (hW : DataW.Whole enc Tryd.prog Tryd.f6.params.toList Rows.keyCodesSpec.vars false W args.toList ds gs before) (hcond : Rows.uptoSmall H (ds ++ gs) = true) (hsh : W.ShapedOpen Tryd.prog) :
    Calls Tryd.prog 6 args W fun e W' => ∃ v, e = .returned v ∧ Rows.keyCodesSpec.post enc Tryd.prog Tryd.f6 false true false false W args v W' := by
  have hW' := hW
  have hlt := hW.lt
  obtain ⟨p, q, hA0, hV, rfl, hfz, hnd⟩ := hW
  have hA : DataW.TrodAll enc Tryd.prog W 0 (fun _ => true) true Tryd.f6.params.toList args.toList ds p := hA0
  rw [Tryd.params6] at hA hval
  obtain ⟨v0, vs0, d0, ds0, p0, q0, hargs, rfl, rfl, h0, r0⟩ := trodAll_cons hA
  obtain ⟨v1, vs1, d1, ds1, p1, q1, rfl, rfl, rfl, h1, r1⟩ := trodAll_cons r0
  obtain ⟨rfl, rfl, rfl⟩ := trodAll_nil r1
  obtain rfl : args = #[v0, v1] := by cases args; simp_all
  obtain ⟨rfl, rfl⟩ := trodVars_none hV
  obtain ⟨u0, hr0, ht0, hz0⟩ := open_sliceB (B := Rows.uptoBulk) bulk_ok closed (by decide) Tryd.underlying22 (hval 0 22 v0 rfl rfl) h0
  obtain ⟨u1, hr1, ht1, hz1⟩ := open_textB (B := Rows.uptoBulk) bulk_ok closed (by decide) Tryd.underlying9 (hval 1 9 v1 rfl rfl) h1
  clear hA0
  simp only [List.append_nil] at hW' hlt
  obtain ⟨l0, rfl, hl0⟩ := slice_of ht0
  obtain ⟨s1, rfl⟩ := ht1
  simp only [Rows.uptoSmall, List.append_nil, Rows.uptoBulkAll, decide_eq_true_eq] at hcond
  have hb0 : szL (raws l0) ≤ 1048576 := by
    have : szL [.vsl (raws l0) l0.length] ≤ Rows.uptoBulk d0 := hz0
    simp only [szL, szP] at this ⊢
    omega
  have hb1 : szL [.str s1] ≤ 1048576 := by
    have : szL [.str s1] ≤ Rows.uptoBulk d1 := hz1
    simp only [szL, szP] at this ⊢
    omega
  obtain ⟨m, hG⟩ := glob_ok hsh
  obtain ⟨L, n, σ', hrun⟩ := law m l0 s1 hl0 hb0 hb1
  refine (law_calls table_ok hrun hG (.cons hr0 (.cons hr1 .nil))).mono fun e W' ⟨he, hg⟩ => ?_
  subst he
  exact ⟨_, rfl, post_of_kept (pa := p0 ++ (p1 ++ [])) (pv := []) hW' (fun _ _ _ => trodAll_cons_mk (shut_bool Tryd.underlying4 _) trodAll_mk0)
    (fun sp hs => ⟨p0, p1 ++ [], trod_kept laidOut (by kernel_rfl) (of_decide_eq_true (by kernel_rfl)) h0 hg (fun x hx => hlt x (by simp [hx])) (fun x hx => hs x (by simp [hx])), ⟨p1, [], trod_kept laidOut (by kernel_rfl) (of_decide_eq_true (by kernel_rfl)) h1 hg (fun x hx => hlt x (by simp [hx])) (fun x hx => hs x (by simp [hx])), trodAll_mk0, rfl⟩, rfl⟩)
    (fun _ _ => rfl) (by simp) hg (ok_one (by kernel_rfl) rfl (okWide_bool_mk Tryd.underlying4 _))⟩

abbrev input : Array Value := #[.slice none 0 0, .string .empty]
noncomputable def start (os : Os) : World := World.laidAll Tryd.prog os Rows.keyCodesUptoRow.laid
theorem laid_met (os : Os) : laidMetH Tryd.prog Rows.keyCodesUptoRow.laid (((start os).forCall (fun _ _ => 0) ⟨#[], input, []⟩).memory) := by
  rw [MakeChecks.laidMetH_plain _ _ _ (by kernel_rfl)]
  exact laidMet_laidAll _ (by kernel_rfl) (by kernel_rfl)
theorem reads (os : Os) {H : Type} (enc : TypeId × Value → H) : ∃ ds places, DataW.whole enc Tryd.prog ((start os).forCall (fun _ _ => 0) ⟨#[], input, []⟩).memory Tryd.f6.params.toList Rows.keyCodesSpec.vars false input.toList 8 = some (ds, [], places) ∧ Rows.uptoSmall H (ds ++ []) = true :=
  ⟨[.nil, .lit (.string [])], [], by kernel_rfl, by kernel_rfl⟩

theorem lifted (os : Os) (started : os.Started) (H : Type) (enc : TypeId × Value → H) (F : Stop.Interp) :
    ReturnsInHanded {} Tryd.checked os 6 .any ((Rows.OpenSpec.upto Rows.keyCodesSpec).preRow enc Tryd.prog Tryd.f6 Rows.keyCodesUptoRow.domain false Rows.keyCodesUptoRow.laid) (((Rows.OpenSpec.upto Rows.keyCodesSpec).at F).post enc Tryd.prog Tryd.f6 false true false false) := by
  obtain ⟨ds, places, hx, hsm⟩ := reads os enc
  refine returnsInHanded_of_row (C := Tryd.checked) (s := Rows.OpenSpec.upto Rows.keyCodesSpec) own started (by kernel_rfl) Tryd.func6
    (witness_row_atRef (enc := enc) (C := Tryd.checked) false (start os) input (World.laidAll_os _ _ _) (by kernel_rfl) (by kernel_rfl) (by kernel_rfl)
      (OpenSpec.preRow_of_cond 8 hx (by kernel_rfl) (fun k hk => by cases hk; exact hsm) (by kernel_rfl) (laid_met os))) ?_
  intro W base args ds gs before hval hW _ hcond _ _ hsh _
  exact contract H enc W base args ds gs before hval hW (hcond _ rfl) hsh

theorem said : Rows.KeyCodesUptoSaid :=
  OpenClaim.holds_of_cond 6 Tryd.f6 rfl rfl rfl rfl rfl rfl rfl ⟨rfl, rfl, rfl, rfl, rfl⟩ rfl rfl rfl rfl rfl (by kernel_rfl) Tryd.func6 (by kernel_rfl)
    (of_decide_eq_true (by kernel_rfl)) (by unfold Func.isWrapper; first | (rw [if_pos (by decide +kernel)]; kernel_rfl) | (rw [if_neg (by decide +kernel)]; exact ⟨rfl, rfl⟩))
    (fun os started H enc _ F => by rw [OpenClaim.pre_eq_preRow]; exact lifted os started H enc F)

theorem plain (f : FuncId) (fn : Func) (hf : Tryd.pinned.checked.prog.funcNamed "stile/stilelaw03.KeyCodes" = some f) (hfn : Tryd.pinned.checked.prog.funcs[f]? = some fn) :
    true = Tryd.pinned.checked.prog.looks [] ∧ ∀ (j : Nat) t, fn.params[j]? = some t → Tryd.pinned.checked.prog.wantsStandIn t = false := by
  obtain rfl : f = 6 := Option.some.inj ((show Tryd.prog.funcNamed "stile/stilelaw03.KeyCodes" = some 6 by kernel_rfl).symm.trans hf) |>.symm
  obtain rfl : fn = Tryd.f6 := (Option.some.inj (Tryd.func6.symm.trans hfn)).symm
  refine ⟨by kernel_rfl, fun j t ht => ?_⟩
  rw [Tryd.params6] at ht
  have : t = 22 ∨ t = 9 := by
    have := Array.mem_of_getElem? ht
    simp at this
    omega
  rcases this with rfl | rfl
  · exact (show Tryd.prog.wantsStandIn 22 = false by kernel_rfl)
  · exact (show Tryd.prog.wantsStandIn 9 = false by kernel_rfl)

theorem card : Rows.KeyCodesUptoCardSaid :=
  Claim7.holds_tied_plain_at .later [] _ _ _ _ said (fun _ h => by cases h) (by kernel_rfl) (fun _ h => by cases h) keyCodesUpto_row_tie rfl ⟨rfl, rfl⟩ (by kernel_rfl) rfl plain (by kernel_rfl)

end Go.Ab.Key.KeyCodes

namespace Go.Proofs.YtafjhlangdcefaaDoor
/-- the tied card of KeyCodes, second form -/
theorem keyCodes_card : Rows.KeyCodesUptoCardSaid := Go.Ab.Key.KeyCodes.card
end Go.Proofs.YtafjhlangdcefaaDoor
