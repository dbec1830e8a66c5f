/- PlanKeeps of the given program answers true for every list of integers, every condition and all rows, where these are together of bulk at most 1048576, and leaves its arguments as they were (the tied card, second form); the package variables that it names read as their texts lay them when the call begins. Proved through an abstract interpreter of the model's code that is proved sound in the texts beside this one. -/
import Derived.Test.YtikebbklkiodlaaGreatDoorAbZX
set_option maxRecDepth 1000000
set_option linter.all false
namespace Go.Ab.Keep
open Go Go.Ab Go.Ab.Plan Go.Ab.Key Go.Ab.Cnt Go.Ab.Turn Go.Proofs Go.Proofs.YtikebbklkiodlaaGreatDoor Go.ChangeShapes Go.WideShapes Go.RowKit
theorem Qxd {W : World} (hL : laidMet Tryz.prog Rows.planKeepsUptoRow.laid W) (h : W.ShapedOpen Tryz.prog) : ∃ m : Int, letI : Mx := ⟨m⟩; GlobOK (Ex W) W GT := by
 obtain ⟨m, hm⟩ := cell_of_shapedOpen_int (P := Tryz.prog) (g := 1) (t := 3) (zero := #[.int .i64 0]) (k := .i64) h (by decide +kernel) (by kernel_rfl) rfl (by kernel_rfl) (by kernel_rfl) (by kernel_rfl)
 obtain ⟨cs, hh, hs, _⟩ := h.1 1 #[.int .i64 0] 3 (by decide +kernel) (by kernel_rfl)
 refine ⟨m, ?_⟩
 letI : Mx := ⟨m⟩
 show GlobOK (Ex W) W GT
 have hmem : ("stile/types.bases", (Rows.laid_stile_types_bases : DataW Unit)) ∈ Rows.planKeepsUptoRow.laid := by simp [Rows.planKeepsUptoRow]
 have hb := Qr5 hL hmem
 intro g l hl
 unfold GT at hl
 split at hl
 · rename_i hg
   subst hg
   obtain rfl := Option.some.inj hl
   exact hb 0 _ rfl
 · split at hl
   · rename_i hg
     subst hg
     obtain rfl := Option.some.inj hl
     refine ⟨.cons (Qy4 hm) hm rfl (.int _ _) (.nil _ _), ?_, ?_⟩
     · exact (Array.getElem?_eq_some_iff.1 hh).1
     · have hs' : cs.size = 1 := hs
       simp [World.cell?, hh, hs']
   · cases hl
theorem Qd3 (H : Type) (enc : TypeId × Value -> H) (W : World) (base : Nat) (args : Array Value) (ds gs : List (DataW H)) (before : List MemPlace)
   (hval : ∀ (j : Nat) t v, Tryz.f3.params[j]? = some t -> args[j]? = some v -> Value.okWide Tryz.prog W .any base t v)
   (hW : DataW.Whole enc Tryz.prog Tryz.f3.params.toList Rows.planKeepsSpec.vars false W args.toList ds gs before) (hcond : Rows.uptoSmall H (ds ++ gs) = true) (hL : laidMetH Tryz.prog Rows.planKeepsUptoRow.laid W) (hsh : W.ShapedOpen Tryz.prog) :
   Calls Tryz.prog 3 args W fun e W' => ∃ v, e = .returned v /\ Rows.planKeepsSpec.post enc Tryz.prog Tryz.f3 false true false false W args v W' := by
 rw [MakeChecks.laidMetH_plain _ _ _ (by kernel_rfl)] at hL
 obtain ⟨m, hG⟩ := Qxd hL hsh
 letI : Mx := ⟨m⟩
 have hW' := hW
 have hlt := hW.lt
 obtain ⟨p, q, hA0, hV, rfl, hfz, hnd⟩ := hW
 have hA : DataW.TrodAll enc Tryz.prog W 0 (fun _ => true) true Tryz.f3.params.toList args.toList ds p := hA0
 rw [Tryz.params3] at hA hval
 obtain ⟨v0, vs0, d0, ds0, p0, q0, hargs, rfl, rfl, h0, r0⟩ := trodAll_cons hA
 obtain ⟨v1, vs1, d1, ds1, p1, q1, rfl, rfl, rfl, h1, r1⟩ := trodAll_cons r0
 obtain ⟨v2, vs2, d2, ds2, p2, q2, rfl, rfl, rfl, h2, r2⟩ := trodAll_cons r1
 obtain ⟨rfl, rfl, rfl⟩ := trodAll_nil r2
 obtain rfl : args = #[v0, v1, v2] := by cases args; simp_all
 obtain ⟨rfl, rfl⟩ := trodVars_none hV
 obtain ⟨u0, hr0, ht0, hz0⟩ := Qai (B := Rows.uptoBulk) Qid Qp9 (by decide) Tryz.underlying22 (hval 0 22 v0 rfl rfl) h0
 obtain ⟨c1, u1, rfl, hr1, ht1, hz1⟩ := Qhj (B := Rows.uptoBulk) Qid Qp9 (by decide) Tryz.underlying25 (hval 1 25 v1 rfl rfl) h1
 obtain ⟨u2, hr2, ht2, hz2⟩ := Qai (B := Rows.uptoBulk) Qid Qp9 (by decide) Tryz.underlying26 (hval 2 26 v2 rfl rfl) h2
 clear hA0
 simp only [List.append_nil] at hW' hlt
 obtain ⟨x, rfl, hx⟩ := Qw6 ht0
 obtain ⟨t, rfl, hok⟩ := Qqt _ u1 (Nat.le_refl _) ht1
 obtain ⟨rows, rfl, hrows⟩ := Qt8 ht2
 simp only [Rows.uptoSmall, List.append_nil, Rows.uptoBulkAll, decide_eq_true_eq] at hcond
 have hcl := Qdi t
 have hLm : LIM = 4294967296 := rfl
 have hrun := law3 (zz t + (Jo t).length + 1) (4 * deep t + 12) x t rows hx (hok (by omega)) (by omega) (by omega) (by omega) (by omega) (hrows (by omega))
 refine (Qqy (fun _ _ _ _ _ => Iff.rfl) Qqe (by decide) hrun hG (.cons hr0 (.cons hr1 (.cons hr2 .nil)))).mono fun e W' ⟨he, hg⟩ => ?_
 subst he
 exact ⟨_, rfl, Qgx (pa := p0 ++ (p1 ++ (p2 ++ []))) (pv := []) hW' (fun _ _ _ => trodAll_cons_mk (shut_bool Tryz.underlying4 _) trodAll_mk0)
   (fun sp hs => ⟨p0, p1 ++ (p2 ++ []), Qbz Qik (by kernel_rfl) (of_decide_eq_true (by kernel_rfl)) h0 hg (fun x hx => hlt x (by simp [hx])) (fun x hx => hs x (by simp [hx])), ⟨p1, p2 ++ [], Qbz Qik (by kernel_rfl) (of_decide_eq_true (by kernel_rfl)) h1 hg (fun x hx => hlt x (by simp [hx])) (fun x hx => hs x (by simp [hx])), ⟨p2, [], Qbz Qik (by kernel_rfl) (of_decide_eq_true (by kernel_rfl)) h2 hg (fun x hx => hlt x (by simp [hx])) (fun x hx => hs x (by simp [hx])), trodAll_mk0, rfl⟩, rfl⟩, rfl⟩)
   (fun _ _ => rfl) (by simp) hg (ok_one (by kernel_rfl) rfl (okWide_bool_mk Tryz.underlying4 _))⟩
abbrev input : Array Value := #[.slice none 0 0, .agg #[.string .empty, .string .empty, .int .i64 0, .slice none 0 0], .slice none 0 0]
noncomputable def Qod (os : Os) : World := World.laidAll Tryz.prog os Rows.planKeepsUptoRow.laid
theorem Qr1 (os : Os) : laidMetH Tryz.prog Rows.planKeepsUptoRow.laid (((Qod os).forCall (fun _ _ => 0) ⟨#[], input, []⟩).memory) := by
 rw [MakeChecks.laidMetH_plain _ _ _ (by kernel_rfl)]
 exact laidMet_laidAll _ (by kernel_rfl) (by kernel_rfl)
theorem reads (os : Os) {H : Type} (enc : TypeId × Value -> H) : ∃ ds places, DataW.whole enc Tryz.prog ((Qod os).forCall (fun _ _ => 0) ⟨#[], input, []⟩).memory Tryz.f3.params.toList Rows.planKeepsSpec.vars false input.toList 8 = some (ds, [], places) /\ Rows.uptoSmall H (ds ++ []) = true :=
 ⟨[.nil, .agg [.lit (.string []), .lit (.string []), .lit (.int .i64 0), .nil], .nil], [], by kernel_rfl, by kernel_rfl⟩
theorem lifted (os : Os) (started : os.Started) (H : Type) (enc : TypeId × Value -> H) (F : Stop.Interp) :
   ReturnsInHanded {} Tryz.checked os 3 .any ((Rows.OpenSpec.upto Rows.planKeepsSpec).preRow enc Tryz.prog Tryz.f3 Rows.planKeepsUptoRow.domain false Rows.planKeepsUptoRow.laid) (((Rows.OpenSpec.upto Rows.planKeepsSpec).at F).post enc Tryz.prog Tryz.f3 false true false false) := by
 obtain ⟨ds, places, hx, hsm⟩ := reads os enc
 refine returnsInHanded_of_row (C := Tryz.checked) (s := Rows.OpenSpec.upto Rows.planKeepsSpec) Qsb started (by kernel_rfl) Tryz.func3
   (witness_row_atRef (enc := enc) (C := Tryz.checked) false (Qod os) input (World.laidAll_os _ _ _) (by kernel_rfl) (by kernel_rfl) (by kernel_rfl)
     (OpenSpec.preRow_of_cond 8 hx (by kernel_rfl) (fun k hk => by cases hk; exact hsm) (by kernel_rfl) (Qr1 os))) ?_
 intro W base args ds gs before hval hW _ hcond _ hL hsh _
 exact Qd3 H enc W base args ds gs before hval hW (hcond _ rfl) hL hsh
theorem Qoc : Rows.PlanKeepsUptoSaid :=
 OpenClaim.holds_of_cond 3 Tryz.f3 rfl rfl rfl rfl rfl rfl rfl ⟨rfl, rfl, rfl, rfl, rfl⟩ rfl rfl rfl rfl rfl (by kernel_rfl) Tryz.func3 (by kernel_rfl)
   (of_decide_eq_true (by kernel_rfl)) (by unfold Func.isWrapper; first | (rw [if_pos (by decide +kernel)]; kernel_rfl) | (rw [if_neg (by decide +kernel)]; exact ⟨rfl, rfl⟩))
   (fun os started H enc _ F => by rw [OpenClaim.pre_eq_preRow]; exact lifted os started H enc F)
theorem plain (f : FuncId) (fn : Func) (hf : Tryz.pinned.checked.prog.funcNamed "stile/stilelaw18.PlanKeeps" = some f) (hfn : Tryz.pinned.checked.prog.funcs[f]? = some fn) :
   false = Tryz.pinned.checked.prog.looks [] /\ ∀ (j : Nat) t, fn.params[j]? = some t -> Tryz.pinned.checked.prog.wantsStandIn t = false := by
 obtain rfl : f = 3 := Option.some.inj ((show Tryz.prog.funcNamed "stile/stilelaw18.PlanKeeps" = some 3 by kernel_rfl).symm.trans hf) |>.symm
 obtain rfl : fn = Tryz.f3 := (Option.some.inj (Tryz.func3.symm.trans hfn)).symm
 refine ⟨by kernel_rfl, fun j t ht => ?_⟩
 rw [Tryz.params3] at ht
 have : t = 22 ∨ t = 25 ∨ t = 26 := by
   have := Array.mem_of_getElem? ht
   simp at this
   omega
 rcases this with rfl | rfl | rfl
 · exact (show Tryz.prog.wantsStandIn 22 = false by kernel_rfl)
 · exact (show Tryz.prog.wantsStandIn 25 = false by kernel_rfl)
 · exact (show Tryz.prog.wantsStandIn 26 = false by kernel_rfl)
theorem card : Rows.PlanKeepsUptoCardSaid :=
 Claim7.holds_tied_plain_at .later [] _ _ _ _ Qoc (fun _ h => by cases h) (by kernel_rfl) (fun _ h => by cases h) planKeepsUpto_row_tie rfl ⟨rfl, rfl⟩ (by kernel_rfl) rfl plain (by kernel_rfl)
end Go.Ab.Keep
namespace Go.Proofs.YtikebbklkiodlaaGreatDoor
theorem planKeeps_card : Rows.PlanKeepsUptoCardSaid := Go.Ab.Keep.card
end Go.Proofs.YtikebbklkiodlaaGreatDoor
#print axioms Go.Proofs.YtikebbklkiodlaaGreatDoor.planKeeps_card
