/- Functions: what the interpreter says of a whole function is what a call of it does. -/
import Derived.Test.YtikebbklkiodlaaDoorAbA16
import Derived.Recover
set_option linter.unusedSectionVars false
set_option linter.unusedSimpArgs false
set_option linter.unusedVariables false
namespace Go.Ab
variable [Marks]
variable {S S' : Nat → Nat → Prop} {w w' w1 : World} {μ μ' : Nat → Nat → Option (Nat × Nat)} {P : Program} {G : Globs} {σ σ' : Heap}

theorem cFunc_of {hints : List (List Nat)} {fn : Func} {af : AFunc} (h : cFunc P G hints fn = some af) :
    fn.name ≠ "runtime.NumGoroutine" ∧ ∃ c rs ac h', fn.body = some c ∧ cRess P fn.ntmps fn.results.toList = some rs ∧ cCode P G fn.ntmps c hints = some (ac, h') ∧ af = ⟨fn.ntmps, rs, ac⟩ := by
  unfold cFunc at h
  split at h
  · cases h
  · rename_i hn
    split at h
    · rename_i c rs hb hr
      split at h
      · rename_i ac h' hc
        obtain rfl := Option.some.inj h
        exact ⟨hn, c, rs, ac, h', hb, hr, hc, rfl⟩
      · cases h
    · cases h

/-- the number of arguments fits the function -/
def fits (af : AFunc) (args : List AV) : Bool := args.length ≤ af.ntmps

theorem func_sound {C : Oracle} {D : DOracle} (hM : RoundsOf P G) (hC : OracleOK P G C) (hD : DOracleOK P G D) {L : Nat} {hints : List (List Nat)} {f : Nat} {fn : Func} {af : AFunc} {args : List AV} {r : CRes}
    (hf : P.funcs[f]? = some fn) (hc : cFunc P G hints fn = some af) (hn : fits af args = true) (h : runFunc C D L af args σ = some (r, σ'))
    {cargs : Array Value} (hg : Good μ S w σ) (hG : GlobOK S w G) (ha : RepL S w μ args cargs.toList) :
    Enters P f ∧ Calls P f cargs w fun e w' => ∃ μ' S', Good μ' S' w' σ' ∧ Frm μ S w σ μ' S' w' σ' ∧ ResRep S' w' μ' r e := by
  obtain ⟨hname, c, rs, ac, h', hb, hr, hcc, rfl⟩ := cFunc_of hc
  refine ⟨⟨fn, c, hf, hb, hname⟩, ?_⟩
  simp only [fits, decide_eq_true_eq] at hn
  have hst := start_ok (N := fn.ntmps) hg hG ha hn
  have body : ∀ (ex : AExit) (st : St), exec C L ac ⟨params 0 args, [], σ⟩ = some (ex, st) → (∃ m, finA D ⟨fn.ntmps, rs, ac⟩ st m = some (r, σ') ∧ (match ex with
      | .pan v => m = some v
      | .normal => m = none
      | .ret => m = none
      | .exit _ => False)) → Calls P f cargs w fun e w' => ∃ μ' S', Good μ' S' w' σ' ∧ Frm μ S w σ μ' S' w' σ' ∧ ResRep S' w' μ' r e := by
    intro ex st hx ⟨m, hm, hmx⟩
    unfold finA at hm
    split at hm
    · cases hm
    · rename_i hmix
      have hmu : ∀ {S1 : Nat → Nat → Prop} {w1 : World} {μ1 : Nat → Nat → Option (Nat × Nat)} {e : Exit}, ExOK S1 w1 μ1 ex e → (e = .normal ∧ ModeRep S1 w1 μ1 m .returning) ∨ (e = .ret ∧ ModeRep S1 w1 μ1 m .returning) ∨ ∃ l, e = .panic l ∧ ModeRep S1 w1 μ1 m (.panicking l) := by
        intro S1 w1 μ1 e p1
        cases ex <;> cases e <;> first | exact p1.elim | exact hmx.elim | skip
        · subst hmx; exact .inl ⟨rfl, trivial⟩
        · subst hmx; exact .inr (.inl ⟨rfl, trivial⟩)
        · subst hmx; exact .inr (.inr ⟨_, rfl, p1⟩)
      rcases not_mixed (by simpa using hmix) with hds | hds
      · refine calls_of_wp_defers hf hb (Code.wp_mono (fun e a1 w1 ⟨μ1, S1, p1, p2, p3⟩ => ?_) (wpIn_wide.1 (exec_sound (r := none) (n := 0) hM hC L c hints h' ac hcc (.inl rfl) _ _ _ hx _ w μ S hst)))
        have fin : ∀ u, ModeRep S1 w1 μ1 m u → Leaves P fn a1.tmps (fun e w' => ∃ μ' S', Good μ' S' w' σ' ∧ Frm μ S w σ μ' S' w' σ' ∧ ResRep S' w' μ' r e) a1.defers u w1 := by
          intro u hu
          have := leave_sound hD hr st.defers a1.defers st.heap m u w1 μ1 S1 st.env a1.tmps hds p2.defers p2.good p2.glob p2.env hu hm
          exact Leaves_mono (fun e w2 ⟨μ2, S2, k1, k2, k3⟩ => ⟨μ2, S2, k1, p3.trans k2, k3⟩) _ _ _ this
        rcases hmu p1 with ⟨rfl, hu⟩ | ⟨rfl, hu⟩ | ⟨l, rfl, hu⟩ <;> exact fin _ hu
      · refine (callsIn_wide (n := 0)).1 (callsIn_of_wp_marks (F := FR none) hf hb trivial (wpIn_mono (exec_sound (r := none) (n := 0) hM hC L c hints h' ac hcc (.inl rfl) _ _ _ hx _ w μ S hst) fun e a1 w1 ⟨μ1, S1, p1, p2, p3⟩ => ?_))
        have fin : ∀ u, ModeRep S1 w1 μ1 m u → LeavesInM (FR none) 0 P fn a1.tmps (fun e w' => ∃ μ' S', Good μ' S' w' σ' ∧ Frm μ S w σ μ' S' w' σ' ∧ ResRep S' w' μ' r e) a1.defers u w1 := by
          intro u hu
          have := leaveM_sound (D := D) (n := 0) hr st.defers a1.defers st.heap m u w1 μ1 S1 st.env a1.tmps hds p2.defers p2.good p2.glob p2.env hu hm
          exact LeavesInM_mono (fun e w2 ⟨μ2, S2, k1, k2, k3⟩ => ⟨μ2, S2, k1, p3.trans k2, k3⟩) _ _ _ this
        rcases hmu p1 with ⟨rfl, hu⟩ | ⟨rfl, hu⟩ | ⟨l, rfl, hu⟩ <;> exact fin _ hu
  unfold runFunc at h
  split at h
  · rename_i v st hx
    exact body _ _ hx ⟨some v, h, rfl⟩
  · rename_i st hx
    exact body _ _ hx ⟨none, h, rfl⟩
  · rename_i st hx
    exact body _ _ hx ⟨none, h, rfl⟩
  · cases h

theorem settle_mode {m : Option AV} {u : FrameMode} (h : ModeRep S w μ m u) : ModeRep S w μ m (settle u) := by
  cases m <;> cases u <;> first | exact h.elim | skip
  · exact h
  · rename_i v l
    obtain ⟨c, rfl, hr⟩ := h
    exact ⟨c, rfl, hr⟩

theorem ModeRep.mono {m : Option AV} {u : FrameMode} (h : ModeRep S w μ m u) (hS : ∀ b o, S b o → S' b o ∧ w'.cell? ⟨b, o, none⟩ = w.cell? ⟨b, o, none⟩) (hμ : ∀ id ver x, μ id ver = some x → μ' id ver = some x) : ModeRep S' w' μ' m u := by
  cases m <;> cases u <;> first | exact h.elim | skip
  · trivial
  · obtain ⟨c, h1, h2⟩ := h
    exact ⟨c, h1, h2.mono hS hμ⟩

theorem def_sound {C : Oracle} (hM : RoundsOf P G) (hC : OracleOK P G C) {L : Nat} {hints : List (List Nat)} {f : Nat} {fn : Func} {af : AFunc} {args : List AV} {m m' : Option AV}
    (hf : P.funcs[f]? = some fn) (hc : cFunc P G hints fn = some af) (hn : fits af args = true) (h : runDef C L af args σ m = some (m', σ'))
    {cargs : Array Value} {u : FrameMode} (hg : Good μ S w σ) (hG : GlobOK S w G) (ha : RepL S w μ args cargs.toList) (hu : ModeRep S w μ m u) :
    Enters P f ∧ CallsD P f cargs u w fun e u' w' => (∃ v, e = .returned v) ∧ ∃ μ' S', Good μ' S' w' σ' ∧ Frm μ S w σ μ' S' w' σ' ∧ ModeRep S' w' μ' m' (settle u') := by
  obtain ⟨hname, c, rs, ac, h', hb, hr, hcc, rfl⟩ := cFunc_of hc
  refine ⟨⟨fn, c, hf, hb, hname⟩, (callsD_of_wp (R := fun e w' => (∃ v, e = .returned v) ∧ m' = m ∧ ∃ μ' S', Good μ' S' w' σ' ∧ Frm μ S w σ μ' S' w' σ') hf hb ?_).mono fun e u' w' ⟨hu', ⟨v, he⟩, hm, μ', S', k1, k2⟩ => ?_⟩
  · simp only [fits, decide_eq_true_eq] at hn
    have hst := start_ok (N := fn.ntmps) hg hG ha hn
    have fin : ∀ (st : St) μ1 S1 w1 (a1 : Act), StOK G fn.ntmps μ1 S1 w1 st a1 → Frm μ S w σ μ1 S1 w1 st.heap → (if (st.defers.isEmpty && rs.isEmpty) = true then some (m, st.heap) else none) = some (m', σ') →
        a1.defers = [] ∧ ∃ v, (results fn a1.tmps).run P w1 = .ok v w1 ∧ ((∃ v', Ending.returned v = .returned v') ∧ m' = m ∧ ∃ μ' S', Good μ' S' w1 σ' ∧ Frm μ S w σ μ' S' w1 σ') := by
      intro st μ1 S1 w1 a1 hs hfr hi
      split at hi
      · rename_i he
        simp only [Option.some.injEq, Prod.mk.injEq] at hi
        obtain ⟨rfl, rfl⟩ := hi
        simp only [Bool.and_eq_true, List.isEmpty_iff] at he
        have hd := hs.defers
        rw [he.1] at hd
        cases hds : a1.defers with
        | cons => rw [hds] at hd; exact hd.elim
        | nil =>
          have hrs : resA st.env st.heap rs = some [] := by rw [he.2]; rfl
          obtain ⟨cv, k1, _⟩ := results_sound hr hs.env hs.good hrs
          exact ⟨rfl, cv, k1, ⟨cv, rfl⟩, rfl, μ1, S1, hs.good, hfr⟩
      · cases hi
    unfold runDef at h
    split at h
    · rename_i st hx
      refine Code.wp_mono (fun e a1 w1 ⟨μ1, S1, p1, p2, p3⟩ => ?_) (wpIn_wide.1 (exec_sound (r := none) (n := 0) hM hC L c hints h' ac hcc (.inl rfl) _ _ _ hx _ w μ S hst))
      cases e <;> first | exact p1.elim | skip
      exact fin _ _ _ _ _ p2 p3 h
    · rename_i st hx
      refine Code.wp_mono (fun e a1 w1 ⟨μ1, S1, p1, p2, p3⟩ => ?_) (wpIn_wide.1 (exec_sound (r := none) (n := 0) hM hC L c hints h' ac hcc (.inl rfl) _ _ _ hx _ w μ S hst))
      cases e <;> first | exact p1.elim | skip
      exact fin _ _ _ _ _ p2 p3 h
    · cases h
  · subst hu' hm
    exact ⟨⟨v, he⟩, μ', S', k1, k2, settle_mode (hu.mono k2.keepS k2.mu)⟩

end Go.Ab
