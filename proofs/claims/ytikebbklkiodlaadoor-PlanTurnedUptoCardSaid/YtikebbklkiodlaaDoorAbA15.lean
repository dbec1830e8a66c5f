/- Code: what the interpreter says is what the model does. -/
import Derived.Test.YtikebbklkiodlaaDoorAbAG
set_option linter.unusedSectionVars false
set_option linter.unusedSimpArgs false
set_option linter.unusedVariables false
namespace Go.Ab
variable [Marks]
variable {S S' : Nat → Nat → Prop} {w w' w1 : World} {μ μ' : Nat → Nat → Option (Nat × Nat)} {P : Program} {G : Globs} {σ σ' : Heap}

theorem keepE_get {ρ : Env} {l : List Nat} {t : Nat} {v : AV} (h : (keepE ρ l).get t = some v) : ρ.get t = some v := by
  induction l with
  | nil => simp [keepE, Env.get] at h
  | cons x r ih =>
    simp only [keepE] at h
    split at h
    · rename_i u hu
      rw [Env.get_cons] at h
      split at h
      · rename_i hx; subst hx; rw [← h]; exact hu
      · exact ih h
    · exact ih h
theorem StOK.keep {N : Nat} {st : St} {a : Act} (h : StOK G N μ S w st a) (live : Option (List Nat)) : StOK G N μ S w (st.keep live) a := by
  cases live with
  | none => exact h
  | some l => exact ⟨fun t v ht => h.env t v (keepE_get ht), h.glob, h.good, h.size, h.defers⟩
theorem keep_heap (st : St) (live : Option (List Nat)) : (st.keep live).heap = st.heap := by cases live <;> rfl

theorem stepR_scope {b : Frame} {a : Act} {k : List Item} {cs : List Frame} {c : Code} : step P (lone (b.atR a (.code (.scope c) :: k)) cs w) = .next (lone (b.atR a (.code c :: .inScope c :: k)) cs w) :=
  step_lone_go (by simp [stepG, stepG.exec, Frame.atR])
theorem stepR_inScope {b : Frame} {a : Act} {k : List Item} {cs : List Frame} {c : Code} : step P (lone (b.atR a (.inScope c :: k)) cs w) = .next (lone (b.atR a k) cs w) :=
  step_lone_go (by simp [stepG, stepG.exec, Frame.atR])
theorem wpIn_scope_straight {F : Fence} {n : Nat} {Q : Exit → Act → World → Prop} {a : Act} {c : Code} (h : c.wpIn F n P (Exit.noGoto Q) a w) : (Code.scope c).wpIn F n P Q a w := by
  intro b k cs hro hb hr
  have h0 : (lone (b.atR a (.code (.scope c) :: k)) cs w).fenced P F := fenced_calm hb hr rfl
  obtain ⟨e, a₁, w₁, hq, harr⟩ := h b (.inScope c :: k) cs hro hb hr
  cases e with
  | normal => exact ⟨.normal, a₁, w₁, hq, .head h0 stepR_scope (StepsIn.trans harr (.one (fenced_calm hb hr rfl) stepR_inScope))⟩
  | exit id => exact ⟨.exit id, a₁, w₁, hq, fun k' hk => .head h0 stepR_scope (harr.1 k' (by simp [exitTo, hk])), fun hr' hk => let ⟨k₁, h1, h2⟩ := harr.2 hr' (by simp [exitTo, hk]); ⟨k₁, h1, .head h0 stepR_scope h2⟩⟩
  | goto l => exact hq.elim
  | ret => exact ⟨_, a₁, w₁, hq, .of_steps (.one h0 stepR_scope) harr⟩
  | panic ch => exact ⟨_, a₁, w₁, hq, .of_steps (.one h0 stepR_scope) harr⟩
  | outgrown => exact ⟨_, a₁, w₁, hq, .of_steps (.one h0 stepR_scope) harr⟩

/-- a loop over a function: what its rounds are in the model -/
def RoundIs (P : Program) (G : Globs) (x : List Nat × ACode × ACode) (ps : Array Nat) (a b : Code) (N : Nat) : Prop :=
  ps.toList = x.1 ∧ ps.toList.all (· < N) = true ∧ x.2.1.calm = true ∧ x.2.2.calm = true ∧ ∃ h1 h2 h3 h4, cCode P G N a h1 = some (x.2.1, h2) ∧ cCode P G N b h3 = some (x.2.2, h4)
/-- the marks know the rounds of the program -/
def RoundsOf (P : Program) (G : Globs) : Prop := ∀ x ps a b N, Marks.rnd x ps a b N ↔ RoundIs P G x ps a b N

theorem keepE_at {ρ : Env} {l : List Nat} {j : Nat} {t : Nat} {v : AV} (h : (keepE ρ l)[j]? = some (t, v)) : ρ.get t = some v := by
  induction l generalizing j with
  | nil => simp [keepE] at h
  | cons x r ih =>
    simp only [keepE] at h
    split at h
    · rename_i u hu
      cases j with
      | zero => simp at h; obtain ⟨rfl, rfl⟩ := h; exact hu
      | succ j => exact ih (by simpa using h)
    · exact ih h

/-- an object whose record turns -/
theorem loop_set {id : Nat} {k : List Nat × ACode × ACode} {ts : List Nat} {c : Cells} {st st' : LSt} {b n : Nat} {rec : Loop} (hg : Good μ S w σ) (hid : σ[id]? = some (.loop k ts c st)) (hb : μ id 0 = some (b, n))
    (hw : w.heap[b]? = some (.loop rec)) (s : LoopState) (p : Option Code) (hs : st'.is s p) :
    Good μ S (w.putObj b (.loop { rec with state := s, pending := p })) (σ.set id (.loop k ts c st')) ∧ Frm μ S w σ μ S (w.putObj b (.loop { rec with state := s, pending := p })) (σ.set id (.loop k ts c st')) := by
  have hbs : b < w.heap.size := (Array.getElem?_eq_some_iff.1 hw).1
  have hat : (w.putObj b (.loop { rec with state := s, pending := p })).heap[b]? = some (.loop { rec with state := s, pending := p }) := World.putObj_heap_same hbs
  have hS : ∀ bb j, S bb j → (w.putObj b (.loop { rec with state := s, pending := p })).cell? ⟨bb, j, none⟩ = w.cell? ⟨bb, j, none⟩ := by
    intro bb j _
    by_cases hbb : bb = b
    · subst hbb
      simp [World.cell?, hat, hw]
    · exact cell_of_heap (World.putObj_heap_other hbb)
  obtain ⟨b', n', rec', q1, q2, q3, q4, q5⟩ := hg.obj id _ hid
  rw [hb] at q1
  cases q1
  rw [hw] at q2
  cases q2
  refine good_set (b' := b) (n' := n) hg hid rfl hb hb (.inl rfl) (fun _ _ _ h => h) (fun _ _ _ => rfl)
    (fun v x h => by obtain ⟨o, ho, h1, h2⟩ := hg.old _ _ _ h; rw [hid] at ho; cases ho; exact ⟨h1, by simpa using h2⟩)
    (by simp) (fun bb _ h => World.putObj_heap_other h) hS ⟨b, n, _, hb, hat, hs, q4, fun j t v ht hv => (q5 j t v ht hv).mono (fun b o h => ⟨h, hS b o h⟩) (fun _ _ _ h => h)⟩ ⟨rfl, rfl, rfl⟩

theorem imO_calm (l : List AOper) : (l.map imO).all AOper.calm = l.all AOper.calm := by
  induction l with
  | nil => rfl
  | cons o r ih =>
    have : (imO o).calm = o.calm := by
      obtain ⟨dst, op, gd⟩ := o
      cases op <;> rfl
    simp only [List.map_cons, List.all_cons, this, ih]
theorem runVals_sound {r : Option Nat} {n : Nat} {N : Nat} {C : Oracle} (hC : OracleOK P G C) {ops : Array Oper} :
    ∀ (l : List Nat) (os : List AOper), (r = none ∨ os.all AOper.calm = true) → (∀ (k i : Nat), l[k]? = some i → ∃ o ao, ops[i]? = some o ∧ os[k]? = some ao ∧ COperI P G N ops o ao) → os.length = l.length →
      ∀ (st : St) (ex : AExit) (st' : St), runVals C os st = some (ex, st') → ∀ (a : Act) (w : World) (μ : Nat → Nat → Option (Nat × Nat)) (S : Nat → Nat → Prop), StOK G N μ S w st a →
        wpOpsIn (FR r) n P ops (Post G N μ S w st.heap ex st') l a w := by
  intro l
  induction l with
  | nil =>
    intro os _ _ hlen st ex st' h a w μ S hst
    cases os with
    | cons => simp at hlen
    | nil =>
      simp only [runVals, Option.some.injEq, Prod.mk.injEq] at h
      obtain ⟨rfl, rfl⟩ := h
      exact ⟨μ, S, trivial, hst, .refl _ _ _ _⟩
  | cons i rest ih =>
    intro os hcalm hops hlen st ex st' h a w μ S hst
    cases os with
    | nil => simp at hlen
    | cons ao os =>
      obtain ⟨o, ao', ho, hao, hc⟩ := hops 0 i rfl
      simp only [List.getElem?_cons_zero, Option.some.injEq] at hao
      subst hao
      have hcalm1 : r = none ∨ ao.calm = true := hcalm.imp id fun h => by simp only [List.all_cons, Bool.and_eq_true] at h; exact h.1
      have hcalm2 : r = none ∨ os.all AOper.calm = true := hcalm.imp id fun h => by simp only [List.all_cons, Bool.and_eq_true] at h; exact h.2
      obtain ⟨hcopI, hdst, hdN⟩ := hc.op
      have hsem : o.semAt (FR r).round a.eval = execOp a.eval o := semI hc (.inr hcalm1) a.eval
      have ih' := ih os hcalm2 (fun k i hk => hops (k + 1) i hk) (by simpa using hlen)
      have wmono : ∀ {μ1 : Nat → Nat → Option (Nat × Nat)} {S1 : Nat → Nat → Prop} {w1 : World} {st1 : St} {a1 : Act}, Frm μ S w st.heap μ1 S1 w1 st1.heap → StOK G N μ1 S1 w1 st1 a1 → runVals C os st1 = some (ex, st') →
          wpOpsIn (FR r) n P ops (Post G N μ S w st.heap ex st') rest a1 w1 := by
        intro μ1 S1 w1 st1 a1 hf hst1 h1
        have := ih' st1 ex st' h1 a1 w1 μ1 S1 hst1
        exact wpOpsIn_mono (fun e a' w' hp => hp.trans hf) _ _ _ this
      have other : (∀ z l e ps, ao.op ≠ .buildVals z l e ps) → (match runOps C [ao] st with
          | some (.normal, st1) => runVals C os st1
          | x => x) = some (ex, st') → wpOpsIn (FR r) n P ops (Post G N μ S w st.heap ex st') (i :: rest) a w := by
        intro hne h
        have hco : cOper P G N ops o = some ao := by
          obtain ⟨ao0, h1, rfl | rfl⟩ := hc
          · exact h1
          · rcases imOp_cases ao0.op with e | ⟨z, l, es, ps, e, e'⟩
            · have : imO ao0 = ao0 := by unfold imO; rw [e]
              rw [this]; exact h1
            · exact absurd e' (hne z l es ps)
        have one : ∀ ex1 st1, runOps C [ao] st = some (ex1, st1) → wpOpsIn (FR r) n P ops (Post G N μ S w st.heap ex1 st1) [i] a w := fun ex1 st1 h1 =>
          runOps_sound (r := r) (n := n) hC [i] [ao] (hcalm1.imp_right fun h => by simp [h]) (fun k j hk => by
            cases k with
            | zero =>
              simp at hk
              subst hk
              exact ⟨o, ao, ho, rfl, hco⟩
            | succ k => simp at hk) rfl _ _ _ h1 a w μ S hst
        rw [wpOpsIn_cons]
        split at h
        · rename_i st1 h1
          have hrun := one _ _ h1
          rw [wpOpsIn_cons] at hrun
          refine wpOpIn_more ho ?_ ?_ hrun
          · intro a' w' hp _
            obtain ⟨μ1, S1, _, hst1, hfr⟩ := hp
            exact wmono hfr hst1 h
          · intro e a' w' hne hp _
            obtain ⟨μ1, S1, hex, _⟩ := hp
            cases e <;> first | exact absurd rfl hne | exact hex.elim
        · rename_i hnn
          have hrun := one _ _ h
          rw [wpOpsIn_cons] at hrun
          refine wpOpIn_more ho ?_ ?_ hrun
          · intro a' w' hp _
            obtain ⟨μ1, S1, hex, _⟩ := hp
            cases ex <;> first | exact hex.elim | exact absurd h (hnn _)
          · intro e a' w' hne hp _
            exact hp
      simp only [runVals] at h
      split at h
      · rename_i z len esz parts hop
        rcases hcopI with hcop | ⟨z', l', e', ps', hop', hcop⟩
        · rw [hop] at hcop
          exact absurd hcop cOp_vals
        · rw [hop] at hop'
          cases hop'
          simp only [wpOpsIn, ho]
          split at h
          · rename_i hw
            have hwan := hc.wanted hst.env hw
            rw [if_pos hwan]
            unfold Oper.wpIn
            rw [hsem]
            refine ⟨fun _ _ => trivial, ?_⟩
            split at h
            · rename_i v hv
              obtain ⟨c, w1, S1, hrun, hrep, hg1, hf1⟩ := vals_sound hst.env hst.glob hst.good hcop hv
              simp only [hrun, Oper.uponIn_value]
              refine wmono (st1 := { st with env := putE st.env ao.dst (.p v) }) hf1 ?_ h
              rw [hdst]
              exact (hst.step (σ1 := st.heap) hg1 hf1).put hdN hrep
            · cases h
          · rename_i hw
            have hwan := hc.wanted hst.env hw
            rw [if_neg (by rw [hwan]; simp)]
            refine ⟨fun _ _ => trivial, ?_⟩
            refine wmono (st1 := { st with env := putE st.env ao.dst (.p .undef) }) (.refl _ _ _ _) ?_ h
            rw [hdst]
            exact hst.put hdN (.p .undef)
          · cases h
      · rename_i hno
        exact other (fun z l e ps hop => hno z l e ps hop) h

/-- one round after the other -/
theorem iter_sound {r : Option Nat} {m : Nat} {N : Nat} {c : Code} {f : St → Option (AExit × St)} {live : Option (List Nat)}
    (hf : ∀ st ex st', f st = some (ex, st') → ∀ (a : Act) (w : World) (μ : Nat → Nat → Option (Nat × Nat)) (S : Nat → Nat → Prop), StOK G N μ S w st a → c.wpIn (FR r) m P (Post G N μ S w st.heap ex st') a w) :
    ∀ (n : Nat) (st : St) (ex : AExit) (st' : St), iter f live n st = some (ex, st') → ∀ (a : Act) (w : World) (μ : Nat → Nat → Option (Nat × Nat)) (S : Nat → Nat → Prop), StOK G N μ S w st a →
      ∀ (b : Frame) (k : List Item) (cs : List Frame), b.roundOf = r → ∃ e a' w', Post G N μ S w st.heap ex st' e a' w' ∧ ArrivesIn (Machine.fenced P (FR r)) P (lone (b.atR a (.code c :: .inLoop c :: k)) cs w) b k cs e a' w' := by
  intro n
  induction n with
  | zero => intro st ex st' h; simp [iter] at h
  | succ n ih =>
    intro st ex st' h a w μ S hst b k cs hro
    simp only [iter] at h
    have stop : ∀ ex' : AExit, ex' ≠ .normal → f (st.keep live) = some (ex', st') → ex = ex' →
        ∃ e a' w', Post G N μ S w st.heap ex st' e a' w' ∧ ArrivesIn (Machine.fenced P (FR r)) P (lone (b.atR a (.code c :: .inLoop c :: k)) cs w) b k cs e a' w' := by
      intro ex' hne h1 he
      subst he
      obtain ⟨e, a1, w1, hp, harr⟩ := hf _ _ _ h1 a w μ S (hst.keep live) b (.inLoop c :: k) cs hro trivial (fun d hd => by cases hd)
      rw [keep_heap] at hp
      refine ⟨e, a1, w1, hp, ?_⟩
      obtain ⟨μ1, S1, hex, _, _⟩ := hp
      refine .pass (x := .inLoop c) rfl (fun _ _ => .inl ?_) harr
      intro he
      subst he
      cases ex <;> first | exact hne rfl | exact hex.elim
    split at h
    · rename_i st1 h1
      obtain ⟨e, a1, w1, hp, harr⟩ := hf _ _ _ h1 a w μ S (hst.keep live) b (.inLoop c :: k) cs hro trivial (fun d hd => by cases hd)
      rw [keep_heap] at hp
      obtain ⟨μ1, S1, hex, hst1, hfr⟩ := hp
      cases e with
      | normal =>
        obtain ⟨e2, a2, w2, hp2, harr2⟩ := ih st1 ex st' h a1 w1 μ1 S1 hst1 b k cs hro
        exact ⟨e2, a2, w2, hp2.trans hfr, .of_steps (StepsIn.trans harr (.one (fenced_calm (n := 0) trivial (fun d hd => by cases hd) rfl) stepR_inLoop)) harr2⟩
      | _ => exact hex.elim
    · rename_i r hne
      exact stop ex (fun he => by subst he; exact hne st' h) h rfl

theorem exec_sound {r : Option Nat} {n : Nat} {N : Nat} {C : Oracle} (hM : RoundsOf P G) (hC : OracleOK P G C) (L : Nat) :
    ∀ (c : Code) (h h' : List (List Nat)) (ac : ACode), cCode P G N c h = some (ac, h') → (r = none ∨ ac.calm = true) → ∀ (st : St) (ex : AExit) (st' : St), exec C L ac st = some (ex, st') →
      ∀ (a : Act) (w : World) (μ : Nat → Nat → Option (Nat × Nat)) (S : Nat → Nat → Prop), StOK G N μ S w st a → c.wpIn (FR r) n P (Post G N μ S w st.heap ex st') a w := by
  intro c
  induction c with
  | skip =>
    intro h h' ac hc hcalm st ex st' he a w μ S hst
    simp only [cCode, Option.some.injEq, Prod.mk.injEq] at hc
    obtain ⟨rfl, rfl⟩ := hc
    simp only [exec, Option.some.injEq, Prod.mk.injEq] at he
    obtain ⟨rfl, rfl⟩ := he
    exact wpIn_skip ⟨μ, S, trivial, hst, .refl _ _ _ _⟩
  | label l =>
    intro h h' ac hc hcalm st ex st' he a w μ S hst
    simp only [cCode, Option.some.injEq, Prod.mk.injEq] at hc
    obtain ⟨rfl, rfl⟩ := hc
    simp only [exec, Option.some.injEq, Prod.mk.injEq] at he
    obtain ⟨rfl, rfl⟩ := he
    exact wpIn_label ⟨μ, S, trivial, hst, .refl _ _ _ _⟩
  | region id ops draw =>
    intro h h' ac hc hcalm st ex st' he a w μ S hst
    simp only [cCode, Option.some.injEq, Prod.mk.injEq] at hc
    obtain ⟨rfl, rfl⟩ := hc
    cases draw with
    | true =>
      simp only [cRegion] at he
      split at he
      · rename_i l hl
        split at he
        · rename_i hck
          simp only [Bool.and_eq_true] at hck
          exact draw_sound hC (cOpersI_of hl) (hcalm.imp_right fun h => by simpa [cRegion, hl, hck, ACode.calm] using h) hck.1 hck.2 he hst
        · rename_i hno
          split at he
          · rename_i hck
            have hcl : r = none ∨ (l.map imO).all AOper.calm = true := hcalm.imp_right fun h => by
              simp only [cRegion, hl] at h
              rw [if_neg hno, if_pos hck] at h
              exact h
            simp only [Bool.and_eq_true] at hck
            exact draw_sound hC (cOpersI_im hl) hcl hck.1 hck.2 he hst
          · cases he
      · cases he
    | false =>
      simp only [cRegion] at he
      split at he
      · rename_i l hl
        split at he
        · rename_i him
          obtain ⟨h1, h2⟩ := cOpersI_im hl
          simp only [exec] at he
          refine wpIn_region (runVals_sound hC (List.range ops.size) (l.map imO) (hcalm.imp_right fun h => by simpa [cRegion, hl, him, ACode.calm] using h) ?_ (by simpa using h1) st ex st' he a w μ S hst)
          intro k i hk
          obtain ⟨hlt, hik⟩ := List.getElem?_eq_some_iff.1 hk
          simp only [List.length_range] at hlt
          simp only [List.getElem_range] at hik
          subst hik
          have ho : ops[k]? = some ops[k] := by simp [hlt]
          obtain ⟨ao, h3, h4⟩ := h2 k ops[k] (by simp [hlt])
          exact ⟨_, ao, ho, h3, h4⟩
        rename_i him
        obtain ⟨h1, h2⟩ := cOpers_get hl
        refine wpIn_region (runOps_sound hC (List.range ops.size) l (hcalm.imp_right fun h => by simpa [cRegion, hl, him, ACode.calm] using h) ?_ (by simpa using h1) st ex st' he a w μ S hst)
        intro k i hk
        obtain ⟨hlt, hik⟩ := List.getElem?_eq_some_iff.1 hk
        simp only [List.length_range] at hlt
        simp only [List.getElem_range] at hik
        subst hik
        have ho : ops[k]? = some ops[k] := by simp [hlt]
        obtain ⟨ao, h3, h4⟩ := h2 k ops[k] (by simp [hlt])
        exact ⟨_, ao, ho, h3, h4⟩
      · cases he
  | seq x y ihx ihy =>
    intro h h' ac hc hcalm st ex st' he a w μ S hst
    simp only [cCode] at hc
    split at hc
    · rename_i ax h1 hx
      split at hc
      · rename_i ay h2 hy
        simp only [Option.some.injEq, Prod.mk.injEq] at hc
        obtain ⟨rfl, rfl⟩ := hc
        simp only [exec] at he
        refine wpIn_seq ?_
        split at he
        · rename_i st1 he1
          refine wpIn_mono (ihx _ _ _ hx (hcalm.imp_right fun h => by simp only [ACode.calm, Bool.and_eq_true] at h; exact h.1) st .normal st1 he1 a w μ S hst) fun e a1 w1 ⟨μ1, S1, hex, hst1, hfr⟩ => ?_
          cases e with
          | normal => exact wpIn_mono (ihy _ _ _ hy (hcalm.imp_right fun h => by simp only [ACode.calm, Bool.and_eq_true] at h; exact h.2) st1 ex st' he a1 w1 μ1 S1 hst1) fun e a2 w2 hp => hp.trans hfr
          | _ => exact hex.elim
        · rename_i r hne
          refine wpIn_mono (ihx _ _ _ hx (hcalm.imp_right fun h => by simp only [ACode.calm, Bool.and_eq_true] at h; exact h.1) st ex st' he a w μ S hst) fun e a1 w1 hp => ?_
          cases e with
          | normal =>
            obtain ⟨μ1, S1, hex, _⟩ := hp
            cases ex <;> first | exact hex.elim | exact absurd he (hne _)
          | _ => exact hp
      · cases hc
    · cases hc
  | cond o x y ihx ihy =>
    intro h h' ac hc hcalm st ex st' he a w μ S hst
    simp only [cCode] at hc
    split at hc
    · rename_i co ax h1 ho hx
      split at hc
      · rename_i ay h2 hy
        simp only [Option.some.injEq, Prod.mk.injEq] at hc
        obtain ⟨rfl, rfl⟩ := hc
        simp only [exec] at he
        split at he
        · rename_i t ht
          have hr := (ev_rep hst.env hst.glob ho ht).bool
          refine wpIn_cond hr ?_
          cases t with
          | true => exact ihx _ _ _ hx (hcalm.imp_right fun h => by simp only [ACode.calm, Bool.and_eq_true] at h; exact h.1) st ex st' he a w μ S hst
          | false => exact ihy _ _ _ hy (hcalm.imp_right fun h => by simp only [ACode.calm, Bool.and_eq_true] at h; exact h.2) st ex st' he a w μ S hst
        · cases he
      · cases hc
    · cases hc
  | block id b ih =>
    intro h h' ac hc hcalm st ex st' he a w μ S hst
    simp only [cCode] at hc
    split at hc
    · rename_i ab h1 hb
      simp only [Option.some.injEq, Prod.mk.injEq] at hc
      obtain ⟨rfl, rfl⟩ := hc
      simp only [exec] at he
      refine wpIn_block ?_
      split at he
      · rename_i id' st1 he1
        refine wpIn_mono (ih _ _ _ hb (hcalm.imp_right fun h => h) st (.exit id') st1 he1 a w μ S hst) fun e a1 w1 hp => ?_
        obtain ⟨μ1, S1, hex, hst1, hfr⟩ := hp
        cases e with
        | exit id2 =>
          simp only [ExOK] at hex
          subst hex
          simp only [Exit.inBlock]
          split at he
          · rename_i hid
            simp only [Option.some.injEq, Prod.mk.injEq] at he
            obtain ⟨rfl, rfl⟩ := he
            rw [if_pos hid]
            exact ⟨μ1, S1, trivial, hst1, hfr⟩
          · rename_i hid
            simp only [Option.some.injEq, Prod.mk.injEq] at he
            obtain ⟨rfl, rfl⟩ := he
            rw [if_neg hid]
            exact ⟨μ1, S1, rfl, hst1, hfr⟩
        | _ => exact hex.elim
      · rename_i r hne
        refine wpIn_mono (ih _ _ _ hb (hcalm.imp_right fun h => h) st ex st' he a w μ S hst) fun e a1 w1 hp => ?_
        cases e with
        | exit id2 =>
          obtain ⟨μ1, S1, hex, _⟩ := hp
          cases ex <;> first | exact hex.elim | exact absurd he (hne _ _)
        | _ => exact hp
    · cases hc
  | loop b ih =>
    intro h h' ac hc hcalm st ex st' he a w μ S hst
    simp only [cCode] at hc
    split at hc
    · rename_i ab h1 hb
      simp only [Option.some.injEq, Prod.mk.injEq] at hc
      obtain ⟨rfl, rfl⟩ := hc
      simp only [exec] at he
      intro fb k cs hro hfb hroom
      obtain ⟨e, a', w', hp, harr⟩ := iter_sound (P := P) (r := r) (m := n) (fun st ex st' h => ih _ _ _ hb (hcalm.imp_right fun h => h) st ex st' h) L st ex st' he a w μ S hst fb k cs hro
      exact ⟨e, a', w', hp, .of_steps (.one (fenced_calm hfb hroom rfl) stepR_loop) harr⟩
    · cases hc
  | scope b ih =>
    intro h h' ac hc hcalm st ex st' he a w μ S hst
    simp only [cCode] at hc
    refine wpIn_scope_straight (wpIn_mono (ih _ _ _ hc hcalm st ex st' he a w μ S hst) fun e a1 w1 hp => ?_)
    cases e with
    | goto l => obtain ⟨μ1, S1, hex, _⟩ := hp; cases ex <;> exact hex.elim
    | _ => exact hp
  | exit id =>
    intro h h' ac hc hcalm st ex st' he a w μ S hst
    simp only [cCode, Option.some.injEq, Prod.mk.injEq] at hc
    obtain ⟨rfl, rfl⟩ := hc
    simp only [exec, Option.some.injEq, Prod.mk.injEq] at he
    obtain ⟨rfl, rfl⟩ := he
    exact wpIn_exit ⟨μ, S, rfl, hst, .refl _ _ _ _⟩
  | ret =>
    intro h h' ac hc hcalm st ex st' he a w μ S hst
    simp only [cCode, Option.some.injEq, Prod.mk.injEq] at hc
    obtain ⟨rfl, rfl⟩ := hc
    simp only [exec, Option.some.injEq, Prod.mk.injEq] at he
    obtain ⟨rfl, rfl⟩ := he
    exact wpIn_ret ⟨μ, S, trivial, hst, .refl _ _ _ _⟩
  | goto l =>
    intro h h' ac hc hcalm st ex st' he
    simp only [cCode, Option.some.injEq, Prod.mk.injEq] at hc
    obtain ⟨rfl, rfl⟩ := hc
    cases he
  | rangeFunc go ps ca cb iha ihb =>
    intro h h' ac hc hcalm st ex st' he a w μ S hst
    simp only [cCode] at hc
    split at hc
    · rename_i g x h1 hgo hx
      split at hc
      · rename_i y h2 hy
        split at hc
        · rename_i hck
          simp only [Bool.and_eq_true] at hck
          simp only [Option.some.injEq, Prod.mk.injEq] at hc
          obtain ⟨rfl, rfl⟩ := hc
          have hr : r = none := hcalm.resolve_right (by simp [ACode.calm])
          subst hr
          simp only [exec] at he
          split at he
          · rename_i gv hgv
            split at he
            · rename_i f as htg
              · skip
                split at he
                · rename_i v σ2 hcr
                  refine wpIn_rangeFunc ?_
                  intro fn _
                  -- the two blocks
                  obtain ⟨rec, hrec⟩ : ∃ rec : Loop, rec = { state := .ready, pending := none, fn, tmps := a.tmps, params := ps, assign := ca, body := cb, defers := w.heap.size } := ⟨_, rfl⟩
                  obtain ⟨g1, f1⟩ := good_push (w1 := w.alloc (.deferred (some []))) (o := .mark) (n := 0) hst.good (alloc_old _ _) (alloc_size _ _) ⟨rfl, rfl, rfl⟩ rfl ⟨w.heap.size, 0, ext_self _ _ _ _, alloc_new _ _⟩
                  have hrnd : Marks.rnd (ps.toList, x, y) ps ca cb a.tmps.size := (hM _ _ _ _ _).2 ⟨rfl, by rw [hst.size]; exact hck.2, hck.1.1, hck.1.2, _, _, _, _, by rw [hst.size]; exact hx, by rw [hst.size]; exact hy⟩
                  obtain ⟨g2, f2⟩ := good_push (w1 := (w.alloc (.deferred (some []))).alloc (.loop rec)) (o := .loop (ps.toList, x, y) ((keepE st.env (once (readsC x ++ readsC y) [])).map (·.1)) (mkCells ((keepE st.env (once (readsC x ++ readsC y) [])).map (·.2))) .ready) (n := 0) g1 (alloc_old _ _) (alloc_size _ _) ⟨rfl, rfl, rfl⟩ rfl
                    ⟨_, 0, rec, ext_self _ _ _ _, alloc_new _ _, by rw [hrec]; exact ⟨rfl, rfl⟩, by rw [hrec]; exact hrnd, fun j t v ht hv => by
                      rw [Cells.get?_toList, mkCells_toList, List.getElem?_map] at hv
                      rw [List.getElem?_map] at ht
                      cases hk : (keepE st.env (once (readsC x ++ readsC y) []))[j]? with
                      | none => rw [hk] at hv; cases hv
                      | some q =>
                        obtain ⟨t', v'⟩ := q
                        rw [hk] at ht hv
                        simp only [Option.map_some, Option.some.injEq] at ht hv
                        subst ht hv
                        have hsz : (st.heap ++ [Obj.mark]).length = st.heap.length + 1 := by simp
                        rw [hrec]
                        refine (((hst.env _ _ (keepE_at hk)).mono f1.keepS f1.mu).mono (S' := S) (fun b o hs => ⟨hs, ?_⟩) (fun i vv z hz => ?_))
                        · exact cell_of_heap (alloc_old _ _ _ (g1.sb b o hs))
                        · have : ¬ (i = (st.heap ++ [Obj.mark]).length ∧ vv = 0) := by
                            rintro ⟨rfl, rfl⟩
                            obtain ⟨o, ho, _⟩ := g1.old _ _ _ hz
                            simp at ho
                          rw [ext_other this]; exact hz⟩
                  have f12 := f1.trans f2
                  have hlen : (st.heap ++ [Obj.mark]).length = st.heap.length + 1 := by simp
                  have hws : (w.alloc (.deferred (some []))).heap.size = w.heap.size + 1 := alloc_size _ _
                  rw [hlen, hws] at g2 f12
                  rw [List.append_assoc] at g2 f12
                  have hmu2 : ext (ext μ st.heap.length 0 (w.heap.size, 0)) (st.heap.length + 1) 0 (w.heap.size + 1, 0) (st.heap.length + 1) 0 = some (w.heap.size + 1, 0) := ext_self _ _ _ _
                  have hmu1 : ext (ext μ st.heap.length 0 (w.heap.size, 0)) (st.heap.length + 1) 0 (w.heap.size + 1, 0) st.heap.length 0 = some (w.heap.size, 0) := by
                    rw [ext_other (by omega)]; exact ext_self _ _ _ _
                  have hrg := (ev_rep hst.env hst.glob hgo hgv).mono f12.keepS f12.mu
                  obtain ⟨hfl, d, caps, k1, k2, k3⟩ := dtarget_run (P := P) (cas := #[.func (.yield (w.heap.size + 1)) #[] #[]]) htg hrg (.cons (.yld hmu2) .nil)
                  have hfn : f ≠ 4294967295 := by omega
                  obtain ⟨⟨fn2, c2, q1, q2, q3⟩, hcalls⟩ := hC.1.1 _ _ _ _ _ hcr hfn _ _ _ (d.args ++ caps) g2 (hst.glob.mono f12.keepS) k3
                  refine ⟨w.heap.size + 1, _, (w.alloc (.deferred (some []))).alloc (.loop rec), d, (w.alloc (.deferred (some []))).alloc (.loop rec), f, d.args ++ caps, (w.alloc (.deferred (some []))).alloc (.loop rec), by
                    have := run_enterLoop_outer (P := P) (w := w) fn a.tmps ps ca cb
                    rw [← hrec] at this
                    exact this, ?_, fun _ _ => trivial, ?_, deep_FR, calls_FR (hcalls.mono ?_)⟩
                  · simp only [resolve, rangeCall]
                    have ha : Array.map a.eval #[Operand.const (Value.func (Fn.yield (w.heap.size + 1)) #[] #[])] = #[.func (.yield (w.heap.size + 1)) #[] #[]] := by simp [Act.eval]
                    rw [ha]
                    exact k1 _
                  · rw [k2]; exact enter_run q1 q2 q3 _
                  · intro e w3 ⟨μ3, S3, g3, f3, r3⟩
                    cases e with
                    | panicked ch => exact r3.elim
                    | outgrown => exact r3.elim
                    | returned cv =>
                      have hmu3 := f3.mu _ _ _ hmu2
                      have fin : ∀ (k : List Nat × ACode × ACode) (ts' : List Nat) (c : Cells) (s : LSt), σ2[st.heap.length + 1]? = some (.loop k ts' c s) → (∀ ss pp, s.is ss pp → ss ≠ .busy) →
                          ∃ (rec3 : Loop) (w4 : World), (Instr.endLoop (w.heap.size + 1)).run P w3 = .ok rec3.pending w4 ∧ s.is rec3.state rec3.pending ∧
                            StOK G N μ3 S3 w4 ⟨st.env, (4294967294, [.ptr st.heap.length 0 0]) :: st.defers, σ2.set (st.heap.length + 1) (.loop k ts' c .over)⟩ { a with defers := [{ target := .collected w.heap.size, args := #[] }] ++ a.defers } ∧
                            Frm μ S w st.heap μ3 S3 w4 (σ2.set (st.heap.length + 1) (.loop k ts' c .over)) := by
                        intro k ts' c s hob hnb
                        obtain ⟨b3, n3, rec3, p1, p2, p3, _, _⟩ := g3.obj _ _ hob
                        rw [hmu3] at p1
                        cases p1
                        obtain ⟨g4, f4⟩ := loop_set (st' := .over) g3 hob hmu3 p2 .exhausted rec3.pending rfl
                        have ff := (f12.trans f3).trans f4
                        exact ⟨rec3, _, run_endLoop p2 (hnb _ _ p3), p3, ⟨hst.env.mono ff.keepS ff.mu, hst.glob.mono ff.keepS, g4, hst.size, ⟨.inr ⟨rfl, rfl, _, _, _, rfl, f4.mu _ _ _ (f3.mu _ _ _ hmu1), rfl⟩, hst.defers.mono ff.keepS ff.mu⟩⟩, ff⟩
                      split at he
                      · rename_i k ts' c hob
                        simp only [Option.some.injEq, Prod.mk.injEq] at he
                        obtain ⟨rfl, rfl⟩ := he
                        obtain ⟨rec3, w4, p1, p2, p3, p4⟩ := fin _ _ _ _ hob (fun ss pp h => by rw [h.1]; simp)
                        rw [p2.2] at p1
                        exact ⟨none, w4, p1, μ3, S3, trivial, p3, p4⟩
                      · rename_i k ts' c jm hob
                        simp only [Option.some.injEq, Prod.mk.injEq] at he
                        obtain ⟨rfl, rfl⟩ := he
                        obtain ⟨rec3, w4, p1, p2, p3, p4⟩ := fin _ _ _ _ hob (fun ss pp h => by rw [h.1]; simp)
                        rw [p2.2] at p1
                        refine ⟨some jm.code, w4, p1, ?_⟩
                        cases jm with
                        | exit id => exact wpIn_exit ⟨μ3, S3, rfl, p3, p4⟩
                        | ret => exact wpIn_ret ⟨μ3, S3, trivial, p3, p4⟩
                      · cases he
                · cases he
            · cases he
          · cases he
        · simp only [Option.some.injEq, Prod.mk.injEq] at hc
          obtain ⟨rfl, rfl⟩ := hc
          cases he
      · cases hc
    · cases hc
  | refuse s =>
    intro h h' ac hc hcalm st ex st' he
    simp only [cCode, Option.some.injEq, Prod.mk.injEq] at hc
    obtain ⟨rfl, rfl⟩ := hc
    cases he

end Go.Ab
