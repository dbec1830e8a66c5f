/- A15 -/
import Derived.Test.YtikebbklkiodlaaGreatDoorAbAH
import Derived.Recover
set_option maxRecDepth 1000000
set_option linter.all false
namespace Go.Ab
variable [Q4]
variable {S S' : Nat -> Nat -> Prop} {w w' w1 : World} {μ μ' : Nat -> Nat -> Option (Nat × Nat)} {P : Program} {G : Bx} {σ σ' : Heap}
theorem Qnl {M : Env} {l : List Nat} {t : Nat} {v : AV} (h : (B4 M l).get t = some v) : M.get t = some v := by
 induction l with
 | nil => simp [B4, Env.get] at h
 | cons x r ih =>
   simp only [B4] at h
   split at h
   · rename_i u hu
     rw [Env.get_cons] at h
     split at h
     · rename_i hx; subst hx; rw [<- h]; exact hu
     · exact ih h
   · exact ih h
theorem StOK.keep {N : Nat} {st : St} {a : Act} (h : StOK G N μ S w st a) (live : Option (List Nat)) : StOK G N μ S w (st.keep live) a := by
 cases live with
 | none => exact h
 | some l => exact ⟨fun t v ht => h.env t v (Qnl ht), h.glob, h.good, h.size, h.defers⟩
theorem Qf4 (st : St) (live : Option (List Nat)) : (st.keep live).heap = st.heap := by cases live <;> rfl
theorem Ok {b : Frame} {a : Act} {k : List Item} {cs : List Frame} {c : Code} : step P (lone (b.atR a (.code (.scope c) :: k)) cs w) = .next (lone (b.atR a (.code c :: .inScope c :: k)) cs w) :=
 step_lone_go (by simp [stepG, stepG.exec, Frame.atR])
theorem Qek {b : Frame} {a : Act} {k : List Item} {cs : List Frame} {c : Code} : step P (lone (b.atR a (.inScope c :: k)) cs w) = .next (lone (b.atR a k) cs w) :=
 step_lone_go (by simp [stepG, stepG.exec, Frame.atR])
theorem wd {F : Fence} {n : Nat} {Q : Exit -> Act -> World -> Prop} {a : Act} {c : Code} (h : c.wpIn F n P (Exit.noGoto Q) a w) : (Code.scope c).wpIn F n P Q a w := by
 intro b k cs hro hb hr
 have h0 : (lone (b.atR a (.code (.scope c) :: k)) cs w).fenced P F := fenced_calm hb hr rfl
 obtain ⟨e, a₁, w₁, hq, harr⟩ := h b (.inScope c :: k) cs hro hb hr
 cases e with
 | normal => exact ⟨.normal, a₁, w₁, hq, .head h0 Ok (StepsIn.trans harr (.one (fenced_calm hb hr rfl) Qek))⟩
 | exit id => exact ⟨.exit id, a₁, w₁, hq, fun k' hk => .head h0 Ok (harr.1 k' (by simp [exitTo, hk])), fun hr' hk => let ⟨k₁, h1, h2⟩ := harr.2 hr' (by simp [exitTo, hk]); ⟨k₁, h1, .head h0 Ok h2⟩⟩
 | goto l => exact hq.elim
 | ret => exact ⟨_, a₁, w₁, hq, .of_steps (.one h0 Ok) harr⟩
 | panic ch => exact ⟨_, a₁, w₁, hq, .of_steps (.one h0 Ok) harr⟩
 | outgrown => exact ⟨_, a₁, w₁, hq, .of_steps (.one h0 Ok) harr⟩
def Qog (P : Program) (G : Bx) (x : List Nat × Q0 × Q0) (ps : Array Nat) (a b : Code) (N : Nat) : Prop :=
 ps.toList = x.1 /\ ps.toList.all (· < N) = true /\ x.2.1.calm = true /\ x.2.2.calm = true /\ ∃ h1 h2 h3 h4, Og P G N a h1 = some (x.2.1, h2) /\ Og P G N b h3 = some (x.2.2, h4)
def Vr (P : Program) (G : Bx) : Prop := ∀ x ps a b N, Q4.rnd x ps a b N ↔ Qog P G x ps a b N
theorem Qsy {M : Env} {l : List Nat} {j : Nat} {t : Nat} {v : AV} (h : (B4 M l)[j]? = some (t, v)) : M.get t = some v := by
 induction l generalizing j with
 | nil => simp [B4] at h
 | cons x r ih =>
   simp only [B4] at h
   split at h
   · rename_i u hu
     cases j with
     | zero => simp at h; obtain ⟨rfl, rfl⟩ := h; exact hu
     | succ j => exact ih (by simpa using h)
   · exact ih h
theorem zk {id : Nat} {k : List Nat × Q0 × Q0} {ts : List Nat} {c : Q1} {st st' : LSt} {b n : Nat} {rec : Loop} (hg : Good μ S w σ) (hid : σ[id]? = some (.loop k ts c st)) (hb : μ id 0 = some (b, n))
   (hw : w.heap[b]? = some (.loop rec)) (s : LoopState) (p : Option Code) (hs : st'.is s p) :
   Good μ S (w.putObj b (.loop { rec with state := s, pending := p })) (σ.set id (.loop k ts c st')) /\ Frm μ S w σ μ S (w.putObj b (.loop { rec with state := s, pending := p })) (σ.set id (.loop k ts c st')) := by
 have hbs : b < w.heap.size := (Array.getElem?_eq_some_iff.1 hw).1
 have hat : (w.putObj b (.loop { rec with state := s, pending := p })).heap[b]? = some (.loop { rec with state := s, pending := p }) := World.putObj_heap_same hbs
 have hS : ∀ bb j, S bb j -> (w.putObj b (.loop { rec with state := s, pending := p })).cell? ⟨bb, j, none⟩ = w.cell? ⟨bb, j, none⟩ := by
   intro bb j _
   by_cases hbb : bb = b
   · subst hbb
     simp [World.cell?, hat, hw]
   · exact E7 (World.putObj_heap_other hbb)
 obtain ⟨b', n', rec', q1, q2, q3, q4, q5⟩ := hg.obj id _ hid
 rw [hb] at q1
 cases q1
 rw [hw] at q2
 cases q2
 refine Xq (b' := b) (n' := n) hg hid rfl hb hb (.inl rfl) (fun _ _ _ h => h) (fun _ _ _ => rfl)
   (fun v x h => by obtain ⟨o, ho, h1, h2⟩ := hg.old _ _ _ h; rw [hid] at ho; cases ho; exact ⟨h1, by simpa using h2⟩)
   (by simp) (fun bb _ h => World.putObj_heap_other h) hS ⟨b, n, _, hb, hat, hs, q4, fun j t v ht hv => (q5 j t v ht hv).mono (fun b o h => ⟨h, hS b o h⟩) (fun _ _ _ h => h)⟩ ⟨rfl, rfl, rfl⟩
theorem Qdt {r : Option Nat} {n : Nat} {N : Nat} {C : Zj} (hC : Pf P G C) {ops : Array Oper} :
   ∀ (l : List Nat) (os : List AOper), (r = none ∨ os.all AOper.calm = true) -> (∀ (k i : Nat), l[k]? = some i -> ∃ o ao, ops[i]? = some o /\ os[k]? = some ao /\ COperI P G N ops o ao) -> os.length = l.length ->
     ∀ (st : St) (ex : AExit) (st' : St), U0 C os st = some (ex, st') -> ∀ (a : Act) (w : World) (μ : Nat -> Nat -> Option (Nat × Nat)) (S : Nat -> Nat -> Prop), StOK G N μ S w st a ->
       wpOpsIn (FR r) n P ops (Post G N μ S w st.heap ex st') l a w := by
 intro l
 induction l with
 | nil =>
   intro os _ _ hlen st ex st' h a w μ S hst
   cases os with
   | cons => simp at hlen
   | nil =>
     simp only [U0, Option.some.injEq, Prod.mk.injEq] at h
     obtain ⟨rfl, rfl⟩ := h
     exact ⟨μ, S, trivial, hst, .refl _ _ _ _⟩
 | cons i rest ih =>
   intro os hcalm hops hlen st ex st' h a w μ S hst
   cases os with
   | nil => simp at hlen
   | cons ao os =>
     obtain ⟨o, ao', ho, hao, hc⟩ := hops 0 i rfl
     simp only [List.getElem?_cons_zero, Option.some.injEq] at hao
     subst hao
     have hcalm1 : r = none ∨ ao.calm = true := hcalm.imp id fun h => by simp only [List.all_cons, Bool.and_eq_true] at h; exact h.1
     have hcalm2 : r = none ∨ os.all AOper.calm = true := hcalm.imp id fun h => by simp only [List.all_cons, Bool.and_eq_true] at h; exact h.2
     obtain ⟨hcopI, hdst, hdN⟩ := hc.op
     have hsem : o.semAt (FR r).round a.eval = execOp a.eval o := semI hc (.inr hcalm1) a.eval
     have ih' := ih os hcalm2 (fun k i hk => hops (k + 1) i hk) (by simpa using hlen)
     have wmono : ∀ {μ1 : Nat -> Nat -> Option (Nat × Nat)} {S1 : Nat -> Nat -> Prop} {w1 : World} {st1 : St} {a1 : Act}, Frm μ S w st.heap μ1 S1 w1 st1.heap -> StOK G N μ1 S1 w1 st1 a1 -> U0 C os st1 = some (ex, st') ->
         wpOpsIn (FR r) n P ops (Post G N μ S w st.heap ex st') rest a1 w1 := by
       intro μ1 S1 w1 st1 a1 hf hst1 h1
       have := ih' st1 ex st' h1 a1 w1 μ1 S1 hst1
       exact yq (fun e a' w' hp => hp.trans hf) _ _ _ this
     have other : (∀ z l e ps, ao.op ≠ .buildVals z l e ps) -> (match Me C [ao] st with
         | some (.normal, st1) => U0 C os st1
         | x => x) = some (ex, st') -> wpOpsIn (FR r) n P ops (Post G N μ S w st.heap ex st') (i :: rest) a w := by
       intro hne h
       have hco : Qcl P G N ops o = some ao := by
         obtain ⟨ao0, h1, rfl | rfl⟩ := hc
         · exact h1
         · rcases jp ao0.op with e | ⟨z, l, es, ps, e, e'⟩
           · have : imO ao0 = ao0 := by unfold imO; rw [e]
             rw [this]; exact h1
           · exact absurd e' (hne z l es ps)
       have one : ∀ ex1 st1, Me C [ao] st = some (ex1, st1) -> wpOpsIn (FR r) n P ops (Post G N μ S w st.heap ex1 st1) [i] a w := fun ex1 st1 h1 =>
         S9 (r := r) (n := n) hC [i] [ao] (hcalm1.imp_right fun h => by simp [h]) (fun k j hk => by
           cases k with
           | zero =>
             simp at hk
             subst hk
             exact ⟨o, ao, ho, rfl, hco⟩
           | succ k => simp at hk) rfl _ _ _ h1 a w μ S hst
       rw [wpOpsIn_cons]
       split at h
       · rename_i st1 h1
         have hrun := one _ _ h1
         rw [wpOpsIn_cons] at hrun
         refine Vg ho ?_ ?_ hrun
         · intro a' w' hp _
           obtain ⟨μ1, S1, _, hst1, hfr⟩ := hp
           exact wmono hfr hst1 h
         · intro e a' w' hne hp _
           obtain ⟨μ1, S1, hex, _⟩ := hp
           cases e <;> first | exact absurd rfl hne | exact hex.elim
       · rename_i hnn
         have hrun := one _ _ h
         rw [wpOpsIn_cons] at hrun
         refine Vg ho ?_ ?_ hrun
         · intro a' w' hp _
           obtain ⟨μ1, S1, hex, _⟩ := hp
           cases ex <;> first | exact hex.elim | exact absurd h (hnn _)
         · intro e a' w' hne hp _
           exact hp
     simp only [U0] at h
     split at h
     · rename_i z len esz parts hop
       rcases hcopI with hcop | ⟨z', l', e', ps', hop', hcop⟩
       · rw [hop] at hcop
         exact absurd hcop Qma
       · rw [hop] at hop'
         cases hop'
         simp only [wpOpsIn, ho]
         split at h
         · rename_i hw
           have hwan := hc.wanted hst.env hw
           rw [if_pos hwan]
           unfold Oper.wpIn
           rw [hsem]
           refine ⟨fun _ _ => trivial, ?_⟩
           split at h
           · rename_i v hv
             obtain ⟨c, w1, S1, hrun, hrep, hg1, hf1⟩ := Qdo hst.env hst.glob hst.good hcop hv
             simp only [hrun, Oper.uponIn_value]
             refine wmono (st1 := { st with env := putE st.env ao.dst (.p v) }) hf1 ?_ h
             rw [hdst]
             exact (hst.step (σ1 := st.heap) hg1 hf1).put hdN hrep
           · cases h
         · rename_i hw
           have hwan := hc.wanted hst.env hw
           rw [if_neg (by rw [hwan]; simp)]
           refine ⟨fun _ _ => trivial, ?_⟩
           refine wmono (st1 := { st with env := putE st.env ao.dst (.p .undef) }) (.refl _ _ _ _) ?_ h
           rw [hdst]
           exact hst.put hdN (.p .undef)
         · cases h
     · rename_i hno
       exact other (fun z l e ps hop => hno z l e ps hop) h
theorem Qmv {r : Option Nat} {m : Nat} {N : Nat} {c : Code} {f : St -> Option (AExit × St)} {live : Option (List Nat)}
   (hf : ∀ st ex st', f st = some (ex, st') -> ∀ (a : Act) (w : World) (μ : Nat -> Nat -> Option (Nat × Nat)) (S : Nat -> Nat -> Prop), StOK G N μ S w st a -> c.wpIn (FR r) m P (Post G N μ S w st.heap ex st') a w) :
   ∀ (n : Nat) (st : St) (ex : AExit) (st' : St), iter f live n st = some (ex, st') -> ∀ (a : Act) (w : World) (μ : Nat -> Nat -> Option (Nat × Nat)) (S : Nat -> Nat -> Prop), StOK G N μ S w st a ->
     ∀ (b : Frame) (k : List Item) (cs : List Frame), b.roundOf = r -> ∃ e a' w', Post G N μ S w st.heap ex st' e a' w' /\ ArrivesIn (Machine.fenced P (FR r)) P (lone (b.atR a (.code c :: .inLoop c :: k)) cs w) b k cs e a' w' := by
 intro n
 induction n with
 | zero => intro st ex st' h; simp [iter] at h
 | succ n ih =>
   intro st ex st' h a w μ S hst b k cs hro
   simp only [iter] at h
   have stop : ∀ ex' : AExit, ex' ≠ .normal -> f (st.keep live) = some (ex', st') -> ex = ex' ->
       ∃ e a' w', Post G N μ S w st.heap ex st' e a' w' /\ ArrivesIn (Machine.fenced P (FR r)) P (lone (b.atR a (.code c :: .inLoop c :: k)) cs w) b k cs e a' w' := by
     intro ex' hne h1 he
     subst he
     obtain ⟨e, a1, w1, hp, harr⟩ := hf _ _ _ h1 a w μ S (hst.keep live) b (.inLoop c :: k) cs hro trivial (fun d hd => by cases hd)
     rw [Qf4] at hp
     refine ⟨e, a1, w1, hp, ?_⟩
     obtain ⟨μ1, S1, hex, _, _⟩ := hp
     refine .pass (x := .inLoop c) rfl (fun _ _ => .inl ?_) harr
     intro he
     subst he
     cases ex <;> first | exact hne rfl | exact hex.elim
   split at h
   · rename_i st1 h1
     obtain ⟨e, a1, w1, hp, harr⟩ := hf _ _ _ h1 a w μ S (hst.keep live) b (.inLoop c :: k) cs hro trivial (fun d hd => by cases hd)
     rw [Qf4] at hp
     obtain ⟨μ1, S1, hex, hst1, hfr⟩ := hp
     cases e with
     | normal =>
       obtain ⟨e2, a2, w2, hp2, harr2⟩ := ih st1 ex st' h a1 w1 μ1 S1 hst1 b k cs hro
       exact ⟨e2, a2, w2, hp2.trans hfr, .of_steps (StepsIn.trans harr (.one (fenced_calm (n := 0) trivial (fun d hd => by cases hd) rfl) stepR_inLoop)) harr2⟩
     | _ => exact hex.elim
   · rename_i r hne
     exact stop ex (fun he => by subst he; exact hne st' h) h rfl
theorem Nk {r : Option Nat} {n : Nat} {N : Nat} {C : Zj} (hM : Vr P G) (hC : Pf P G C) (L : Nat) :
   ∀ (c : Code) (h h' : List (List Nat)) (ac : Q0), Og P G N c h = some (ac, h') -> (r = none ∨ ac.calm = true) -> ∀ (st : St) (ex : AExit) (st' : St), exec C L ac st = some (ex, st') ->
     ∀ (a : Act) (w : World) (μ : Nat -> Nat -> Option (Nat × Nat)) (S : Nat -> Nat -> Prop), StOK G N μ S w st a -> c.wpIn (FR r) n P (Post G N μ S w st.heap ex st') a w := by
 intro c
 induction c with
 | skip =>
   intro h h' ac hc hcalm st ex st' he a w μ S hst
   simp only [Og, Option.some.injEq, Prod.mk.injEq] at hc
   obtain ⟨rfl, rfl⟩ := hc
   simp only [exec, Option.some.injEq, Prod.mk.injEq] at he
   obtain ⟨rfl, rfl⟩ := he
   exact wpIn_skip ⟨μ, S, trivial, hst, .refl _ _ _ _⟩
 | label l =>
   intro h h' ac hc hcalm st ex st' he a w μ S hst
   simp only [Og, Option.some.injEq, Prod.mk.injEq] at hc
   obtain ⟨rfl, rfl⟩ := hc
   simp only [exec, Option.some.injEq, Prod.mk.injEq] at he
   obtain ⟨rfl, rfl⟩ := he
   exact wpIn_label ⟨μ, S, trivial, hst, .refl _ _ _ _⟩
 | region id ops draw =>
   intro h h' ac hc hcalm st ex st' he a w μ S hst
   simp only [Og, Option.some.injEq, Prod.mk.injEq] at hc
   obtain ⟨rfl, rfl⟩ := hc
   cases draw with
   | true =>
     simp only [qh] at he
     split at he
     · rename_i l hl
       split at he
       · rename_i hck
         simp only [Bool.and_eq_true] at hck
         exact Qdl hC (Qm1 hl) (hcalm.imp_right fun h => by simpa [qh, hl, hck, Q0.calm] using h) hck.1 hck.2 he hst
       · rename_i hno
         split at he
         · rename_i hck
           have hcl : r = none ∨ (l.map imO).all AOper.calm = true := hcalm.imp_right fun h => by
             simp only [qh, hl] at h
             rw [if_neg hno, if_pos hck] at h
             exact h
           simp only [Bool.and_eq_true] at hck
           exact Qdl hC (Qcq hl) hcl hck.1 hck.2 he hst
         · cases he
     · cases he
   | false =>
     simp only [qh] at he
     split at he
     · rename_i l hl
       split at he
       · rename_i him
         obtain ⟨h1, h2⟩ := Qcq hl
         simp only [exec] at he
         refine wpIn_region (Qdt hC (List.range ops.size) (l.map imO) (hcalm.imp_right fun h => by simpa [qh, hl, him, Q0.calm] using h) ?_ (by simpa using h1) st ex st' he a w μ S hst)
         intro k i hk
         obtain ⟨hlt, hik⟩ := List.getElem?_eq_some_iff.1 hk
         simp only [List.length_range] at hlt
         simp only [List.getElem_range] at hik
         subst hik
         have ho : ops[k]? = some ops[k] := by simp [hlt]
         obtain ⟨ao, h3, h4⟩ := h2 k ops[k] (by simp [hlt])
         exact ⟨_, ao, ho, h3, h4⟩
       rename_i him
       obtain ⟨h1, h2⟩ := Xh hl
       refine wpIn_region (S9 hC (List.range ops.size) l (hcalm.imp_right fun h => by simpa [qh, hl, him, Q0.calm] using h) ?_ (by simpa using h1) st ex st' he a w μ S hst)
       intro k i hk
       obtain ⟨hlt, hik⟩ := List.getElem?_eq_some_iff.1 hk
       simp only [List.length_range] at hlt
       simp only [List.getElem_range] at hik
       subst hik
       have ho : ops[k]? = some ops[k] := by simp [hlt]
       obtain ⟨ao, h3, h4⟩ := h2 k ops[k] (by simp [hlt])
       exact ⟨_, ao, ho, h3, h4⟩
     · cases he
 | seq x y ihx ihy =>
   intro h h' ac hc hcalm st ex st' he a w μ S hst
   simp only [Og] at hc
   split at hc
   · rename_i ax h1 hx
     split at hc
     · rename_i ay h2 hy
       simp only [Option.some.injEq, Prod.mk.injEq] at hc
       obtain ⟨rfl, rfl⟩ := hc
       simp only [exec] at he
       refine wpIn_seq ?_
       split at he
       · rename_i st1 he1
         refine wpIn_mono (ihx _ _ _ hx (hcalm.imp_right fun h => by simp only [Q0.calm, Bool.and_eq_true] at h; exact h.1) st .normal st1 he1 a w μ S hst) fun e a1 w1 ⟨μ1, S1, hex, hst1, hfr⟩ => ?_
         cases e with
         | normal => exact wpIn_mono (ihy _ _ _ hy (hcalm.imp_right fun h => by simp only [Q0.calm, Bool.and_eq_true] at h; exact h.2) st1 ex st' he a1 w1 μ1 S1 hst1) fun e a2 w2 hp => hp.trans hfr
         | _ => exact hex.elim
       · rename_i r hne
         refine wpIn_mono (ihx _ _ _ hx (hcalm.imp_right fun h => by simp only [Q0.calm, Bool.and_eq_true] at h; exact h.1) st ex st' he a w μ S hst) fun e a1 w1 hp => ?_
         cases e with
         | normal =>
           obtain ⟨μ1, S1, hex, _⟩ := hp
           cases ex <;> first | exact hex.elim | exact absurd he (hne _)
         | _ => exact hp
     · cases hc
   · cases hc
 | cond o x y ihx ihy =>
   intro h h' ac hc hcalm st ex st' he a w μ S hst
   simp only [Og] at hc
   split at hc
   · rename_i co ax h1 ho hx
     split at hc
     · rename_i ay h2 hy
       simp only [Option.some.injEq, Prod.mk.injEq] at hc
       obtain ⟨rfl, rfl⟩ := hc
       simp only [exec] at he
       split at he
       · rename_i t ht
         have hr := (Jn hst.env hst.glob ho ht).bool
         refine wpIn_cond hr ?_
         cases t with
         | true => exact ihx _ _ _ hx (hcalm.imp_right fun h => by simp only [Q0.calm, Bool.and_eq_true] at h; exact h.1) st ex st' he a w μ S hst
         | false => exact ihy _ _ _ hy (hcalm.imp_right fun h => by simp only [Q0.calm, Bool.and_eq_true] at h; exact h.2) st ex st' he a w μ S hst
       · cases he
     · cases hc
   · cases hc
 | block id b ih =>
   intro h h' ac hc hcalm st ex st' he a w μ S hst
   simp only [Og] at hc
   split at hc
   · rename_i ab h1 hb
     simp only [Option.some.injEq, Prod.mk.injEq] at hc
     obtain ⟨rfl, rfl⟩ := hc
     simp only [exec] at he
     refine wpIn_block ?_
     split at he
     · rename_i id' st1 he1
       refine wpIn_mono (ih _ _ _ hb (hcalm.imp_right fun h => h) st (.exit id') st1 he1 a w μ S hst) fun e a1 w1 hp => ?_
       obtain ⟨μ1, S1, hex, hst1, hfr⟩ := hp
       cases e with
       | exit id2 =>
         simp only [ExOK] at hex
         subst hex
         simp only [Exit.inBlock]
         split at he
         · rename_i hid
           simp only [Option.some.injEq, Prod.mk.injEq] at he
           obtain ⟨rfl, rfl⟩ := he
           rw [if_pos hid]
           exact ⟨μ1, S1, trivial, hst1, hfr⟩
         · rename_i hid
           simp only [Option.some.injEq, Prod.mk.injEq] at he
           obtain ⟨rfl, rfl⟩ := he
           rw [if_neg hid]
           exact ⟨μ1, S1, rfl, hst1, hfr⟩
       | _ => exact hex.elim
     · rename_i r hne
       refine wpIn_mono (ih _ _ _ hb (hcalm.imp_right fun h => h) st ex st' he a w μ S hst) fun e a1 w1 hp => ?_
       cases e with
       | exit id2 =>
         obtain ⟨μ1, S1, hex, _⟩ := hp
         cases ex <;> first | exact hex.elim | exact absurd he (hne _ _)
       | _ => exact hp
   · cases hc
 | loop b ih =>
   intro h h' ac hc hcalm st ex st' he a w μ S hst
   simp only [Og] at hc
   split at hc
   · rename_i ab h1 hb
     simp only [Option.some.injEq, Prod.mk.injEq] at hc
     obtain ⟨rfl, rfl⟩ := hc
     simp only [exec] at he
     intro fb k cs hro hfb hroom
     obtain ⟨e, a', w', hp, harr⟩ := Qmv (P := P) (r := r) (m := n) (fun st ex st' h => ih _ _ _ hb (hcalm.imp_right fun h => h) st ex st' h) L st ex st' he a w μ S hst fb k cs hro
     exact ⟨e, a', w', hp, .of_steps (.one (fenced_calm hfb hroom rfl) stepR_loop) harr⟩
   · cases hc
 | scope b ih =>
   intro h h' ac hc hcalm st ex st' he a w μ S hst
   simp only [Og] at hc
   refine wd (wpIn_mono (ih _ _ _ hc hcalm st ex st' he a w μ S hst) fun e a1 w1 hp => ?_)
   cases e with
   | goto l => obtain ⟨μ1, S1, hex, _⟩ := hp; cases ex <;> exact hex.elim
   | _ => exact hp
 | exit id =>
   intro h h' ac hc hcalm st ex st' he a w μ S hst
   simp only [Og, Option.some.injEq, Prod.mk.injEq] at hc
   obtain ⟨rfl, rfl⟩ := hc
   simp only [exec, Option.some.injEq, Prod.mk.injEq] at he
   obtain ⟨rfl, rfl⟩ := he
   exact wpIn_exit ⟨μ, S, rfl, hst, .refl _ _ _ _⟩
 | ret =>
   intro h h' ac hc hcalm st ex st' he a w μ S hst
   simp only [Og, Option.some.injEq, Prod.mk.injEq] at hc
   obtain ⟨rfl, rfl⟩ := hc
   simp only [exec, Option.some.injEq, Prod.mk.injEq] at he
   obtain ⟨rfl, rfl⟩ := he
   exact wpIn_ret ⟨μ, S, trivial, hst, .refl _ _ _ _⟩
 | goto l =>
   intro h h' ac hc hcalm st ex st' he
   simp only [Og, Option.some.injEq, Prod.mk.injEq] at hc
   obtain ⟨rfl, rfl⟩ := hc
   cases he
 | rangeFunc go ps ca cb iha ihb =>
   intro h h' ac hc hcalm st ex st' he a w μ S hst
   simp only [Og] at hc
   split at hc
   · rename_i g x h1 hgo hx
     split at hc
     · rename_i y h2 hy
       split at hc
       · rename_i hck
         simp only [Bool.and_eq_true] at hck
         simp only [Option.some.injEq, Prod.mk.injEq] at hc
         obtain ⟨rfl, rfl⟩ := hc
         have hr : r = none := hcalm.resolve_right (by simp [Q0.calm])
         subst hr
         simp only [exec] at he
         split at he
         · rename_i gv hgv
           split at he
           · rename_i f as htg
             · skip
               split at he
               · rename_i v σ2 hcr
                 refine wpIn_rangeFunc ?_
                 intro fn _
                 obtain ⟨rec, hrec⟩ : ∃ rec : Loop, rec = { state := .ready, pending := none, fn, tmps := a.tmps, params := ps, assign := ca, body := cb, defers := w.heap.size } := ⟨_, rfl⟩
                 obtain ⟨g1, f1⟩ := Xc (w1 := w.alloc (.deferred (some []))) (o := .mark) (n := 0) hst.good (Mu _ _) (Fe _ _) ⟨rfl, rfl, rfl⟩ rfl ⟨w.heap.size, 0, Gx _ _ _ _, Lx _ _⟩
                 have hrnd : Q4.rnd (ps.toList, x, y) ps ca cb a.tmps.size := (hM _ _ _ _ _).2 ⟨rfl, by rw [hst.size]; exact hck.2, hck.1.1, hck.1.2, _, _, _, _, by rw [hst.size]; exact hx, by rw [hst.size]; exact hy⟩
                 obtain ⟨g2, f2⟩ := Xc (w1 := (w.alloc (.deferred (some []))).alloc (.loop rec)) (o := .loop (ps.toList, x, y) ((B4 st.env (once (Ro x ++ Ro y) [])).map (·.1)) (Kp ((B4 st.env (once (Ro x ++ Ro y) [])).map (·.2))) .ready) (n := 0) g1 (Mu _ _) (Fe _ _) ⟨rfl, rfl, rfl⟩ rfl
                   ⟨_, 0, rec, Gx _ _ _ _, Lx _ _, by rw [hrec]; exact ⟨rfl, rfl⟩, by rw [hrec]; exact hrnd, fun j t v ht hv => by
                     rw [Q1.get?_toList, By, List.getElem?_map] at hv
                     rw [List.getElem?_map] at ht
                     cases hk : (B4 st.env (once (Ro x ++ Ro y) []))[j]? with
                     | none => rw [hk] at hv; cases hv
                     | some q =>
                       obtain ⟨t', v'⟩ := q
                       rw [hk] at ht hv
                       simp only [Option.map_some, Option.some.injEq] at ht hv
                       subst ht hv
                       have hsz : (st.heap ++ [Obj.mark]).length = st.heap.length + 1 := by simp
                       rw [hrec]
                       refine (((hst.env _ _ (Qsy hk)).mono f1.keepS f1.mu).mono (S' := S) (fun b o hs => ⟨hs, ?_⟩) (fun i vv z hz => ?_))
                       · exact E7 (Mu _ _ _ (g1.sb b o hs))
                       · have : ¬ (i = (st.heap ++ [Obj.mark]).length /\ vv = 0) := by
                           rintro ⟨rfl, rfl⟩
                           obtain ⟨o, ho, _⟩ := g1.old _ _ _ hz
                           simp at ho
                         rw [Bt this]; exact hz⟩
                 have f12 := f1.trans f2
                 have hlen : (st.heap ++ [Obj.mark]).length = st.heap.length + 1 := by simp
                 have hws : (w.alloc (.deferred (some []))).heap.size = w.heap.size + 1 := Fe _ _
                 rw [hlen, hws] at g2 f12
                 rw [List.append_assoc] at g2 f12
                 have hmu2 : ext (ext μ st.heap.length 0 (w.heap.size, 0)) (st.heap.length + 1) 0 (w.heap.size + 1, 0) (st.heap.length + 1) 0 = some (w.heap.size + 1, 0) := Gx _ _ _ _
                 have hmu1 : ext (ext μ st.heap.length 0 (w.heap.size, 0)) (st.heap.length + 1) 0 (w.heap.size + 1, 0) st.heap.length 0 = some (w.heap.size, 0) := by
                   rw [Bt (by omega)]; exact Gx _ _ _ _
                 have hrg := (Jn hst.env hst.glob hgo hgv).mono f12.keepS f12.mu
                 obtain ⟨hfl, d, caps, k1, k2, k3⟩ := qq (P := P) (cas := #[.func (.yield (w.heap.size + 1)) #[] #[]]) htg hrg (.cons (.yld hmu2) .nil)
                 have hfn : f ≠ 4294967295 := by omega
                 obtain ⟨⟨fn2, c2, q1, q2, q3⟩, hcalls⟩ := hC.1.1 _ _ _ _ _ hcr hfn _ _ _ (d.args ++ caps) g2 (hst.glob.mono f12.keepS) k3
                 refine ⟨w.heap.size + 1, _, (w.alloc (.deferred (some []))).alloc (.loop rec), d, (w.alloc (.deferred (some []))).alloc (.loop rec), f, d.args ++ caps, (w.alloc (.deferred (some []))).alloc (.loop rec), by
                   have := run_enterLoop_outer (P := P) (w := w) fn a.tmps ps ca cb
                   rw [<- hrec] at this
                   exact this, ?_, fun _ _ => trivial, ?_, Qb6, Qe1 (hcalls.mono ?_)⟩
                 · simp only [resolve, rangeCall]
                   have ha : Array.map a.eval #[Operand.const (Value.func (Fn.yield (w.heap.size + 1)) #[] #[])] = #[.func (.yield (w.heap.size + 1)) #[] #[]] := by simp [Act.eval]
                   rw [ha]
                   exact k1 _
                 · rw [k2]; exact wx q1 q2 q3 _
                 · intro e w3 ⟨μ3, S3, g3, f3, r3⟩
                   cases e with
                   | panicked ch => exact r3.elim
                   | outgrown => exact r3.elim
                   | returned cv =>
                     have hmu3 := f3.mu _ _ _ hmu2
                     have fin : ∀ (k : List Nat × Q0 × Q0) (ts' : List Nat) (c : Q1) (s : LSt), σ2[st.heap.length + 1]? = some (.loop k ts' c s) -> (∀ ss pp, s.is ss pp -> ss ≠ .busy) ->
                         ∃ (rec3 : Loop) (w4 : World), (Instr.endLoop (w.heap.size + 1)).run P w3 = .ok rec3.pending w4 /\ s.is rec3.state rec3.pending /\
                           StOK G N μ3 S3 w4 ⟨st.env, (4294967294, [.ptr st.heap.length 0 0]) :: st.defers, σ2.set (st.heap.length + 1) (.loop k ts' c .over)⟩ { a with defers := [{ target := .collected w.heap.size, args := #[] }] ++ a.defers } /\
                           Frm μ S w st.heap μ3 S3 w4 (σ2.set (st.heap.length + 1) (.loop k ts' c .over)) := by
                       intro k ts' c s hob hnb
                       obtain ⟨b3, n3, rec3, p1, p2, p3, _, _⟩ := g3.obj _ _ hob
                       rw [hmu3] at p1
                       cases p1
                       obtain ⟨g4, f4⟩ := zk (st' := .over) g3 hob hmu3 p2 .exhausted rec3.pending rfl
                       have ff := (f12.trans f3).trans f4
                       exact ⟨rec3, _, run_endLoop p2 (hnb _ _ p3), p3, ⟨hst.env.mono ff.keepS ff.mu, hst.glob.mono ff.keepS, g4, hst.size, ⟨.inr ⟨rfl, rfl, _, _, _, rfl, f4.mu _ _ _ (f3.mu _ _ _ hmu1), rfl⟩, hst.defers.mono ff.keepS ff.mu⟩⟩, ff⟩
                     split at he
                     · rename_i k ts' c hob
                       simp only [Option.some.injEq, Prod.mk.injEq] at he
                       obtain ⟨rfl, rfl⟩ := he
                       obtain ⟨rec3, w4, p1, p2, p3, p4⟩ := fin _ _ _ _ hob (fun ss pp h => by rw [h.1]; simp)
                       rw [p2.2] at p1
                       exact ⟨none, w4, p1, μ3, S3, trivial, p3, p4⟩
                     · rename_i k ts' c jm hob
                       simp only [Option.some.injEq, Prod.mk.injEq] at he
                       obtain ⟨rfl, rfl⟩ := he
                       obtain ⟨rec3, w4, p1, p2, p3, p4⟩ := fin _ _ _ _ hob (fun ss pp h => by rw [h.1]; simp)
                       rw [p2.2] at p1
                       refine ⟨some jm.code, w4, p1, ?_⟩
                       cases jm with
                       | exit id => exact wpIn_exit ⟨μ3, S3, rfl, p3, p4⟩
                       | ret => exact wpIn_ret ⟨μ3, S3, trivial, p3, p4⟩
                     · cases he
               · cases he
           · cases he
         · cases he
       · simp only [Option.some.injEq, Prod.mk.injEq] at hc
         obtain ⟨rfl, rfl⟩ := hc
         cases he
     · cases hc
   · cases hc
 | refuse s =>
   intro h h' ac hc hcalm st ex st' he
   simp only [Og, Option.some.injEq, Prod.mk.injEq] at hc
   obtain ⟨rfl, rfl⟩ := hc
   cases he
end Go.Ab
namespace Go.Ab
variable [Q4]
variable {S S' : Nat -> Nat -> Prop} {w w' w1 : World} {μ μ' : Nat -> Nat -> Option (Nat × Nat)} {P : Program} {G : Bx} {σ σ' : Heap}
inductive ARes where
 | tmp (t : Nat)
 | cell (t : Nat) (agg : Bool) (n : Nat)
 deriving Inhabited
structure Q2 where
 ntmps : Nat
 results : List ARes
 body : Q0
 deriving Inhabited
structure RFunc where
 ntmps : Nat
 dst : Nat
 moves : List (Nat × Opd)
 body : Q0
 deriving Inhabited
def resA (M : Env) (σ : Heap) : List ARes -> Option (List AV)
 | [] => some []
 | r :: rs =>
   match (match r with
     | .tmp t => M.get t
     | .cell t ag n => match M.get t with
       | some (.ptr id ver off) => match σ[id]? with
         | some (.arr c v _ _) => if v = ver then Qa2 ag n c off else none
         | _ => none
       | _ => none), resA M σ rs with
   | some v, some vs => some (v :: vs)
   | _, _ => none
def resV : List AV -> AV
 | [v] => v
 | vs => Ur vs
abbrev Yo := Nat -> List AV -> Heap -> Option AV -> Option (Option AV × Heap)
def qc (D : Yo) : List (Nat × List AV) -> Heap -> Option AV -> Option (Option AV × Heap)
 | [], σ, m => some (m, σ)
 | (f, as) :: r, σ, m => if f = 4294967294 then
     match as with
     | [.ptr id 0 0] => match σ[id]? with
       | some .mark => qc D r (σ.set id .none) m
       | _ => none
     | _ => none
   else match D f as σ m with
   | some (m', σ') => qc D r σ' m'
   | none => none
def params : Nat -> List AV -> Env
 | _, [] => []
 | i, a :: r => (i, a) :: params (i + 1) r
def Hp : List (Nat × List AV) -> Bool
 | [] => false
 | [_] => false
 | x :: y :: r => (Nat.beq x.1 4294967294 != Nat.beq y.1 4294967294) || Hp (y :: r)
def finA (D : Yo) (af : Q2) (st : St) (m : Option AV) : Option (CRes × Heap) :=
 if Hp st.defers then none else
 match qc D st.defers st.heap m with
 | some (none, σ') => match resA st.env σ' af.results with
   | some vs => some (.ret (resV vs), σ')
   | none => none
 | some (some v, σ') => some (.pan v, σ')
 | none => none
def Z8 (C : Zj) (D : Yo) (L : Nat) (af : Q2) (args : List AV) (σ : Heap) : Option (CRes × Heap) :=
 match exec C L af.body ⟨params 0 args, [], σ⟩ with
 | some (.pan v, st) => finA D af st (some v)
 | some (.normal, st) => finA D af st none
 | some (.ret, st) => finA D af st none
 | _ => none
def Qo7 : List (Nat × Opd) -> Env -> Option Env
 | [], M => some M
 | (d, x) :: r, M => match ev M x with
   | some v => Qo7 r ((d, v) :: M)
   | none => none
def Qp6 (C : Zj) (L : Nat) (rf : RFunc) (args : List AV) (σ : Heap) (m : Option AV) : Option (Option AV × Heap) :=
 match Qo7 rf.moves ((rf.dst, m.getD (.p .nilif)) :: params 0 args) with
 | some M => match exec C L rf.body ⟨M, [], σ⟩ with
   | some (.normal, st) => if st.defers.isEmpty then some (none, st.heap) else none
   | some (.ret, st) => if st.defers.isEmpty then some (none, st.heap) else none
   | _ => none
 | none => none
def Qoq (C : Zj) (L : Nat) (af : Q2) (args : List AV) (σ : Heap) (m : Option AV) : Option (Option AV × Heap) :=
 match exec C L af.body ⟨params 0 args, [], σ⟩ with
 | some (.normal, st) => if st.defers.isEmpty && af.results.isEmpty then some (m, st.heap) else none
 | some (.ret, st) => if st.defers.isEmpty && af.results.isEmpty then some (m, st.heap) else none
 | _ => none
def cRes (P : Program) (N : Nat) : ResultVar -> Option ARes
 | .tmp t => if t < N then some (.tmp t) else none
 | .cell t ty => match yv P ty, wJ8 P ty with
   | some a, some n => some (.cell t a n)
   | _, _ => none
def Qck (P : Program) (N : Nat) : List ResultVar -> Option (List ARes)
 | [] => some []
 | r :: rs => match cRes P N r, Qck P N rs with
   | some a, some l => some (a :: l)
   | _, _ => none
def Yh (P : Program) (G : Bx) (hints : List (List Nat)) (fn : Func) : Option Q2 :=
 if fn.name = "runtime.NumGoroutine" then none else
 match fn.body, Qck P fn.ntmps fn.results.toList with
 | some c, some rs => match Og P G fn.ntmps c hints with
   | some (ac, _) => some ⟨fn.ntmps, rs, ac⟩
   | none => none
 | _, _ => none
def Qdg (G : Bx) (N : Nat) : List Oper -> Option (List (Nat × Opd))
 | [] => some []
 | o :: r => match o.op, o.dst, o.guard, Qdg G N r with
   | .assign x, some d, none, some l => if d < N then (cOpd G x).map fun y => (d, y) :: l else none
   | .move x, some d, none, some l => if d < N then (cOpd G x).map fun y => (d, y) :: l else none
   | _, _, _, _ => none
def Qgf (o : Oper) : Bool := match o.op with
 | .call c => match c.callee with
   | .builtin .recover => c.args.size == 0
   | _ => false
 | _ => false
def cRec (P : Program) (G : Bx) (hints : List (List Nat)) (fn : Func) : Option RFunc :=
 if fn.name = "runtime.NumGoroutine" ∨ fn.results.size ≠ 0 then none else
 match fn.body with
 | some (.seq (.region _ ops false) rest) => match ops.toList with
   | o :: r => if Qgf o && o.guard.isNone then
       match o.dst, Qdg G fn.ntmps r, Og P G fn.ntmps rest hints with
       | some d, some ms, some (ac, _) => if d < fn.ntmps then some ⟨fn.ntmps, d, ms, ac⟩ else none
       | _, _, _ => none
     else none
   | [] => none
 | _ => none
def ModeRep (S : Nat -> Nat -> Prop) (w : World) (μ : Nat -> Nat -> Option (Nat × Nat)) : Option AV -> FrameMode -> Prop
 | none, .returning => True
 | some v, .panicking l => ∃ c, l = [{ v := c, recovered := false }] /\ Rep S w μ v c
 | _, _ => False
def Qb4 (P : Program) (f : Nat) : Prop := ∃ fn c, P.funcs[f]? = some fn /\ fn.body = some c /\ fn.name ≠ "runtime.NumGoroutine"
def Qao (P : Program) (G : Bx) (D : Yo) : Prop :=
 ∀ f args σ m m' σ', D f args σ m = some (m', σ') -> ∀ μ S w (cargs : Array Value) (u : FrameMode), Good μ S w σ -> GlobOK S w G -> RepL S w μ args cargs.toList -> ModeRep S w μ m u ->
   Qb4 P f /\ CallsD P f cargs u w fun e u' w' => (∃ v, e = .returned v) /\ ∃ μ' S', Good μ' S' w' σ' /\ Frm μ S w σ μ' S' w' σ' /\ ModeRep S' w' μ' m' (settle u')
theorem Qdq : ∀ {l : List AV} {i t : Nat} {v : AV}, (params i l).get t = some v -> i <= t /\ l[t - i]? = some v
 | [], i, t, v, h => by simp [params, Env.get] at h
 | a :: r, i, t, v, h => by
   simp only [params, Env.get_cons] at h
   split at h
   · rename_i he; subst he; exact ⟨Nat.le_refl _, by simpa using h⟩
   · obtain ⟨h1, h2⟩ := Qdq h
     exact ⟨by omega, by rw [show t - i = (t - (i + 1)) + 1 from by omega, List.getElem?_cons_succ]; exact h2⟩
theorem Qm2 {args : List AV} {cargs : Array Value} (h : RepL S w μ args cargs.toList) (n : Nat) : EnvOK S w μ (params 0 args) (cargs ++ Array.replicate n undef) := by
 intro t v ht
 obtain ⟨_, h1⟩ := Qdq ht
 obtain ⟨c, hc, hr⟩ := h.get h1
 have hc' : cargs[t]? = some c := by simpa using hc
 have hlt : t < cargs.size := (Array.getElem?_eq_some_iff.1 hc').1
 rw [Array.getD_eq_getD_getElem?, Array.getElem?_append_left hlt, hc']
 exact hr
theorem Qeg {N : Nat} {args : List AV} {cargs : Array Value} (hg : Good μ S w σ) (hG : GlobOK S w G) (h : RepL S w μ args cargs.toList) (hN : args.length <= N) :
   StOK G N μ S w ⟨params 0 args, [], σ⟩ { tmps := cargs ++ Array.replicate (N - cargs.size) undef, defers := [] } := by
 have hl : args.length = cargs.size := by rw [h.length]; simp
 exact ⟨Qm2 h _, hG, hg, by simp; omega, trivial⟩
theorem Qnh {f : ResultVar -> Sem Value} {N : Nat} {rvs : List ResultVar} {rs : List ARes} {M : Env} {vs : List AV} {tmps : Array Value} (hf1 : ∀ t, f (.tmp t) = pure (tmps.getD t undef)) (hf2 : ∀ a t, f (.cell a t) = (asAddr (tmps.getD a undef) >>= fun x => loadVar t x)) (hc : Qck P N rvs = some rs) (hE : EnvOK S w μ M tmps) (hg : Good μ S w σ) (h : resA M σ rs = some vs) :
   ∃ cvs : List Value, (rvs.mapM f).run P w = .ok cvs w /\ RepL S w μ vs cvs := by
 induction rvs generalizing rs vs with
 | nil =>
   simp [Qck] at hc
   subst hc
   simp [resA] at h
   subst h
   exact ⟨[], by simp, .nil⟩
 | cons r rr ih =>
   simp only [Qck] at hc
   split at hc
   · rename_i a l ha hl
     obtain rfl := Option.some.inj hc
     simp only [resA] at h
     split at h
     · rename_i v us hv hus
       obtain rfl := Option.some.inj h
       obtain ⟨cvs, r1, r2⟩ := ih hl hus
       cases r with
       | tmp t =>
         simp only [cRes] at ha
         split at ha
         · obtain rfl := Option.some.inj ha
           exact ⟨tmps.getD t undef :: cvs, by simp only [List.mapM_cons, hf1, Sem.run_bind, Sem.run_pure, Result.andThen_ok, r1], .cons (hE t v hv) r2⟩
         · cases ha
       | cell t ty =>
         simp only [cRes] at ha
         split at ha
         · rename_i ag n hag hn
           obtain rfl := Option.some.inj ha
           simp only at hv
           split at hv
           · rename_i id ver off he
             split at hv
             · rename_i c vr wm ty0 hob
               split at hv
               · rename_i hvr
                 subst hvr
                 obtain ⟨b, m, hμ, e⟩ := (hE t _ he).ptrA
                 obtain ⟨b', n', vs', et, lo, hi, h1, h2, h3, h4, h5, h6, h7⟩ := (hg.obj id _ hob).cells
                 rw [hμ] at h1
                 cases h1
                 obtain ⟨cv, k1, k2⟩ := qf (P := P) (o := 0) hag hn hv h5 h6 (fun j x hj => by
                   rw [Sk h2]
                   rw [List.getElem?_take] at hj
                   split at hj
                   · simpa using hj
                   · cases hj)
                 rw [Nat.zero_add] at k1
                 refine ⟨cv :: cvs, ?_, .cons k2 r2⟩
                 have ea : (asAddr (tmps.getD t undef)).run P w = .ok ⟨b, off, none⟩ w := by rw [e]; rfl
                 simp only [List.mapM_cons, hf2, Sem.run_bind, ea, Sem.run_pure, Result.andThen_ok, k1, r1]
               · cases hv
             · cases hv
           · cases hv
         · cases ha
     · cases h
   · cases hc
theorem Rv {fn : Func} {N : Nat} {rs : List ARes} {M : Env} {vs : List AV} {tmps : Array Value} (hc : Qck P N fn.results.toList = some rs) (hE : EnvOK S w μ M tmps) (hg : Good μ S w σ) (h : resA M σ rs = some vs) :
   ∃ c, (results fn tmps).run P w = .ok c w /\ Rep S w μ (resV vs) c := by
 obtain ⟨cvs, h1, h2⟩ := Qnh (f := fun | .tmp t => pure (tmps.getD t undef) | .cell a t => do loadVar t (<- asAddr (tmps.getD a undef))) (fun _ => rfl) (fun _ _ => rfl) hc hE hg h
 have hr : (results fn tmps).run P w = .ok (if h : cvs.toArray.size = 1 then cvs.toArray[0] else Value.tuple cvs.toArray) w := by
   simp only [results, Sem.run_bind, Array.mapM_eq_mapM_toList, Sem.run_map]
   erw [h1]
   rfl
 rw [hr]
 refine ⟨_, rfl, ?_⟩
 clear h hr h1
 cases h2 with
 | nil => exact Qb3 .nil
 | cons hx hs =>
   cases hs with
   | nil => exact hx
   | cons hy hs' =>
     rename_i c _ _ c' cs'
     have : ¬ ((c :: c' :: cs').toArray.size = 1) := by simp
     rw [dif_neg this]
     exact Qb3 (.cons hx (.cons hy hs'))
theorem Vo {fn : Func} {tmps : Array Value} {R R' : Ending -> World -> Prop} (hR : ∀ e w, R e w -> R' e w) :
   ∀ (ds : List Deferred) (u : FrameMode) (w : World), Leaves P fn tmps R ds u w -> Leaves P fn tmps R' ds u w
 | [], .returning, w, ⟨v, h1, h2⟩ => ⟨v, h1, hR _ _ h2⟩
 | [], .panicking _, w, h => hR _ _ h
 | [], .run, _, h => h
 | d :: ds, u, w, ⟨h0, fv, cap, f, args, h1, h2, h3⟩ => ⟨h0, fv, cap, f, args, h1, h2, h3.mono fun e u' w' h => by
     cases e with
     | returned v => exact Vo hR ds _ _ h
     | panicked c => exact Vo hR ds _ _ h
     | outgrown => exact hR _ _ h⟩
theorem Qhg : ∀ {ds : List (Nat × List AV)}, Hp ds = false -> (∀ x ∈ ds, x.1 ≠ 4294967294) ∨ (∀ x ∈ ds, x.1 = 4294967294)
 | [], _ => .inl fun x h => by cases h
 | [x], _ => by
   by_cases h : x.1 = 4294967294
   · exact .inr fun y hy => by simp at hy; subst hy; exact h
   · exact .inl fun y hy => by simp at hy; subst hy; exact h
 | x :: y :: r, h => by
   simp only [Hp, Bool.or_eq_false_iff, bne_eq_false_iff_eq] at h
   have hb : ∀ n : Nat, n = 4294967294 ↔ Nat.beq n 4294967294 = true := fun n => ⟨fun e => by subst e; exact Nat.beq_refl _, fun e => Nat.eq_of_beq_eq_true e⟩
   have hxy : x.1 = 4294967294 ↔ y.1 = 4294967294 := by rw [hb, hb, h.1]
   rcases Qhg h.2 with h2 | h2
   · refine .inl fun z hz => ?_
     rcases List.mem_cons.1 hz with rfl | hz
     · exact fun e => h2 y (List.mem_cons_self ..) (hxy.1 e)
     · exact h2 z hz
   · refine .inr fun z hz => ?_
     rcases List.mem_cons.1 hz with rfl | hz
     · exact hxy.2 (h2 y (List.mem_cons_self ..))
     · exact h2 z hz
theorem Qas {D : Yo} (hD : Qao P G D) {fn : Func} {N : Nat} {rs : List ARes} (hc : Qck P N fn.results.toList = some rs) {r : CRes} :
   ∀ (ds : List (Nat × List AV)) (cds : List Deferred) (σ : Heap) (m : Option AV) (u : FrameMode) (w : World) (μ : Nat -> Nat -> Option (Nat × Nat)) (S : Nat -> Nat -> Prop) (M : Env) (tmps : Array Value),
     (∀ x ∈ ds, x.1 ≠ 4294967294) -> DefRep S w μ ds cds -> Good μ S w σ -> GlobOK S w G -> EnvOK S w μ M tmps -> ModeRep S w μ m u ->
     (match qc D ds σ m with
       | some (none, σ') => match resA M σ' rs with
         | some vs => some (CRes.ret (resV vs), σ')
         | none => none
       | some (some v, σ') => some (.pan v, σ')
       | none => none) = some (r, σ') ->
     Leaves P fn tmps (fun e w' => ∃ μ' S', Good μ' S' w' σ' /\ Frm μ S w σ μ' S' w' σ' /\ S7 S' w' μ' r e) cds u w
 | [], cds, σ, m, u, w, μ, S, M, tmps, _, hd, hg, hG, hE, hm, h => by
   cases cds with
   | cons => exact hd.elim
   | nil =>
     simp only [qc] at h
     cases m with
     | none =>
       cases u <;> first | exact hm.elim | skip
       simp only at h
       split at h
       · rename_i vs hvs
         simp only [Option.some.injEq, Prod.mk.injEq] at h
         obtain ⟨rfl, rfl⟩ := h
         obtain ⟨c, h1, h2⟩ := Rv hc hE hg hvs
         exact ⟨c, h1, μ, S, hg, .refl _ _ _ _, h2⟩
       · cases h
     | some v =>
       cases u <;> first | exact hm.elim | skip
       simp only [Option.some.injEq, Prod.mk.injEq] at h
       obtain ⟨rfl, rfl⟩ := h
       exact ⟨μ, S, hg, .refl _ _ _ _, hm⟩
 | (f, as) :: ds, cds, σ, m, u, w, μ, S, M, tmps, hnm, hd, hg, hG, hE, hm, h => by
   cases cds with
   | nil => exact hd.elim
   | cons d cds =>
     obtain ⟨hd1, h3⟩ := hd
     have hfm : f ≠ 4294967294 := hnm _ (List.mem_cons_self ..)
     obtain ⟨_, caps, h1, h2⟩ : f ≠ 4294967294 /\ ∃ caps, d.target = .fn (.func f) caps /\ RepL S w μ as (d.args ++ caps).toList := hd1.resolve_right (fun hx => hfm hx.1)
     simp only [qc] at h
     rw [if_neg hfm] at h
     cases hDr : D f as σ m with
     | none => rw [hDr] at h; cases h
     | some r1 =>
       obtain ⟨m', σ1⟩ := r1
       rw [hDr] at h
       obtain ⟨⟨fn', c', q1, q2, q3⟩, hcall⟩ := hD _ _ _ _ _ _ hDr μ S w (d.args ++ caps) u hg hG h2 hm
       refine ⟨?_, .func f, caps, f, d.args ++ caps, h1, by rw [h1]; exact wx q1 q2 q3 w, ?_⟩
       · cases m <;> cases u <;> first | exact hm.elim | simp
       · refine hcall.mono fun e u' w' ⟨⟨v, he⟩, μ1, S1, g1, g2, g3⟩ => ?_
         subst he
         have := Qas hD hc ds cds σ1 m' (settle u') w' μ1 S1 M tmps (fun x hx => hnm x (List.mem_cons_of_mem _ hx)) (h3.mono g2.keepS g2.mu) g1 (hG.mono g2.keepS) (hE.mono g2.keepS g2.mu) g3 h
         exact Vo (fun e w'' ⟨μ2, S2, k1, k2, k3⟩ => ⟨μ2, S2, k1, g2.trans k2, k3⟩) _ _ _ this
theorem M6 {F : Fence} {n : Nat} {fn : Func} {tmps : Array Value} {R R' : Ending -> World -> Prop} (hR : ∀ e w, R e w -> R' e w) :
   ∀ (ds : List Deferred) (u : FrameMode) (w : World), LeavesInM F n P fn tmps R ds u w -> LeavesInM F n P fn tmps R' ds u w
 | [], .returning, w, ⟨v, h1, h2⟩ => ⟨v, h1, hR _ _ h2⟩
 | [], .panicking _, w, h => hR _ _ h
 | [], .run, _, h => h
 | d :: ds, u, w, ⟨h0, .inl ⟨r, w', h1, h2, h3⟩⟩ => ⟨h0, .inl ⟨r, w', h1, h2, M6 hR ds u w' h3⟩⟩
 | d :: ds, u, w, ⟨h0, .inr ⟨hn, fv, cap, f, args, h1, h2, hl, h3⟩⟩ => ⟨h0, .inr ⟨hn, fv, cap, f, args, h1, h2, hl, h3.mono fun e u' w' h => by
     cases e with
     | returned v => exact M6 hR ds _ _ h
     | panicked c => exact M6 hR ds _ _ h
     | outgrown => exact hR _ _ h⟩⟩
theorem Qtl {id b n : Nat} (hg : Good μ S w σ) (hid : σ[id]? = some .mark) (hb : μ id 0 = some (b, n)) :
   ∃ w', (Instr.takeDeferred b).run P w = .ok [] w' /\ Good μ S w' (σ.set id .none) /\ Frm μ S w σ μ S w' (σ.set id .none) := by
 obtain ⟨b', n', q1, q2⟩ := hg.obj id _ hid
 rw [hb] at q1
 cases q1
 have hbs : b < w.heap.size := (Array.getElem?_eq_some_iff.1 q2).1
 have hat : (w.putObj b (.deferred none)).heap[b]? = some (.deferred none) := World.putObj_heap_same hbs
 have hS : ∀ bb j, S bb j -> (w.putObj b (.deferred none)).cell? ⟨bb, j, none⟩ = w.cell? ⟨bb, j, none⟩ := by
   intro bb j _
   by_cases hbb : bb = b
   · subst hbb
     simp [World.cell?, hat, q2]
   · exact E7 (World.putObj_heap_other hbb)
 refine ⟨_, run_takeDeferred q2, ?_⟩
 exact Xq (b' := b) (n' := n) hg hid rfl hb hb (.inl rfl) (fun _ _ _ h => h) (fun _ _ _ => rfl)
   (fun v x h => by obtain ⟨o, ho, h1, h2⟩ := hg.old _ _ _ h; rw [hid] at ho; cases ho; exact ⟨h1, by simpa using h2⟩)
   (by simp) (fun bb _ h => World.putObj_heap_other h) hS trivial ⟨rfl, rfl, rfl⟩
theorem jy {D : Yo} {n : Nat} {fn : Func} {N : Nat} {rs : List ARes} (hc : Qck P N fn.results.toList = some rs) {r : CRes} :
   ∀ (ds : List (Nat × List AV)) (cds : List Deferred) (σ : Heap) (m : Option AV) (u : FrameMode) (w : World) (μ : Nat -> Nat -> Option (Nat × Nat)) (S : Nat -> Nat -> Prop) (M : Env) (tmps : Array Value),
     (∀ x ∈ ds, x.1 = 4294967294) -> DefRep S w μ ds cds -> Good μ S w σ -> GlobOK S w G -> EnvOK S w μ M tmps -> ModeRep S w μ m u ->
     (match qc D ds σ m with
       | some (none, σ') => match resA M σ' rs with
         | some vs => some (CRes.ret (resV vs), σ')
         | none => none
       | some (some v, σ') => some (.pan v, σ')
       | none => none) = some (r, σ') ->
     LeavesInM (FR none) n P fn tmps (fun e w' => ∃ μ' S', Good μ' S' w' σ' /\ Frm μ S w σ μ' S' w' σ' /\ S7 S' w' μ' r e) cds u w
 | [], cds, σ, m, u, w, μ, S, M, tmps, _, hd, hg, hG, hE, hm, h => by
   cases cds with
   | cons => exact hd.elim
   | nil =>
     simp only [qc] at h
     cases m with
     | none =>
       cases u <;> first | exact hm.elim | skip
       simp only at h
       split at h
       · rename_i vs hvs
         simp only [Option.some.injEq, Prod.mk.injEq] at h
         obtain ⟨rfl, rfl⟩ := h
         obtain ⟨c, h1, h2⟩ := Rv hc hE hg hvs
         exact ⟨c, h1, μ, S, hg, .refl _ _ _ _, h2⟩
       · cases h
     | some v =>
       cases u <;> first | exact hm.elim | skip
       simp only [Option.some.injEq, Prod.mk.injEq] at h
       obtain ⟨rfl, rfl⟩ := h
       exact ⟨μ, S, hg, .refl _ _ _ _, hm⟩
 | (f, as) :: ds, cds, σ, m, u, w, μ, S, M, tmps, hnm, hd, hg, hG, hE, hm, h => by
   cases cds with
   | nil => exact hd.elim
   | cons d cds =>
     obtain ⟨hd1, h3⟩ := hd
     simp only [qc] at h
     have hur : u ≠ .run := by
       cases m <;> cases u <;> first | exact hm.elim | simp
     have hf : f = 4294967294 := hnm _ (List.mem_cons_self ..)
     rw [if_pos hf] at h
     · rcases hd1 with ⟨hne, _⟩ | ⟨_, harg, id0, b, nb, has, hmu, htar⟩
       · exact absurd hf hne
       · subst has
         simp only at h
         cases hob : σ[id0]? with
         | none => rw [hob] at h; cases h
         | some o =>
           cases o with
           | mark =>
             rw [hob] at h
             obtain ⟨w1, t1, t2, t3⟩ := Qtl (P := P) hg hob hmu
             refine ⟨hur, .inl ⟨b, w1, htar, t1, ?_⟩⟩
             have := jy (D := D) (n := n) hc ds cds _ m u w1 μ S M tmps (fun x hx => hnm x (List.mem_cons_of_mem _ hx)) (h3.mono t3.keepS t3.mu) t2 (hG.mono t3.keepS) (hE.mono t3.keepS t3.mu) (by
               cases m <;> cases u <;> first | exact hm.elim | trivial | (obtain ⟨c, e1, e2⟩ := hm; exact ⟨c, e1, e2.mono t3.keepS t3.mu⟩)) h
             exact M6 (fun e w'' ⟨μ2, S2, k1, k2, k3⟩ => ⟨μ2, S2, k1, t3.trans k2, k3⟩) _ _ _ this
           | _ => rw [hob] at h; cases h
end Go.Ab
namespace Go.Ab
variable [Q4]
variable {S S' : Nat -> Nat -> Prop} {w w' w1 : World} {μ μ' : Nat -> Nat -> Option (Nat × Nat)} {P : Program} {G : Bx} {σ σ' : Heap}
theorem Qj7 {hints : List (List Nat)} {fn : Func} {af : Q2} (h : Yh P G hints fn = some af) :
   fn.name ≠ "runtime.NumGoroutine" /\ ∃ c rs ac h', fn.body = some c /\ Qck P fn.ntmps fn.results.toList = some rs /\ Og P G fn.ntmps c hints = some (ac, h') /\ af = ⟨fn.ntmps, rs, ac⟩ := by
 unfold Yh at h
 split at h
 · cases h
 · rename_i hn
   split at h
   · rename_i c rs hb hr
     split at h
     · rename_i ac h' hc
       obtain rfl := Option.some.inj h
       exact ⟨hn, c, rs, ac, h', hb, hr, hc, rfl⟩
     · cases h
   · cases h
def fits (af : Q2) (args : List AV) : Bool := args.length <= af.ntmps
theorem jq {C : Zj} {D : Yo} (hM : Vr P G) (hC : Pf P G C) (hD : Qao P G D) {L : Nat} {hints : List (List Nat)} {f : Nat} {fn : Func} {af : Q2} {args : List AV} {r : CRes}
   (hf : P.funcs[f]? = some fn) (hc : Yh P G hints fn = some af) (hn : fits af args = true) (h : Z8 C D L af args σ = some (r, σ'))
   {cargs : Array Value} (hg : Good μ S w σ) (hG : GlobOK S w G) (ha : RepL S w μ args cargs.toList) :
   Qb4 P f /\ Calls P f cargs w fun e w' => ∃ μ' S', Good μ' S' w' σ' /\ Frm μ S w σ μ' S' w' σ' /\ S7 S' w' μ' r e := by
 obtain ⟨hname, c, rs, ac, h', hb, hr, hcc, rfl⟩ := Qj7 hc
 refine ⟨⟨fn, c, hf, hb, hname⟩, ?_⟩
 simp only [fits, decide_eq_true_eq] at hn
 have hst := Qeg (N := fn.ntmps) hg hG ha hn
 have body : ∀ (ex : AExit) (st : St), exec C L ac ⟨params 0 args, [], σ⟩ = some (ex, st) -> (∃ m, finA D ⟨fn.ntmps, rs, ac⟩ st m = some (r, σ') /\ (match ex with
     | .pan v => m = some v
     | .normal => m = none
     | .ret => m = none
     | .exit _ => False)) -> Calls P f cargs w fun e w' => ∃ μ' S', Good μ' S' w' σ' /\ Frm μ S w σ μ' S' w' σ' /\ S7 S' w' μ' r e := by
   intro ex st hx ⟨m, hm, hmx⟩
   unfold finA at hm
   split at hm
   · cases hm
   · rename_i hmix
     have hmu : ∀ {S1 : Nat -> Nat -> Prop} {w1 : World} {μ1 : Nat -> Nat -> Option (Nat × Nat)} {e : Exit}, ExOK S1 w1 μ1 ex e -> (e = .normal /\ ModeRep S1 w1 μ1 m .returning) ∨ (e = .ret /\ ModeRep S1 w1 μ1 m .returning) ∨ ∃ l, e = .panic l /\ ModeRep S1 w1 μ1 m (.panicking l) := by
       intro S1 w1 μ1 e p1
       cases ex <;> cases e <;> first | exact p1.elim | exact hmx.elim | skip
       · subst hmx; exact .inl ⟨rfl, trivial⟩
       · subst hmx; exact .inr (.inl ⟨rfl, trivial⟩)
       · subst hmx; exact .inr (.inr ⟨_, rfl, p1⟩)
     rcases Qhg (by simpa using hmix) with hds | hds
     · refine calls_of_wp_defers hf hb (Code.wp_mono (fun e a1 w1 ⟨μ1, S1, p1, p2, p3⟩ => ?_) (wpIn_wide.1 (Nk (r := none) (n := 0) hM hC L c hints h' ac hcc (.inl rfl) _ _ _ hx _ w μ S hst)))
       have fin : ∀ u, ModeRep S1 w1 μ1 m u -> Leaves P fn a1.tmps (fun e w' => ∃ μ' S', Good μ' S' w' σ' /\ Frm μ S w σ μ' S' w' σ' /\ S7 S' w' μ' r e) a1.defers u w1 := by
         intro u hu
         have := Qas hD hr st.defers a1.defers st.heap m u w1 μ1 S1 st.env a1.tmps hds p2.defers p2.good p2.glob p2.env hu hm
         exact Vo (fun e w2 ⟨μ2, S2, k1, k2, k3⟩ => ⟨μ2, S2, k1, p3.trans k2, k3⟩) _ _ _ this
       rcases hmu p1 with ⟨rfl, hu⟩ | ⟨rfl, hu⟩ | ⟨l, rfl, hu⟩ <;> exact fin _ hu
     · refine (callsIn_wide (n := 0)).1 (callsIn_of_wp_marks (F := FR none) hf hb trivial (wpIn_mono (Nk (r := none) (n := 0) hM hC L c hints h' ac hcc (.inl rfl) _ _ _ hx _ w μ S hst) fun e a1 w1 ⟨μ1, S1, p1, p2, p3⟩ => ?_))
       have fin : ∀ u, ModeRep S1 w1 μ1 m u -> LeavesInM (FR none) 0 P fn a1.tmps (fun e w' => ∃ μ' S', Good μ' S' w' σ' /\ Frm μ S w σ μ' S' w' σ' /\ S7 S' w' μ' r e) a1.defers u w1 := by
         intro u hu
         have := jy (D := D) (n := 0) hr st.defers a1.defers st.heap m u w1 μ1 S1 st.env a1.tmps hds p2.defers p2.good p2.glob p2.env hu hm
         exact M6 (fun e w2 ⟨μ2, S2, k1, k2, k3⟩ => ⟨μ2, S2, k1, p3.trans k2, k3⟩) _ _ _ this
       rcases hmu p1 with ⟨rfl, hu⟩ | ⟨rfl, hu⟩ | ⟨l, rfl, hu⟩ <;> exact fin _ hu
 unfold Z8 at h
 split at h
 · rename_i v st hx
   exact body _ _ hx ⟨some v, h, rfl⟩
 · rename_i st hx
   exact body _ _ hx ⟨none, h, rfl⟩
 · rename_i st hx
   exact body _ _ hx ⟨none, h, rfl⟩
 · cases h
theorem Qio {m : Option AV} {u : FrameMode} (h : ModeRep S w μ m u) : ModeRep S w μ m (settle u) := by
 cases m <;> cases u <;> first | exact h.elim | skip
 · exact h
 · rename_i v l
   obtain ⟨c, rfl, hr⟩ := h
   exact ⟨c, rfl, hr⟩
theorem ModeRep.mono {m : Option AV} {u : FrameMode} (h : ModeRep S w μ m u) (hS : ∀ b o, S b o -> S' b o /\ w'.cell? ⟨b, o, none⟩ = w.cell? ⟨b, o, none⟩) (hμ : ∀ id ver x, μ id ver = some x -> μ' id ver = some x) : ModeRep S' w' μ' m u := by
 cases m <;> cases u <;> first | exact h.elim | skip
 · trivial
 · obtain ⟨c, h1, h2⟩ := h
   exact ⟨c, h1, h2.mono hS hμ⟩
theorem Qo3 {C : Zj} (hM : Vr P G) (hC : Pf P G C) {L : Nat} {hints : List (List Nat)} {f : Nat} {fn : Func} {af : Q2} {args : List AV} {m m' : Option AV}
   (hf : P.funcs[f]? = some fn) (hc : Yh P G hints fn = some af) (hn : fits af args = true) (h : Qoq C L af args σ m = some (m', σ'))
   {cargs : Array Value} {u : FrameMode} (hg : Good μ S w σ) (hG : GlobOK S w G) (ha : RepL S w μ args cargs.toList) (hu : ModeRep S w μ m u) :
   Qb4 P f /\ CallsD P f cargs u w fun e u' w' => (∃ v, e = .returned v) /\ ∃ μ' S', Good μ' S' w' σ' /\ Frm μ S w σ μ' S' w' σ' /\ ModeRep S' w' μ' m' (settle u') := by
 obtain ⟨hname, c, rs, ac, h', hb, hr, hcc, rfl⟩ := Qj7 hc
 refine ⟨⟨fn, c, hf, hb, hname⟩, (callsD_of_wp (R := fun e w' => (∃ v, e = .returned v) /\ m' = m /\ ∃ μ' S', Good μ' S' w' σ' /\ Frm μ S w σ μ' S' w' σ') hf hb ?_).mono fun e u' w' ⟨hu', ⟨v, he⟩, hm, μ', S', k1, k2⟩ => ?_⟩
 · simp only [fits, decide_eq_true_eq] at hn
   have hst := Qeg (N := fn.ntmps) hg hG ha hn
   have fin : ∀ (st : St) μ1 S1 w1 (a1 : Act), StOK G fn.ntmps μ1 S1 w1 st a1 -> Frm μ S w σ μ1 S1 w1 st.heap -> (if (st.defers.isEmpty && rs.isEmpty) = true then some (m, st.heap) else none) = some (m', σ') ->
       a1.defers = [] /\ ∃ v, (results fn a1.tmps).run P w1 = .ok v w1 /\ ((∃ v', Ending.returned v = .returned v') /\ m' = m /\ ∃ μ' S', Good μ' S' w1 σ' /\ Frm μ S w σ μ' S' w1 σ') := by
     intro st μ1 S1 w1 a1 hs hfr hi
     split at hi
     · rename_i he
       simp only [Option.some.injEq, Prod.mk.injEq] at hi
       obtain ⟨rfl, rfl⟩ := hi
       simp only [Bool.and_eq_true, List.isEmpty_iff] at he
       have hd := hs.defers
       rw [he.1] at hd
       cases hds : a1.defers with
       | cons => rw [hds] at hd; exact hd.elim
       | nil =>
         have hrs : resA st.env st.heap rs = some [] := by rw [he.2]; rfl
         obtain ⟨cv, k1, _⟩ := Rv hr hs.env hs.good hrs
         exact ⟨rfl, cv, k1, ⟨cv, rfl⟩, rfl, μ1, S1, hs.good, hfr⟩
     · cases hi
   unfold Qoq at h
   split at h
   · rename_i st hx
     refine Code.wp_mono (fun e a1 w1 ⟨μ1, S1, p1, p2, p3⟩ => ?_) (wpIn_wide.1 (Nk (r := none) (n := 0) hM hC L c hints h' ac hcc (.inl rfl) _ _ _ hx _ w μ S hst))
     cases e <;> first | exact p1.elim | skip
     exact fin _ _ _ _ _ p2 p3 h
   · rename_i st hx
     refine Code.wp_mono (fun e a1 w1 ⟨μ1, S1, p1, p2, p3⟩ => ?_) (wpIn_wide.1 (Nk (r := none) (n := 0) hM hC L c hints h' ac hcc (.inl rfl) _ _ _ hx _ w μ S hst))
     cases e <;> first | exact p1.elim | skip
     exact fin _ _ _ _ _ p2 p3 h
   · cases h
 · subst hu' hm
   exact ⟨⟨v, he⟩, μ', S', k1, k2, Qio (hu.mono k2.keepS k2.mu)⟩
end Go.Ab
