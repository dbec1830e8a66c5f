/- Code: what the interpreter says is what the model does. -/
import Derived.Test.YtacjjncmbklplaaGreatDoorAbAG
set_option linter.unusedSectionVars false
set_option linter.unusedSimpArgs false
set_option linter.unusedVariables false
namespace Go.Ab
variable {S S' : Nat → Nat → Prop} {w w' w1 : World} {μ μ' : Nat → Nat → Option (Nat × Nat)} {P : Program} {G : Globs} {σ σ' : Heap}

theorem keepE_get {ρ : Env} {l : List Nat} {t : Nat} {v : AV} (h : (keepE ρ l).get t = some v) : ρ.get t = some v := by
  induction l with
  | nil => simp [keepE, Env.get] at h
  | cons x r ih =>
    simp only [keepE] at h
    split at h
    · rename_i u hu
      rw [Env.get_cons] at h
      split at h
      · rename_i hx; subst hx; rw [← h]; exact hu
      · exact ih h
    · exact ih h
theorem StOK.keep {N : Nat} {st : St} {a : Act} (h : StOK G N μ S w st a) (live : Option (List Nat)) : StOK G N μ S w (st.keep live) a := by
  cases live with
  | none => exact h
  | some l => exact ⟨fun t v ht => h.env t v (keepE_get ht), h.glob, h.good, h.size, h.defers⟩
theorem keep_heap (st : St) (live : Option (List Nat)) : (st.keep live).heap = st.heap := by cases live <;> rfl

/-- one round after the other -/
theorem iter_sound {N : Nat} {c : Code} {f : St → Option (AExit × St)} {live : Option (List Nat)}
    (hf : ∀ st ex st', f st = some (ex, st') → ∀ (a : Act) (w : World) (μ : Nat → Nat → Option (Nat × Nat)) (S : Nat → Nat → Prop), StOK G N μ S w st a → c.wp P (Post G N μ S w st.heap ex st') a w) :
    ∀ (n : Nat) (st : St) (ex : AExit) (st' : St), iter f live n st = some (ex, st') → ∀ (a : Act) (w : World) (μ : Nat → Nat → Option (Nat × Nat)) (S : Nat → Nat → Prop), StOK G N μ S w st a →
      ∀ (b : Frame) (k : List Item) (cs : List Frame), ∃ e a' w', Post G N μ S w st.heap ex st' e a' w' ∧ Arrives P (lone (b.at a (.code c :: .inLoop c :: k)) cs w) b k cs e a' w' := by
  intro n
  induction n with
  | zero => intro st ex st' h; simp [iter] at h
  | succ n ih =>
    intro st ex st' h a w μ S hst b k cs
    simp only [iter] at h
    have stop : ∀ ex' : AExit, ex' ≠ .normal → f (st.keep live) = some (ex', st') → ex = ex' →
        ∃ e a' w', Post G N μ S w st.heap ex st' e a' w' ∧ Arrives P (lone (b.at a (.code c :: .inLoop c :: k)) cs w) b k cs e a' w' := by
      intro ex' hne h1 he
      subst he
      obtain ⟨e, a1, w1, hp, harr⟩ := hf _ _ _ h1 a w μ S (hst.keep live) b (.inLoop c :: k) cs
      rw [keep_heap] at hp
      refine ⟨e, a1, w1, hp, ?_⟩
      obtain ⟨μ1, S1, hex, _, _⟩ := hp
      refine .pass (x := .inLoop c) rfl (fun _ _ => .inl ?_) harr
      intro he
      subst he
      cases ex <;> first | exact hne rfl | exact hex.elim
    split at h
    · rename_i st1 h1
      obtain ⟨e, a1, w1, hp, harr⟩ := hf _ _ _ h1 a w μ S (hst.keep live) b (.inLoop c :: k) cs
      rw [keep_heap] at hp
      obtain ⟨μ1, S1, hex, hst1, hfr⟩ := hp
      cases e with
      | normal =>
        obtain ⟨e2, a2, w2, hp2, harr2⟩ := ih st1 ex st' h a1 w1 μ1 S1 hst1 b k cs
        exact ⟨e2, a2, w2, hp2.trans hfr, .of_steps (Steps.trans harr (.one step_inLoop)) harr2⟩
      | _ => exact hex.elim
    · rename_i r hne
      exact stop ex (fun he => by subst he; exact hne st' h) h rfl

theorem exec_sound {N : Nat} {C : Oracle} (hC : OracleOK P G C) (L : Nat) :
    ∀ (c : Code) (h h' : List (List Nat)) (ac : ACode), cCode P G N c h = some (ac, h') → ∀ (st : St) (ex : AExit) (st' : St), exec C L ac st = some (ex, st') →
      ∀ (a : Act) (w : World) (μ : Nat → Nat → Option (Nat × Nat)) (S : Nat → Nat → Prop), StOK G N μ S w st a → c.wp P (Post G N μ S w st.heap ex st') a w := by
  intro c
  induction c with
  | skip =>
    intro h h' ac hc st ex st' he a w μ S hst
    simp only [cCode, Option.some.injEq, Prod.mk.injEq] at hc
    obtain ⟨rfl, rfl⟩ := hc
    simp only [exec, Option.some.injEq, Prod.mk.injEq] at he
    obtain ⟨rfl, rfl⟩ := he
    exact wp_skip ⟨μ, S, trivial, hst, .refl _ _ _ _⟩
  | label l =>
    intro h h' ac hc st ex st' he a w μ S hst
    simp only [cCode, Option.some.injEq, Prod.mk.injEq] at hc
    obtain ⟨rfl, rfl⟩ := hc
    simp only [exec, Option.some.injEq, Prod.mk.injEq] at he
    obtain ⟨rfl, rfl⟩ := he
    exact wp_label ⟨μ, S, trivial, hst, .refl _ _ _ _⟩
  | region id ops draw =>
    intro h h' ac hc st ex st' he a w μ S hst
    simp only [cCode, Option.some.injEq, Prod.mk.injEq] at hc
    obtain ⟨rfl, rfl⟩ := hc
    cases draw with
    | true =>
      simp only [cRegion] at he
      split at he
      · rename_i l hl
        split at he
        · rename_i hck
          simp only [Bool.and_eq_true] at hck
          exact draw_sound hC hl hck.1 hck.2 he hst
        · cases he
      · cases he
    | false =>
      simp only [cRegion] at he
      split at he
      · rename_i l hl
        obtain ⟨h1, h2⟩ := cOpers_get hl
        refine wp_region (runOps_sound hC (List.range ops.size) l ?_ (by simpa using h1) st ex st' he a w μ S hst)
        intro k i hk
        obtain ⟨hlt, hik⟩ := List.getElem?_eq_some_iff.1 hk
        simp only [List.length_range] at hlt
        simp only [List.getElem_range] at hik
        subst hik
        have ho : ops[k]? = some ops[k] := by simp [hlt]
        obtain ⟨ao, h3, h4⟩ := h2 k ops[k] (by simp [hlt])
        exact ⟨_, ao, ho, h3, h4⟩
      · cases he
  | seq x y ihx ihy =>
    intro h h' ac hc st ex st' he a w μ S hst
    simp only [cCode] at hc
    split at hc
    · rename_i ax h1 hx
      split at hc
      · rename_i ay h2 hy
        simp only [Option.some.injEq, Prod.mk.injEq] at hc
        obtain ⟨rfl, rfl⟩ := hc
        simp only [exec] at he
        refine wp_seq ?_
        split at he
        · rename_i st1 he1
          refine wp_mono (ihx _ _ _ hx st .normal st1 he1 a w μ S hst) fun e a1 w1 ⟨μ1, S1, hex, hst1, hfr⟩ => ?_
          cases e with
          | normal => exact wp_mono (ihy _ _ _ hy st1 ex st' he a1 w1 μ1 S1 hst1) fun e a2 w2 hp => hp.trans hfr
          | _ => exact hex.elim
        · rename_i r hne
          refine wp_mono (ihx _ _ _ hx st ex st' he a w μ S hst) fun e a1 w1 hp => ?_
          cases e with
          | normal =>
            obtain ⟨μ1, S1, hex, _⟩ := hp
            cases ex <;> first | exact hex.elim | exact absurd he (hne _)
          | _ => exact hp
      · cases hc
    · cases hc
  | cond o x y ihx ihy =>
    intro h h' ac hc st ex st' he a w μ S hst
    simp only [cCode] at hc
    split at hc
    · rename_i co ax h1 ho hx
      split at hc
      · rename_i ay h2 hy
        simp only [Option.some.injEq, Prod.mk.injEq] at hc
        obtain ⟨rfl, rfl⟩ := hc
        simp only [exec] at he
        split at he
        · rename_i t ht
          have hr := (ev_rep hst.env hst.glob ho ht).bool
          refine wp_cond hr ?_
          cases t with
          | true => exact ihx _ _ _ hx st ex st' he a w μ S hst
          | false => exact ihy _ _ _ hy st ex st' he a w μ S hst
        · cases he
      · cases hc
    · cases hc
  | block id b ih =>
    intro h h' ac hc st ex st' he a w μ S hst
    simp only [cCode] at hc
    split at hc
    · rename_i ab h1 hb
      simp only [Option.some.injEq, Prod.mk.injEq] at hc
      obtain ⟨rfl, rfl⟩ := hc
      simp only [exec] at he
      refine wp_block ?_
      split at he
      · rename_i id' st1 he1
        refine wp_mono (ih _ _ _ hb st (.exit id') st1 he1 a w μ S hst) fun e a1 w1 hp => ?_
        obtain ⟨μ1, S1, hex, hst1, hfr⟩ := hp
        cases e with
        | exit id2 =>
          simp only [ExOK] at hex
          subst hex
          simp only [Exit.inBlock]
          split at he
          · rename_i hid
            simp only [Option.some.injEq, Prod.mk.injEq] at he
            obtain ⟨rfl, rfl⟩ := he
            rw [if_pos hid]
            exact ⟨μ1, S1, trivial, hst1, hfr⟩
          · rename_i hid
            simp only [Option.some.injEq, Prod.mk.injEq] at he
            obtain ⟨rfl, rfl⟩ := he
            rw [if_neg hid]
            exact ⟨μ1, S1, rfl, hst1, hfr⟩
        | _ => exact hex.elim
      · rename_i r hne
        refine wp_mono (ih _ _ _ hb st ex st' he a w μ S hst) fun e a1 w1 hp => ?_
        cases e with
        | exit id2 =>
          obtain ⟨μ1, S1, hex, _⟩ := hp
          cases ex <;> first | exact hex.elim | exact absurd he (hne _ _)
        | _ => exact hp
    · cases hc
  | loop b ih =>
    intro h h' ac hc st ex st' he a w μ S hst
    simp only [cCode] at hc
    split at hc
    · rename_i ab h1 hb
      simp only [Option.some.injEq, Prod.mk.injEq] at hc
      obtain ⟨rfl, rfl⟩ := hc
      simp only [exec] at he
      intro fb k cs
      obtain ⟨e, a', w', hp, harr⟩ := iter_sound (P := P) (fun st ex st' h => ih _ _ _ hb st ex st' h) L st ex st' he a w μ S hst fb k cs
      exact ⟨e, a', w', hp, .of_steps (.one step_loop) harr⟩
    · cases hc
  | scope b ih =>
    intro h h' ac hc st ex st' he a w μ S hst
    simp only [cCode] at hc
    refine wp_scope_straight (wp_mono (ih _ _ _ hc st ex st' he a w μ S hst) fun e a1 w1 hp => ?_)
    cases e with
    | goto l => obtain ⟨μ1, S1, hex, _⟩ := hp; cases ex <;> exact hex.elim
    | _ => exact hp
  | exit id =>
    intro h h' ac hc st ex st' he a w μ S hst
    simp only [cCode, Option.some.injEq, Prod.mk.injEq] at hc
    obtain ⟨rfl, rfl⟩ := hc
    simp only [exec, Option.some.injEq, Prod.mk.injEq] at he
    obtain ⟨rfl, rfl⟩ := he
    exact wp_exit ⟨μ, S, rfl, hst, .refl _ _ _ _⟩
  | ret =>
    intro h h' ac hc st ex st' he a w μ S hst
    simp only [cCode, Option.some.injEq, Prod.mk.injEq] at hc
    obtain ⟨rfl, rfl⟩ := hc
    simp only [exec, Option.some.injEq, Prod.mk.injEq] at he
    obtain ⟨rfl, rfl⟩ := he
    exact wp_ret ⟨μ, S, trivial, hst, .refl _ _ _ _⟩
  | goto l =>
    intro h h' ac hc st ex st' he
    simp only [cCode, Option.some.injEq, Prod.mk.injEq] at hc
    obtain ⟨rfl, rfl⟩ := hc
    cases he
  | rangeFunc f ps a b =>
    intro h h' ac hc st ex st' he
    simp only [cCode, Option.some.injEq, Prod.mk.injEq] at hc
    obtain ⟨rfl, rfl⟩ := hc
    cases he
  | refuse s =>
    intro h h' ac hc st ex st' he
    simp only [cCode, Option.some.injEq, Prod.mk.injEq] at hc
    obtain ⟨rfl, rfl⟩ := hc
    cases he

end Go.Ab
