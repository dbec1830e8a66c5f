/- A deferred function that recovers. -/
import Derived.Test.YtikebbklkiodlaaDoorAbA17
set_option linter.unusedSectionVars false
set_option linter.unusedSimpArgs false
set_option linter.unusedVariables false
namespace Go.Ab
variable [Marks]
variable {S S' : Nat → Nat → Prop} {w w' w1 : World} {μ μ' : Nat → Nat → Option (Nat × Nat)} {P : Program} {G : Globs} {σ σ' : Heap}

theorem moves_sound {N : Nat} {ops : Array Oper} {Q : Exit → Act → List Frame → World → Prop} {cs : List Frame} {ρ' : Env} :
    ∀ (l : List Nat) (r : List Oper) (ms : List (Nat × Opd)) (ρ : Env) (a : Act), (∀ (k i : Nat), l[k]? = some i → ∃ o, ops[i]? = some o ∧ r[k]? = some o) → r.length = l.length →
      cMoves G N r = some ms → moveA ms ρ = some ρ' → StOK G N μ S w ⟨ρ, [], σ⟩ a → (∀ a', StOK G N μ S w ⟨ρ', [], σ⟩ a' → Q .normal a' cs w) → wpOpsS P ops Q l a cs w
  | [], r, ms, ρ, a, hl, hlen, hc, hm, hst, hq => by
    cases r with
    | cons => simp at hlen
    | nil =>
      simp only [cMoves, Option.some.injEq] at hc
      subst hc
      simp only [moveA, Option.some.injEq] at hm
      subst hm
      exact hq a hst
  | i :: l, [], ms, ρ, a, hl, hlen, hc, hm, hst, hq => by simp at hlen
  | i :: l, o :: r, ms, ρ, a, hl, hlen, hc, hm, hst, hq => by
    obtain ⟨o', h1, h2⟩ := hl 0 i rfl
    simp only [List.getElem?_cons_zero, Option.some.injEq] at h2
    subst h2
    have main : ∀ (d : Nat) (x : Operand) (ms' : List (Nat × Opd)), o.dst = some d → o.guard = none → (execOp a.eval o).run P w = .ok (.value (a.eval x)) w → cMoves G N r = some ms' →
        (if d < N then (cOpd G x).map fun y => (d, y) :: ms' else none) = some ms → wpOpsS P ops Q (i :: l) a cs w := by
      intro d x ms' hd hg hx hms hi
      split at hi
      · rename_i hdN
        simp only [Option.map_eq_some_iff] at hi
        obtain ⟨y, hy, rfl⟩ := hi
        simp only [moveA] at hm
        split at hm
        · rename_i v hv
          have hrep := ev_rep hst.env hst.glob hy hv
          have hst' := hst.put (dst := some d) (by simpa [dstOk] using hdN) hrep
          simp only [wpOpsS, h1, Region.wanted, hg, if_true, hx, Oper.upon, hd]
          exact moves_sound l r ms' _ _ (fun k j hk => by
            obtain ⟨o2, q1, q2⟩ := hl (k + 1) j (by simpa using hk)
            exact ⟨o2, q1, by simpa using q2⟩) (by simpa using hlen) hms hm hst' hq
        · cases hm
      · cases hi
    simp only [cMoves] at hc
    split at hc
    · rename_i hop hd hg hms
      exact main _ _ _ hd hg (by simp [execOp, hop]) hms hc
    · rename_i hop hd hg hms
      exact main _ _ _ hd hg (by simp [execOp, hop]) hms hc
    · cases hc

theorem recover_at {m : Option AV} {u : FrameMode} (hu : ModeRep S w μ m u) (c₀ : Frame) (cs : List Frame) (h0 : c₀.mode = u) :
    (∃ cv u', recoverD (c₀ :: cs) = some (cv, { c₀ with mode := u' } :: cs) ∧ settle u' = .returning ∧ Rep S w μ (m.getD (.p .nilif)) cv) ∨
    (recoverD (c₀ :: cs) = none ∧ settle u = .returning ∧ m = none) := by
  cases m <;> cases u <;> first | exact hu.elim | skip
  · exact .inr ⟨by simp [recoverD, h0], rfl, rfl⟩
  · obtain ⟨c, rfl, hr⟩ := hu
    exact .inl ⟨c, .panicking [{ v := c, recovered := true }], by simp only [recoverD, h0], rfl, hr⟩

theorem rec_sound {C : Oracle} (hM : RoundsOf P G) (hC : OracleOK P G C) {L : Nat} {hints : List (List Nat)} {f : Nat} {fn : Func} {rf : RFunc} {args : List AV} {m m' : Option AV}
    (hf : P.funcs[f]? = some fn) (hc : cRec P G hints fn = some rf) (hn : args.length ≤ rf.ntmps) (h : runRec C L rf args σ m = some (m', σ'))
    {cargs : Array Value} {u : FrameMode} (hg : Good μ S w σ) (hG : GlobOK S w G) (ha : RepL S w μ args cargs.toList) (hu : ModeRep S w μ m u) :
    Enters P f ∧ CallsD P f cargs u w fun e u' w' => (∃ v, e = .returned v) ∧ ∃ μ' S', Good μ' S' w' σ' ∧ Frm μ S w σ μ' S' w' σ' ∧ ModeRep S' w' μ' m' (settle u') := by
  unfold cRec at hc
  split at hc
  · cases hc
  rename_i hne
  rw [not_or] at hne
  obtain ⟨hname, hres⟩ := hne
  have hres : fn.results.size = 0 := by simpa using hres
  split at hc
  · rename_i i ops rest hb
    split at hc
    · rename_i o r hops
      split at hc
      · rename_i hrec
        simp only [Bool.and_eq_true] at hrec
        obtain ⟨hrec, hguard⟩ := hrec
        split at hc
        · rename_i d ms ac h' hd hms hcc
          split at hc
          · rename_i hdN
            obtain rfl := Option.some.inj hc
            refine ⟨⟨fn, _, hf, hb, hname⟩, callsD_of_wpS hf hb fun c₀ cs h0 => ?_⟩
            have hst := start_ok (N := fn.ntmps) hg hG ha hn
            have hsz : ops.size = (o :: r).length := by rw [← hops]; simp
            have hget : ∀ k, ops[k]? = (o :: r)[k]? := fun k => by rw [← hops, Array.getElem?_toList]
            have hrange : List.range ops.size = 0 :: (List.range' 1 r.length) := by
              rw [hsz, List.length_cons, List.range_eq_range', List.range'_succ]
            refine wpS_seq (wpS_region ?_)
            rw [hrange]
            have hx : ∀ ev, (execOp ev o).run P w = .ok .recover w := by
              intro ev
              unfold isRecover at hrec
              split at hrec
              · rename_i c hop
                split at hrec
                · rename_i hcal
                  simp only [beq_iff_eq] at hrec
                  simp [execOp, hop, resolve, hcal, invoke, builtin]
                · cases hrec
              · cases hrec
            have hgd : o.guard = none := by simpa using hguard
            unfold runRec at h
            split at h
            · rename_i ρ hmv
              have after : ∀ (cv : Value) (u' : FrameMode), settle u' = .returning → Rep S w μ (m.getD (.p .nilif)) cv →
                  wpOpsS P ops (Exit.thenS (rest.wpS P (bodyPostS P fn c₀ cs fun e u' w' => (∃ v, e = .returned v) ∧ ∃ μ' S', Good μ' S' w' σ' ∧ Frm μ S w σ μ' S' w' σ' ∧ ModeRep S' w' μ' m' (settle u'))) (bodyPostS P fn c₀ cs fun e u' w' => (∃ v, e = .returned v) ∧ ∃ μ' S', Good μ' S' w' σ' ∧ Frm μ S w σ μ' S' w' σ' ∧ ModeRep S' w' μ' m' (settle u'))) (List.range' 1 r.length) (Act.put { tmps := cargs ++ Array.replicate (fn.ntmps - cargs.size) undef, defers := [] } (some d) cv) ({ c₀ with mode := u' } :: cs) w := by
                intro cv u' hset hrep
                refine moves_sound (G := G) (N := fn.ntmps) (μ := μ) (S := S) (σ := σ) (ρ' := ρ) _ r ms _ _ ?_ (by simp) hms hmv (hst.put (dst := some d) (by simpa [dstOk] using hdN) hrep) ?_
                · intro k j hk
                  have hlt : k < r.length := by
                    have := (List.getElem?_eq_some_iff.1 hk).1
                    simpa using this
                  rw [List.getElem?_range' hlt] at hk
                  obtain rfl := Option.some.inj hk
                  refine ⟨r[k], ?_, by simp [hlt]⟩
                  rw [hget, show 1 + 1 * k = k + 1 from by omega, List.getElem?_cons_succ]
                  simp [hlt]
                · intro a' hst'
                  refine wpS_of_wp ?_
                  have fin : ∀ (st : St) μ1 S1 w1 (a1 : Act), StOK G fn.ntmps μ1 S1 w1 st a1 → Frm μ S w σ μ1 S1 w1 st.heap → (if st.defers.isEmpty = true then some ((none : Option AV), st.heap) else none) = some (m', σ') →
                      a1.defers = [] ∧ ∃ u'', ({ c₀ with mode := u' } :: cs) = { c₀ with mode := u'' } :: cs ∧ ∃ v, (results fn a1.tmps).run P w1 = .ok v w1 ∧ ((∃ v', Ending.returned v = .returned v') ∧ ∃ μ' S', Good μ' S' w1 σ' ∧ Frm μ S w σ μ' S' w1 σ' ∧ ModeRep S' w1 μ' m' (settle u'')) := by
                    intro st μ1 S1 w1 a1 hs hfr hi
                    split at hi
                    · rename_i he
                      simp only [Option.some.injEq, Prod.mk.injEq] at hi
                      obtain ⟨rfl, rfl⟩ := hi
                      simp only [List.isEmpty_iff] at he
                      have hdf := hs.defers
                      rw [he] at hdf
                      cases hds : a1.defers with
                      | cons => rw [hds] at hdf; exact hdf.elim
                      | nil =>
                        have hr0 : cRess P fn.ntmps fn.results.toList = some [] := by
                          have : fn.results = #[] := Array.size_eq_zero_iff.1 hres
                          rw [this]; rfl
                        obtain ⟨cv, k1, _⟩ := results_sound hr0 hs.env hs.good (vs := []) (by rfl)
                        exact ⟨rfl, u', rfl, cv, k1, ⟨cv, rfl⟩, μ1, S1, hs.good, hfr, by rw [hset]; trivial⟩
                    · cases hi
                  simp only at h
                  split at h
                  · rename_i st hex
                    refine Code.wp_mono (fun e a1 w1 ⟨μ1, S1, p1, p2, p3⟩ => ?_) (wpIn_wide.1 (exec_sound (r := none) (n := 0) hM hC L rest hints h' ac hcc (.inl rfl) _ _ _ hex _ w μ S hst'))
                    cases e <;> first | exact p1.elim | skip
                    exact fin _ _ _ _ _ p2 p3 h
                  · rename_i st hex
                    refine Code.wp_mono (fun e a1 w1 ⟨μ1, S1, p1, p2, p3⟩ => ?_) (wpIn_wide.1 (exec_sound (r := none) (n := 0) hM hC L rest hints h' ac hcc (.inl rfl) _ _ _ hex _ w μ S hst'))
                    cases e <;> first | exact p1.elim | skip
                    exact fin _ _ _ _ _ p2 p3 h
                  · cases h
              have hget0 : ops[0]? = some o := by rw [hget]; rfl
              have hw0 : ∀ y, Region.wanted o y = true := fun y => by simp [Region.wanted, hgd]
              rw [wpOpsS]
              simp only [hget0, hw0, if_true]
              rw [hx]
              simp only [hd]
              rcases recover_at hu c₀ cs h0 with ⟨cv, u', q1, q2, q3⟩ | ⟨q1, q2, rfl⟩
              · rw [q1]
                exact after cv u' q2 q3
              · rw [q1]
                have := after .nilIface u q2 (.p .nilif)
                have hc0 : ({ c₀ with mode := u } : Frame) = c₀ := by subst h0; rfl
                rw [hc0] at this
                exact this
            · cases h
          · cases hc
        · cases hc
      · cases hc
    · cases hc
  · cases hc

end Go.Ab
