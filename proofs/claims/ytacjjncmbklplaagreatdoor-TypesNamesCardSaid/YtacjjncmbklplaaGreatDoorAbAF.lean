/- Regions whose order the tape draws: one operation. -/
import Derived.Test.YtacjjncmbklplaaGreatDoorAbAE
namespace Go.Ab
variable {S S' : Nat → Nat → Prop} {w w' w1 : World} {μ μ' : Nat → Nat → Option (Nat × Nat)} {P : Program} {G : Globs} {σ σ' : Heap}

/-- what holds once the operations of D are done -/
def DInv (G : Globs) (N : Nat) (aos : List AOper) (f : Nat → St) (m : Nat) (μ0 : Nat → Nat → Option (Nat × Nat)) (S0 : Nat → Nat → Prop) (w0 : World) (D : Nat → Prop) (a : Act) (w : World) : Prop :=
  ∃ μ S q, q ≤ m ∧ (∀ (k : Nat) (ak : AOper), aos[k]? = some ak → isE ak.op = true → (D k ↔ k < q)) ∧ Good μ S w (f q).heap ∧ GlobOK S w G ∧ a.tmps.size = N ∧ DefRep S w μ (f q).defers a.defers ∧
    Frm μ0 S0 w0 (f 0).heap μ S w (f q).heap ∧
    (∀ (t : Nat) (v : AV), (∀ (k : Nat) (ak : AOper), D k → aos[k]? = some ak → ak.dst ≠ some t) → (f 0).env.get t = some v → Rep S w μ v (a.tmps.getD t undef)) ∧
    (∀ (k : Nat) (ak : AOper) (t : Nat) (v : AV), D k → aos[k]? = some ak → ak.dst = some t → (f (k + 1)).env.get t = some v → Rep S w μ v (a.tmps.getD t undef))

section
variable {C : Oracle} {rds : List (Nat × Nat)} {wrs : List (Nat × Nat × List Nat)} {aos : List AOper} {f : Nat → St} {m N : Nat} {ops : Array Oper} {anc : List Nat}

theorem oneH_get {id i : Nat} {ob o : Obj} (h : (oneH id ob)[i]? = some o) : (i = id ∧ o = ob) ∨ o = .none := by
  unfold oneH at h
  rw [List.getElem?_append] at h
  split at h
  · rw [List.getElem?_replicate] at h
    split at h
    · exact .inr (Option.some.inj h).symm
    · cases h
  · rename_i hlt
    simp only [List.length_replicate] at h hlt
    by_cases he : i = id
    · subst he
      simp at h
      exact .inl ⟨rfl, h.symm⟩
    · have : i - id ≠ 0 := by omega
      rw [List.getElem?_eq_none (by simp; omega)] at h
      cases h

theorem still_sound {ρ : Env} {a : Act} {o : Oper} {ao : AOp} {v : AV} {oid : Option Nat} {hp : Heap} (hE : EnvOK S w μ ρ a.tmps) (hG : GlobOK S w G) (hg : Good μ S w hp) (hc : cOp P G o.op = some ao)
    (hv : stillOp ρ σ ao = some (v, oid)) (hsame : ∀ id, oid = some id → hp[id]? = σ[id]?) :
    ∃ c, (execOp a.eval o).run P w = .ok (.value c) w ∧ Rep S w μ v c := by
  unfold stillOp at hv
  split at hv
  · rename_i u hu
    simp only [Option.some.injEq, Prod.mk.injEq] at hv
    obtain ⟨rfl, rfl⟩ := hv
    exact pure_sound hE hG hc hu w
  · split at hv
    · split at hv
      · rename_i u hu
        simp only [Option.some.injEq, Prod.mk.injEq] at hv
        obtain ⟨rfl, rfl⟩ := hv
        exact read_sound hE hG (fun id o h => by simp at h) hc hu
      · cases hv
    · rename_i id _
      split at hv
      · rename_i ob hob
        split at hv
        · rename_i u hu
          simp only [Option.some.injEq, Prod.mk.injEq] at hv
          obtain ⟨rfl, rfl⟩ := hv
          refine read_sound hE hG (fun i o h => ?_) hc hu
          rcases oneH_get h with ⟨rfl, rfl⟩ | rfl
          · exact hg.obj _ _ ((hsame _ rfl).trans hob)
          · trivial
        · cases hv
      · cases hv

theorem okRW_spec {s : Tr} (h : okRW anc s = true) {i id j len : Nat} {wr : List Nat} (h1 : (i, id) ∈ s.rds) (h2 : (j, len, wr) ∈ s.wrs) : bef anc j i = true ∨ bef anc i j = true ∨ (id < len ∧ id ∉ wr) := by
  simp only [okRW, List.all_eq_true] at h
  have := h _ h1 _ h2
  simp only [Bool.or_eq_true, Bool.and_eq_true, decide_eq_true_eq] at this
  rcases this with (h | h) | h
  · exact .inl h
  · exact .inr (.inl h)
  · exact .inr (.inr ⟨h.1, by simpa using h.2⟩)

variable {μ0 : Nat → Nat → Option (Nat × Nat)} {S0 : Nat → Nat → Prop} {w0 : World}

/-- the temporaries that an operation reads are as in the order of the text -/
theorem env_at {D : Nat → Prop} {tmps : Array Value} (hf : ∀ k o, aos[k]? = some o → k < m → Fact C rds wrs k o (f k) (f (k + 1))) (hm : m ≤ aos.length)
    (hok : DOK anc ops.toList aos) {i : Nat} {ai : AOper} (hi : aos[i]? = some ai) (him : i ≤ m) (hDi : ¬ D i) (_hDm : ∀ k, D k → k < m)
    (hbef : ∀ j, bef anc j i = true → D j) (hbefD : ∀ k j, D k → bef anc j k = true → D j)
    (h1 : ∀ (t : Nat) (v : AV), (∀ (k : Nat) (ak : AOper), D k → aos[k]? = some ak → ak.dst ≠ some t) → (f 0).env.get t = some v → Rep S w μ v (tmps.getD t undef))
    (h2 : ∀ (k : Nat) (ak : AOper) (t : Nat) (v : AV), D k → aos[k]? = some ak → ak.dst = some t → (f (k + 1)).env.get t = some v → Rep S w μ v (tmps.getD t undef)) :
    EnvOK S w μ (keepE (f i).env (readsOf ai)) tmps := by
  intro t v hv
  obtain ⟨hmem, hget⟩ := keepE_mem hv
  by_cases hk : ∃ k ak, k < i ∧ aos[k]? = some ak ∧ ak.dst = some t
  · obtain ⟨k, ak, hki, hak, hd⟩ := hk
    have := hok.rd i k ai ak t (by omega) hi hak hd hmem
    rw [if_pos hki] at this
    refine h2 k ak t v (hbef k this) hak hd ?_
    have e := trace_env hf hm (t := t) (i - (k + 1)) (k + 1) (by omega) (fun k' o hk1 hk2 ho hd' => hok.dst k' k o ak t (by omega) ho hak hd hd')
    rw [show k + 1 + (i - (k + 1)) = i from by omega] at e
    rw [← e]; exact hget
  · refine h1 t v (fun k ak hDk hak hd => ?_) ?_
    · by_cases hki : k < i
      · exact hk ⟨k, ak, hki, hak, hd⟩
      · have hne : k ≠ i := fun e => hDi (e ▸ hDk)
        have := hok.rd i k ai ak t hne hi hak hd hmem
        rw [if_neg hki] at this
        exact hDi (hbefD k i hDk this)
    · have e := trace_env hf hm (t := t) i 0 (by omega) (fun k o _ hk2 ho hd => hk ⟨k, o, by omega, ho, hd⟩)
      rw [Nat.zero_add] at e
      rw [← e]; exact hget

/-- the heap at an operation that writes -/
theorem heap_at {D : Nat → Prop} (hf : ∀ k o, aos[k]? = some o → k < m → Fact C rds wrs k o (f k) (f (k + 1))) (hm : m ≤ aos.length)
    (hok : DOK anc ops.toList aos) {i q : Nat} {ai : AOper} (hi : aos[i]? = some ai) (hE : isE ai.op = true) (him : i ≤ m) (hDi : ¬ D i)
    (hbef : ∀ j, bef anc j i = true → D j) (hq : ∀ (k : Nat) (ak : AOper), aos[k]? = some ak → isE ak.op = true → (D k ↔ k < q)) :
    q ≤ i ∧ (f i).heap = (f q).heap ∧ (f i).defers = (f q).defers ∧ ∀ (k : Nat) (ak : AOper), q ≤ k → k < i → aos[k]? = some ak → isE ak.op = false := by
  have hqi : q ≤ i := by
    rcases Nat.lt_or_ge i q with h | h
    · exact absurd ((hq i ai hi hE).2 h) hDi
    · exact h
  have hno : ∀ (k : Nat) (ak : AOper), q ≤ k → k < i → aos[k]? = some ak → isE ak.op = false := by
    intro k ak h1 h2 hak
    cases hEk : isE ak.op with
    | false => rfl
    | true =>
      have := hok.ee i k ai ak (by omega) hi hak hE hEk
      rw [if_pos h2] at this
      have := (hq k ak hak hEk).1 (hbef k this)
      omega
  have := trace_still hf hm (i - q) q (by omega) (fun k o h1 h2 ho => hno k o h1 (by omega) ho)
  rw [show q + (i - q) = i from by omega] at this
  exact ⟨hqi, this.1, this.2, hno⟩

/-- one more operation is done -/
theorem adv {D : Nat → Prop} {a a' : Act} {i q q' : Nat} {ai : AOper} (hok : DOK anc ops.toList aos) (hi : aos[i]? = some ai) (hDi : ¬ D i) (him : i < m) 
    (hq : ∀ (k : Nat) (ak : AOper), aos[k]? = some ak → isE ak.op = true → (D k ↔ k < q)) (hqm : q ≤ m)
    (hq' : (isE ai.op = false ∧ q' = q) ∨ (isE ai.op = true ∧ q' = i + 1 ∧ q ≤ i ∧ ∀ (k : Nat) (ak : AOper), q ≤ k → k < i → aos[k]? = some ak → isE ak.op = false))
    (hfr0 : Frm μ0 S0 w0 (f 0).heap μ S w (f q).heap)
    (h1 : ∀ (t : Nat) (v : AV), (∀ (k : Nat) (ak : AOper), D k → aos[k]? = some ak → ak.dst ≠ some t) → (f 0).env.get t = some v → Rep S w μ v (a.tmps.getD t undef))
    (h2 : ∀ (k : Nat) (ak : AOper) (t : Nat) (v : AV), D k → aos[k]? = some ak → ak.dst = some t → (f (k + 1)).env.get t = some v → Rep S w μ v (a.tmps.getD t undef))
    (hfr : Frm μ S w (f q).heap μ' S' w' (f q').heap) (hg : Good μ' S' w' (f q').heap) (hG : GlobOK S' w' G) (hsz : a'.tmps.size = N) (hdef : DefRep S' w' μ' (f q').defers a'.defers)
    (hsame : ∀ t, ai.dst ≠ some t → a'.tmps.getD t undef = a.tmps.getD t undef)
    (hnew : ∀ t v, ai.dst = some t → (f (i + 1)).env.get t = some v → Rep S' w' μ' v (a'.tmps.getD t undef)) :
    DInv G N aos f m μ0 S0 w0 (fun k => D k ∨ k = i) a' w' := by
  refine ⟨μ', S', q', ?_, ?_, hg, hG, hsz, hdef, hfr0.trans hfr, ?_, ?_⟩
  · rcases hq' with ⟨_, rfl⟩ | ⟨_, rfl, _⟩ <;> omega
  · intro k ak hak hEk
    have h := hq k ak hak hEk
    rcases hq' with ⟨hn, rfl⟩ | ⟨hE, rfl, hqi, hno⟩
    · rw [← h]
      constructor
      · rintro (h3 | rfl)
        · exact h3
        · rw [hi] at hak
          obtain rfl := Option.some.inj hak
          rw [hn] at hEk; cases hEk
      · exact .inl
    · constructor
      · rintro (h3 | rfl)
        · have := h.1 h3; omega
        · omega
      · intro h3
        by_cases hki : k = i
        · exact .inr hki
        · refine .inl (h.2 ?_)
          rcases Nat.lt_or_ge k q with h4 | h4
          · exact h4
          · rw [hno k ak h4 (by omega) hak] at hEk; cases hEk
  · intro t v hno hv
    have hne : ai.dst ≠ some t := hno i ai (.inr rfl) hi
    rw [hsame t hne]
    exact (h1 t v (fun k ak hD hak => hno k ak (.inl hD) hak) hv).mono hfr.keepS hfr.mu
  · intro k ak t v hD hak hd hv
    rcases hD with hD | rfl
    · have hki : k ≠ i := fun e => hDi (e ▸ hD)
      have hne : ai.dst ≠ some t := hok.dst i k ai ak t hki hi hak hd
      rw [hsame t hne]
      exact (h2 k ak t v hD hak hd hv).mono hfr.keepS hfr.mu
    · rw [hi] at hak
      obtain rfl := Option.some.inj hak
      exact hnew t v hd hv

theorem put_same {a : Act} {dst : Option Nat} {v : Value} {t : Nat} (h : dst ≠ some t) : (a.put dst v).tmps.getD t undef = a.tmps.getD t undef := by
  cases dst with
  | none => rfl
  | some d =>
    have hne : d ≠ t := fun e => h (by rw [e])
    simp [Act.put, hne]
theorem put_new {a : Act} {d N : Nat} {v : Value} (h : a.tmps.size = N) (hd : d < N) : (a.put (some d) v).tmps.getD d undef = v := by
  simp [Act.put, h, hd]
theorem put_size {a : Act} {dst : Option Nat} {v : Value} (h : a.tmps.size = N) : (a.put dst v).tmps.size = N := by
  cases dst <;> simp [Act.put, h]
theorem put_defers' {a : Act} {dst : Option Nat} {v : Value} : (a.put dst v).defers = a.defers := by cases dst <;> rfl

theorem step_draw (hC : OracleOK P G C) (hcs : cOpers P G N ops ops.toList = some aos) (hf : ∀ k o, aos[k]? = some o → k < m → Fact C rds wrs k o (f k) (f (k + 1))) (hm : m ≤ aos.length)
    (hok : DOK anc ops.toList aos) (hrw : ∀ i id j len wr, (i, id) ∈ rds → (j, len, wr) ∈ wrs → bef anc j i = true ∨ bef anc i j = true ∨ (id < len ∧ id ∉ wr))
    {D : Nat → Prop} {a : Act} {i : Nat} {ai : AOper} (hi : aos[i]? = some ai) (him : i < m) (hDi : ¬ D i) (hDm : ∀ k, D k → k < m)
    (hbef : ∀ j, bef anc j i = true → D j) (hbefD : ∀ k j, D k → bef anc j k = true → D j) (hlt : ∀ (j k : Nat) (ak : AOper), aos[k]? = some ak → bef anc j k = true → j < k)
    (hinv : DInv G N aos f m μ0 S0 w0 D a w) {Q : Exit → Act → World → Prop} {K : Act → World → Prop}
    (hK : ∀ a' w', DInv G N aos f m μ0 S0 w0 (fun k => D k ∨ k = i) a' w' → K a' w') : wpOp P ops Q i K a w := by
  obtain ⟨μ, S, q, hqm, hq, hg, hG, hsz, hdef, hfr0, h1, h2⟩ := hinv
  obtain ⟨hlen, hops⟩ := cOpers_get hcs
  have hilt : i < ops.toList.length := by rw [← hlen]; exact (List.getElem?_eq_some_iff.1 hi).1
  obtain ⟨ai', hai', hco⟩ := hops i ops.toList[i] (by simp)
  rw [hi] at hai'
  obtain rfl := Option.some.inj hai'
  generalize ho : ops.toList[i] = o at hco
  have hoi : ops[i]? = some o := by rw [← ho]; simp at hilt ⊢
  obtain ⟨hcop, hdst, hdN⟩ := cOper_op hco
  have henv := env_at hf hm hok hi (Nat.le_of_lt him) hDi hDm hbef hbefD h1 h2
  have plain : ∀ (c : Value) (v : AV), isE ai.op = false ∨ ((f (i + 1)).heap = (f i).heap ∧ (f (i + 1)).defers = (f i).defers) → Rep S w μ v c → (f (i + 1)).env = putE (f i).env ai.dst v → K (a.put o.dst c) w := by
    intro c v hcase hr hev
    refine hK _ _ ?_
    have hnew : ∀ t u, ai.dst = some t → (f (i + 1)).env.get t = some u → Rep S w μ u ((a.put o.dst c).tmps.getD t undef) := by
      intro t u hd hu
      rw [hev, hd] at hu
      simp only [putE, Env.get_cons, if_true, Option.some.injEq] at hu
      subst hu
      rw [← hdst, hd, put_new hsz (by rw [← hdst, hd] at hdN; simpa [dstOk] using hdN)]
      exact hr
    cases hE : isE ai.op with
    | false =>
      exact adv (q' := q) hok hi hDi him hq hqm (.inl ⟨hE, rfl⟩) hfr0 h1 h2 (.refl _ _ _ _) hg hG (put_size hsz) (by rw [put_defers']; exact hdef) (fun t ht => put_same (by rw [← hdst]; exact ht)) hnew
    | true =>
      rcases hcase with hx | ⟨hx1, hx2⟩
      · rw [hE] at hx; cases hx
      · obtain ⟨hqi, e1, e2, hno⟩ := heap_at hf hm hok hi hE (Nat.le_of_lt him) hDi hbef hq
        refine adv (q' := i + 1) hok hi hDi him hq hqm (.inr ⟨hE, rfl, hqi, hno⟩) hfr0 h1 h2 ?_ ?_ hG (put_size hsz) ?_ (fun t ht => put_same (by rw [← hdst]; exact ht)) hnew
        · rw [hx1, e1]; exact .refl _ _ _ _
        · rw [hx1, e1]; exact hg
        · rw [put_defers', hx2, e2]; exact hdef
  rcases hf i ai hi him with ⟨hw, hs⟩ | ⟨hw, hE, v, oid, hst, hs, hrd⟩ | ⟨hw, hE, st1, hr, hs, hwr⟩
  · have hwan := wanted_of henv hco hw
    simp only [wpOp, hoi, hwan]
    simp only [Bool.false_eq_true, if_false]
    exact plain undef (.p .undef) (.inr (by rw [hs]; exact ⟨rfl, rfl⟩)) (.p .undef) (by rw [hs])
  · have hwan := wanted_of henv hco hw
    have hsame : ∀ id, oid = some id → (f q).heap[id]? = (f i).heap[id]? := by
      intro id hid
      have hin := hrd id hid
      rcases Nat.le_total q i with hqi | hqi
      · have := trace_id hC.2 hf hm (id := id) (i - q) q (by omega) (fun k ak hk1 hk2 hak hEk len wr hmem => by
          have hDk : ¬ D k := fun h => by have := (hq k ak hak hEk).1 h; omega
          rcases hrw i id k len wr hin hmem with h | h | h
          · exact absurd (hbef k h) hDk
          · have := hlt i k ak hak h; omega
          · exact h)
        rw [show q + (i - q) = i from by omega] at this
        exact this.symm
      · have := trace_id hC.2 hf hm (id := id) (q - i) i (by omega) (fun k ak hk1 hk2 hak hEk len wr hmem => by
          have hDk : D k := (hq k ak hak hEk).2 (by omega)
          rcases hrw i id k len wr hin hmem with h | h | h
          · have := hlt k i ai hi h; omega
          · exact absurd (hbefD k i hDk h) hDi
          · exact h)
        rw [show i + (q - i) = q from by omega] at this
        exact this
    obtain ⟨c, hrun, hrep⟩ := still_sound henv hG hg hcop hst hsame
    simp only [wpOp, hoi, hwan, if_true]
    left
    simp only [Oper.wp, hrun, Oper.upon_value]
    exact plain c v (.inl hE) hrep (by rw [hs])
  · obtain ⟨hqi, e1, e2, hno⟩ := heap_at hf hm hok hi hE (Nat.le_of_lt him) hDi hbef hq
    have hst : StOK G N μ S w { f i with env := keepE (f i).env (readsOf ai) } a := ⟨henv, hG, by simp only; rw [e1]; exact hg, hsz, by simp only; rw [e2]; exact hdef⟩
    have hrun := runOps_sound hC [i] [ai] (fun k j hk => by
      cases k with
      | zero =>
        simp at hk
        subst hk
        exact ⟨o, ai, hoi, rfl, hco⟩
      | succ k => simp at hk) rfl _ _ _ hr a w μ S hst
    rw [wpOps_cons] at hrun
    refine wpOp_more hoi ?_ ?_ hrun
    · intro a' w' hp hsm
      obtain ⟨μ', S', _, hst1, hfr⟩ := hp
      refine hK _ _ ?_
      simp only at hfr
      rw [e1] at hfr
      refine adv (μ' := μ') (q' := i + 1) hok hi hDi him hq hqm (.inr ⟨hE, rfl, hqi, hno⟩) hfr0 h1 h2 ?_ ?_ hst1.glob hst1.size ?_ (fun t ht => hsm t (by rw [← hdst]; exact ht)) ?_
      · rw [hs]; exact hfr
      · rw [hs]; exact hst1.good
      · rw [hs]; exact hst1.defers
      · intro t v hd hv
        rw [hs] at hv
        simp only [carry, hd] at hv
        split at hv
        · rename_i u hu
          rw [Env.get_cons, if_pos rfl] at hv
          obtain rfl := Option.some.inj hv
          exact hst1.env t _ hu
        · rw [Env.get_cons, if_pos rfl] at hv
          obtain rfl := Option.some.inj hv
          exact .dead _
    · intro e a' w' hne hp _
      obtain ⟨μ', S', hex, _⟩ := hp
      cases e <;> first | exact absurd rfl hne | exact hex.elim

end
end Go.Ab
