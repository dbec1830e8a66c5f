/- Functions: calls, deferred calls, recover. -/
import Derived.Test.YtikebbklkiodlaaDoorAbA15
set_option linter.unusedSectionVars false
set_option linter.unusedSimpArgs false
set_option linter.unusedVariables false
namespace Go.Ab
variable [Marks]
variable {S S' : Nat → Nat → Prop} {w w' w1 : World} {μ μ' : Nat → Nat → Option (Nat × Nat)} {P : Program} {G : Globs} {σ σ' : Heap}

inductive ARes where
  | tmp (t : Nat)
  | cell (t : Nat) (agg : Bool) (n : Nat)
  deriving Inhabited
structure AFunc where
  ntmps : Nat
  results : List ARes
  body : ACode
  deriving Inhabited
/-- a deferred function that recovers: where recover's answer goes, what is moved then, the rest -/
structure RFunc where
  ntmps : Nat
  dst : Nat
  moves : List (Nat × Opd)
  body : ACode
  deriving Inhabited

def resA (ρ : Env) (σ : Heap) : List ARes → Option (List AV)
  | [] => some []
  | r :: rs =>
    match (match r with
      | .tmp t => ρ.get t
      | .cell t ag n => match ρ.get t with
        | some (.ptr id ver off) => match σ[id]? with
          | some (.arr c v _ _) => if v = ver then partC ag n c off else none
          | _ => none
        | _ => none), resA ρ σ rs with
    | some v, some vs => some (v :: vs)
    | _, _ => none
def resV : List AV → AV
  | [v] => v
  | vs => mkTup vs

abbrev DOracle := Nat → List AV → Heap → Option AV → Option (Option AV × Heap)

def leaveA (D : DOracle) : List (Nat × List AV) → Heap → Option AV → Option (Option AV × Heap)
  | [], σ, m => some (m, σ)
  | (f, as) :: r, σ, m => if f = 4294967294 then
      match as with
      | [.ptr id 0 0] => match σ[id]? with
        | some .mark => leaveA D r (σ.set id .none) m
        | _ => none
      | _ => none
    else match D f as σ m with
    | some (m', σ') => leaveA D r σ' m'
    | none => none

def params : Nat → List AV → Env
  | _, [] => []
  | i, a :: r => (i, a) :: params (i + 1) r

/-- marks alone, or none -/
def mixed : List (Nat × List AV) → Bool
  | [] => false
  | [_] => false
  | x :: y :: r => (Nat.beq x.1 4294967294 != Nat.beq y.1 4294967294) || mixed (y :: r)
def finA (D : DOracle) (af : AFunc) (st : St) (m : Option AV) : Option (CRes × Heap) :=
  if mixed st.defers then none else
  match leaveA D st.defers st.heap m with
  | some (none, σ') => match resA st.env σ' af.results with
    | some vs => some (.ret (resV vs), σ')
    | none => none
  | some (some v, σ') => some (.pan v, σ')
  | none => none

def runFunc (C : Oracle) (D : DOracle) (L : Nat) (af : AFunc) (args : List AV) (σ : Heap) : Option (CRes × Heap) :=
  match exec C L af.body ⟨params 0 args, [], σ⟩ with
  | some (.pan v, st) => finA D af st (some v)
  | some (.normal, st) => finA D af st none
  | some (.ret, st) => finA D af st none
  | _ => none

def moveA : List (Nat × Opd) → Env → Option Env
  | [], ρ => some ρ
  | (d, x) :: r, ρ => match ev ρ x with
    | some v => moveA r ((d, v) :: ρ)
    | none => none

def runRec (C : Oracle) (L : Nat) (rf : RFunc) (args : List AV) (σ : Heap) (m : Option AV) : Option (Option AV × Heap) :=
  match moveA rf.moves ((rf.dst, m.getD (.p .nilif)) :: params 0 args) with
  | some ρ => match exec C L rf.body ⟨ρ, [], σ⟩ with
    | some (.normal, st) => if st.defers.isEmpty then some (none, st.heap) else none
    | some (.ret, st) => if st.defers.isEmpty then some (none, st.heap) else none
    | _ => none
  | none => none

/-- a deferred function that does not recover -/
def runDef (C : Oracle) (L : Nat) (af : AFunc) (args : List AV) (σ : Heap) (m : Option AV) : Option (Option AV × Heap) :=
  match exec C L af.body ⟨params 0 args, [], σ⟩ with
  | some (.normal, st) => if st.defers.isEmpty && af.results.isEmpty then some (m, st.heap) else none
  | some (.ret, st) => if st.defers.isEmpty && af.results.isEmpty then some (m, st.heap) else none
  | _ => none

def cRes (P : Program) (N : Nat) : ResultVar → Option ARes
  | .tmp t => if t < N then some (.tmp t) else none
  | .cell t ty => match P_agg P ty, P_size P ty with
    | some a, some n => some (.cell t a n)
    | _, _ => none
def cRess (P : Program) (N : Nat) : List ResultVar → Option (List ARes)
  | [] => some []
  | r :: rs => match cRes P N r, cRess P N rs with
    | some a, some l => some (a :: l)
    | _, _ => none
def cFunc (P : Program) (G : Globs) (hints : List (List Nat)) (fn : Func) : Option AFunc :=
  if fn.name = "runtime.NumGoroutine" then none else
  match fn.body, cRess P fn.ntmps fn.results.toList with
  | some c, some rs => match cCode P G fn.ntmps c hints with
    | some (ac, _) => some ⟨fn.ntmps, rs, ac⟩
    | none => none
  | _, _ => none

def cMoves (G : Globs) (N : Nat) : List Oper → Option (List (Nat × Opd))
  | [] => some []
  | o :: r => match o.op, o.dst, o.guard, cMoves G N r with
    | .assign x, some d, none, some l => if d < N then (cOpd G x).map fun y => (d, y) :: l else none
    | .move x, some d, none, some l => if d < N then (cOpd G x).map fun y => (d, y) :: l else none
    | _, _, _, _ => none
def isRecover (o : Oper) : Bool := match o.op with
  | .call c => match c.callee with
    | .builtin .recover => c.args.size == 0
    | _ => false
  | _ => false
def cRec (P : Program) (G : Globs) (hints : List (List Nat)) (fn : Func) : Option RFunc :=
  if fn.name = "runtime.NumGoroutine" ∨ fn.results.size ≠ 0 then none else
  match fn.body with
  | some (.seq (.region _ ops false) rest) => match ops.toList with
    | o :: r => if isRecover o && o.guard.isNone then
        match o.dst, cMoves G fn.ntmps r, cCode P G fn.ntmps rest hints with
        | some d, some ms, some (ac, _) => if d < fn.ntmps then some ⟨fn.ntmps, d, ms, ac⟩ else none
        | _, _, _ => none
      else none
    | [] => none
  | _ => none

def ModeRep (S : Nat → Nat → Prop) (w : World) (μ : Nat → Nat → Option (Nat × Nat)) : Option AV → FrameMode → Prop
  | none, .returning => True
  | some v, .panicking l => ∃ c, l = [{ v := c, recovered := false }] ∧ Rep S w μ v c
  | _, _ => False

def Enters (P : Program) (f : Nat) : Prop := ∃ fn c, P.funcs[f]? = some fn ∧ fn.body = some c ∧ fn.name ≠ "runtime.NumGoroutine"

def DOracleOK (P : Program) (G : Globs) (D : DOracle) : Prop :=
  ∀ f args σ m m' σ', D f args σ m = some (m', σ') → ∀ μ S w (cargs : Array Value) (u : FrameMode), Good μ S w σ → GlobOK S w G → RepL S w μ args cargs.toList → ModeRep S w μ m u →
    Enters P f ∧ CallsD P f cargs u w fun e u' w' => (∃ v, e = .returned v) ∧ ∃ μ' S', Good μ' S' w' σ' ∧ Frm μ S w σ μ' S' w' σ' ∧ ModeRep S' w' μ' m' (settle u')

theorem params_get : ∀ {l : List AV} {i t : Nat} {v : AV}, (params i l).get t = some v → i ≤ t ∧ l[t - i]? = some v
  | [], i, t, v, h => by simp [params, Env.get] at h
  | a :: r, i, t, v, h => by
    simp only [params, Env.get_cons] at h
    split at h
    · rename_i he; subst he; exact ⟨Nat.le_refl _, by simpa using h⟩
    · obtain ⟨h1, h2⟩ := params_get h
      exact ⟨by omega, by rw [show t - i = (t - (i + 1)) + 1 from by omega, List.getElem?_cons_succ]; exact h2⟩

theorem params_env {args : List AV} {cargs : Array Value} (h : RepL S w μ args cargs.toList) (n : Nat) : EnvOK S w μ (params 0 args) (cargs ++ Array.replicate n undef) := by
  intro t v ht
  obtain ⟨_, h1⟩ := params_get ht
  obtain ⟨c, hc, hr⟩ := h.get h1
  have hc' : cargs[t]? = some c := by simpa using hc
  have hlt : t < cargs.size := (Array.getElem?_eq_some_iff.1 hc').1
  rw [Array.getD_eq_getD_getElem?, Array.getElem?_append_left hlt, hc']
  exact hr

theorem start_ok {N : Nat} {args : List AV} {cargs : Array Value} (hg : Good μ S w σ) (hG : GlobOK S w G) (h : RepL S w μ args cargs.toList) (hN : args.length ≤ N) :
    StOK G N μ S w ⟨params 0 args, [], σ⟩ { tmps := cargs ++ Array.replicate (N - cargs.size) undef, defers := [] } := by
  have hl : args.length = cargs.size := by rw [h.length]; simp
  exact ⟨params_env h _, hG, hg, by simp; omega, trivial⟩

theorem res_sound {f : ResultVar → Sem Value} {N : Nat} {rvs : List ResultVar} {rs : List ARes} {ρ : Env} {vs : List AV} {tmps : Array Value} (hf1 : ∀ t, f (.tmp t) = pure (tmps.getD t undef)) (hf2 : ∀ a t, f (.cell a t) = (asAddr (tmps.getD a undef) >>= fun x => loadVar t x)) (hc : cRess P N rvs = some rs) (hE : EnvOK S w μ ρ tmps) (hg : Good μ S w σ) (h : resA ρ σ rs = some vs) :
    ∃ cvs : List Value, (rvs.mapM f).run P w = .ok cvs w ∧ RepL S w μ vs cvs := by
  induction rvs generalizing rs vs with
  | nil =>
    simp [cRess] at hc
    subst hc
    simp [resA] at h
    subst h
    exact ⟨[], by simp, .nil⟩
  | cons r rr ih =>
    simp only [cRess] at hc
    split at hc
    · rename_i a l ha hl
      obtain rfl := Option.some.inj hc
      simp only [resA] at h
      split at h
      · rename_i v us hv hus
        obtain rfl := Option.some.inj h
        obtain ⟨cvs, r1, r2⟩ := ih hl hus
        cases r with
        | tmp t =>
          simp only [cRes] at ha
          split at ha
          · obtain rfl := Option.some.inj ha
            exact ⟨tmps.getD t undef :: cvs, by simp only [List.mapM_cons, hf1, Sem.run_bind, Sem.run_pure, Result.andThen_ok, r1], .cons (hE t v hv) r2⟩
          · cases ha
        | cell t ty =>
          simp only [cRes] at ha
          split at ha
          · rename_i ag n hag hn
            obtain rfl := Option.some.inj ha
            simp only at hv
            split at hv
            · rename_i id ver off he
              split at hv
              · rename_i c vr wm ty0 hob
                split at hv
                · rename_i hvr
                  subst hvr
                  obtain ⟨b, m, hμ, e⟩ := (hE t _ he).ptrA
                  obtain ⟨b', n', vs', et, lo, hi, h1, h2, h3, h4, h5, h6, h7⟩ := (hg.obj id _ hob).cells
                  rw [hμ] at h1
                  cases h1
                  obtain ⟨cv, k1, k2⟩ := loadVar_rep (P := P) (o := 0) hag hn hv h5 h6 (fun j x hj => by
                    rw [cell_in h2]
                    rw [List.getElem?_take] at hj
                    split at hj
                    · simpa using hj
                    · cases hj)
                  rw [Nat.zero_add] at k1
                  refine ⟨cv :: cvs, ?_, .cons k2 r2⟩
                  have ea : (asAddr (tmps.getD t undef)).run P w = .ok ⟨b, off, none⟩ w := by rw [e]; rfl
                  simp only [List.mapM_cons, hf2, Sem.run_bind, ea, Sem.run_pure, Result.andThen_ok, k1, r1]
                · cases hv
              · cases hv
            · cases hv
          · cases ha
      · cases h
    · cases hc

theorem results_sound {fn : Func} {N : Nat} {rs : List ARes} {ρ : Env} {vs : List AV} {tmps : Array Value} (hc : cRess P N fn.results.toList = some rs) (hE : EnvOK S w μ ρ tmps) (hg : Good μ S w σ) (h : resA ρ σ rs = some vs) :
    ∃ c, (results fn tmps).run P w = .ok c w ∧ Rep S w μ (resV vs) c := by
  obtain ⟨cvs, h1, h2⟩ := res_sound (f := fun | .tmp t => pure (tmps.getD t undef) | .cell a t => do loadVar t (← asAddr (tmps.getD a undef))) (fun _ => rfl) (fun _ _ => rfl) hc hE hg h
  have hr : (results fn tmps).run P w = .ok (if h : cvs.toArray.size = 1 then cvs.toArray[0] else Value.tuple cvs.toArray) w := by
    simp only [results, Sem.run_bind, Array.mapM_eq_mapM_toList, Sem.run_map]
    erw [h1]
    rfl
  rw [hr]
  refine ⟨_, rfl, ?_⟩
  clear h hr h1
  cases h2 with
  | nil => exact mkTup_rep .nil
  | cons hx hs =>
    cases hs with
    | nil => exact hx
    | cons hy hs' =>
      rename_i c _ _ c' cs'
      have : ¬ ((c :: c' :: cs').toArray.size = 1) := by simp
      rw [dif_neg this]
      exact mkTup_rep (.cons hx (.cons hy hs'))

theorem Leaves_mono {fn : Func} {tmps : Array Value} {R R' : Ending → World → Prop} (hR : ∀ e w, R e w → R' e w) :
    ∀ (ds : List Deferred) (u : FrameMode) (w : World), Leaves P fn tmps R ds u w → Leaves P fn tmps R' ds u w
  | [], .returning, w, ⟨v, h1, h2⟩ => ⟨v, h1, hR _ _ h2⟩
  | [], .panicking _, w, h => hR _ _ h
  | [], .run, _, h => h
  | d :: ds, u, w, ⟨h0, fv, cap, f, args, h1, h2, h3⟩ => ⟨h0, fv, cap, f, args, h1, h2, h3.mono fun e u' w' h => by
      cases e with
      | returned v => exact Leaves_mono hR ds _ _ h
      | panicked c => exact Leaves_mono hR ds _ _ h
      | outgrown => exact hR _ _ h⟩

theorem not_mixed : ∀ {ds : List (Nat × List AV)}, mixed ds = false → (∀ x ∈ ds, x.1 ≠ 4294967294) ∨ (∀ x ∈ ds, x.1 = 4294967294)
  | [], _ => .inl fun x h => by cases h
  | [x], _ => by
    by_cases h : x.1 = 4294967294
    · exact .inr fun y hy => by simp at hy; subst hy; exact h
    · exact .inl fun y hy => by simp at hy; subst hy; exact h
  | x :: y :: r, h => by
    simp only [mixed, Bool.or_eq_false_iff, bne_eq_false_iff_eq] at h
    have hb : ∀ n : Nat, n = 4294967294 ↔ Nat.beq n 4294967294 = true := fun n => ⟨fun e => by subst e; exact Nat.beq_refl _, fun e => Nat.eq_of_beq_eq_true e⟩
    have hxy : x.1 = 4294967294 ↔ y.1 = 4294967294 := by rw [hb, hb, h.1]
    rcases not_mixed h.2 with h2 | h2
    · refine .inl fun z hz => ?_
      rcases List.mem_cons.1 hz with rfl | hz
      · exact fun e => h2 y (List.mem_cons_self ..) (hxy.1 e)
      · exact h2 z hz
    · refine .inr fun z hz => ?_
      rcases List.mem_cons.1 hz with rfl | hz
      · exact hxy.2 (h2 y (List.mem_cons_self ..))
      · exact h2 z hz

theorem leave_sound {D : DOracle} (hD : DOracleOK P G D) {fn : Func} {N : Nat} {rs : List ARes} (hc : cRess P N fn.results.toList = some rs) {r : CRes} :
    ∀ (ds : List (Nat × List AV)) (cds : List Deferred) (σ : Heap) (m : Option AV) (u : FrameMode) (w : World) (μ : Nat → Nat → Option (Nat × Nat)) (S : Nat → Nat → Prop) (ρ : Env) (tmps : Array Value),
      (∀ x ∈ ds, x.1 ≠ 4294967294) → DefRep S w μ ds cds → Good μ S w σ → GlobOK S w G → EnvOK S w μ ρ tmps → ModeRep S w μ m u →
      (match leaveA D ds σ m with
        | some (none, σ') => match resA ρ σ' rs with
          | some vs => some (CRes.ret (resV vs), σ')
          | none => none
        | some (some v, σ') => some (.pan v, σ')
        | none => none) = some (r, σ') →
      Leaves P fn tmps (fun e w' => ∃ μ' S', Good μ' S' w' σ' ∧ Frm μ S w σ μ' S' w' σ' ∧ ResRep S' w' μ' r e) cds u w
  | [], cds, σ, m, u, w, μ, S, ρ, tmps, _, hd, hg, hG, hE, hm, h => by
    cases cds with
    | cons => exact hd.elim
    | nil =>
      simp only [leaveA] at h
      cases m with
      | none =>
        cases u <;> first | exact hm.elim | skip
        simp only at h
        split at h
        · rename_i vs hvs
          simp only [Option.some.injEq, Prod.mk.injEq] at h
          obtain ⟨rfl, rfl⟩ := h
          obtain ⟨c, h1, h2⟩ := results_sound hc hE hg hvs
          exact ⟨c, h1, μ, S, hg, .refl _ _ _ _, h2⟩
        · cases h
      | some v =>
        cases u <;> first | exact hm.elim | skip
        simp only [Option.some.injEq, Prod.mk.injEq] at h
        obtain ⟨rfl, rfl⟩ := h
        exact ⟨μ, S, hg, .refl _ _ _ _, hm⟩
  | (f, as) :: ds, cds, σ, m, u, w, μ, S, ρ, tmps, hnm, hd, hg, hG, hE, hm, h => by
    cases cds with
    | nil => exact hd.elim
    | cons d cds =>
      obtain ⟨hd1, h3⟩ := hd
      have hfm : f ≠ 4294967294 := hnm _ (List.mem_cons_self ..)
      obtain ⟨_, caps, h1, h2⟩ : f ≠ 4294967294 ∧ ∃ caps, d.target = .fn (.func f) caps ∧ RepL S w μ as (d.args ++ caps).toList := hd1.resolve_right (fun hx => hfm hx.1)
      simp only [leaveA] at h
      rw [if_neg hfm] at h
      cases hDr : D f as σ m with
      | none => rw [hDr] at h; cases h
      | some r1 =>
        obtain ⟨m', σ1⟩ := r1
        rw [hDr] at h
        obtain ⟨⟨fn', c', q1, q2, q3⟩, hcall⟩ := hD _ _ _ _ _ _ hDr μ S w (d.args ++ caps) u hg hG h2 hm
        refine ⟨?_, .func f, caps, f, d.args ++ caps, h1, by rw [h1]; exact enter_run q1 q2 q3 w, ?_⟩
        · cases m <;> cases u <;> first | exact hm.elim | simp
        · refine hcall.mono fun e u' w' ⟨⟨v, he⟩, μ1, S1, g1, g2, g3⟩ => ?_
          subst he
          have := leave_sound hD hc ds cds σ1 m' (settle u') w' μ1 S1 ρ tmps (fun x hx => hnm x (List.mem_cons_of_mem _ hx)) (h3.mono g2.keepS g2.mu) g1 (hG.mono g2.keepS) (hE.mono g2.keepS g2.mu) g3 h
          exact Leaves_mono (fun e w'' ⟨μ2, S2, k1, k2, k3⟩ => ⟨μ2, S2, k1, g2.trans k2, k3⟩) _ _ _ this

theorem LeavesInM_mono {F : Fence} {n : Nat} {fn : Func} {tmps : Array Value} {R R' : Ending → World → Prop} (hR : ∀ e w, R e w → R' e w) :
    ∀ (ds : List Deferred) (u : FrameMode) (w : World), LeavesInM F n P fn tmps R ds u w → LeavesInM F n P fn tmps R' ds u w
  | [], .returning, w, ⟨v, h1, h2⟩ => ⟨v, h1, hR _ _ h2⟩
  | [], .panicking _, w, h => hR _ _ h
  | [], .run, _, h => h
  | d :: ds, u, w, ⟨h0, .inl ⟨r, w', h1, h2, h3⟩⟩ => ⟨h0, .inl ⟨r, w', h1, h2, LeavesInM_mono hR ds u w' h3⟩⟩
  | d :: ds, u, w, ⟨h0, .inr ⟨hn, fv, cap, f, args, h1, h2, hl, h3⟩⟩ => ⟨h0, .inr ⟨hn, fv, cap, f, args, h1, h2, hl, h3.mono fun e u' w' h => by
      cases e with
      | returned v => exact LeavesInM_mono hR ds _ _ h
      | panicked c => exact LeavesInM_mono hR ds _ _ h
      | outgrown => exact hR _ _ h⟩⟩

/-- a mark is taken out -/
theorem mark_out {id b n : Nat} (hg : Good μ S w σ) (hid : σ[id]? = some .mark) (hb : μ id 0 = some (b, n)) :
    ∃ w', (Instr.takeDeferred b).run P w = .ok [] w' ∧ Good μ S w' (σ.set id .none) ∧ Frm μ S w σ μ S w' (σ.set id .none) := by
  obtain ⟨b', n', q1, q2⟩ := hg.obj id _ hid
  rw [hb] at q1
  cases q1
  have hbs : b < w.heap.size := (Array.getElem?_eq_some_iff.1 q2).1
  have hat : (w.putObj b (.deferred none)).heap[b]? = some (.deferred none) := World.putObj_heap_same hbs
  have hS : ∀ bb j, S bb j → (w.putObj b (.deferred none)).cell? ⟨bb, j, none⟩ = w.cell? ⟨bb, j, none⟩ := by
    intro bb j _
    by_cases hbb : bb = b
    · subst hbb
      simp [World.cell?, hat, q2]
    · exact cell_of_heap (World.putObj_heap_other hbb)
  refine ⟨_, run_takeDeferred q2, ?_⟩
  exact good_set (b' := b) (n' := n) hg hid rfl hb hb (.inl rfl) (fun _ _ _ h => h) (fun _ _ _ => rfl)
    (fun v x h => by obtain ⟨o, ho, h1, h2⟩ := hg.old _ _ _ h; rw [hid] at ho; cases ho; exact ⟨h1, by simpa using h2⟩)
    (by simp) (fun bb _ h => World.putObj_heap_other h) hS trivial ⟨rfl, rfl, rfl⟩

theorem leaveM_sound {D : DOracle} {n : Nat} {fn : Func} {N : Nat} {rs : List ARes} (hc : cRess P N fn.results.toList = some rs) {r : CRes} :
    ∀ (ds : List (Nat × List AV)) (cds : List Deferred) (σ : Heap) (m : Option AV) (u : FrameMode) (w : World) (μ : Nat → Nat → Option (Nat × Nat)) (S : Nat → Nat → Prop) (ρ : Env) (tmps : Array Value),
      (∀ x ∈ ds, x.1 = 4294967294) → DefRep S w μ ds cds → Good μ S w σ → GlobOK S w G → EnvOK S w μ ρ tmps → ModeRep S w μ m u →
      (match leaveA D ds σ m with
        | some (none, σ') => match resA ρ σ' rs with
          | some vs => some (CRes.ret (resV vs), σ')
          | none => none
        | some (some v, σ') => some (.pan v, σ')
        | none => none) = some (r, σ') →
      LeavesInM (FR none) n P fn tmps (fun e w' => ∃ μ' S', Good μ' S' w' σ' ∧ Frm μ S w σ μ' S' w' σ' ∧ ResRep S' w' μ' r e) cds u w
  | [], cds, σ, m, u, w, μ, S, ρ, tmps, _, hd, hg, hG, hE, hm, h => by
    cases cds with
    | cons => exact hd.elim
    | nil =>
      simp only [leaveA] at h
      cases m with
      | none =>
        cases u <;> first | exact hm.elim | skip
        simp only at h
        split at h
        · rename_i vs hvs
          simp only [Option.some.injEq, Prod.mk.injEq] at h
          obtain ⟨rfl, rfl⟩ := h
          obtain ⟨c, h1, h2⟩ := results_sound hc hE hg hvs
          exact ⟨c, h1, μ, S, hg, .refl _ _ _ _, h2⟩
        · cases h
      | some v =>
        cases u <;> first | exact hm.elim | skip
        simp only [Option.some.injEq, Prod.mk.injEq] at h
        obtain ⟨rfl, rfl⟩ := h
        exact ⟨μ, S, hg, .refl _ _ _ _, hm⟩
  | (f, as) :: ds, cds, σ, m, u, w, μ, S, ρ, tmps, hnm, hd, hg, hG, hE, hm, h => by
    cases cds with
    | nil => exact hd.elim
    | cons d cds =>
      obtain ⟨hd1, h3⟩ := hd
      simp only [leaveA] at h
      have hur : u ≠ .run := by
        cases m <;> cases u <;> first | exact hm.elim | simp
      have hf : f = 4294967294 := hnm _ (List.mem_cons_self ..)
      rw [if_pos hf] at h
      · rcases hd1 with ⟨hne, _⟩ | ⟨_, harg, id0, b, nb, has, hmu, htar⟩
        · exact absurd hf hne
        · subst has
          simp only at h
          cases hob : σ[id0]? with
          | none => rw [hob] at h; cases h
          | some o =>
            cases o with
            | mark =>
              rw [hob] at h
              obtain ⟨w1, t1, t2, t3⟩ := mark_out (P := P) hg hob hmu
              refine ⟨hur, .inl ⟨b, w1, htar, t1, ?_⟩⟩
              have := leaveM_sound (D := D) (n := n) hc ds cds _ m u w1 μ S ρ tmps (fun x hx => hnm x (List.mem_cons_of_mem _ hx)) (h3.mono t3.keepS t3.mu) t2 (hG.mono t3.keepS) (hE.mono t3.keepS t3.mu) (by
                cases m <;> cases u <;> first | exact hm.elim | trivial | (obtain ⟨c, e1, e2⟩ := hm; exact ⟨c, e1, e2.mono t3.keepS t3.mu⟩)) h
              exact LeavesInM_mono (fun e w'' ⟨μ2, S2, k1, k2, k3⟩ => ⟨μ2, S2, k1, t3.trans k2, k3⟩) _ _ _ this
            | _ => rw [hob] at h; cases h

end Go.Ab
