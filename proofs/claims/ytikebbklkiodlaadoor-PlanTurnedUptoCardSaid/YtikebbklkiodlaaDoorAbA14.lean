/- Regions and code: what the interpreter says is what the model does. -/
import Derived.Test.YtikebbklkiodlaaDoorAbA13
set_option linter.unusedSectionVars false
set_option linter.unusedSimpArgs false
set_option linter.unusedVariables false
namespace Go.Ab
variable [Marks]
variable {S S' : Nat → Nat → Prop} {w w' w1 : World} {μ μ' : Nat → Nat → Option (Nat × Nat)} {P : Program} {G : Globs} {σ σ' : Heap}

def ExOK (S : Nat → Nat → Prop) (w : World) (μ : Nat → Nat → Option (Nat × Nat)) : AExit → Exit → Prop
  | .normal, .normal => True
  | .exit id, .exit id' => id = id'
  | .ret, .ret => True
  | .pan v, .panic l => ∃ c, l = [{ v := c, recovered := false }] ∧ Rep S w μ v c
  | _, _ => False

def Post (G : Globs) (N : Nat) (μ : Nat → Nat → Option (Nat × Nat)) (S : Nat → Nat → Prop) (w : World) (σ : Heap) (ex : AExit) (st' : St) (e : Exit) (a' : Act) (w' : World) : Prop :=
  ∃ μ' S', ExOK S' w' μ' ex e ∧ StOK G N μ' S' w' st' a' ∧ Frm μ S w σ μ' S' w' st'.heap

theorem Post.trans {N : Nat} {μ1 : Nat → Nat → Option (Nat × Nat)} {S1 : Nat → Nat → Prop} {σ1 : Heap} {ex : AExit} {st' : St} {e : Exit} {a' : Act} {w2 : World}
    (hf : Frm μ S w σ μ1 S1 w1 σ1) (h : Post G N μ1 S1 w1 σ1 ex st' e a' w2) : Post G N μ S w σ ex st' e a' w2 := by
  obtain ⟨μ2, S2, h1, h2, h3⟩ := h
  exact ⟨μ2, S2, h1, h2, hf.trans h3⟩

theorem wanted_of {N : Nat} {ops : Array Oper} {o : Oper} {ao : AOper} {ρ : Env} {tmps : Array Value} {b : Bool} (hE : EnvOK S w μ ρ tmps) (hc : cOper P G N ops o = some ao) (hw : wantedA ao.guard ρ = some b) :
    Region.wanted o (yielded ops tmps) = b := by
  unfold cOper at hc
  split at hc
  · cases hc
  · split at hc
    · split at hc
      · rename_i hg
        obtain rfl := Option.some.inj hc
        simp only [wantedA, Option.some.injEq] at hw
        subst hw
        simp [Region.wanted, hg]
      · rename_i j want hg
        split at hc
        · rename_i d hd
          obtain rfl := Option.some.inj hc
          simp only [wantedA] at hw
          split at hw
          · rename_i t ht
            obtain rfl := Option.some.inj hw
            have hr := (hE d _ ht).bool
            have : tmps[d]? = some (.bool t) := by
              rw [Array.getD_eq_getD_getElem?] at hr
              cases h : tmps[d]? with
              | none => rw [h] at hr; simp [undef] at hr
              | some x => rw [h] at hr; simpa using hr
            simp only [Region.wanted, hg, yielded, hd, Option.bind_some, this]
            cases t <;> cases want <;> rfl
          · rename_i ht
            obtain rfl := Option.some.inj hw
            have hr := hE d _ ht
            have hy : yielded ops tmps j = none := by
              simp only [yielded, hd, Option.bind_some]
              cases h : tmps[d]? with
              | none => rfl
              | some x =>
                rw [Array.getD_eq_getD_getElem?, h] at hr
                simp only [Option.getD_some] at hr
                cases hr with | p hr => cases hr; rfl
            simp [Region.wanted, hg, hy]
          · cases hw
        · cases hc
    · cases hc

theorem cOper_op {N : Nat} {ops : Array Oper} {o : Oper} {ao : AOper} (hc : cOper P G N ops o = some ao) :
    cOp P G o.op = some ao.op ∧ ao.dst = o.dst ∧ dstOk N o.dst = true := by
  unfold cOper at hc
  split at hc
  · cases hc
  · rename_i a ha
    split at hc
    · rename_i hd
      split at hc
      · obtain rfl := Option.some.inj hc
        exact ⟨ha, rfl, hd⟩
      · split at hc
        · obtain rfl := Option.some.inj hc
          exact ⟨ha, rfl, hd⟩
        · cases hc
    · cases hc

theorem dtarget_run {fv : AV} {as as' : List AV} {f : Nat} {cf : Value} {cas : Array Value} (h : dtarget fv as = some (f, as')) (hf : Rep S w μ fv cf) (ha : RepL S w μ as cas.toList) :
    f < 4294967294 ∧ ∃ d caps, (∀ w', (Deferred.ofValue cf cas).run P w' = .ok d w') ∧ d.target = .fn (.func f) caps ∧ RepL S w μ as' (d.args ++ caps).toList := by
  unfold dtarget at h
  split at h
  · split at h
    · cases h
    · rename_i hne
      simp only [Option.some.injEq, Prod.mk.injEq] at h
      obtain ⟨rfl, rfl⟩ := h
      cases hf.pv
      exact ⟨by omega, { target := .fn (.func _) #[], args := cas }, #[], fun w' => by simp [Deferred.ofValue], rfl, by simpa using ha⟩
  · split at h
    · cases h
    · rename_i hne
      simp only [Option.some.injEq, Prod.mk.injEq] at h
      obtain ⟨rfl, rfl⟩ := h
      cases hf with
      | clo h1 h2 =>
        rename_i cf cc
        refine ⟨by omega, { target := .fn (.func _) cc, args := cf ++ cas }, cc, fun w' => by simp [Deferred.ofValue], rfl, ?_⟩
        simpa using (h1.append ha).append h2
  · cases h
theorem target_cases {fv : AV} {as as' : List AV} {f : Nat} (h : target fv as = some (f, as')) : (f ≠ 4294967295 ∧ dtarget fv as = some (f, as')) ∨ (f = 4294967295 ∧ ∃ id, fv = .yld id ∧ as' = .yld id :: as) := by
  unfold target at h
  split at h
  · split at h
    · cases h
    · rename_i hne
      have h' := h
      simp only [Option.some.injEq, Prod.mk.injEq] at h
      obtain ⟨rfl, rfl⟩ := h
      exact .inl ⟨by omega, by simp only [dtarget]; rw [if_neg hne]⟩
  · split at h
    · cases h
    · rename_i hne
      simp only [Option.some.injEq, Prod.mk.injEq] at h
      obtain ⟨rfl, rfl⟩ := h
      exact .inl ⟨by omega, by simp only [dtarget]; rw [if_neg hne]⟩
  · simp only [Option.some.injEq, Prod.mk.injEq] at h
    obtain ⟨rfl, rfl⟩ := h
    exact .inr ⟨rfl, _, rfl, rfl⟩
  · cases h

/-- fences of which nothing is asked but whose round it is -/
abbrev FR (r : Option Nat) : Fence := { Fence.wide with round := r }
theorem calls_FR {r : Option Nat} {n : Nat} {f : FuncId} {args : Array Value} {R : Ending → World → Prop} (h : Calls P f args w R) : CallsIn (FR r) n P f args w R := (callsIn_wide (n := n)).2 h
theorem round_FR {r : Option Nat} {n l : Nat} {f : FuncId} {tmps : Array Value} {a b : Code} {R : Ending → World → Prop} (h : RoundIn Fence.wide n P l f tmps a b w R) : RoundIn (FR r) n P l f tmps a b w R := h
theorem deep_FR {r : Option Nat} {p : Prop} : (FR r).depth.isSome = true → p := fun h => by simp [FR, Fence.wide] at h

theorem enter_run {f : Nat} {caps args : Array Value} {fn : Func} {c : Code} (hf : P.funcs[f]? = some fn) (hb : fn.body = some c) (hn : fn.name ≠ "runtime.NumGoroutine") (w' : World) :
    (invoke (.fn (.func f) caps) args).run P w' = .ok (.enter f (args ++ caps)) w' := by
  have : (fn.name == "runtime.NumGoroutine") = false := by simpa using hn
  simp only [invoke, callFunc, Sem.run_bind, run_program, Result.andThen_ok]
  rw [hf]
  simp [this, hb]

theorem cOp_call {op : Op} {f : Opd} {args : List Opd} (hc : cOp P G op = some (.call f args)) : ∃ c fo, op = .call c ∧ c.callee = .value fo ∧ cOpd G fo = some f ∧ cOpds G c.args.toList = some args := by
  cases op with
  | call c =>
    obtain ⟨callee, as, tys⟩ := c
    cases callee with
    | value g =>
      simp only [cOp] at hc
      split at hc
      · rename_i h1 h2
        cases hc
        exact ⟨_, g, rfl, rfl, h1, h2⟩
      · cases hc
    | builtin b =>
      simp only [cOp] at hc
      unfold cBuiltin at hc
      split at hc
      · split at hc
        · simp at hc
        · simp at hc
        · cases hc
        · cases hc
      · split at hc
        · split at hc
          · split at hc <;> cases hc
          · cases hc
        · cases hc
      · split at hc
        · split at hc
          · cases hc
          · cases hc
        · cases hc
      · split at hc
        · split at hc
          · cases hc
          · cases hc
        · cases hc
      · simp at hc
      · simp at hc
      · simp at hc
      · cases hc
      · simp at hc
      · split at hc
        · split at hc
          · split at hc <;> cases hc
          · cases hc
        · cases hc
      · cases hc
    | invoke r m => simp [cOp] at hc
  | move x => simp [cOp] at hc
  | assign x => simp [cOp] at hc
  | pick c x y =>
    simp only [cOp] at hc
    split at hc
    · cases hc
    · cases hc
  | alloc t => simp [cOp] at hc
  | box t x =>
    simp only [cOp] at hc
    split at hc
    · cases hc
    · cases hc
  | build t parts =>
    simp only [cOp] at hc
    split at hc
    · split at hc
      · simp at hc
      · cases hc
    · split at hc
      · simp at hc
      · cases hc
    · cases hc
  | buildSlice t len parts =>
    simp only [cOp] at hc
    split at hc
    · split at hc
      · split at hc
        · simp at hc
        · cases hc
      · cases hc
    · cases hc
  | load t x =>
    simp only [cOp] at hc
    split at hc
    · cases hc
    · cases hc
  | store t x y =>
    simp only [cOp] at hc
    split at hc
    · cases hc
    · cases hc
  | nilCheck x => simp [cOp] at hc
  | binOp op t x y yt =>
    simp only [cOp] at hc
    split at hc
    · cases hc
    · cases hc
  | unOp u t x => simp [cOp] at hc
  | convert s d x =>
    simp only [cOp] at hc
    split at hc
    · cases hc
    · cases hc
    · cases hc
    · split at hc
      · cases hc
      · cases hc
    · split at hc
      · cases hc
      · cases hc
    · cases hc
  | sliceToArrayPointer d x => simp [cOp] at hc
  | makeInterface t x =>
    simp only [cOp] at hc
    split at hc
    · cases hc
    · simp at hc
    · cases hc
  | makeFunc f first caps =>
    cases f with
    | func f =>
      simp only [cOp] at hc
      split at hc
      · cases hc
      · cases hc
    | _ => simp [cOp] at hc
  | makeMap t r => simp [cOp] at hc
  | makeChan t s => simp [cOp] at hc
  | makeSlice t l c =>
    simp only [cOp] at hc
    split at hc
    · split at hc
      · cases hc
      · cases hc
    · cases hc
  | slice t x lo hi mx =>
    simp only [cOp] at hc
    split at hc
    · split at hc
      · cases hc
      · cases hc
    · split at hc
      · cases hc
      · cases hc
    · split at hc
      · cases hc
      · cases hc
    · split at hc
      · split at hc
        · cases hc
        · cases hc
      · cases hc
    · cases hc
  | fieldAddr t x f =>
    simp only [cOp] at hc
    split at hc
    · split at hc
      · split at hc
        · split at hc
          · cases hc
          · cases hc
        · cases hc
      · cases hc
    · cases hc
  | field t x f =>
    simp only [cOp] at hc
    split at hc
    · split at hc
      · split at hc
        · cases hc
        · cases hc
      · cases hc
    · cases hc
  | indexAddr t x i =>
    simp only [cOp] at hc
    split at hc
    · split at hc
      · cases hc
      · cases hc
    · split at hc
      · cases hc
      · cases hc
    · cases hc
  | index t x i =>
    simp only [cOp] at hc
    split at hc
    · split at hc
      · cases hc
      · cases hc
    · split at hc
      · cases hc
      · cases hc
    · cases hc
  | range t x =>
    simp only [cOp] at hc
    split at hc
    · simp at hc
    · cases hc
  | next x s =>
    cases s with
    | true => simp [cOp] at hc
    | false => simp [cOp] at hc
  | typeAssert x xt t ok =>
    simp only [cOp] at hc
    split at hc
    · cases hc
    · split at hc
      · split at hc
        · split at hc
          · cases hc
          · cases hc
        · cases hc
      · cases hc
    · cases hc
  | extract x i => simp [cOp] at hc
  | panic x => simp [cOp] at hc
  | defer c =>
    obtain ⟨callee, args, tys⟩ := c
    cases callee with
    | value f =>
      simp only [cOp] at hc
      split at hc
      · cases hc
      · cases hc
    | _ => simp [cOp] at hc
  | _ => simp [cOp] at hc

theorem cOp_defer {op : Op} {f : Opd} {args : List Opd} (hc : cOp P G op = some (.defer f args)) : ∃ c fo, op = .defer c ∧ c.callee = .value fo ∧ cOpd G fo = some f ∧ cOpds G c.args.toList = some args := by
  cases op with
  | defer c =>
    obtain ⟨callee, as, tys⟩ := c
    cases callee with
    | value g =>
      simp only [cOp] at hc
      split at hc
      · rename_i h1 h2
        cases hc
        exact ⟨_, g, rfl, rfl, h1, h2⟩
      · cases hc
    | _ => simp [cOp] at hc
  | call c =>
    obtain ⟨callee, as, tys⟩ := c
    cases callee with
    | value g =>
      simp only [cOp] at hc
      split at hc
      · cases hc
      · cases hc
    | builtin b =>
      simp only [cOp] at hc
      unfold cBuiltin at hc
      split at hc
      · split at hc
        · simp at hc
        · simp at hc
        · cases hc
        · cases hc
      · split at hc
        · split at hc
          · split at hc <;> cases hc
          · cases hc
        · cases hc
      · split at hc
        · split at hc
          · cases hc
          · cases hc
        · cases hc
      · split at hc
        · split at hc
          · cases hc
          · cases hc
        · cases hc
      · simp at hc
      · simp at hc
      · simp at hc
      · cases hc
      · simp at hc
      · split at hc
        · split at hc
          · split at hc <;> cases hc
          · cases hc
        · cases hc
      · cases hc
    | invoke r m => simp [cOp] at hc
  | move x => simp [cOp] at hc
  | assign x => simp [cOp] at hc
  | pick c x y =>
    simp only [cOp] at hc
    split at hc
    · cases hc
    · cases hc
  | alloc t => simp [cOp] at hc
  | box t x =>
    simp only [cOp] at hc
    split at hc
    · cases hc
    · cases hc
  | build t parts =>
    simp only [cOp] at hc
    split at hc
    · split at hc
      · simp at hc
      · cases hc
    · split at hc
      · simp at hc
      · cases hc
    · cases hc
  | buildSlice t len parts =>
    simp only [cOp] at hc
    split at hc
    · split at hc
      · split at hc
        · simp at hc
        · cases hc
      · cases hc
    · cases hc
  | load t x =>
    simp only [cOp] at hc
    split at hc
    · cases hc
    · cases hc
  | store t x y =>
    simp only [cOp] at hc
    split at hc
    · cases hc
    · cases hc
  | nilCheck x => simp [cOp] at hc
  | binOp op t x y yt =>
    simp only [cOp] at hc
    split at hc
    · cases hc
    · cases hc
  | unOp u t x => simp [cOp] at hc
  | convert s d x =>
    simp only [cOp] at hc
    split at hc
    · cases hc
    · cases hc
    · cases hc
    · split at hc
      · cases hc
      · cases hc
    · split at hc
      · cases hc
      · cases hc
    · cases hc
  | sliceToArrayPointer d x => simp [cOp] at hc
  | makeInterface t x =>
    simp only [cOp] at hc
    split at hc
    · cases hc
    · simp at hc
    · cases hc
  | makeFunc f first caps =>
    cases f with
    | func f =>
      simp only [cOp] at hc
      split at hc
      · cases hc
      · cases hc
    | _ => simp [cOp] at hc
  | makeMap t r => simp [cOp] at hc
  | makeChan t s => simp [cOp] at hc
  | makeSlice t l c =>
    simp only [cOp] at hc
    split at hc
    · split at hc
      · cases hc
      · cases hc
    · cases hc
  | slice t x lo hi mx =>
    simp only [cOp] at hc
    split at hc
    · split at hc
      · cases hc
      · cases hc
    · split at hc
      · cases hc
      · cases hc
    · split at hc
      · cases hc
      · cases hc
    · split at hc
      · split at hc
        · cases hc
        · cases hc
      · cases hc
    · cases hc
  | fieldAddr t x f =>
    simp only [cOp] at hc
    split at hc
    · split at hc
      · split at hc
        · split at hc
          · cases hc
          · cases hc
        · cases hc
      · cases hc
    · cases hc
  | field t x f =>
    simp only [cOp] at hc
    split at hc
    · split at hc
      · split at hc
        · cases hc
        · cases hc
      · cases hc
    · cases hc
  | indexAddr t x i =>
    simp only [cOp] at hc
    split at hc
    · split at hc
      · cases hc
      · cases hc
    · split at hc
      · cases hc
      · cases hc
    · cases hc
  | index t x i =>
    simp only [cOp] at hc
    split at hc
    · split at hc
      · cases hc
      · cases hc
    · split at hc
      · cases hc
      · cases hc
    · cases hc
  | range t x =>
    simp only [cOp] at hc
    split at hc
    · simp at hc
    · cases hc
  | next x s =>
    cases s with
    | true => simp [cOp] at hc
    | false => simp [cOp] at hc
  | typeAssert x xt t ok =>
    simp only [cOp] at hc
    split at hc
    · cases hc
    · split at hc
      · split at hc
        · split at hc
          · cases hc
          · cases hc
        · cases hc
      · cases hc
    · cases hc
  | extract x i => simp [cOp] at hc
  | panic x => simp [cOp] at hc
  | _ => simp [cOp] at hc

theorem cOp_panic {o : Oper} {x : Opd} (hc : cOp P G o.op = some (.panic x)) (a : Act) (w : World) : ∃ xo, cOpd G xo = some x ∧ ∀ t y, a.eval xo = .iface t y → (execOp a.eval o).run P w = .halt (.panic (.iface t y)) w := by
  obtain ⟨dst, op, oty, pos, after, guard⟩ := o
  simp only at hc
  cases op with
  | panic y =>
    simp only [cOp, Option.map_eq_some_iff] at hc
    obtain ⟨z, hz, hc⟩ := hc
    cases hc
    refine ⟨y, hz, fun t v h => ?_⟩
    simp [execOp, h, Instr.panic, goPanic, Sem.run]
  | call c =>
    obtain ⟨callee, as, tys⟩ := c
    cases callee with
    | value g =>
      simp only [cOp] at hc
      split at hc
      · cases hc
      · cases hc
    | builtin b =>
      obtain ⟨as⟩ := as
      obtain ⟨tys⟩ := tys
      simp only [cOp] at hc
      unfold cBuiltin at hc
      split at hc
      · split at hc
        · simp at hc
        · simp at hc
        · cases hc
        · cases hc
      · split at hc
        · split at hc
          · split at hc <;> cases hc
          · cases hc
        · cases hc
      · split at hc
        · split at hc
          · cases hc
          · cases hc
        · cases hc
      · split at hc
        · split at hc
          · cases hc
          · cases hc
        · cases hc
      · simp at hc
      · simp at hc
      · rename_i y
        simp only [Option.map_eq_some_iff] at hc
        obtain ⟨z, hz, hc⟩ := hc
        cases hc
        refine ⟨y, hz, fun t v h => ?_⟩
        simp [execOp, resolve, invoke, builtin, h, Instr.panic, goPanic, Sem.run]
      · cases hc
      · simp at hc
      · split at hc
        · split at hc
          · split at hc <;> cases hc
          · cases hc
        · cases hc
      · cases hc
    | invoke r m => simp [cOp] at hc
  | move x => simp [cOp] at hc
  | assign x => simp [cOp] at hc
  | pick c x y =>
    simp only [cOp] at hc
    split at hc
    · cases hc
    · cases hc
  | alloc t => simp [cOp] at hc
  | box t x =>
    simp only [cOp] at hc
    split at hc
    · cases hc
    · cases hc
  | build t parts =>
    simp only [cOp] at hc
    split at hc
    · split at hc
      · simp at hc
      · cases hc
    · split at hc
      · simp at hc
      · cases hc
    · cases hc
  | buildSlice t len parts =>
    simp only [cOp] at hc
    split at hc
    · split at hc
      · split at hc
        · simp at hc
        · cases hc
      · cases hc
    · cases hc
  | load t x =>
    simp only [cOp] at hc
    split at hc
    · cases hc
    · cases hc
  | store t x y =>
    simp only [cOp] at hc
    split at hc
    · cases hc
    · cases hc
  | nilCheck x => simp [cOp] at hc
  | binOp op t x y yt =>
    simp only [cOp] at hc
    split at hc
    · cases hc
    · cases hc
  | unOp u t x => simp [cOp] at hc
  | convert s d x =>
    simp only [cOp] at hc
    split at hc
    · cases hc
    · cases hc
    · cases hc
    · split at hc
      · cases hc
      · cases hc
    · split at hc
      · cases hc
      · cases hc
    · cases hc
  | sliceToArrayPointer d x => simp [cOp] at hc
  | makeInterface t x =>
    simp only [cOp] at hc
    split at hc
    · cases hc
    · simp at hc
    · cases hc
  | makeFunc f first caps =>
    cases f with
    | func f =>
      simp only [cOp] at hc
      split at hc
      · cases hc
      · cases hc
    | _ => simp [cOp] at hc
  | makeMap t r => simp [cOp] at hc
  | makeChan t s => simp [cOp] at hc
  | makeSlice t l c =>
    simp only [cOp] at hc
    split at hc
    · split at hc
      · cases hc
      · cases hc
    · cases hc
  | slice t x lo hi mx =>
    simp only [cOp] at hc
    split at hc
    · split at hc
      · cases hc
      · cases hc
    · split at hc
      · cases hc
      · cases hc
    · split at hc
      · cases hc
      · cases hc
    · split at hc
      · split at hc
        · cases hc
        · cases hc
      · cases hc
    · cases hc
  | fieldAddr t x f =>
    simp only [cOp] at hc
    split at hc
    · split at hc
      · split at hc
        · split at hc
          · cases hc
          · cases hc
        · cases hc
      · cases hc
    · cases hc
  | field t x f =>
    simp only [cOp] at hc
    split at hc
    · split at hc
      · split at hc
        · cases hc
        · cases hc
      · cases hc
    · cases hc
  | indexAddr t x i =>
    simp only [cOp] at hc
    split at hc
    · split at hc
      · cases hc
      · cases hc
    · split at hc
      · cases hc
      · cases hc
    · cases hc
  | index t x i =>
    simp only [cOp] at hc
    split at hc
    · split at hc
      · cases hc
      · cases hc
    · split at hc
      · cases hc
      · cases hc
    · cases hc
  | range t x =>
    simp only [cOp] at hc
    split at hc
    · simp at hc
    · cases hc
  | next x s =>
    cases s with
    | true => simp [cOp] at hc
    | false => simp [cOp] at hc
  | typeAssert x xt t ok =>
    simp only [cOp] at hc
    split at hc
    · cases hc
    · split at hc
      · split at hc
        · split at hc
          · cases hc
          · cases hc
        · cases hc
      · cases hc
    · cases hc
  | extract x i => simp [cOp] at hc
  | defer c =>
    obtain ⟨callee, args, tys⟩ := c
    cases callee with
    | value f =>
      simp only [cOp] at hc
      split at hc
      · cases hc
      · cases hc
    | _ => simp [cOp] at hc
  | _ => simp [cOp] at hc

theorem wpOpsIn_mono {F : Fence} {n : Nat} {ops : Array Oper} {Q Q' : Exit → Act → World → Prop} (hq : ∀ e a w, Q e a w → Q' e a w) : ∀ (l : List Nat) (a : Act) (w : World), wpOpsIn F n P ops Q l a w → wpOpsIn F n P ops Q' l a w := by
  intro l
  induction l with
  | nil => intro a w h; exact hq _ _ _ h
  | cons i rest ih =>
    intro a w h
    simp only [wpOpsIn] at h ⊢
    split
    · rename_i ho
      simp only [ho] at h
      exact ih _ _ h
    · rename_i o ho
      simp only [ho] at h
      split
      · rename_i hw
        rw [if_pos hw] at h
        refine ⟨h.1, ?_⟩
        have h := h.2
        generalize (o.semAt F.round a.eval).run P w = r at *
        cases r with
        | ok x w' =>
          cases x <;> simp only [Oper.uponIn] at h ⊢ <;>
            first
              | exact ih _ _ h
              | exact ⟨h.1, CallsIn.mono h.2 (fun e w'' he => by
                  cases e with
                  | returned v => exact ih _ _ he
                  | panicked ch => exact hq _ _ _ he
                  | outgrown => exact let ⟨a0, w0, h0⟩ := he; ⟨a0, w0, hq _ _ _ h0⟩)⟩
              | exact ⟨h.1, RowsIn.mono h.2 (fun _ _ he => ih _ _ he)⟩
              | exact ⟨h.1, RoundIn.mono h.2 (fun e w'' he => by
                  cases e with
                  | returned v => exact ih _ _ he
                  | panicked ch => exact hq _ _ _ he
                  | outgrown => exact let ⟨a0, w0, h0⟩ := he; ⟨a0, w0, hq _ _ _ h0⟩)⟩
        | halt x w' => cases x <;> simp only [Oper.uponIn] at h ⊢ <;> first | exact h.elim | exact hq _ _ _ h
      · rename_i hw
        rw [if_neg hw] at h
        exact ⟨h.1, ih _ _ h.2⟩

theorem cOp_defer_is {o : Oper} {ao : AOp} {c : Call} (h : cOp P G o.op = some ao) (ho : o.op = .defer c) : ∃ f as, ao = .defer f as := by
  rw [ho] at h
  obtain ⟨callee, args, tys⟩ := c
  cases callee <;> simp only [cOp] at h <;> first
    | cases h
    | (split at h
       · obtain rfl := Option.some.inj h; exact ⟨_, _, rfl⟩
       · cases h)
theorem sem_calm {r : Option Nat} {o : Oper} {ao : AOper} (h : cOp P G o.op = some ao.op) (hc : r = none ∨ ao.calm = true) (ρ : Operand → Value) : o.semAt r ρ = execOp ρ o := by
  rcases hc with rfl | hc
  · rfl
  · refine Oper.semAt_eq _ _ _ fun c ho => ?_
    obtain ⟨f, as, hd⟩ := cOp_defer_is h ho
    simp [AOper.calm, hd] at hc

theorem runOps_sound {r : Option Nat} {n : Nat} {N : Nat} {C : Oracle} (hC : OracleOK P G C) {ops : Array Oper} :
    ∀ (l : List Nat) (os : List AOper), (r = none ∨ os.all AOper.calm = true) → (∀ (k i : Nat), l[k]? = some i → ∃ o ao, ops[i]? = some o ∧ os[k]? = some ao ∧ cOper P G N ops o = some ao) → os.length = l.length →
      ∀ (st : St) (ex : AExit) (st' : St), runOps C os st = some (ex, st') → ∀ (a : Act) (w : World) (μ : Nat → Nat → Option (Nat × Nat)) (S : Nat → Nat → Prop), StOK G N μ S w st a →
        wpOpsIn (FR r) n P ops (Post G N μ S w st.heap ex st') l a w := by
  intro l
  induction l with
  | nil =>
    intro os _ _ hlen st ex st' h a w μ S hst
    cases os with
    | cons => simp at hlen
    | nil =>
      simp only [runOps, Option.some.injEq, Prod.mk.injEq] at h
      obtain ⟨rfl, rfl⟩ := h
      exact ⟨μ, S, trivial, hst, .refl _ _ _ _⟩
  | cons i rest ih =>
    intro os hcalm hops hlen st ex st' h a w μ S hst
    cases os with
    | nil => simp at hlen
    | cons ao os =>
      obtain ⟨o, ao', ho, hao, hc⟩ := hops 0 i rfl
      simp only [List.getElem?_cons_zero, Option.some.injEq] at hao
      subst hao
      obtain ⟨hcop, hdst, hdN⟩ := cOper_op hc
      have hcalm1 : r = none ∨ ao.calm = true := hcalm.imp id fun h => by simp only [List.all_cons, Bool.and_eq_true] at h; exact h.1
      have hcalm2 : r = none ∨ os.all AOper.calm = true := hcalm.imp id fun h => by simp only [List.all_cons, Bool.and_eq_true] at h; exact h.2
      have hsem : o.semAt (FR r).round a.eval = execOp a.eval o := sem_calm hcop hcalm1 a.eval
      have ih' := ih os hcalm2 (fun k i hk => hops (k + 1) i hk) (by simpa using hlen)
      have wmono : ∀ {μ1 : Nat → Nat → Option (Nat × Nat)} {S1 : Nat → Nat → Prop} {w1 : World} {st1 : St} {a1 : Act}, Frm μ S w st.heap μ1 S1 w1 st1.heap → StOK G N μ1 S1 w1 st1 a1 → runOps C os st1 = some (ex, st') →
          wpOpsIn (FR r) n P ops (Post G N μ S w st.heap ex st') rest a1 w1 := by
        intro μ1 S1 w1 st1 a1 hf hst1 h1
        have := ih' st1 ex st' h1 a1 w1 μ1 S1 hst1
        exact wpOpsIn_mono (fun e a' w' hp => hp.trans hf) _ _ _ this
      simp only [wpOpsIn, ho]
      simp only [runOps] at h
      split at h
      · cases h
      · rename_i hw
        rw [if_neg (by rw [wanted_of hst.env hc hw]; simp)]
        refine ⟨fun _ _ => trivial, ?_⟩
        refine wmono (st1 := { st with env := putE st.env ao.dst (.p .undef) }) (.refl _ _ _ _) ?_ h
        rw [hdst]
        exact hst.put hdN (.p .undef)
      · rename_i hw
        rw [if_pos (wanted_of hst.env hc hw)]
        unfold Oper.wpIn
        rw [hsem]
        refine ⟨fun _ _ => trivial, ?_⟩
        split at h
        · -- a call
          rename_i f args hop
          split at h
          · rename_i fv as e1 e2
            split at h
            · rename_i f' as' ht
              have hcall : ∃ c fo, o.op = .call c ∧ c.callee = .value fo ∧ cOpd G fo = some f ∧ cOpds G c.args.toList = some args := by
                rw [hop] at hcop
                exact cOp_call hcop
              obtain ⟨c, fo, ho1, ho2, ho3, ho4⟩ := hcall
              have r1 := ev_rep hst.env hst.glob ho3 e1
              have r2 := evs_rep hst.env hst.glob ho4 e2
              rcases target_cases ht with ⟨hfn, ht⟩ | ⟨rfl, yid, rfl, rfl⟩
              · skip
                obtain ⟨hfl, d, caps, k1, k2, k3⟩ := dtarget_run (P := P) (cas := c.args.map a.eval) ht r1 (by simpa using r2)
                split at h
                · rename_i v σ1 hcr
                  obtain ⟨⟨fn, cd, q1, q2, q3⟩, hcalls⟩ := hC.1.1 _ _ _ _ _ hcr hfn μ S w (d.args ++ caps) hst.good hst.glob k3
                  have hrun : (execOp a.eval o).run P w = .ok (.enter f' (d.args ++ caps)) w := by
                    simp only [execOp, ho1, resolve, ho2, Sem.run_bind, k1, Result.andThen_ok]
                    rw [k2, enter_run q1 q2 q3]
                  simp only [hrun, Oper.uponIn_enter]
                  refine ⟨deep_FR, calls_FR ?_⟩
                  refine hcalls.mono fun e w1 ⟨μ1, S1, g1, g2, g3⟩ => ?_
                  cases e with
                  | returned cv =>
                    refine wmono (st1 := { st with env := putE st.env ao.dst v, heap := σ1 }) g2 ?_ h
                    rw [hdst]
                    exact (hst.step g1 g2).put hdN g3
                  | panicked ch => exact g3.elim
                  | outgrown => exact g3.elim
                · rename_i v σ1 hcr
                  obtain ⟨⟨fn, cd, q1, q2, q3⟩, hcalls⟩ := hC.1.1 _ _ _ _ _ hcr hfn μ S w (d.args ++ caps) hst.good hst.glob k3
                  have hrun : (execOp a.eval o).run P w = .ok (.enter f' (d.args ++ caps)) w := by
                    simp only [execOp, ho1, resolve, ho2, Sem.run_bind, k1, Result.andThen_ok]
                    rw [k2, enter_run q1 q2 q3]
                  simp only [hrun, Oper.uponIn_enter]
                  refine ⟨deep_FR, calls_FR ?_⟩
                  simp only [Option.some.injEq, Prod.mk.injEq] at h
                  obtain ⟨rfl, rfl⟩ := h
                  refine hcalls.mono fun e w1 ⟨μ1, S1, g1, g2, g3⟩ => ?_
                  cases e with
                  | returned cv => exact g3.elim
                  | panicked ch => exact ⟨μ1, S1, g3, hst.step g1 g2, g2⟩
                  | outgrown => exact g3.elim
                · cases h
              · have hrunC : ∀ res σ1, C 4294967295 (.yld yid :: as) st.heap = some (res, σ1) → ∃ l fn tmps assign body, (execOp a.eval o).run P w = .ok (.round l fn tmps assign body) w ∧
                    RoundIn (FR r) (n - 1) P l fn tmps assign body w fun e w' => ∃ μ' S', Good μ' S' w' σ1 ∧ Frm μ S w st.heap μ' S' w' σ1 ∧ ResRep S' w' μ' res e := by
                  intro res σ1 hcr
                  generalize hcf : a.eval fo = cf at r1
                  obtain ⟨l, as2, e3, fn, tmps, assign, body, hy, hR⟩ := hC.1.2 _ _ _ _ hcr μ S w (#[cf] ++ c.args.map a.eval) hst.good hst.glob (by simpa using RepL.cons r1 (by simpa using r2))
                  have e4 : cf = .func (.yield l) #[] #[] ∧ c.args.map a.eval = as2 := by
                    have := congrArg Array.toList e3
                    simp at this
                    exact ⟨this.1, by rw [← Array.toList_inj]; simpa using this.2⟩
                  obtain ⟨e5, rfl⟩ := e4
                  refine ⟨l, fn, tmps, assign, body, ?_, round_FR (hR _)⟩
                  subst e5
                  simp only [execOp, ho1, resolve, ho2, hcf, Sem.run_bind, Deferred.ofValue, Sem.run_pure, Result.andThen_ok, invoke]
                  simpa using hy
                split at h
                · rename_i v σ1 hcr
                  obtain ⟨l, fn, tmps, assign, body, hrun, hR⟩ := hrunC _ _ hcr
                  simp only [hrun, Oper.uponIn_round]
                  refine ⟨deep_FR, hR.mono fun e w1 ⟨μ1, S1, g1, g2, g3⟩ => ?_⟩
                  cases e with
                  | returned cv =>
                    refine wmono (st1 := { st with env := putE st.env ao.dst v, heap := σ1 }) g2 ?_ h
                    rw [hdst]
                    exact (hst.step g1 g2).put hdN g3
                  | panicked ch => exact g3.elim
                  | outgrown => exact g3.elim
                · rename_i v σ1 hcr
                  obtain ⟨l, fn, tmps, assign, body, hrun, hR⟩ := hrunC _ _ hcr
                  simp only [hrun, Oper.uponIn_round]
                  simp only [Option.some.injEq, Prod.mk.injEq] at h
                  obtain ⟨rfl, rfl⟩ := h
                  refine ⟨deep_FR, hR.mono fun e w1 ⟨μ1, S1, g1, g2, g3⟩ => ?_⟩
                  cases e with
                  | returned cv => exact g3.elim
                  | panicked ch => exact ⟨μ1, S1, g3, hst.step g1 g2, g2⟩
                  | outgrown => exact g3.elim
                · cases h
            · cases h
          · cases h
        · -- a deferred call
          rename_i f args hop
          split at h
          · rename_i fv as e1 e2
            split at h
            · rename_i dd ht
              obtain ⟨f', as'⟩ := dd
              have hcall : ∃ c fo, o.op = .defer c ∧ c.callee = .value fo ∧ cOpd G fo = some f ∧ cOpds G c.args.toList = some args := by
                rw [hop] at hcop
                exact cOp_defer hcop
              obtain ⟨c, fo, ho1, ho2, ho3, ho4⟩ := hcall
              have r1 := ev_rep hst.env hst.glob ho3 e1
              have r2 := evs_rep hst.env hst.glob ho4 e2
              obtain ⟨hfl, d, caps, k1, k2, k3⟩ := dtarget_run (P := P) (cas := c.args.map a.eval) ht r1 (by simpa using r2)
              have hrun : (execOp a.eval o).run P w = .ok (.defer d) w := by
                simp only [execOp, ho1, resolve, ho2, Sem.run_bind, k1, Result.andThen_ok, Sem.run_pure]
              simp only [hrun, Oper.uponIn_defer]
              refine wmono (st1 := { st with env := putE st.env ao.dst (.p .undef), defers := (f', as') :: st.defers }) (.refl _ _ _ _) ?_ h
              rw [hdst]
              have h2 : StOK G N μ S w { st with defers := (f', as') :: st.defers } { a with defers := d :: a.defers } := ⟨hst.env, hst.glob, hst.good, hst.size, ⟨.inl ⟨by omega, caps, k2, k3⟩, hst.defers⟩⟩
              exact h2.put hdN (.p .undef)
            · cases h
          · cases h
        · -- a panic
          rename_i x hop
          have hpan : ∃ xo, cOpd G xo = some x ∧ ∀ t y, a.eval xo = .iface t y → (execOp a.eval o).run P w = .halt (.panic (.iface t y)) w := by
            rw [hop] at hcop
            exact cOp_panic hcop a w
          obtain ⟨xo, hxo, hrun⟩ := hpan
          split at h
          · rename_i t v hev
            simp only [Option.some.injEq, Prod.mk.injEq] at h
            obtain ⟨rfl, rfl⟩ := h
            have hr := ev_rep hst.env hst.glob hxo hev
            generalize hcv : a.eval xo = cv at hr
            have hr2 := hr
            cases hr with
            | p hr => cases hr; simp only [hrun _ _ hcv, Oper.uponIn_panic]; exact ⟨μ, S, ⟨_, rfl, hr2⟩, hst, .refl _ _ _ _⟩
          · rename_i t v hev
            simp only [Option.some.injEq, Prod.mk.injEq] at h
            obtain ⟨rfl, rfl⟩ := h
            have hr := ev_rep hst.env hst.glob hxo hev
            generalize hcv : a.eval xo = cv at hr
            have hr2 := hr
            cases hr
            simp only [hrun _ _ hcv, Oper.uponIn_panic]
            exact ⟨μ, S, ⟨_, rfl, hr2⟩, hst, .refl _ _ _ _⟩
          · cases h
        · -- the others
          split at h
          · rename_i v σ1 hstep
            obtain ⟨nx, c, w1, μ1, r1, r2, r3, r4, r5⟩ := step_sound hst hcop hstep
            have hput : StOK G N μ1 S w1 { st with env := putE st.env ao.dst v, heap := σ1 } (a.put o.dst c) := by
              rw [hdst]
              exact (hst.step r3 r4).put hdN r5
            cases r2 with
            | value c =>
              simp only [r1, Oper.uponIn_value]
              exact wmono (st1 := { st with env := putE st.env ao.dst v, heap := σ1 }) r4 hput h
            | skip =>
              simp only [r1, Oper.uponIn_skip]
              exact wmono (st1 := { st with env := putE st.env ao.dst v, heap := σ1 }) r4 hput h
          · cases h

end Go.Ab
