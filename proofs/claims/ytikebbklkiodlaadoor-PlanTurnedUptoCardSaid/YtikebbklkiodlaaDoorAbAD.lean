/- Regions whose order the tape draws: what an operation writes. -/
import Derived.Test.YtikebbklkiodlaaDoorAbA14
import Derived.Orders
set_option linter.unusedSectionVars false
set_option linter.unusedSimpArgs false
set_option linter.unusedVariables false
namespace Go.Ab
variable [Marks]
variable {S S' : Nat → Nat → Prop} {w w' w1 : World} {μ μ' : Nat → Nat → Option (Nat × Nat)} {P : Program} {G : Globs} {σ σ' : Heap}

theorem cOpers_get {N : Nat} {ops : Array Oper} : ∀ {l : List Oper} {as : List AOper}, cOpers P G N ops l = some as →
    as.length = l.length ∧ ∀ (k : Nat) o, l[k]? = some o → ∃ ao, as[k]? = some ao ∧ cOper P G N ops o = some ao
  | [], as, h => by simp [cOpers] at h; subst h; exact ⟨rfl, by simp⟩
  | x :: r, as, h => by
    simp only [cOpers] at h
    split at h
    · rename_i a l ha hl
      obtain rfl := Option.some.inj h
      obtain ⟨h1, h2⟩ := cOpers_get hl
      refine ⟨by simp [h1], fun k o hk => ?_⟩
      cases k with
      | zero => simp at hk; subst hk; exact ⟨a, rfl, ha⟩
      | succ k => exact h2 k o (by simpa using hk)
    · cases h

/-- an operation of a drawn region: as it stands, or its slice as one that nobody writes -/
def COperI (P : Program) (G : Globs) (N : Nat) (ops : Array Oper) (o : Oper) (ao : AOper) : Prop := ∃ ao0, cOper P G N ops o = some ao0 ∧ (ao = ao0 ∨ ao = imO ao0)
def COpersI (P : Program) (G : Globs) (N : Nat) (ops : Array Oper) (as : List AOper) : Prop :=
  as.length = ops.toList.length ∧ ∀ (k : Nat) o, ops.toList[k]? = some o → ∃ ao, as[k]? = some ao ∧ COperI P G N ops o ao
theorem cOpersI_of {N : Nat} {ops : Array Oper} {as : List AOper} (h : cOpers P G N ops ops.toList = some as) : COpersI P G N ops as := by
  obtain ⟨h1, h2⟩ := cOpers_get h
  refine ⟨h1, fun k o hk => ?_⟩
  obtain ⟨ao, h3, h4⟩ := h2 k o hk
  exact ⟨ao, h3, ao, h4, .inl rfl⟩
theorem cOpersI_im {N : Nat} {ops : Array Oper} {as : List AOper} (h : cOpers P G N ops ops.toList = some as) : COpersI P G N ops (as.map imO) := by
  obtain ⟨h1, h2⟩ := cOpers_get h
  refine ⟨by rw [List.length_map, h1], fun k o hk => ?_⟩
  obtain ⟨ao, h3, h4⟩ := h2 k o hk
  exact ⟨imO ao, by rw [List.getElem?_map, h3]; rfl, ao, h4, .inr rfl⟩
theorem imOp_cases (op : AOp) : imOp op = op ∨ ∃ z l e ps, op = .buildSlice z l e ps ∧ imOp op = .buildVals z l e ps := by
  cases op <;> first | exact .inl rfl | exact .inr ⟨_, _, _, _, rfl, rfl⟩
theorem COperI.E {N : Nat} {ops : Array Oper} {o : Oper} {ao : AOper} (h : COperI P G N ops o ao) (hE : isE ao.op = true) : cOper P G N ops o = some ao := by
  obtain ⟨⟨dst, op, guard⟩, h1, rfl | rfl⟩ := h
  · exact h1
  · rcases imOp_cases op with e | ⟨z, l, es, ps, e, e'⟩
    · unfold imO; simp only [e]; exact h1
    · unfold imO at hE; simp only [e'] at hE; simp [isE] at hE
theorem COperI.op {N : Nat} {ops : Array Oper} {o : Oper} {ao : AOper} (h : COperI P G N ops o ao) :
    (cOp P G o.op = some ao.op ∨ ∃ z l e ps, ao.op = .buildVals z l e ps ∧ cOp P G o.op = some (.buildSlice z l e ps)) ∧ ao.dst = o.dst ∧ dstOk N o.dst = true := by
  obtain ⟨ao0, h1, hh⟩ := h
  obtain ⟨h2, h3, h4⟩ := cOper_op h1
  rcases hh with rfl | rfl
  · exact ⟨.inl h2, h3, h4⟩
  · refine ⟨?_, h3, h4⟩
    rcases imOp_cases ao0.op with e | ⟨z, l, es, ps, e, e'⟩
    · exact .inl (by unfold imO; simp only [e]; exact h2)
    · exact .inr ⟨z, l, es, ps, e', by rw [h2, e]⟩
theorem COperI.wanted {N : Nat} {ops : Array Oper} {o : Oper} {ao : AOper} {ρ : Env} {tmps : Array Value} {b : Bool} (hE : EnvOK S w μ ρ tmps) (h : COperI P G N ops o ao) (hw : wantedA ao.guard ρ = some b) :
    Region.wanted o (yielded ops tmps) = b := by
  obtain ⟨ao0, h1, hh⟩ := h
  refine wanted_of hE h1 ?_
  rcases hh with rfl | rfl
  · exact hw
  · exact hw

theorem appendTo_wr {ety esz n id : Nat} {s : AV} {new : Cells} {v : AV} (h : appendTo σ ety esz s n new = some (v, σ')) (hid : id < σ.length) (hw : id ∉ refV s) : σ'[id]? = σ[id]? := by
  unfold appendTo at h
  split at h
  · split at h
    · simp only [Option.some.injEq, Prod.mk.injEq] at h; rw [← h.2]
    · split at h
      · simp only [Option.some.injEq, Prod.mk.injEq] at h; rw [← h.2, List.getElem?_append_left hid]
      · cases h
  · split at h
    · simp only [Option.some.injEq, Prod.mk.injEq] at h; rw [← h.2]
    · split at h
      · simp only [Option.some.injEq, Prod.mk.injEq] at h; rw [← h.2, List.getElem?_append_left hid]
      · cases h
  · rename_i id' ver off len e
    have hne : id' ≠ id := fun he => hw (by simp [refV, he])
    split at h
    · split at h
      · split at h
        · simp only [Option.some.injEq, Prod.mk.injEq] at h; rw [← h.2]
        · simp only [Option.some.injEq, Prod.mk.injEq] at h; rw [← h.2, List.getElem?_set_ne hne]
      · cases h
    · cases h
  · cases h

theorem effOp_wr {ρ : Env} {op : AOp} {v : AV} {id : Nat} (h : effOp ρ σ op = some (v, σ')) (hid : id < σ.length) (hw : id ∉ wrIds ρ σ op) : σ'[id]? = σ[id]? := by
  cases op with
  | store n x y =>
    simp only [effOp] at h
    split at h
    · rename_i id' ver off u hx hy
      have hne : id' ≠ id := fun he => hw (by simp [wrIds, hx, refV, he])
      split at h
      · split at h
        · simp only [Option.some.injEq, Prod.mk.injEq] at h; rw [← h.2, List.getElem?_set_ne hne]
        · cases h
      · cases h
    · cases h
  | append ety esz z s x =>
    simp only [effOp] at h
    split at h
    · rename_i s' x' hs hx
      split at h
      · exact appendTo_wr h hid (fun hm => hw (by simpa [wrIds, hs] using hm))
      · cases h
    · cases h
  | appendZ ety esz z s n =>
    simp only [effOp] at h
    split at h
    · rename_i s' k n' hs hx
      split at h
      · exact appendTo_wr h hid (fun hm => hw (by simpa [wrIds, hs] using hm))
      · cases h
    · cases h
  | copy esz d s =>
    simp only [effOp] at h
    split at h
    · rename_i d' s' hd hs
      split at h
      · split at h
        · rename_i id' ver off len e
          have hne : id' ≠ id := fun he => hw (by simp [wrIds, hd, refV, he])
          split at h
          · split at h
            · simp only [Option.some.injEq, Prod.mk.injEq] at h; rw [← h.2, List.getElem?_set_ne hne]
            · cases h
          · cases h
        · cases h
      · cases h
    · cases h
  | clear z esz x =>
    simp only [effOp] at h
    split at h
    · rename_i id' ver off len e hx
      have hne : id' ≠ id := fun he => hw (by simp [wrIds, hx, refV, he])
      split at h
      · simp only [Option.some.injEq, Prod.mk.injEq] at h; rw [← h.2]
      · split at h
        · split at h
          · simp only [Option.some.injEq, Prod.mk.injEq] at h; rw [← h.2, List.getElem?_set_ne hne]
          · cases h
        · cases h
    · simp only [Option.some.injEq, Prod.mk.injEq] at h; rw [← h.2]
    · cases h
  | unsafeStr ety p n =>
    simp only [effOp] at h
    split at h
    · simp only [Option.some.injEq, Prod.mk.injEq] at h; rw [← h.2]
    · rename_i id' ver' n' hx hn
      have hne : id' ≠ id := fun he => hw (by simp [wrIds, hx, refV, he])
      split at h
      · split at h
        · split at h
          · simp only [Option.some.injEq, Prod.mk.injEq] at h; rw [← h.2, List.getElem?_set_ne hne]
          · cases h
        · cases h
      · cases h
    · cases h
  | nextStr x =>
    simp only [effOp] at h
    split at h
    · rename_i id' hx
      have hne : id' ≠ id := fun he => hw (by simp [wrIds, hx, refV, he])
      split at h
      · split at h
        · simp only [Option.some.injEq, Prod.mk.injEq] at h; rw [← h.2, List.getElem?_set_ne hne]
        · simp only [Option.some.injEq, Prod.mk.injEq] at h; rw [← h.2]
      · cases h
    · cases h
  | _ => simp [effOp] at h

theorem stepOp_wr {ρ : Env} {op : AOp} {v : AV} {id : Nat} (h : stepOp ρ σ op = some (v, σ')) (hid : id < σ.length) (hw : id ∉ wrIds ρ σ op) : σ'[id]? = σ[id]? := by
  unfold stepOp at h
  split at h
  · simp only [Option.some.injEq, Prod.mk.injEq] at h; rw [← h.2]
  · split at h
    · simp only [Option.some.injEq, Prod.mk.injEq] at h; rw [← h.2, List.getElem?_append_left hid]
    · split at h
      · simp only [Option.some.injEq, Prod.mk.injEq] at h; rw [← h.2]
      · exact effOp_wr h hid hw

theorem runOps_wr {C : Oracle} (hT : Tame C) {o : AOper} {st st1 : St} {ex : AExit} {id : Nat} (h : runOps C [o] st = some (ex, st1)) (hid : id < st.heap.length) (hw : id ∉ wrIds st.env st.heap o.op) : st1.heap[id]? = st.heap[id]? := by
  simp only [runOps] at h
  split at h
  · cases h
  · simp only [Option.some.injEq, Prod.mk.injEq] at h; rw [← h.2]
  · split at h
    · rename_i f args hop
      rw [hop] at hw
      split at h
      · rename_i fv as e1 e2
        split at h
        · rename_i f' as' ht
          simp only [wrIds, e1, e2, ht] at hw
          split at h
          · rename_i v σ1 hcr
            simp only [Option.some.injEq, Prod.mk.injEq] at h
            rw [← h.2]
            exact hT _ _ _ _ _ hcr id hid hw
          · rename_i v σ1 hcr
            simp only [Option.some.injEq, Prod.mk.injEq] at h
            rw [← h.2]
            exact hT _ _ _ _ _ hcr id hid hw
          · cases h
        · cases h
      · cases h
    · split at h
      · split at h
        · simp only [Option.some.injEq, Prod.mk.injEq] at h; rw [← h.2]
        · cases h
      · cases h
    · split at h
      · simp only [Option.some.injEq, Prod.mk.injEq] at h; rw [← h.2]
      · simp only [Option.some.injEq, Prod.mk.injEq] at h; rw [← h.2]
      · cases h
    · split at h
      · rename_i v σ1 hs
        simp only [Option.some.injEq, Prod.mk.injEq] at h
        rw [← h.2]
        exact stepOp_wr hs hid hw
      · cases h

/-- what happened at one operation of the run in the order of the text -/
def Fact (C : Oracle) (rds : List (Nat × Nat)) (wrs : List (Nat × Nat × List Nat)) (i : Nat) (o : AOper) (s s' : St) : Prop :=
  (wantedA o.guard (keepE s.env (readsOf o)) = some false ∧ s' = { s with env := putE s.env o.dst (.p .undef) }) ∨
  (wantedA o.guard (keepE s.env (readsOf o)) = some true ∧ isE o.op = false ∧ ∃ v oid, stillOp (keepE s.env (readsOf o)) s.heap o.op = some (v, oid) ∧ s' = { s with env := putE s.env o.dst v } ∧ ∀ id, oid = some id → (i, id) ∈ rds) ∨
  (wantedA o.guard (keepE s.env (readsOf o)) = some true ∧ isE o.op = true ∧ ∃ st1, runOps C [o] { s with env := keepE s.env (readsOf o) } = some (.normal, st1) ∧ s' = { st1 with env := carry s.env o.dst st1.env } ∧
    (i, s.heap.length, wrIds (keepE s.env (readsOf o)) s.heap o.op) ∈ wrs)

/-- how the run ends -/
def Ends (C : Oracle) (n m : Nat) (aos : List AOper) (f : Nat → St) (r : Option (Nat × AV)) (s : St) : Prop :=
  (r = none ∧ m = n ∧ s = f m) ∨
  (∃ v o, r = some (m, v) ∧ aos[m]? = some o ∧ wantedA o.guard (keepE (f m).env (readsOf o)) = some true ∧ isE o.op = true ∧ runOps C [o] { f m with env := keepE (f m).env (readsOf o) } = some (.pan v, s))

theorem Fact.more {C : Oracle} {rds rds' : List (Nat × Nat)} {wrs wrs' : List (Nat × Nat × List Nat)} {i : Nat} {o : AOper} {s s' : St} (h : Fact C rds wrs i o s s') (h1 : ∀ x ∈ rds, x ∈ rds') (h2 : ∀ x ∈ wrs, x ∈ wrs') : Fact C rds' wrs' i o s s' := by
  rcases h with h | ⟨a, b, v, oid, c, d, e⟩ | ⟨a, b, st1, c, d, e⟩
  · exact .inl h
  · exact .inr (.inl ⟨a, b, v, oid, c, d, fun id hid => h1 _ (e id hid)⟩)
  · exact .inr (.inr ⟨a, b, st1, c, d, h2 _ e⟩)

def TraceOf (C : Oracle) (i : Nat) (os : List AOper) (tr tr' : Tr) (r : Option (Nat × AV)) : Prop :=
    (∀ x ∈ tr.rds, x ∈ tr'.rds) ∧ (∀ x ∈ tr.wrs, x ∈ tr'.wrs) ∧
    ∃ (f : Nat → St) (k : Nat), f i = tr.st ∧ k ≤ os.length ∧ (∀ j o, os[j]? = some o → j < k → Fact C tr'.rds tr'.wrs (i + j) o (f (i + j)) (f (i + j + 1))) ∧
      ((r = none ∧ k = os.length ∧ tr'.st = f (i + k)) ∨
        (∃ v o, r = some (i + k, v) ∧ os[k]? = some o ∧ wantedA o.guard (keepE (f (i + k)).env (readsOf o)) = some true ∧ isE o.op = true ∧ runOps C [o] { f (i + k) with env := keepE (f (i + k)).env (readsOf o) } = some (.pan v, tr'.st)))

theorem drawRun_trace {C : Oracle} : ∀ (os : List AOper) (i : Nat) (tr tr' : Tr) (r : Option (Nat × AV)), drawRun C i os tr = some (r, tr') → TraceOf C i os tr tr' r
  | [], i, tr, tr', r, h => by
    simp only [drawRun, Option.some.injEq, Prod.mk.injEq] at h
    obtain ⟨rfl, rfl⟩ := h
    exact ⟨fun _ h => h, fun _ h => h, fun _ => tr.st, 0, rfl, Nat.le_refl _, fun j o hj => by simp at hj, .inl ⟨rfl, rfl, rfl⟩⟩
  | o :: os, i, tr, tr', r, h => by
    simp only [drawRun] at h
    have go : ∀ tr1 : Tr, drawRun C (i + 1) os tr1 = some (r, tr') → (∀ x ∈ tr.rds, x ∈ tr1.rds) → (∀ x ∈ tr.wrs, x ∈ tr1.wrs) → Fact C tr1.rds tr1.wrs i o tr.st tr1.st → TraceOf C i (o :: os) tr tr' r := by
      intro tr1 h1 m1 m2 hf
      obtain ⟨q1, q2, f, k, q3, q4, q5, q6⟩ := drawRun_trace os (i + 1) tr1 tr' r h1
      refine ⟨fun x hx => q1 x (m1 x hx), fun x hx => q2 x (m2 x hx), fun j => if j = i then tr.st else f j, k + 1, by simp, by simp; omega, ?_, ?_⟩
      · intro j o' hj hjk
        cases j with
        | zero =>
          simp only [List.getElem?_cons_zero, Option.some.injEq] at hj
          subst hj
          have : ¬ (i + 0 + 1 = i) := by omega
          simp only [Nat.add_zero, if_true] at this ⊢
          rw [if_neg (by omega), q3]
          exact hf.more q1 q2
        | succ j =>
          have hx := q5 j o' (by simpa using hj) (by omega)
          simp only
          rw [if_neg (by omega), if_neg (by omega)]
          have e1 : i + (j + 1) = i + 1 + j := by omega
          rw [e1]
          exact hx
      · have e1 : i + (k + 1) = i + 1 + k := by omega
        simp only
        rw [if_neg (by omega), e1]
        rcases q6 with ⟨a, b, c⟩ | ⟨v, o', a, b, c⟩
        · exact .inl ⟨a, by simp [b], c⟩
        · exact .inr ⟨v, o', a, by simpa using b, c⟩
    split at h
    · cases h
    · rename_i hw
      exact go _ h (fun _ h => h) (fun _ h => h) (.inl ⟨hw, rfl⟩)
    · rename_i hw
      split at h
      · rename_i hE
        split at h
        · rename_i st1 hr
          exact go _ h (fun _ h => h) (fun _ h => List.mem_cons_of_mem _ h) (.inr (.inr ⟨hw, hE, st1, hr, rfl, List.mem_cons_self ..⟩))
        · rename_i v st1 hr
          simp only [Option.some.injEq, Prod.mk.injEq] at h
          obtain ⟨rfl, rfl⟩ := h
          exact ⟨fun _ h => h, fun _ h => h, fun _ => tr.st, 0, rfl, Nat.zero_le _, fun j o _ hj => absurd hj (by omega), .inr ⟨v, o, rfl, rfl, hw, hE, hr⟩⟩
        · cases h
      · rename_i hE
        split at h
        · rename_i v hs
          exact go _ h (fun _ h => h) (fun _ h => h) (.inr (.inl ⟨hw, hE, v, none, hs, rfl, fun _ h => by cases h⟩))
        · rename_i v id hs
          exact go _ h (fun _ h => List.mem_cons_of_mem _ h) (fun _ h => h) (.inr (.inl ⟨hw, hE, v, some id, hs, rfl, fun _ h => by cases h; exact List.mem_cons_self ..⟩))
        · cases h

end Go.Ab
