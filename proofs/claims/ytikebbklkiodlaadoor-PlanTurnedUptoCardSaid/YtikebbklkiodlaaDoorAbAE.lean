/- Regions whose order the tape draws: every order does the same. -/
import Derived.OrdersIn
import Derived.Test.YtikebbklkiodlaaDoorAbAD
set_option linter.unusedSectionVars false
set_option linter.unusedSimpArgs false
set_option linter.unusedVariables false
namespace Go.Ab
variable [Marks]
variable {S S' : Nat → Nat → Prop} {w w' w1 : World} {μ μ' : Nat → Nat → Option (Nat × Nat)} {P : Program} {G : Globs} {σ σ' : Heap}

theorem ancMask_spec {l acc : List Nat} {j : Nat} (h : (ancMask l acc).testBit j = true) : j ∈ l ∨ ∃ k ∈ l, (acc.getD k 0).testBit j = true := by
  induction l with
  | nil => simp [ancMask] at h
  | cons x r ih =>
    simp only [ancMask, List.foldr_cons, Nat.testBit_or, Bool.or_eq_true] at h
    rcases h with (h | h) | h
    · rcases ih h with h | ⟨k, h1, h2⟩
      · exact .inl (List.mem_cons_of_mem _ h)
      · exact .inr ⟨k, List.mem_cons_of_mem _ h1, h2⟩
    · rw [Nat.testBit_two_pow] at h
      simp only [decide_eq_true_eq] at h
      subst h
      exact .inl (List.mem_cons_self ..)
    · exact .inr ⟨x, List.mem_cons_self .., h⟩

theorem ancsOf_spec : ∀ (l : List Oper) (acc : List Nat), ∃ ext, ancsOf l acc = acc ++ ext ∧
    ∀ i o, l[i]? = some o → (ancsOf l acc)[acc.length + i]? = some (ancMask (direct o) ((ancsOf l acc).take (acc.length + i)))
  | [], acc => ⟨[], by simp [ancsOf], by simp⟩
  | o :: r, acc => by
    obtain ⟨ext, h1, h2⟩ := ancsOf_spec r (acc ++ [ancMask (direct o) acc])
    refine ⟨ancMask (direct o) acc :: ext, by simp [ancsOf, h1], ?_⟩
    intro i o' hi
    cases i with
    | zero =>
      simp only [List.getElem?_cons_zero, Option.some.injEq] at hi
      subst hi
      simp only [ancsOf, h1, Nat.add_zero]
      simp
    | succ i =>
      have := h2 i o' (by simpa using hi)
      simp only [List.length_append, List.length_singleton] at this
      simp only [ancsOf]
      rw [show acc.length + (i + 1) = acc.length + 1 + i from by omega]
      exact this

structure DOK (anc : List Nat) (ops : List Oper) (aos : List AOper) : Prop where
  has : ∀ (i : Nat) (ao : AOper), aos[i]? = some ao → ∃ o, ops[i]? = some o ∧ ∀ j ∈ direct o, j < i
  dst : ∀ (i k : Nat) (ai ak : AOper) (d : Nat), k ≠ i → aos[i]? = some ai → aos[k]? = some ak → ak.dst = some d → ai.dst ≠ some d
  rd : ∀ (i k : Nat) (ai ak : AOper) (d : Nat), k ≠ i → aos[i]? = some ai → aos[k]? = some ak → ak.dst = some d → d ∈ readsOf ai → if k < i then bef anc k i = true else bef anc i k = true
  ee : ∀ (i k : Nat) (ai ak : AOper), k ≠ i → aos[i]? = some ai → aos[k]? = some ak → isE ai.op = true → isE ak.op = true → if k < i then bef anc k i = true ∨ isFree anc aos i = true else bef anc i k = true ∨ isFree anc aos k = true
  frd : ∀ (i k : Nat) (ai ak : AOper) (d : Nat), k ≠ i → aos[i]? = some ai → aos[k]? = some ak → ak.dst = some d → d ∈ readsOf ai → isFree anc aos k = true → isE ai.op = true ∧ isFree anc aos i = false

theorem drawOK_spec {anc : List Nat} {ops : List Oper} {aos : List AOper} (h : drawOK anc ops aos = true) : DOK anc ops aos := by
  simp only [drawOK, List.all_eq_true, List.mem_range] at h
  have get : ∀ {i : Nat} {ao : AOper}, aos[i]? = some ao → i < aos.length := fun h => (List.getElem?_eq_some_iff.1 h).1
  have pair : ∀ (i k : Nat) (ai ak : AOper), k ≠ i → aos[i]? = some ai → aos[k]? = some ak →
      ((match ak.dst with
            | some d => (match ai.dst with
              | some d' => !(Nat.beq d d')
              | none => true) && (!(readsOf ai).contains d || ((if k < i then bef anc k i else bef anc i k) && (!(isFree anc aos k) || (isE ai.op && !(isFree anc aos i)))))
            | none => true) = true ∧ (!(isE ai.op && isE ak.op) || (if k < i then bef anc k i else bef anc i k) || (if k < i then isFree anc aos i else isFree anc aos k)) = true) := by
    intro i k ai ak hne hi hk
    have h1 := h i (get hi)
    rw [hi] at h1
    split at h1
    · rename_i o ao _ hao
      obtain rfl := Option.some.inj hao
      simp only [Bool.and_eq_true, List.all_eq_true, List.mem_range] at h1
      have h2 := h1.2 k (get hk)
      rw [hk] at h2
      simp only [Bool.or_eq_true, decide_eq_true_eq, hne, false_or, Bool.and_eq_true] at h2
      simp only [Bool.or_eq_true]
      exact h2
    · cases h1
  refine ⟨?_, ?_, ?_, ?_, ?_⟩
  · intro i ao hi
    have h1 := h i (get hi)
    rw [hi] at h1
    split at h1
    · rename_i o ao' ho _
      simp only [Bool.and_eq_true, List.all_eq_true, decide_eq_true_eq] at h1
      exact ⟨o, ho, h1.1⟩
    · cases h1
  · intro i k ai ak d hne hi hk hd hd'
    have := (pair i k ai ak hne hi hk).1
    simp only [hd, hd', Bool.and_eq_true, Nat.beq_refl] at this
    simp at this
  · intro i k ai ak d hne hi hk hd hm
    have := (pair i k ai ak hne hi hk).1
    simp only [hd, Bool.and_eq_true, Bool.or_eq_true] at this
    rcases this.2 with h1 | ⟨h1, _⟩
    · simp at h1; exact absurd hm h1
    · split <;> rename_i hlt
      · rw [if_pos hlt] at h1; exact h1
      · rw [if_neg hlt] at h1; exact h1
  · intro i k ai ak hne hi hk e1 e2
    have := (pair i k ai ak hne hi hk).2
    simp only [e1, e2, Bool.and_self, Bool.not_true, Bool.false_or, Bool.or_eq_true] at this
    split <;> rename_i hlt
    · rw [if_pos hlt, if_pos hlt] at this; exact this
    · rw [if_neg hlt, if_neg hlt] at this; exact this
  · intro i k ai ak d hne hi hk hd hm hfr
    have := (pair i k ai ak hne hi hk).1
    simp only [hd, Bool.and_eq_true, Bool.or_eq_true] at this
    rcases this.2 with h1 | ⟨_, h1⟩
    · simp at h1; exact absurd hm h1
    · rcases h1 with h1 | ⟨h1, h2⟩
      · rw [hfr] at h1; cases h1
      · exact ⟨h1, by simpa using h2⟩

/-- what is before an operation is done where its own edges are -/
theorem bef_done {ops : List Oper} {aos : List AOper} (hok : DOK (ancsOf ops []) ops aos) {D : Nat → Prop} (hcl : ∀ k o, D k → ops[k]? = some o → ∀ j ∈ direct o, D j) :
    ∀ (i : Nat) (ai : AOper) (o : Oper), aos[i]? = some ai → ops[i]? = some o → (∀ j ∈ direct o, D j) → ∀ j, bef (ancsOf ops []) j i = true → D j := by
  intro i
  induction i using Nat.strongRecOn with
  | _ i ih =>
    intro ai o hi ho hd j hj
    obtain ⟨o', ho', hlt⟩ := hok.has i ai hi
    rw [ho] at ho'
    obtain rfl := Option.some.inj ho'
    obtain ⟨ext, h1, h2⟩ := ancsOf_spec ops []
    have h3 := h2 i o ho
    simp only [List.length_nil, Nat.zero_add] at h3
    unfold bef at hj
    rw [List.getD_eq_getElem?_getD, h3, Option.getD_some] at hj
    rcases ancMask_spec hj with h4 | ⟨k, hk, h4⟩
    · exact hd j h4
    · have hki := hlt k hk
      have h5 : bef (ancsOf ops []) j k = true := by
        unfold bef
        rw [List.getD_eq_getElem?_getD, List.getElem?_take, if_pos hki] at h4
        rw [List.getD_eq_getElem?_getD]
        exact h4
      have hDk := hd k hk
      have hak : k < aos.length := Nat.lt_trans hki (List.getElem?_eq_some_iff.1 hi).1
      have hak' : aos[k]? = some aos[k] := by simp [hak]
      obtain ⟨ok, hok', _⟩ := hok.has k _ hak'
      exact ih k hki _ ok hak' hok' (hcl k ok hDk hok') j h5

theorem keepE_mem {ρ : Env} {l : List Nat} {t : Nat} {v : AV} (h : (keepE ρ l).get t = some v) : t ∈ l ∧ ρ.get t = some v := by
  induction l with
  | nil => simp [keepE, Env.get] at h
  | cons x r ih =>
    simp only [keepE] at h
    split at h
    · rename_i u hu
      rw [Env.get_cons] at h
      split at h
      · rename_i hx; subst hx; exact ⟨List.mem_cons_self .., by rw [← h]; exact hu⟩
      · exact ⟨List.mem_cons_of_mem _ (ih h).1, (ih h).2⟩
    · exact ⟨List.mem_cons_of_mem _ (ih h).1, (ih h).2⟩

theorem get_putE {ρ : Env} {dst : Option Nat} {v : AV} {t : Nat} (h : dst ≠ some t) : (putE ρ dst v).get t = ρ.get t := by
  cases dst with
  | none => rfl
  | some d => simp only [putE, Env.get_cons]; rw [if_neg (fun e => h (by rw [e]))]
theorem get_carry {ρ ρ1 : Env} {dst : Option Nat} {t : Nat} (h : dst ≠ some t) : (carry ρ dst ρ1).get t = ρ.get t := by
  cases dst with
  | none => rfl
  | some d => simp only [carry]; split <;> (rw [Env.get_cons, if_neg (fun e => h (by rw [e]))])

section
variable {C : Oracle} {rds : List (Nat × Nat)} {wrs : List (Nat × Nat × List Nat)} {aos : List AOper} {f : Nat → St} {m : Nat}

theorem trace_env (hf : ∀ k o, aos[k]? = some o → k < m → Fact C rds wrs k o (f k) (f (k + 1))) (hm : m ≤ aos.length) {t : Nat} :
    ∀ (d i : Nat), i + d ≤ m → (∀ k o, i ≤ k → k < i + d → aos[k]? = some o → o.dst ≠ some t) → (f (i + d)).env.get t = (f i).env.get t := by
  intro d
  induction d with
  | zero => intros; rfl
  | succ d ih =>
    intro i hle hno
    rw [← ih i (by omega) (fun k o h1 h2 => hno k o h1 (by omega))]
    have hlt : i + d < aos.length := by omega
    have hget : aos[i + d]? = some aos[i + d] := by simp [hlt]
    have hne := hno (i + d) _ (by omega) (by omega) hget
    rw [show i + (d + 1) = i + d + 1 from by omega]
    rcases hf (i + d) _ hget (by omega) with ⟨_, h⟩ | ⟨_, _, v, oid, _, h, _⟩ | ⟨_, _, st1, _, h, _⟩
    · rw [h]; exact get_putE hne
    · rw [h]; exact get_putE hne
    · rw [h]; exact get_carry hne

theorem trace_still (hf : ∀ k o, aos[k]? = some o → k < m → Fact C rds wrs k o (f k) (f (k + 1))) (hm : m ≤ aos.length) :
    ∀ (d i : Nat), i + d ≤ m → (∀ k o, i ≤ k → k < i + d → aos[k]? = some o → isE o.op = false) → (f (i + d)).heap = (f i).heap ∧ (f (i + d)).defers = (f i).defers := by
  intro d
  induction d with
  | zero => intros; exact ⟨rfl, rfl⟩
  | succ d ih =>
    intro i hle hno
    have hi := ih i (by omega) (fun k o h1 h2 => hno k o h1 (by omega))
    have hlt : i + d < aos.length := by omega
    have hget : aos[i + d]? = some aos[i + d] := by simp [hlt]
    have hne := hno (i + d) _ (by omega) (by omega) hget
    rw [show i + (d + 1) = i + d + 1 from by omega]
    rcases hf (i + d) _ hget (by omega) with ⟨_, h⟩ | ⟨_, _, v, oid, _, h, _⟩ | ⟨_, hE, st1, _, h, _⟩
    · rw [h]; exact hi
    · rw [h]; exact hi
    · rw [hE] at hne; cases hne

theorem trace_id (hTm : Tame C) (hf : ∀ k o, aos[k]? = some o → k < m → Fact C rds wrs k o (f k) (f (k + 1))) (hm : m ≤ aos.length) {id : Nat} :
    ∀ (d i : Nat), i + d ≤ m → (∀ k o, i ≤ k → k < i + d → aos[k]? = some o → isE o.op = true → ∀ len wr, (k, len, wr) ∈ wrs → id < len ∧ id ∉ wr) → (f (i + d)).heap[id]? = (f i).heap[id]? := by
  intro d
  induction d with
  | zero => intros; rfl
  | succ d ih =>
    intro i hle hno
    have hi := ih i (by omega) (fun k o h1 h2 => hno k o h1 (by omega))
    have hlt : i + d < aos.length := by omega
    have hget : aos[i + d]? = some aos[i + d] := by simp [hlt]
    have hne := hno (i + d) _ (by omega) (by omega) hget
    rw [show i + (d + 1) = i + d + 1 from by omega]
    rcases hf (i + d) _ hget (by omega) with ⟨_, h⟩ | ⟨_, _, v, oid, _, h, _⟩ | ⟨_, hE, st1, hr, h, hw⟩
    · rw [h]; exact hi
    · rw [h]; exact hi
    · obtain ⟨q1, q2⟩ := hne hE _ _ hw
      rw [h, ← hi]
      have hfin := runOps_wr hTm (st := { f (i + d) with env := keepE (f (i + d)).env (readsOf aos[i + d]) }) (st1 := st1) hr q1 q2
      exact hfin
end

/-- one operation: more is known of what comes after, the other temporaries stay -/
theorem wpOpIn_more {F : Fence} {n : Nat} {ops : Array Oper} {Q Q' : Exit → Act → World → Prop} {K K' : Act → World → Prop} {i : Nat} {o : Oper} {a : Act} (ho : ops[i]? = some o)
    (hk : ∀ a' w', K a' w' → (∀ t, o.dst ≠ some t → a'.tmps.getD t undef = a.tmps.getD t undef) → K' a' w')
    (hq : ∀ e a' w', e ≠ .normal → Q e a' w' → (a' = a ∨ e = .outgrown) → Q' e a' w') (h : wpOpIn F n P ops Q i K a w) : wpOpIn F n P ops Q' i K' a w := by
  have hput : ∀ (v : Value) (ds : List Deferred), ∀ t, o.dst ≠ some t → (({ a with defers := ds } : Act).put o.dst v).tmps.getD t undef = a.tmps.getD t undef := by
    intro v ds t ht
    cases hd : o.dst with
    | none => rfl
    | some d =>
      have hne : d ≠ t := fun e => ht (by rw [hd, e])
      simp [Act.put, hne]
  unfold wpOpIn at h ⊢
  rw [ho] at h ⊢
  simp only at h ⊢
  split
  · rename_i hw
    rw [if_pos hw] at h
    refine ⟨h.1, ?_⟩
    have h := h.2
    generalize (o.semAt F.round a.eval).run P w = r at *
    cases r with
    | ok x w' =>
      cases x <;> simp only [Oper.uponIn] at h ⊢ <;>
        first
          | exact hk _ _ h (hput _ _)
          | exact ⟨h.1, CallsIn.mono h.2 (fun e w'' he => by
              cases e with
              | returned v => exact hk _ _ he (hput _ _)
              | panicked ch => exact hq _ _ _ (by simp) he (.inl rfl)
              | outgrown => exact let ⟨a0, w0, h0⟩ := he; ⟨a0, w0, hq _ _ _ (by simp) h0 (.inr rfl)⟩)⟩
          | exact ⟨h.1, RowsIn.mono h.2 (fun _ _ he => hk _ _ he (hput _ _))⟩
          | exact ⟨h.1, RoundIn.mono h.2 (fun e w'' he => by
              cases e with
              | returned v => exact hk _ _ he (hput _ _)
              | panicked ch => exact hq _ _ _ (by simp) he (.inl rfl)
              | outgrown => exact let ⟨a0, w0, h0⟩ := he; ⟨a0, w0, hq _ _ _ (by simp) h0 (.inr rfl)⟩)⟩
    | halt x w' => cases x <;> simp only [Oper.uponIn] at h ⊢ <;> first | exact h.elim | exact hq _ _ _ (by simp) h (.inl rfl)
  · rename_i hw
    rw [if_neg hw] at h
    exact ⟨h.1, hk _ _ h.2 (hput _ _)⟩

end Go.Ab
