/- Regions whose order the tape draws: one operation. -/
import Derived.Test.YtikebbklkiodlaaDoorAbAE
import Derived.ChangeSame
set_option linter.unusedSectionVars false
set_option linter.unusedSimpArgs false
set_option linter.unusedVariables false
namespace Go.Ab
variable [Marks]
open Go.RowKit
variable {S S' : Nat → Nat → Prop} {w w' w1 : World} {μ μ' : Nat → Nat → Option (Nat × Nat)} {P : Program} {G : Globs} {σ σ' : Heap}

theorem cell_below {b o : Nat} (h : b < w.heap.size) (hb : Below w.heap.size w w') : w'.cell? ⟨b, o, none⟩ = w.cell? ⟨b, o, none⟩ := by
  unfold World.cell?
  rw [hb.block b h]

theorem below_good (hg : Good μ S w σ) (hb : Below w.heap.size w w') : Good μ S w' σ ∧ Frm μ S w σ μ S w' σ := by
  have hS : ∀ b o, S b o → S b o ∧ w'.cell? ⟨b, o, none⟩ = w.cell? ⟨b, o, none⟩ := fun b o hs => ⟨hs, cell_below (hg.sb b o hs) hb⟩
  constructor
  · refine ⟨fun id o ho => ?_, hg.inj, fun id ver x h => ?_, fun b o hs => Nat.lt_of_lt_of_le (hg.sb b o hs) hb.size⟩
    · have hob := hg.obj id o ho
      cases o with
      | arr c ver wm ty =>
        obtain ⟨b, n, h1, vs, e, lo, hi, h2, h3, h4, h5, h6, h7⟩ := hob
        have hlt : b < w.heap.size := by obtain ⟨_, _, _, hx⟩ := hg.old _ _ _ h1; exact hx
        exact ⟨b, n, h1, vs, e, lo, hi, by rw [hb.block b hlt]; exact h2, h3, h4, fun j v hv => let ⟨cv, q1, q2, q3⟩ := h5 j v hv; ⟨cv, q1, q2, q3.mono hS (fun _ _ _ h => h)⟩, h6, h7⟩
      | iter s pos =>
        obtain ⟨b, n, cs, h1, h2, h3⟩ := hob
        have hlt : b < w.heap.size := by obtain ⟨_, _, _, hx⟩ := hg.old _ _ _ h1; exact hx
        exact ⟨b, n, cs, h1, by rw [hb.block b hlt]; exact h2, h3⟩
      | loop k ts c st =>
        obtain ⟨b, n, rec, h1, h2, h3, h4, h5⟩ := hob
        have hlt : b < w.heap.size := by obtain ⟨_, _, _, hx⟩ := hg.old _ _ _ h1; exact hx
        exact ⟨b, n, rec, h1, by rw [hb.block b hlt]; exact h2, h3, h4, fun j t v ht hj => (h5 j t v ht hj).mono hS (fun _ _ _ h => h)⟩
      | mark =>
        obtain ⟨b, n, h1, h2⟩ := hob
        have hlt : b < w.heap.size := by obtain ⟨_, _, _, hx⟩ := hg.old _ _ _ h1; exact hx
        exact ⟨b, n, h1, by rw [hb.block b hlt]; exact h2⟩
      | none => trivial
    · obtain ⟨o, h1, h2, h3⟩ := hg.old _ _ _ h
      exact ⟨o, h1, h2, Nat.lt_of_lt_of_le h3 hb.size⟩
  · exact ⟨hb.os, hb.tape, hb.output, hb.size, hS, fun b h _ => hb.block b h, fun _ _ h => .inl h, fun _ h => .inl h, fun _ _ _ h => h⟩

theorem free_spec {anc : List Nat} {aos : List AOper} {k : Nat} (h : isFree anc aos k = true) : ∃ ak ty z t, aos[k]? = some ak ∧ ak.op = .alloc ty z ∧ ak.guard = none ∧ ak.dst = some t := by
  unfold isFree at h
  split at h
  · rename_i ak hak
    simp only [Bool.and_eq_true] at h
    have h1 := h.1
    split at h1
    · rename_i ty z t e1 e2 e3
      exact ⟨ak, ty, z, t, hak, e1, e2, e3⟩
    · cases h1
  · cases h
theorem free_fact {C : Oracle} {rds : List (Nat × Nat)} {wrs : List (Nat × Nat × List Nat)} {k : Nat} {ak : AOper} {s s' : St} {ty : Nat} {z : List AV} {t : Nat} (hf : Fact C rds wrs k ak s s') (h1 : ak.op = .alloc ty z) (h2 : ak.guard = none) (h3 : ak.dst = some t) :
    s'.heap = s.heap ++ [.arr (mkCells z) 0 0 (some ty)] ∧ s'.defers = s.defers ∧ s'.env.get t = some (.ptr s.heap.length 0 0) := by
  obtain ⟨dst, op, guard⟩ := ak
  simp only at h1 h2 h3
  subst h1 h2 h3
  rcases hf with ⟨hw, _⟩ | ⟨_, hE, _⟩ | ⟨_, _, st1, hr, rfl, _⟩
  · simp [wantedA] at hw
  · simp [isE] at hE
  · simp [runOps, wantedA, stepOp, pureOp, allocOp, putE] at hr
    subst hr
    exact ⟨rfl, rfl, by simp [carry, Env.get_cons]⟩

/-- an object that was made ahead of its turn -/
def Pend (μ : Nat → Nat → Option (Nat × Nat)) (S : Nat → Nat → Prop) (w : World) (σ : Heap) (w0 : World) (a : Act) (ak : AOper) (b : Nat) : Prop :=
  ∃ z t vs et, ak.op = .alloc et z ∧ ak.dst = some t ∧ a.tmps.getD t undef = .pointer (some ⟨b, 0, none⟩) ∧ w.heap[b]? = some (.cells vs et (0, 0)) ∧
    (∀ (S : Nat → Nat → Prop) (w : World) (μ : Nat → Nat → Option (Nat × Nat)), RepL S w μ z vs.toList) ∧ (∀ x ∈ vs.toList, one x = true) ∧ w0.heap.size ≤ b ∧ ¬ Dom μ σ b ∧ ∀ o, ¬ S b o

theorem Pend.lt {w0 : World} {a : Act} {ak : AOper} {b : Nat} (h : Pend μ S w σ w0 a ak b) : b < w.heap.size := by
  obtain ⟨_, _, _, _, _, _, _, hb, _⟩ := h
  exact (Array.getElem?_eq_some_iff.1 hb).1
theorem Pend.frm {w0 : World} {a a' : Act} {ak : AOper} {b : Nat} (h : Pend μ S w σ w0 a ak b) (hf : Frm μ S w σ μ' S' w' σ') (ha : ∀ t, ak.dst = some t → a'.tmps.getD t undef = a.tmps.getD t undef) : Pend μ' S' w' σ' w0 a' ak b := by
  have hlt := h.lt
  obtain ⟨z, t, vs, et, h1, h2, h3, h4, h5, h6, h7, h8, h9⟩ := h
  refine ⟨z, t, vs, et, h1, h2, by rw [ha t h2]; exact h3, by rw [hf.keepB b hlt h8]; exact h4, h5, h6, h7, fun hd => ?_, fun o hs => ?_⟩
  · rcases hf.newD b hd with h | h
    · exact h8 h
    · omega
  · rcases hf.newS b o hs with h | h | h
    · exact h9 o h
    · exact h8 h
    · omega

/-- an object that lies in the memory already is counted -/
theorem good_take {b et : Nat} {c : Cells} {vs : Array Value} (hg : Good μ S w σ) (hb : w.heap[b]? = some (.cells vs et (0, 0))) (hd : ¬ Dom μ σ b) (hs : ∀ o, ¬ S b o)
    (hl : c.len ≤ vs.size) (hr : RepL S w μ c.toList (vs.toList.take c.len)) (h1 : ∀ x ∈ vs.toList.take c.len, one x = true) :
    Good (ext μ σ.length 0 (b, vs.size)) S w (σ ++ [.arr c 0 0 (some et)]) ∧ (∀ id ver x, μ id ver = some x → ext μ σ.length 0 (b, vs.size) id ver = some x) ∧
    ∀ b', Dom (ext μ σ.length 0 (b, vs.size)) (σ ++ [.arr c 0 0 (some et)]) b' → Dom μ σ b' ∨ b' = b := by
  have hblt : b < w.heap.size := (Array.getElem?_eq_some_iff.1 hb).1
  have hμ : ∀ id ver x, μ id ver = some x → ext μ σ.length 0 (b, vs.size) id ver = some x := by
    intro id ver x h
    rw [ext_other]
    · exact h
    · rintro ⟨rfl, rfl⟩
      obtain ⟨o, ho, _⟩ := hg.old _ _ _ h
      simp at ho
  have hS : ∀ b o, S b o → S b o ∧ w.cell? ⟨b, o, none⟩ = w.cell? ⟨b, o, none⟩ := fun b o h => ⟨h, rfl⟩
  have hget : ∀ id o', (σ ++ [Obj.arr c 0 0 (some et)])[id]? = some o' → (id < σ.length ∧ σ[id]? = some o') ∨ (id = σ.length ∧ o' = .arr c 0 0 (some et)) := by
    intro id o' h
    by_cases hid : id < σ.length
    · rw [List.getElem?_append_left hid] at h; exact .inl ⟨hid, h⟩
    · rw [List.getElem?_append_right (by omega)] at h
      have : id - σ.length = 0 := by
        rcases Nat.eq_zero_or_pos (id - σ.length) with h0 | h0
        · exact h0
        · rw [List.getElem?_eq_none (by simp; omega)] at h; cases h
      rw [this] at h
      exact .inr ⟨by omega, (Option.some.inj h).symm⟩
  have hne : ∀ id o' m, σ[id]? = some o' → o'.live = true → ext μ σ.length 0 (b, vs.size) id o'.ver = some (b, m) → False := by
    intro id o' m h1 h2 h3
    have hid : id < σ.length := (List.getElem?_eq_some_iff.1 h1).1
    rw [ext_other (by omega)] at h3
    exact hd ⟨id, o', m, h1, h2, h3⟩
  refine ⟨⟨?_, ?_, ?_, hg.sb⟩, hμ, ?_⟩
  · intro id o' h
    rcases hget id o' h with ⟨hid, h⟩ | ⟨rfl, rfl⟩
    · exact (hg.obj id o' h).mono hS hμ (fun _ _ _ => rfl) (fun _ _ _ _ _ h => h)
    · exact objOK_new hb (ext_self _ _ _ _) rfl hl (hr.mono hS hμ) h1 (fun j => hs j) (.inl (Nat.le_refl _))
  · intro id id' o1 o2 b2 m m' h1 h2 l1 l2 e1 e2
    rcases hget id o1 h1 with ⟨hid, g1⟩ | ⟨i1, j1⟩ <;> rcases hget id' o2 h2 with ⟨hid', g2⟩ | ⟨i2, j2⟩
    · rw [ext_other (by omega)] at e1 e2
      exact hg.inj _ _ _ _ _ _ _ g1 g2 l1 l2 e1 e2
    · rw [i2, j2] at e2
      erw [ext_self] at e2
      cases e2
      exact (hne _ _ _ g1 l1 e1).elim
    · rw [i1, j1] at e1
      erw [ext_self] at e1
      cases e1
      exact (hne _ _ _ g2 l2 e2).elim
    · omega
  · intro id ver x h
    by_cases hid : id = σ.length ∧ ver = 0
    · obtain ⟨rfl, rfl⟩ := hid
      rw [ext_self] at h
      cases h
      exact ⟨.arr c 0 0 (some et), by simp, Nat.zero_le _, hblt⟩
    · rw [ext_other hid] at h
      obtain ⟨o', h1, h2, h3⟩ := hg.old _ _ _ h
      exact ⟨o', by rw [List.getElem?_append_left (List.getElem?_eq_some_iff.1 h1).1]; exact h1, h2, h3⟩
  · rintro b' ⟨id, o', m, h1, h2, h3⟩
    rcases hget id o' h1 with ⟨hid, h1⟩ | ⟨rfl, rfl⟩
    · rw [ext_other (by omega)] at h3
      exact .inl ⟨id, o', m, h1, h2, h3⟩
    · erw [ext_self] at h3
      cases h3
      exact .inr rfl

/-- what holds once the operations of D are done; q: what is done in the order of the text -/
def DInvQ (G : Globs) (N : Nat) (anc : List Nat) (aos : List AOper) (f : Nat → St) (μ0 : Nat → Nat → Option (Nat × Nat)) (S0 : Nat → Nat → Prop) (w0 : World) (q : Nat) (D : Nat → Prop) (a : Act) (w : World)
    (μ : Nat → Nat → Option (Nat × Nat)) (S : Nat → Nat → Prop) (pd : Nat → Nat) : Prop :=
  (∀ (k : Nat) (ak : AOper), aos[k]? = some ak → isE ak.op = true → k < q → D k) ∧ (∀ (k : Nat) (ak : AOper), aos[k]? = some ak → isE ak.op = true → D k → k < q ∨ isFree anc aos k = true) ∧
    Good μ S w (f q).heap ∧ GlobOK S w G ∧ a.tmps.size = N ∧ DefRep S w μ (f q).defers a.defers ∧ Frm μ0 S0 w0 (f 0).heap μ S w (f q).heap ∧
    (∀ (t : Nat) (v : AV), (∀ (k : Nat) (ak : AOper), D k → aos[k]? = some ak → ak.dst ≠ some t) → (f 0).env.get t = some v → Rep S w μ v (a.tmps.getD t undef)) ∧
    (∀ (k : Nat) (ak : AOper) (t : Nat) (v : AV), D k → aos[k]? = some ak → k < q ∨ isE ak.op = false → ak.dst = some t → (f (k + 1)).env.get t = some v → Rep S w μ v (a.tmps.getD t undef)) ∧
    (∀ (k : Nat) (ak : AOper), D k → aos[k]? = some ak → q ≤ k → isE ak.op = true → Pend μ S w (f q).heap w0 a ak (pd k)) ∧
    (∀ (k k' : Nat) (ak ak' : AOper), D k → D k' → aos[k]? = some ak → aos[k']? = some ak' → q ≤ k → q ≤ k' → isE ak.op = true → isE ak'.op = true → pd k = pd k' → k = k')
def DInv (G : Globs) (N : Nat) (anc : List Nat) (aos : List AOper) (f : Nat → St) (m : Nat) (μ0 : Nat → Nat → Option (Nat × Nat)) (S0 : Nat → Nat → Prop) (w0 : World) (D : Nat → Prop) (a : Act) (w : World) : Prop :=
  ∃ q, q ≤ m ∧ ∃ μ S pd, DInvQ G N anc aos f μ0 S0 w0 q D a w μ S pd

section
variable {C : Oracle} {rds : List (Nat × Nat)} {wrs : List (Nat × Nat × List Nat)} {aos : List AOper} {f : Nat → St} {m N : Nat} {ops : Array Oper} {anc : List Nat}

theorem oneH_get {id i : Nat} {ob o : Obj} (h : (oneH id ob)[i]? = some o) : (i = id ∧ o = ob) ∨ o = .none := by
  unfold oneH at h
  rw [List.getElem?_append] at h
  split at h
  · rw [List.getElem?_replicate] at h
    split at h
    · exact .inr (Option.some.inj h).symm
    · cases h
  · rename_i hlt
    simp only [List.length_replicate] at h hlt
    by_cases he : i = id
    · subst he
      simp at h
      exact .inl ⟨rfl, h.symm⟩
    · have : i - id ≠ 0 := by omega
      rw [List.getElem?_eq_none (by simp; omega)] at h
      cases h

/-- a slice is made that nobody writes afterwards: its cells are settled at once -/
theorem vals_sound {ρ : Env} {a : Act} {o : Oper} {hp : Heap} {z : List AV} {len esz : Nat} {parts : List (Nat × Nat × Opd)} {v : PV} (hE : EnvOK S w μ ρ a.tmps) (hG : GlobOK S w G) (hg : Good μ S w hp) (hc : cOp P G o.op = some (.buildSlice z len esz parts))
    (hv : valsOp ρ (.buildVals z len esz parts) = some v) : ∃ c w' S', (execOp a.eval o).run P w = .ok (.value c) w' ∧ Rep S' w' μ (.p v) c ∧ Good μ S' w' hp ∧ Frm μ S w hp μ S' w' hp := by
  simp only [valsOp] at hv
  split at hv
  · rename_i vs hvs
    split at hv
    · rename_i out hout
      split at hv
      · rename_i ps hps
        obtain rfl := Option.some.inj hv
        obtain ⟨cs, e, hrun, hr, h1⟩ := slice_run hE hG hc hvs hout
        have hr : RepPL S w ps cs.toList := pvsOf_rep hps hr
        have hb := (Below.refl w.heap.size w).alloc (Nat.le_refl _) (.cells cs e)
        obtain ⟨hg1, hf1⟩ := below_good hg hb
        have hnew : (w.alloc (.cells cs e)).heap[w.heap.size]? = some (.cells cs e) := alloc_new _ _
        have hnc : ∀ b o, S b o → b < w.heap.size := hg.sb
        have hmono : ∀ b o, S b o → (S b o ∨ b = w.heap.size) ∧ (w.alloc (.cells cs e)).cell? ⟨b, o, none⟩ = w.cell? ⟨b, o, none⟩ := fun b o h => ⟨.inl h, cell_below (hg.sb b o h) hb⟩
        have hmono1 : ∀ b o, S b o → (S b o ∨ b = w.heap.size) ∧ (w.alloc (.cells cs e)).cell? ⟨b, o, none⟩ = (w.alloc (.cells cs e)).cell? ⟨b, o, none⟩ := fun b o h => ⟨.inl h, rfl⟩
        have hsz : (w.alloc (.cells cs e)).heap.size = w.heap.size + 1 := alloc_size _ _
        refine ⟨_, _, fun b o => S b o ∨ b = w.heap.size, hrun, .p (.vsl (Nat.le_refl _) (RepCells.of_get fun i u hi => ⟨.inr rfl, ?_⟩)), ⟨?_, hg1.inj, hg1.old, ?_⟩, ⟨hf1.os, hf1.tape, hf1.output, hf1.size, hmono, hf1.keepB, ?_, hf1.newD, hf1.mu⟩⟩
        · obtain ⟨c, k1, k2⟩ := hr.get hi
          refine ⟨c, ?_, h1 c (List.mem_of_getElem? k1), k2.mono hmono⟩
          rw [Nat.zero_add]
          unfold World.cell?
          simp only [hnew]
          simpa using k1
        · intro id ob hob
          refine (hg1.obj id ob hob).mono hmono1 (fun _ _ _ h => h) (fun _ _ _ => rfl) fun b n hl hm j hs => ?_
          rcases hs with hs | rfl
          · exact hs
          · obtain ⟨_, _, _, hlt⟩ := hg.old _ _ _ hm
            exact absurd hlt (Nat.lt_irrefl _)
        · intro b o hs
          rcases hs with hs | rfl
          · exact hg1.sb b o hs
          · omega
        · intro b o hs
          rcases hs with hs | rfl
          · exact .inl hs
          · exact .inr (.inr (Nat.le_refl _))
      · cases hv
    · cases hv
  · cases hv
theorem vals_of {ρ : Env} {op : AOp} {v : PV} (h : valsOp ρ op = some v) : ∃ z l e ps, op = .buildVals z l e ps := by
  cases op <;> first | exact ⟨_, _, _, _, rfl⟩ | (simp [valsOp] at h)
theorem cOp_vals {o : Op} {z : List AV} {l e : Nat} {ps : List (Nat × Nat × Opd)} : cOp P G o ≠ some (.buildVals z l e ps) := by
  intro h
  cases o <;> simp only [cOp] at h <;> first | contradiction | skip
  all_goals repeat' (first | contradiction | split at h | (simp at h; done) | (unfold cBuiltin at h))

theorem still_sound {ρ : Env} {a : Act} {o : Oper} {ao : AOp} {v : AV} {oid : Option Nat} {hp : Heap} (hE : EnvOK S w μ ρ a.tmps) (hG : GlobOK S w G) (hg : Good μ S w hp) (hc : cOp P G o.op = some ao)
    (hv : stillOp ρ σ ao = some (v, oid)) (hsame : ∀ id, oid = some id → hp[id]? = σ[id]?) :
    ∃ c, (execOp a.eval o).run P w = .ok (.value c) w ∧ Rep S w μ v c := by
  unfold stillOp at hv
  split at hv
  · rename_i u hu
    simp only [Option.some.injEq, Prod.mk.injEq] at hv
    obtain ⟨rfl, rfl⟩ := hv
    exact pure_sound hE hG hc hu w
  split at hv
  · rename_i u hu
    obtain ⟨z, l, e, ps, rfl⟩ := vals_of hu
    exact (cOp_vals hc).elim
  · split at hv
    · split at hv
      · rename_i u hu
        simp only [Option.some.injEq, Prod.mk.injEq] at hv
        obtain ⟨rfl, rfl⟩ := hv
        exact read_sound hE hG (fun id o h => by simp at h) hc hu
      · cases hv
    · rename_i id _
      split at hv
      · rename_i ob hob
        split at hv
        · rename_i u hu
          simp only [Option.some.injEq, Prod.mk.injEq] at hv
          obtain ⟨rfl, rfl⟩ := hv
          refine read_sound hE hG (fun i o h => ?_) hc hu
          rcases oneH_get h with ⟨rfl, rfl⟩ | rfl
          · exact hg.obj _ _ ((hsame _ rfl).trans hob)
          · trivial
        · cases hv
      · cases hv

theorem still_soundI {ρ : Env} {a : Act} {o : Oper} {ao : AOp} {v : AV} {oid : Option Nat} {hp : Heap} (hE : EnvOK S w μ ρ a.tmps) (hG : GlobOK S w G) (hg : Good μ S w hp)
    (hc : cOp P G o.op = some ao ∨ ∃ z l e ps, ao = .buildVals z l e ps ∧ cOp P G o.op = some (.buildSlice z l e ps))
    (hv : stillOp ρ σ ao = some (v, oid)) (hsame : ∀ id, oid = some id → hp[id]? = σ[id]?) :
    ∃ c w' S', (execOp a.eval o).run P w = .ok (.value c) w' ∧ Rep S' w' μ v c ∧ Good μ S' w' hp ∧ Frm μ S w hp μ S' w' hp := by
  rcases hc with hc | ⟨z, l, e, ps, rfl, hc⟩
  · obtain ⟨c, h1, h2⟩ := still_sound hE hG hg hc hv hsame
    exact ⟨c, w, S, h1, h2, hg, .refl _ _ _ _⟩
  · unfold stillOp at hv
    simp only [pureOp] at hv
    split at hv
    · rename_i u hu
      simp only [Option.some.injEq, Prod.mk.injEq] at hv
      obtain ⟨rfl, rfl⟩ := hv
      exact vals_sound hE hG hg hc hu
    · exfalso
      split at hv
      · simp [readOp] at hv
      · split at hv
        · simp [readOp] at hv
        · cases hv

theorem okRW_spec {s : Tr} (h : okRW anc aos s = true) {i id j len : Nat} {wr : List Nat} (h1 : (i, id) ∈ s.rds) (h2 : (j, len, wr) ∈ s.wrs) :
    (bef anc j i = true ∨ bef anc i j = true ∨ (id < len ∧ id ∉ wr)) ∧ (j < i → isFree anc aos j = true → (id < len ∧ id ∉ wr) ∨ ∃ k ak, aos[k]? = some ak ∧ j < k ∧ isE ak.op = true ∧ isFree anc aos k = false ∧ bef anc k i = true) := by
  simp only [okRW, List.all_eq_true] at h
  have := h _ h1 _ h2
  simp only [Bool.or_eq_true, Bool.and_eq_true, decide_eq_true_eq] at this
  obtain ⟨ha, hb⟩ := this
  constructor
  · rcases ha with (h | h) | h
    · exact .inl h
    · exact .inr (.inl h)
    · exact .inr (.inr ⟨h.1, by simpa using h.2⟩)
  · intro hji hfr
    rcases hb with (h | h) | h
    · simp [hji, hfr] at h
    · exact .inl ⟨h.1, by simpa using h.2⟩
    · right
      simp only [between, List.any_eq_true, List.mem_range] at h
      obtain ⟨k, _, hk⟩ := h
      split at hk
      · rename_i ak hak
        simp only [Bool.and_eq_true, decide_eq_true_eq] at hk
        exact ⟨k, ak, hak, hk.1.1.1, hk.1.1.2, by simpa using hk.1.2, hk.2⟩
      · cases hk

variable {μ0 : Nat → Nat → Option (Nat × Nat)} {S0 : Nat → Nat → Prop} {w0 : World}

theorem put_same {a : Act} {dst : Option Nat} {v : Value} {t : Nat} (h : dst ≠ some t) : (a.put dst v).tmps.getD t undef = a.tmps.getD t undef := by
  cases dst with
  | none => rfl
  | some d =>
    have hne : d ≠ t := fun e => h (by rw [e])
    simp [Act.put, hne]
theorem put_new {a : Act} {d N : Nat} {v : Value} (h : a.tmps.size = N) (hd : d < N) : (a.put (some d) v).tmps.getD d undef = v := by
  simp [Act.put, h, hd]
theorem put_size {a : Act} {dst : Option Nat} {v : Value} (h : a.tmps.size = N) : (a.put dst v).tmps.size = N := by
  cases dst <;> simp [Act.put, h]
theorem put_defers' {a : Act} {dst : Option Nat} {v : Value} : (a.put dst v).defers = a.defers := by cases dst <;> rfl


end
end Go.Ab
