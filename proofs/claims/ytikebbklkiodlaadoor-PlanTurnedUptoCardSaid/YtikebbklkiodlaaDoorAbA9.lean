/- Reading and writing memory. -/
import Derived.Test.YtikebbklkiodlaaDoorAbA8
set_option linter.unusedSectionVars false
set_option linter.unusedSimpArgs false
set_option linter.unusedVariables false
namespace Go.Ab
variable [Marks]
variable {S S' : Nat → Nat → Prop} {w w' w1 : World} {μ μ' : Nat → Nat → Option (Nat × Nat)} {P : Program} {G : Globs} {σ σ' : Heap}

theorem run_load {ad : Addr} {v : Value} (h : w.cell? ad = some v) : (load ad).run P w = .ok v w := by
  simp [load, Sem.run, h]

theorem run_loadCellsFrom {b o : Nat} (vs : List Value) (h : ∀ j v, vs[j]? = some v → w.cell? ⟨b, o + j, none⟩ = some v) (n : Nat) :
    ∀ (i : Nat) (acc : Array Value), i + n ≤ vs.length → (loadCellsFrom ⟨b, o, none⟩ i n acc).run P w = .ok (acc ++ ((vs.drop i).take n).toArray) w := by
  induction n with
  | zero => intro i acc _; simp [loadCellsFrom]
  | succ n ih =>
    intro i acc hi
    have hlt : i < vs.length := by omega
    simp only [loadCellsFrom, Sem.run_bind, Addr_add]
    rw [run_load (h i vs[i] (List.getElem?_eq_getElem hlt)), Result.andThen_ok, ih (i + 1) _ (by omega)]
    congr 1
    rw [List.drop_eq_getElem_cons hlt, List.take_succ_cons]
    simp

theorem run_loadCells {b o : Nat} (vs : List Value) (h : ∀ j v, vs[j]? = some v → w.cell? ⟨b, o + j, none⟩ = some v) :
    (loadCells ⟨b, o, none⟩ vs.length).run P w = .ok vs.toArray w := by
  unfold loadCells
  rw [run_loadCellsFrom vs h vs.length 0 #[] (by omega)]
  simp

/-- cells of an object: what stands in its block -/
theorem ObjOK.cells {id : Nat} {c : Cells} {ver wm : Nat} {ty : Option Nat} (h : ObjOK S w μ id (.arr c ver wm ty)) :
    ∃ b n vs e lo hi, μ id ver = some (b, n) ∧ w.heap[b]? = some (.cells vs e (lo, hi)) ∧ vs.size = n ∧ c.len ≤ n ∧ RepL S w μ c.toList (vs.toList.take c.len) ∧
      (∀ x ∈ vs.toList.take c.len, one x = true) ∧ (∀ j, wm ≤ j → j < n → ¬ S b j ∧ ¬ (lo ≤ j ∧ j < hi)) := by
  obtain ⟨b, n, h1, vs, e, lo, hi, h2, h3, h4, h5, h6, _⟩ := h
  refine ⟨b, n, vs, e, lo, hi, h1, h2, h3, h4, ?_, ?_, h6⟩
  · refine .of_get (by simp [Cells.len_toList] at h4 ⊢; omega) fun j v cv hv hc => ?_
    rw [← Cells.get?_toList] at hv
    obtain ⟨cv', hc', _, hr⟩ := h5 j v hv
    rw [List.getElem?_take] at hc
    split at hc
    · have : vs[j]? = some cv := by simpa using hc
      rw [hc'] at this
      obtain rfl := Option.some.inj this
      exact hr
    · cases hc
  · intro x hx
    obtain ⟨j, hj⟩ := List.mem_iff_getElem?.1 hx
    rw [List.getElem?_take] at hj
    split at hj
    · rename_i hlt
      have hj' : vs[j]? = some x := by simpa using hj
      have : ∃ v, c.get? j = some v := by
        rw [Cells.get?_toList]
        exact ⟨_, List.getElem?_eq_getElem (by rw [← Cells.len_toList]; exact hlt)⟩
      obtain ⟨v, hv⟩ := this
      obtain ⟨cv', hc', h1, _⟩ := h5 j v hv
      rw [hj'] at hc'
      obtain rfl := Option.some.inj hc'
      exact h1
    · cases hj

theorem cell_in {b o : Nat} {vs : Array Value} {e : Nat} {fr : Nat × Nat} (h : w.heap[b]? = some (.cells vs e fr)) : w.cell? ⟨b, o, none⟩ = vs[o]? := by
  simp [World.cell?, h]

/-- a part of cells, read as a value of type t -/
theorem loadVar_rep {t n off b : Nat} {ag : Bool} {c : Cells} {vs : List Value} {v : AV} (ha : P_agg P t = some ag) (hn : P_size P t = some n) (hp : partC ag n c off = some v)
    (hr : RepL S w μ c.toList vs) (h1 : ∀ x ∈ vs, one x = true) {o : Nat} (hc : ∀ j x, vs[j]? = some x → w.cell? ⟨b, o + j, none⟩ = some x) :
    ∃ cv, (loadVar t ⟨b, o + off, none⟩).run P w = .ok cv w ∧ Rep S w μ v cv := by
  have hlen := hr.length
  cases ag with
  | true =>
    have key : off + n ≤ vs.length → (loadVar t ⟨b, o + off, none⟩).run P w = .ok (.agg ((vs.drop off).take n).toArray) w := by
      intro hb
      have hl : ((vs.drop off).take n).length = n := by simp; omega
      have := run_loadCells (P := P) (w := w) (b := b) (o := o + off) ((vs.drop off).take n) (fun j x hx => by
        rw [List.getElem?_take] at hx
        split at hx
        · rw [List.getElem?_drop] at hx
          have := hc (off + j) x hx
          rwa [show o + (off + j) = o + off + j from by omega] at this
        · cases hx)
      rw [hl] at this
      simp only [loadVar, Sem.run_bind, run_agg ha, Result.andThen_ok, if_true, run_size hn, this, Sem.run_pure]
    unfold partC at hp
    split at hp
    · rename_i l
      simp only [Option.map_eq_some_iff] at hp
      obtain ⟨y, hy, rfl⟩ := hp
      simp only [partP, if_true] at hy
      split at hy
      · rename_i hb
        obtain rfl := Option.some.inj hy
        simp only [Cells.toList, List.length_map] at hlen
        refine ⟨_, key (by omega), .p (.agg ?_ ?_)⟩
        · simp only [Cells.toList] at hr
          exact (hr.to_pv.drop off).take n
        · exact oneP_sub h1 _ _
      · cases hy
    · rename_i l
      simp only [if_true] at hp
      split at hp
      · rename_i hb
        obtain rfl := Option.some.inj hp
        simp only [Cells.toList] at hlen
        exact ⟨_, key (by omega), mkAgg_rep (by simp only [Cells.toList] at hr; exact (hr.drop off).take n) (oneP_sub h1 _ _)⟩
      · cases hp
  | false =>
    have key : ∀ x, vs[off]? = some x → (loadVar t ⟨b, o + off, none⟩).run P w = .ok x w := by
      intro x hx
      simp only [loadVar, Sem.run_bind, run_agg ha, Result.andThen_ok, Bool.false_eq_true, if_false, run_load (hc off x hx)]
    have hget : c.toList[off]? = some v := by
      rw [← Cells.get?_toList]
      unfold partC partP at hp
      cases c <;> simpa [Cells.get?] using hp
    obtain ⟨x, hx, hrep⟩ := hr.get hget
    exact ⟨x, key x hx, hrep⟩

theorem loadVar_vptr {t n b o : Nat} {ag : Bool} {cells : List PV} {v : PV} (ha : P_agg P t = some ag) (hn : P_size P t = some n) (hp : partP ag n cells 0 = some v)
    (hr : RepCells S w cells b o) : ∃ cv, (loadVar t ⟨b, o, none⟩).run P w = .ok cv w ∧ RepP S w v cv := by
  obtain ⟨vs, h1, h2, h3⟩ : ∃ vs : List Value, RepPL S w cells vs ∧ (∀ x ∈ vs, one x = true) ∧ ∀ j x, vs[j]? = some x → w.cell? ⟨b, o + j, none⟩ = some x := by
    clear hp
    induction cells generalizing o with
    | nil => exact ⟨[], .nil, by simp, by simp⟩
    | cons c r ih =>
      cases hr with
      | cons hS hc h1 h hs =>
        obtain ⟨vs, a1, a2, a3⟩ := ih hs
        refine ⟨_ :: vs, .cons h a1, by intro x hx; cases hx with | head => exact h1 | tail _ hx => exact a2 x hx, ?_⟩
        intro j x hx
        cases j with
        | zero => simp at hx; subst hx; simpa using hc
        | succ j => have := a3 j x (by simpa using hx); rwa [show o + 1 + j = o + (j + 1) from by omega] at this
  obtain ⟨cv, e1, e2⟩ := loadVar_rep (P := P) (μ := fun _ _ => none) (c := .pv cells) (v := .p v) (off := 0) (o := o) ha hn (by simp [partC, hp]) (.of_pv h1) h2 h3
  exact ⟨cv, by simpa using e1, e2.pv⟩

theorem run_storeCells {b o e lo hi : Nat} (new : List Value) : ∀ (w : World) (vs : Array Value) (i : Nat), w.heap[b]? = some (.cells vs e (lo, hi)) → o + i + new.length ≤ vs.size →
    (∀ j, o + i ≤ j → j < o + i + new.length → ¬ (lo ≤ j ∧ j < hi)) → (∀ x ∈ new, one x = true) →
    ∃ w1 vs1, (storeCells ⟨b, o, none⟩ new i).run P w = .ok () w1 ∧ w1.heap[b]? = some (.cells vs1 e (lo, hi)) ∧ vs1.toList = splice vs.toList (o + i) new ∧
      (∀ b', b' ≠ b → w1.heap[b']? = w.heap[b']?) ∧ w1.heap.size = w.heap.size ∧ SameOut w w1 := by
  induction new with
  | nil =>
    intro w vs i hb _ _ _
    exact ⟨w, vs, rfl, hb, by simp [splice], fun _ _ => rfl, rfl, ⟨rfl, rfl, rfl⟩⟩
  | cons v r ih =>
    intro w vs i hb hroom hfr h1
    simp only [List.length_cons] at hroom hfr
    have hlt : o + i < vs.size := by omega
    have hcell : w.cell? ⟨b, o + i, none⟩ = some vs[o + i] := by rw [cell_in hb]; simp [hlt]
    have hfz : w.frozen? ⟨b, o + i, none⟩ = false := by
      have := hfr (o + i) (by omega) (by omega)
      simp only [World.frozen?, hb, Bool.and_eq_false_iff, decide_eq_false_iff_not]
      omega
    have hstore : (store ⟨b, o + i, none⟩ v).run P w = .ok () (w.setCell ⟨b, o + i, none⟩ v) := by
      have hv : one v = true := h1 v (by simp)
      cases v <;> first | (simp [one] at hv; done) | simp [store, Sem.run, hcell, hfz]
    have hb' : (w.setCell ⟨b, o + i, none⟩ v).heap[b]? = some (.cells (vs.setIfInBounds (o + i) v) e (lo, hi)) := by
      simp [World.setCell, Array.getElem?_modify, hb]
    obtain ⟨w1, vs1, e1, e2, e3, e4, e5, e6⟩ := ih (w.setCell ⟨b, o + i, none⟩ v) (vs.setIfInBounds (o + i) v) (i + 1) hb' (by simp; omega) (fun j hj1 hj2 => hfr j (by omega) (by omega)) (fun x hx => h1 x (by simp [hx]))
    refine ⟨w1, vs1, ?_, e2, ?_, ?_, ?_, ?_⟩
    · simp only [storeCells, Sem.run_bind, Addr_add, hstore, Result.andThen_ok]
      exact e1
    · rw [e3]
      have hsz : vs.toList.length = vs.size := Array.length_toList
      apply List.ext_getElem?
      intro k
      rw [splice_get _ _ _ _ (by simp; omega), splice_get _ _ _ _ (by simp; omega)]
      simp only [Array.toList_setIfInBounds, List.getElem?_set, List.length_cons]
      by_cases c1 : k < o + i
      · rw [if_pos (by omega), if_pos c1, if_neg (by omega)]
      · rw [if_neg c1]
        by_cases c2 : k = o + i
        · subst c2
          rw [if_pos (by omega), if_pos rfl, if_pos (by omega), if_pos (by omega)]
          simp
        · rw [if_neg (by omega)]
          by_cases c3 : k < o + (i + 1) + r.length
          · rw [if_pos c3, if_pos (by omega), show k - (o + i) = (k - (o + (i + 1))) + 1 from by omega, List.getElem?_cons_succ]
          · rw [if_neg c3, if_neg (by omega), if_neg (by omega)]
    · intro b' hbne
      rw [e4 b' hbne]
      simp [World.setCell, Array.getElem?_modify, Ne.symm hbne]
    · rw [e5]; simp [World.setCell]
    · exact ⟨e6.os, e6.tape, e6.output⟩

/-- an object changed, in its place or in a new block -/
theorem good_set {id : Nat} {o o' : Obj} {b n b' n' : Nat} (hg : Good μ S w σ) (hid : σ[id]? = some o) (hl : o.live = true) (hb : μ id o.ver = some (b, n))
    (hb' : μ' id o'.ver = some (b', n')) (hwhere : b' = b ∨ w.heap.size ≤ b') (hμ : ∀ i v x, μ i v = some x → μ' i v = some x) (hoth : ∀ i v, i ≠ id → μ' i v = μ i v)
    (hnew : ∀ v x, μ' id v = some x → v ≤ o'.ver ∧ x.1 < w1.heap.size) (hsz : w.heap.size ≤ w1.heap.size) (hblk : ∀ bb, bb < w.heap.size → bb ≠ b → w1.heap[bb]? = w.heap[bb]?)
    (hS : ∀ bb j, S bb j → w1.cell? ⟨bb, j, none⟩ = w.cell? ⟨bb, j, none⟩) (hobj : ObjOK S w1 μ' id o') (ho : SameOut w w1) :
    Good μ' S w1 (σ.set id o') ∧ Frm μ S w σ μ' S w1 (σ.set id o') := by
  have hidl : id < σ.length := (List.getElem?_eq_some_iff.1 hid).1
  have hSS : ∀ b o, S b o → S b o ∧ w1.cell? ⟨b, o, none⟩ = w.cell? ⟨b, o, none⟩ := fun b o h => ⟨h, hS b o h⟩
  have hbl : b < w.heap.size := by obtain ⟨_, _, _, hx⟩ := hg.old _ _ _ hb; exact hx
  have hget : ∀ i x, (σ.set id o')[i]? = some x → (i = id ∧ x = o') ∨ (i ≠ id ∧ σ[i]? = some x) := by
    intro i x h
    rw [List.getElem?_set] at h
    split at h
    · rename_i he
      subst he
      try rw [if_pos hidl] at h
      exact .inl ⟨rfl, (Option.some.inj h).symm⟩
    · rename_i he
      exact .inr ⟨fun h => he h.symm, h⟩
  have hne : ∀ i x bb m, i ≠ id → σ[i]? = some x → x.live = true → μ i x.ver = some (bb, m) → bb ≠ b ∧ bb < w.heap.size := by
    intro i x bb m hi h1 h2 h3
    refine ⟨fun he => ?_, by obtain ⟨_, _, _, hx⟩ := hg.old _ _ _ h3; exact hx⟩
    subst he
    exact hi (hg.inj _ _ _ _ _ _ _ h1 hid h2 hl h3 hb)
  refine ⟨⟨?_, ?_, ?_, ?_⟩, ⟨ho.os, ho.tape, ho.output, hsz, hSS, ?_, fun b o h => .inl h, ?_, hμ⟩⟩
  · intro i x h
    rcases hget i x h with ⟨rfl, rfl⟩ | ⟨hi, h⟩
    · exact hobj
    · by_cases hxl : x.live = true
      · exact (hg.obj i x h).mono hSS hμ (fun bb m hbb => hblk bb (hne i x bb m hi h hxl hbb).2 (hne i x bb m hi h hxl hbb).1) (fun _ _ _ _ _ h => h)
      · cases x with
        | none => trivial
        | _ => simp [Obj.live] at hxl
  · intro i i' o1 o2 bb m m' h1 h2 l1 l2 e1 e2
    rcases hget i o1 h1 with ⟨i1, j1⟩ | ⟨i1, g1⟩ <;> rcases hget i' o2 h2 with ⟨i2, j2⟩ | ⟨i2, g2⟩
    · omega
    · rw [i1, j1, hb'] at e1
      rw [hoth _ _ i2] at e2
      have := hne _ _ _ _ i2 g2 l2 e2
      cases e1
      omega
    · rw [i2, j2, hb'] at e2
      rw [hoth _ _ i1] at e1
      have := hne _ _ _ _ i1 g1 l1 e1
      cases e2
      omega
    · rw [hoth _ _ i1] at e1
      rw [hoth _ _ i2] at e2
      exact hg.inj _ _ _ _ _ _ _ g1 g2 l1 l2 e1 e2
  · intro i v x h
    by_cases hi : i = id
    · subst hi
      obtain ⟨h1, h2⟩ := hnew v x h
      exact ⟨o', by simp [hidl], h1, h2⟩
    · rw [hoth _ _ hi] at h
      obtain ⟨y, h1, h2, h3⟩ := hg.old _ _ _ h
      exact ⟨y, by rw [List.getElem?_set_ne (fun h => hi h.symm)]; exact h1, h2, by omega⟩
  · intro b o h
    have := hg.sb b o h
    omega
  · intro bb hbb hd
    refine hblk bb hbb fun he => hd ?_
    subst he
    exact ⟨id, o, n, hid, hl, hb⟩
  · rintro bb ⟨i, x, m, h1, h2, h3⟩
    rcases hget i x h1 with ⟨rfl, rfl⟩ | ⟨hi, h1⟩
    · rw [hb'] at h3
      cases h3
      rcases hwhere with rfl | hw
      · exact .inl ⟨i, o, n, hid, hl, hb⟩
      · exact .inr hw
    · rw [hoth _ _ hi] at h3
      exact .inl ⟨i, x, m, h1, h2, h3⟩

end Go.Ab
