/- A9 -/
import Derived.Test.YtikebbklkiodlaaGreatDoorAbA7
import Derived.Laws.BytesArg
set_option maxRecDepth 1000000
set_option linter.all false
namespace Go.Ab
variable [Q4]
variable {S S' : Nat -> Nat -> Prop} {w w' w1 : World} {μ μ' : Nat -> Nat -> Option (Nat × Nat)} {P : Program} {G : Bx} {σ σ' : Heap}
theorem Qk3 {ad : Addr} {v : Value} (h : w.cell? ad = some v) : (load ad).run P w = .ok v w := by
 simp [load, Sem.run, h]
theorem jl {b o : Nat} (vs : List Value) (h : ∀ j v, vs[j]? = some v -> w.cell? ⟨b, o + j, none⟩ = some v) (n : Nat) :
   ∀ (i : Nat) (acc : Array Value), i + n <= vs.length -> (loadCellsFrom ⟨b, o, none⟩ i n acc).run P w = .ok (acc ++ ((vs.drop i).take n).toArray) w := by
 induction n with
 | zero => intro i acc _; simp [loadCellsFrom]
 | succ n ih =>
   intro i acc hi
   have hlt : i < vs.length := by omega
   simp only [loadCellsFrom, Sem.run_bind, M7]
   rw [Qk3 (h i vs[i] (List.getElem?_eq_getElem hlt)), Result.andThen_ok, ih (i + 1) _ (by omega)]
   congr 1
   rw [List.drop_eq_getElem_cons hlt, List.take_succ_cons]
   simp
theorem we {b o : Nat} (vs : List Value) (h : ∀ j v, vs[j]? = some v -> w.cell? ⟨b, o + j, none⟩ = some v) :
   (loadCells ⟨b, o, none⟩ vs.length).run P w = .ok vs.toArray w := by
 unfold loadCells
 rw [jl vs h vs.length 0 #[] (by omega)]
 simp
theorem ObjOK.cells {id : Nat} {c : Q1} {ver wm : Nat} {ty : Option Nat} (h : ObjOK S w μ id (.arr c ver wm ty)) :
   ∃ b n vs e lo hi, μ id ver = some (b, n) /\ w.heap[b]? = some (.cells vs e (lo, hi)) /\ vs.size = n /\ c.len <= n /\ RepL S w μ c.toList (vs.toList.take c.len) /\
     (∀ x ∈ vs.toList.take c.len, one x = true) /\ (∀ j, wm <= j -> j < n -> ¬ S b j /\ ¬ (lo <= j /\ j < hi)) := by
 obtain ⟨b, n, h1, vs, e, lo, hi, h2, h3, h4, h5, h6, _⟩ := h
 refine ⟨b, n, vs, e, lo, hi, h1, h2, h3, h4, ?_, ?_, h6⟩
 · refine .of_get (by simp [Q1.len_toList] at h4 ⊢; omega) fun j v cv hv hc => ?_
   rw [<- Q1.get?_toList] at hv
   obtain ⟨cv', hc', _, hr⟩ := h5 j v hv
   rw [List.getElem?_take] at hc
   split at hc
   · have : vs[j]? = some cv := by simpa using hc
     rw [hc'] at this
     obtain rfl := Option.some.inj this
     exact hr
   · cases hc
 · intro x hx
   obtain ⟨j, hj⟩ := List.mem_iff_getElem?.1 hx
   rw [List.getElem?_take] at hj
   split at hj
   · rename_i hlt
     have hj' : vs[j]? = some x := by simpa using hj
     have : ∃ v, c.get? j = some v := by
       rw [Q1.get?_toList]
       exact ⟨_, List.getElem?_eq_getElem (by rw [<- Q1.len_toList]; exact hlt)⟩
     obtain ⟨v, hv⟩ := this
     obtain ⟨cv', hc', h1, _⟩ := h5 j v hv
     rw [hj'] at hc'
     obtain rfl := Option.some.inj hc'
     exact h1
   · cases hj
theorem Sk {b o : Nat} {vs : Array Value} {e : Nat} {fr : Nat × Nat} (h : w.heap[b]? = some (.cells vs e fr)) : w.cell? ⟨b, o, none⟩ = vs[o]? := by
 simp [World.cell?, h]
theorem qf {t n off b : Nat} {ag : Bool} {c : Q1} {vs : List Value} {v : AV} (ha : yv P t = some ag) (hn : wJ8 P t = some n) (hp : Qa2 ag n c off = some v)
   (hr : RepL S w μ c.toList vs) (h1 : ∀ x ∈ vs, one x = true) {o : Nat} (hc : ∀ j x, vs[j]? = some x -> w.cell? ⟨b, o + j, none⟩ = some x) :
   ∃ cv, (loadVar t ⟨b, o + off, none⟩).run P w = .ok cv w /\ Rep S w μ v cv := by
 have hlen := hr.length
 cases ag with
 | true =>
   have key : off + n <= vs.length -> (loadVar t ⟨b, o + off, none⟩).run P w = .ok (.agg ((vs.drop off).take n).toArray) w := by
     intro hb
     have hl : ((vs.drop off).take n).length = n := by simp; omega
     have := we (P := P) (w := w) (b := b) (o := o + off) ((vs.drop off).take n) (fun j x hx => by
       rw [List.getElem?_take] at hx
       split at hx
       · rw [List.getElem?_drop] at hx
         have := hc (off + j) x hx
         rwa [show o + (off + j) = o + off + j from by omega] at this
       · cases hx)
     rw [hl] at this
     simp only [loadVar, Sem.run_bind, z8 ha, Result.andThen_ok, if_true, Kr hn, this, Sem.run_pure]
   unfold Qa2 at hp
   split at hp
   · rename_i l
     simp only [Option.map_eq_some_iff] at hp
     obtain ⟨y, hy, rfl⟩ := hp
     simp only [yz, if_true] at hy
     split at hy
     · rename_i hb
       obtain rfl := Option.some.inj hy
       simp only [Q1.toList, List.length_map] at hlen
       refine ⟨_, key (by omega), .p (.agg ?_ ?_)⟩
       · simp only [Q1.toList] at hr
         exact (hr.to_pv.drop off).take n
       · exact zi h1 _ _
     · cases hy
   · rename_i l
     simp only [if_true] at hp
     split at hp
     · rename_i hb
       obtain rfl := Option.some.inj hp
       simp only [Q1.toList] at hlen
       exact ⟨_, key (by omega), za (by simp only [Q1.toList] at hr; exact (hr.drop off).take n) (zi h1 _ _)⟩
     · cases hp
 | false =>
   have key : ∀ x, vs[off]? = some x -> (loadVar t ⟨b, o + off, none⟩).run P w = .ok x w := by
     intro x hx
     simp only [loadVar, Sem.run_bind, z8 ha, Result.andThen_ok, Bool.false_eq_true, if_false, Qk3 (hc off x hx)]
   have hget : c.toList[off]? = some v := by
     rw [<- Q1.get?_toList]
     unfold Qa2 yz at hp
     cases c <;> simpa [Q1.get?] using hp
   obtain ⟨x, hx, hrep⟩ := hr.get hget
   exact ⟨x, key x hx, hrep⟩
theorem Qgh {t n b o : Nat} {ag : Bool} {cells : List PV} {v : PV} (ha : yv P t = some ag) (hn : wJ8 P t = some n) (hp : yz ag n cells 0 = some v)
   (hr : RepCells S w cells b o) : ∃ cv, (loadVar t ⟨b, o, none⟩).run P w = .ok cv w /\ RepP S w v cv := by
 obtain ⟨vs, h1, h2, h3⟩ : ∃ vs : List Value, RepPL S w cells vs /\ (∀ x ∈ vs, one x = true) /\ ∀ j x, vs[j]? = some x -> w.cell? ⟨b, o + j, none⟩ = some x := by
   clear hp
   induction cells generalizing o with
   | nil => exact ⟨[], .nil, by simp, by simp⟩
   | cons c r ih =>
     cases hr with
     | cons hS hc h1 h hs =>
       obtain ⟨vs, a1, a2, a3⟩ := ih hs
       refine ⟨_ :: vs, .cons h a1, by intro x hx; cases hx with | head => exact h1 | tail _ hx => exact a2 x hx, ?_⟩
       intro j x hx
       cases j with
       | zero => simp at hx; subst hx; simpa using hc
       | succ j => have := a3 j x (by simpa using hx); rwa [show o + 1 + j = o + (j + 1) from by omega] at this
 obtain ⟨cv, e1, e2⟩ := qf (P := P) (μ := fun _ _ => none) (c := .pv cells) (v := .p v) (off := 0) (o := o) ha hn (by simp [Qa2, hp]) (.of_pv h1) h2 h3
 exact ⟨cv, by simpa using e1, e2.pv⟩
theorem Pi {b o e lo hi : Nat} (new : List Value) : ∀ (w : World) (vs : Array Value) (i : Nat), w.heap[b]? = some (.cells vs e (lo, hi)) -> o + i + new.length <= vs.size ->
   (∀ j, o + i <= j -> j < o + i + new.length -> ¬ (lo <= j /\ j < hi)) -> (∀ x ∈ new, one x = true) ->
   ∃ w1 vs1, (storeCells ⟨b, o, none⟩ new i).run P w = .ok () w1 /\ w1.heap[b]? = some (.cells vs1 e (lo, hi)) /\ vs1.toList = N0 vs.toList (o + i) new /\
     (∀ b', b' ≠ b -> w1.heap[b']? = w.heap[b']?) /\ w1.heap.size = w.heap.size /\ SameOut w w1 := by
 induction new with
 | nil =>
   intro w vs i hb _ _ _
   exact ⟨w, vs, rfl, hb, by simp [N0], fun _ _ => rfl, rfl, ⟨rfl, rfl, rfl⟩⟩
 | cons v r ih =>
   intro w vs i hb hroom hfr h1
   simp only [List.length_cons] at hroom hfr
   have hlt : o + i < vs.size := by omega
   have hcell : w.cell? ⟨b, o + i, none⟩ = some vs[o + i] := by rw [Sk hb]; simp [hlt]
   have hfz : w.frozen? ⟨b, o + i, none⟩ = false := by
     have := hfr (o + i) (by omega) (by omega)
     simp only [World.frozen?, hb, Bool.and_eq_false_iff, decide_eq_false_iff_not]
     omega
   have hstore : (store ⟨b, o + i, none⟩ v).run P w = .ok () (w.setCell ⟨b, o + i, none⟩ v) := by
     have hv : one v = true := h1 v (by simp)
     cases v <;> first | (simp [one] at hv; done) | simp [store, Sem.run, hcell, hfz]
   have hb' : (w.setCell ⟨b, o + i, none⟩ v).heap[b]? = some (.cells (vs.setIfInBounds (o + i) v) e (lo, hi)) := by
     simp [World.setCell, Array.getElem?_modify, hb]
   obtain ⟨w1, vs1, e1, e2, e3, e4, e5, e6⟩ := ih (w.setCell ⟨b, o + i, none⟩ v) (vs.setIfInBounds (o + i) v) (i + 1) hb' (by simp; omega) (fun j hj1 hj2 => hfr j (by omega) (by omega)) (fun x hx => h1 x (by simp [hx]))
   refine ⟨w1, vs1, ?_, e2, ?_, ?_, ?_, ?_⟩
   · simp only [storeCells, Sem.run_bind, M7, hstore, Result.andThen_ok]
     exact e1
   · rw [e3]
     have hsz : vs.toList.length = vs.size := Array.length_toList
     apply List.ext_getElem?
     intro k
     rw [On _ _ _ _ (by simp; omega), On _ _ _ _ (by simp; omega)]
     simp only [Array.toList_setIfInBounds, List.getElem?_set, List.length_cons]
     by_cases c1 : k < o + i
     · rw [if_pos (by omega), if_pos c1, if_neg (by omega)]
     · rw [if_neg c1]
       by_cases c2 : k = o + i
       · subst c2
         rw [if_pos (by omega), if_pos rfl, if_pos (by omega), if_pos (by omega)]
         simp
       · rw [if_neg (by omega)]
         by_cases c3 : k < o + (i + 1) + r.length
         · rw [if_pos c3, if_pos (by omega), show k - (o + i) = (k - (o + (i + 1))) + 1 from by omega, List.getElem?_cons_succ]
         · rw [if_neg c3, if_neg (by omega), if_neg (by omega)]
   · intro b' hbne
     rw [e4 b' hbne]
     simp [World.setCell, Array.getElem?_modify, Ne.symm hbne]
   · rw [e5]; simp [World.setCell]
   · exact ⟨e6.os, e6.tape, e6.output⟩
theorem Xq {id : Nat} {o o' : Obj} {b n b' n' : Nat} (hg : Good μ S w σ) (hid : σ[id]? = some o) (hl : o.live = true) (hb : μ id o.ver = some (b, n))
   (hb' : μ' id o'.ver = some (b', n')) (hwhere : b' = b ∨ w.heap.size <= b') (hμ : ∀ i v x, μ i v = some x -> μ' i v = some x) (hoth : ∀ i v, i ≠ id -> μ' i v = μ i v)
   (hnew : ∀ v x, μ' id v = some x -> v <= o'.ver /\ x.1 < w1.heap.size) (hsz : w.heap.size <= w1.heap.size) (hblk : ∀ bb, bb < w.heap.size -> bb ≠ b -> w1.heap[bb]? = w.heap[bb]?)
   (hS : ∀ bb j, S bb j -> w1.cell? ⟨bb, j, none⟩ = w.cell? ⟨bb, j, none⟩) (hobj : ObjOK S w1 μ' id o') (ho : SameOut w w1) :
   Good μ' S w1 (σ.set id o') /\ Frm μ S w σ μ' S w1 (σ.set id o') := by
 have hidl : id < σ.length := (List.getElem?_eq_some_iff.1 hid).1
 have hSS : ∀ b o, S b o -> S b o /\ w1.cell? ⟨b, o, none⟩ = w.cell? ⟨b, o, none⟩ := fun b o h => ⟨h, hS b o h⟩
 have hbl : b < w.heap.size := by obtain ⟨_, _, _, hx⟩ := hg.old _ _ _ hb; exact hx
 have hget : ∀ i x, (σ.set id o')[i]? = some x -> (i = id /\ x = o') ∨ (i ≠ id /\ σ[i]? = some x) := by
   intro i x h
   rw [List.getElem?_set] at h
   split at h
   · rename_i he
     subst he
     try rw [if_pos hidl] at h
     exact .inl ⟨rfl, (Option.some.inj h).symm⟩
   · rename_i he
     exact .inr ⟨fun h => he h.symm, h⟩
 have hne : ∀ i x bb m, i ≠ id -> σ[i]? = some x -> x.live = true -> μ i x.ver = some (bb, m) -> bb ≠ b /\ bb < w.heap.size := by
   intro i x bb m hi h1 h2 h3
   refine ⟨fun he => ?_, by obtain ⟨_, _, _, hx⟩ := hg.old _ _ _ h3; exact hx⟩
   subst he
   exact hi (hg.inj _ _ _ _ _ _ _ h1 hid h2 hl h3 hb)
 refine ⟨⟨?_, ?_, ?_, ?_⟩, ⟨ho.os, ho.tape, ho.output, hsz, hSS, ?_, fun b o h => .inl h, ?_, hμ⟩⟩
 · intro i x h
   rcases hget i x h with ⟨rfl, rfl⟩ | ⟨hi, h⟩
   · exact hobj
   · by_cases hxl : x.live = true
     · exact (hg.obj i x h).mono hSS hμ (fun bb m hbb => hblk bb (hne i x bb m hi h hxl hbb).2 (hne i x bb m hi h hxl hbb).1) (fun _ _ _ _ _ h => h)
     · cases x with
       | none => trivial
       | _ => simp [Obj.live] at hxl
 · intro i i' o1 o2 bb m m' h1 h2 l1 l2 e1 e2
   rcases hget i o1 h1 with ⟨i1, j1⟩ | ⟨i1, g1⟩ <;> rcases hget i' o2 h2 with ⟨i2, j2⟩ | ⟨i2, g2⟩
   · omega
   · rw [i1, j1, hb'] at e1
     rw [hoth _ _ i2] at e2
     have := hne _ _ _ _ i2 g2 l2 e2
     cases e1
     omega
   · rw [i2, j2, hb'] at e2
     rw [hoth _ _ i1] at e1
     have := hne _ _ _ _ i1 g1 l1 e1
     cases e2
     omega
   · rw [hoth _ _ i1] at e1
     rw [hoth _ _ i2] at e2
     exact hg.inj _ _ _ _ _ _ _ g1 g2 l1 l2 e1 e2
 · intro i v x h
   by_cases hi : i = id
   · subst hi
     obtain ⟨h1, h2⟩ := hnew v x h
     exact ⟨o', by simp [hidl], h1, h2⟩
   · rw [hoth _ _ hi] at h
     obtain ⟨y, h1, h2, h3⟩ := hg.old _ _ _ h
     exact ⟨y, by rw [List.getElem?_set_ne (fun h => hi h.symm)]; exact h1, h2, by omega⟩
 · intro b o h
   have := hg.sb b o h
   omega
 · intro bb hbb hd
   refine hblk bb hbb fun he => hd ?_
   subst he
   exact ⟨id, o, n, hid, hl, hb⟩
 · rintro bb ⟨i, x, m, h1, h2, h3⟩
   rcases hget i x h1 with ⟨rfl, rfl⟩ | ⟨hi, h1⟩
   · rw [hb'] at h3
     cases h3
     rcases hwhere with rfl | hw
     · exact .inl ⟨i, o, n, hid, hl, hb⟩
     · exact .inr hw
   · rw [hoth _ _ hi] at h3
     exact .inl ⟨i, x, m, h1, h2, h3⟩
end Go.Ab
namespace Go.Ab
variable [Q4]
variable {S S' : Nat -> Nat -> Prop} {w w' w1 : World} {μ μ' : Nat -> Nat -> Option (Nat × Nat)} {P : Program} {G : Bx} {σ σ' : Heap}
inductive Elems (w : World) : Value -> Nat -> List Value -> Prop
 | str (s : ByteArray) : Elems w (.string s) s.size (s.data.toList.map fun b => .int .u8 b.toNat)
 | none (a : Option Addr) (cap : Nat) : Elems w (.slice a 0 cap) 0 []
 | at_ {b o n cap : Nat} {vs : List Value} (h : ∀ (j : Nat) x, vs[j]? = some x -> w.cell? ⟨b, o + j, Option.none⟩ = some x) : Elems w (.slice (some ⟨b, o, Option.none⟩) n cap) n vs
theorem Qmx {cells : List PV} {b o : Nat} (hr : RepCells S w cells b o) :
   ∃ vs : List Value, RepPL S w cells vs /\ (∀ x ∈ vs, one x = true) /\ ∀ j x, vs[j]? = some x -> w.cell? ⟨b, o + j, none⟩ = some x := by
 induction cells generalizing o with
 | nil => exact ⟨[], .nil, by simp, by simp⟩
 | cons c r ih =>
   cases hr with
   | cons hS hc h1 h hs =>
     obtain ⟨vs, a1, a2, a3⟩ := ih hs
     refine ⟨_ :: vs, .cons h a1, by intro x hx; cases hx with | head => exact h1 | tail _ hx => exact a2 x hx, ?_⟩
     intro j x hx
     cases j with
     | zero => simp at hx; subst hx; simpa using hc
     | succ j => have := a3 j x (by simpa using hx); rwa [show o + 1 + j = o + (j + 1) from by omega] at this
theorem jb {esz n : Nat} {x : AV} {c : Q1} {cx : Value} (hg : ∀ (id : Nat) (o : Obj), σ[id]? = some o -> ObjOK S w μ id o) (h : Jk σ esz x = some (n, c)) (hx : Rep S w μ x cx) :
   ∃ vs, Elems w cx n vs /\ RepL S w μ c.toList vs /\ (∀ y ∈ vs, one y = true) /\ vs.length = n * esz := by
 unfold Jk at h
 split at h
 · rename_i s
   split at h
   · rename_i h1
     simp only [Option.some.injEq, Prod.mk.injEq] at h
     obtain ⟨rfl, rfl⟩ := h
     obtain ⟨sb, rfl, rfl⟩ := hx.str
     refine ⟨_, .str sb, Qul, ?_, by simp [h1]⟩
     intro y hy
     simp only [List.mem_map] at hy
     obtain ⟨_, _, rfl⟩ := hy
     rfl
   · cases h
 · rename_i cells m
   split at h
   · rename_i hlen
     simp only [Option.some.injEq, Prod.mk.injEq] at h
     obtain ⟨rfl, rfl⟩ := h
     obtain ⟨a, cap, rfl, hcap, ⟨rfl, rfl⟩ | ⟨b, o, rfl, hcs⟩⟩ := hx.vslP
     · exact ⟨[], .none _ _, .nil, by simp, by simp⟩
     · obtain ⟨vs, h1, h2, h3⟩ := Qmx hcs
       exact ⟨vs, .at_ h3, .of_pv h1, h2, by rw [<- h1.length]; exact hlen⟩
   · cases h
 · rename_i id ver off m e
   split at h
   · rename_i he
     subst he
     split at h
     · rename_i c' v wm ty0 hob
       split at h
       · rename_i hcond
         obtain ⟨rfl, hroom⟩ := hcond
         simp only [Option.some.injEq, Prod.mk.injEq] at h
         obtain ⟨rfl, rfl⟩ := h
         obtain ⟨b, nn, cap, hμ, hl, hc, rfl⟩ := hx.slA
         obtain ⟨b', n', vs, et, lo, hi, h1, h2, h3, h4, h5, h6, h7⟩ := (hg id _ hob).cells
         rw [hμ] at h1
         cases h1
         refine ⟨((vs.toList.take c'.len).drop off).take (m * e), .at_ ?_, ?_, zi h6 _ _, ?_⟩
         · intro j x hj
           rw [List.getElem?_take] at hj
           split at hj
           · rw [List.getElem?_drop, List.getElem?_take] at hj
             split at hj
             · rw [Sk h2]
               simpa using hj
             · cases hj
           · cases hj
         · rw [No, Qhp]
           exact (h5.drop _).take _
         · have : vs.toList.length = vs.size := Array.length_toList
           simp only [List.length_take, List.length_drop]
           omega
       · cases h
     · cases h
   · cases h
 · simp only [Option.some.injEq, Prod.mk.injEq] at h
   obtain ⟨rfl, rfl⟩ := h
   cases hx
   exact ⟨[], .none _ _, .nil, by simp, by simp⟩
 · simp only [Option.some.injEq, Prod.mk.injEq] at h
   obtain ⟨rfl, rfl⟩ := h
   cases hx
   exact ⟨[], .none _ _, .nil, by simp, by simp⟩
 · cases h
theorem Elems.lenOf {cx : Value} {n : Nat} {vs : List Value} (h : Elems w cx n vs) (w' : World) : (Builtin.lenOf cx).run P w' = .ok n w' := by
 cases h <;> rfl
theorem Elems.first {cx : Value} {n m esz : Nat} {vs : List Value} (h : Elems w cx n vs) (hl : vs.length = n * esz) (hm : m <= n) (h1 : ∀ s, cx = .string s -> esz = 1) :
   (Builtin.firstCells esz m cx).run P w = .ok (vs.take (m * esz)).toArray w := by
 cases h with
 | str s =>
   have := h1 s rfl
   subst this
   simp only [Builtin.firstCells, Sem.run_pure, Nat.mul_one]
   congr 1
   apply Array.ext'
   simp
 | none a cap =>
   obtain rfl : m = 0 := by omega
   cases a <;> simp [Builtin.firstCells, loadCells, loadCellsFrom]
 | at_ h =>
   rename_i b o cap
   have hlm : (vs.take (m * esz)).length = m * esz := by
     have : m * esz <= n * esz := Nat.mul_le_mul_right _ hm
     simp; omega
   have := we (P := P) (w := w) (b := b) (o := o) (vs.take (m * esz)) (fun j x hx => by
     rw [List.getElem?_take] at hx
     split at hx
     · exact h j x hx
     · cases hx)
   rw [hlm] at this
   simpa [Builtin.firstCells] using this
theorem Qhb {l : List PV} {s : List UInt8} (h : S6 l = some s) : ∃ ns : List Int, l = ns.map (PV.int .u8) /\ s = ns.map fun n => UInt8.ofNat n.toNat := by
 induction l generalizing s with
 | nil => simp [S6] at h; subst h; exact ⟨[], rfl, rfl⟩
 | cons v r ih =>
   unfold S6 at h
   split at h
   · simp_all
   · rename_i n r' heq
     injection heq with e1 e2
     subst e1 e2
     split at h
     · rename_i l' hl
       obtain rfl := Option.some.inj h
       obtain ⟨ns, rfl, rfl⟩ := ih hl
       exact ⟨n :: ns, rfl, rfl⟩
     · cases h
   · cases h
section
variable {M : Env} {a : Act} (hE : EnvOK S w μ M a.tmps) (hG : GlobOK S w G) (hg : ∀ (id : Nat) (o : Obj), σ[id]? = some o -> ObjOK S w μ id o)
include hE hG hg
theorem jv {o : Oper} {ao : AOp} {v : AV} (hc : cOp P G o.op = some ao) (hv : Gw M σ ao = some v) :
   ∃ c, (execOp a.eval o).run P w = .ok (.value c) w /\ Rep S w μ v c := by
 obtain ⟨dst, op, oty, pos, after, guard⟩ := o
 simp only at hc
 cases op with
 | load t x =>
   simp only [cOp] at hc
   split at hc
   · rename_i ag n y hag hn hy
     obtain rfl := Option.some.inj hc
     simp only [Gw] at hv
     split at hv
     · rename_i id ver off hev
       obtain ⟨b, m, hμ, e⟩ := (Jn hE hG hy hev).ptrA
       split at hv
       · rename_i c vr wm ty0 hob
         split at hv
         · rename_i hvr
           subst hvr
           obtain ⟨b', n', vs, et, lo, hi, h1, h2, h3, h4, h5, h6, h7⟩ := (hg id _ hob).cells
           rw [hμ] at h1
           cases h1
           obtain ⟨cv, r1, r2⟩ := qf (P := P) (o := 0) hag hn hv h5 h6 (fun j x hj => by
             rw [Sk h2]
             rw [List.getElem?_take] at hj
             split at hj
             · simpa using hj
             · cases hj)
           refine ⟨cv, ?_, r2⟩
           rw [Nat.zero_add] at r1
           simp [execOp, Instr.loadAt, e, Instr.sureAddr, r1]
         · cases hv
       · cases hv
     · rename_i cells hev
       simp only [Option.map_eq_some_iff] at hv
       obtain ⟨z, hz, rfl⟩ := hv
       obtain ⟨b, o, e, hcs⟩ := (Jn hE hG hy hev).vptrP
       obtain ⟨cv, r1, r2⟩ := Qgh (P := P) hag hn hz hcs
       exact ⟨cv, by simp [execOp, Instr.loadAt, e, Instr.sureAddr, r1], .p r2⟩
     · cases hv
   · cases hc
 | convert s d x =>
   simp only [cOp] at hc
   split at hc
   · obtain rfl := Option.some.inj hc; simp [Gw] at hv
   · obtain rfl := Option.some.inj hc; simp [Gw] at hv
   · obtain rfl := Option.some.inj hc; simp [Gw] at hv
   · split at hc
     · obtain rfl := Option.some.inj hc; simp [Gw] at hv
     · cases hc
   · rename_i e y hs hd hy
     split at hc
     · rename_i he
       obtain rfl := Option.some.inj hc
       simp only [Gw] at hv
       split at hv
       · rename_i u hu
         have hr := Jn hE hG hy hu
         split at hv
         · cases hv
         · rename_i hns
           split at hv
           · rename_i n l hel
             simp only [Option.map_eq_some_iff] at hv
             obtain ⟨str, hstr, rfl⟩ := hv
             obtain ⟨ns, rfl, rfl⟩ := Qhb hstr
             obtain ⟨vs, e1, e2, e3, e4⟩ := jb hg hel hr
             have hvs : vs = ns.map (Value.int .u8) := by
               clear e1 e3 e4 hel hstr
               have e2' : RepPL S w (ns.map (PV.int .u8)) vs := e2.to_pv
               clear e2
               induction ns generalizing vs with
               | nil => cases e2'; rfl
               | cons n r ih => cases e2' with | cons h hs => rw [h.int_inv, ih _ hs]; rfl
             generalize hcx : a.eval x = cx at e1 hr
             cases e1 with
             | str sb => 
               exfalso
               cases hr with
               | p h => cases h with
                 | str => exact hns _ rfl
                 | ssym => simp [Jk] at hel
               | dead => simp [Jk] at hel
             | none a' cap =>
               obtain rfl : ns = [] := by simpa using hvs.symm
               refine ⟨.string ByteArray.empty, ?_, .p (.str rfl)⟩
               simp only [execOp, Sem.run_bind]
               rw [hcx, run_convert_bytes_string w s d e _ _ _ hs he hd]
               cases a' with
               | none => simp [Conv.bytesToString]
               | some ad => simp [Conv.bytesToString, loadCells, loadCellsFrom]
             | at_ h =>
               rename_i b o cap
               subst hvs
               refine ⟨.string (strOfNums ns), ?_, .p (.str (by simp [strOfNums]))⟩
               simp only [execOp, Sem.run_bind]
               rw [hcx, run_convert_bytes_arg w s e hs he b o n cap ns (by simpa using e4) (fun i hi => h i _ (by
                 have : i < ns.length := by have := e4; simp at this; omega
                 simp [List.getD, this])) d hd]
               rfl
           · cases hv
       · cases hv
     · cases hc
   · cases hc
 | slice t x lo hi mx =>
   simp only [cOp] at hc
   split at hc
   · split at hc
     · obtain rfl := Option.some.inj hc; simp [Gw] at hv
     · cases hc
   · split at hc
     · obtain rfl := Option.some.inj hc; simp [Gw] at hv
     · cases hc
   · rename_i n e hu
     split at hc
     · rename_i s x' lo' hi' hs hx hlo hhi
       obtain rfl := Option.some.inj hc
       simp only [Gw] at hv
       split at hv
       · rename_i id ver off l h e1 e2 e3
         split at hv
         · rename_i c vr wm ty0 hob
           split at hv
           · rename_i hcond
             obtain ⟨rfl, hroom⟩ := hcond
             split at hv
             · rename_i l' h' hb
               have rx := Jn hE hG hx e1
               obtain ⟨b', n', vs, et, lo, hi, h1, h2, h3, h4, h5, h6, h7⟩ := (hg id _ hob).cells
               obtain ⟨c, r1, r2⟩ := Qh3 (P := P) (v := v) hu hs hb (by split at hv <;> simp_all) rx (fun b m hm => by rw [h1] at hm; cases hm; omega) (jh hE hG hlo e2) (jh hE hG hhi e3) w
               exact ⟨c, by simp [execOp, r1], r2⟩
             · cases hv
           · cases hv
         · cases hv
       · cases hv
     · cases hc
   · split at hc
     · split at hc
       · obtain rfl := Option.some.inj hc; simp [Gw] at hv
       · cases hc
     · cases hc
   · cases hc
 | move x => simp only [cOp, Option.map_eq_some_iff] at hc; obtain ⟨y, hy, rfl⟩ := hc; simp [Gw] at hv
 | assign x => simp only [cOp, Option.map_eq_some_iff] at hc; obtain ⟨y, hy, rfl⟩ := hc; simp [Gw] at hv
 | pick c x y =>
   simp only [cOp] at hc
   split at hc
   · obtain rfl := Option.some.inj hc; simp [Gw] at hv
   · cases hc
 | alloc t => simp only [cOp, Option.map_eq_some_iff] at hc; obtain ⟨y, hy, rfl⟩ := hc; simp [Gw] at hv
 | box t x =>
   simp only [cOp] at hc
   split at hc
   · obtain rfl := Option.some.inj hc; simp [Gw] at hv
   · cases hc
 | build t parts =>
   simp only [cOp] at hc
   split at hc
   · split at hc
     · simp only [Option.map_eq_some_iff] at hc; obtain ⟨y, hy, rfl⟩ := hc; simp [Gw] at hv
     · cases hc
   · split at hc
     · simp only [Option.map_eq_some_iff] at hc; obtain ⟨y, hy, rfl⟩ := hc; simp [Gw] at hv
     · cases hc
   · cases hc
 | buildSlice t len parts =>
   simp only [cOp] at hc
   split at hc
   · split at hc
     · split at hc
       · simp only [Option.map_eq_some_iff] at hc; obtain ⟨y, hy, rfl⟩ := hc; simp [Gw] at hv
       · cases hc
     · cases hc
   · cases hc
 | store t x y =>
   simp only [cOp] at hc
   split at hc
   · obtain rfl := Option.some.inj hc; simp [Gw] at hv
   · cases hc
 | nilCheck x => simp only [cOp, Option.map_eq_some_iff] at hc; obtain ⟨y, hy, rfl⟩ := hc; simp [Gw] at hv
 | binOp op t x y yt =>
   simp only [cOp] at hc
   split at hc
   · obtain rfl := Option.some.inj hc; simp [Gw] at hv
   · cases hc
 | unOp u t x => simp only [cOp, Option.map_eq_some_iff] at hc; obtain ⟨y, hy, rfl⟩ := hc; simp [Gw] at hv
 | sliceToArrayPointer d x => simp [cOp] at hc
 | makeInterface t x =>
   simp only [cOp] at hc
   split at hc
   · cases hc
   · simp only [Option.map_eq_some_iff] at hc; obtain ⟨y, hy, rfl⟩ := hc; simp [Gw] at hv
   · cases hc
 | makeFunc f first caps =>
   cases f with
   | func f =>
     simp only [cOp] at hc
     split at hc
     · obtain rfl := Option.some.inj hc; simp [Gw] at hv
     · cases hc
   | _ => simp [cOp] at hc
 | makeMap t r => simp [cOp] at hc
 | makeChan t s => simp [cOp] at hc
 | makeSlice t l c =>
   simp only [cOp] at hc
   split at hc
   · split at hc
     · obtain rfl := Option.some.inj hc; simp [Gw] at hv
     · cases hc
   · cases hc
 | fieldAddr t x f =>
   simp only [cOp] at hc
   split at hc
   · split at hc
     · split at hc
       · split at hc
         · cases hc
         · obtain rfl := Option.some.inj hc; simp [Gw] at hv
       · cases hc
     · cases hc
   · cases hc
 | field t x f =>
   simp only [cOp] at hc
   split at hc
   · split at hc
     · split at hc
       · obtain rfl := Option.some.inj hc; simp [Gw] at hv
       · cases hc
     · cases hc
   · cases hc
 | indexAddr t x i =>
   simp only [cOp] at hc
   split at hc
   · split at hc
     · obtain rfl := Option.some.inj hc; simp [Gw] at hv
     · cases hc
   · split at hc
     · obtain rfl := Option.some.inj hc; simp [Gw] at hv
     · cases hc
   · cases hc
 | index t x i =>
   simp only [cOp] at hc
   split at hc
   · split at hc
     · obtain rfl := Option.some.inj hc; simp [Gw] at hv
     · cases hc
   · split at hc
     · obtain rfl := Option.some.inj hc; simp [Gw] at hv
     · cases hc
   · cases hc
 | range t x =>
   simp only [cOp] at hc
   split at hc
   · simp only [Option.map_eq_some_iff] at hc; obtain ⟨y, hy, rfl⟩ := hc; simp [Gw] at hv
   · cases hc
 | next x s =>
   cases s with
   | true => simp only [cOp, Option.map_eq_some_iff] at hc; obtain ⟨y, hy, rfl⟩ := hc; simp [Gw] at hv
   | false => simp [cOp] at hc
 | typeAssert x xt t ok =>
   simp only [cOp] at hc
   split at hc
   · cases hc
   · split at hc
     · split at hc
       · split at hc
         · obtain rfl := Option.some.inj hc; simp [Gw] at hv
         · cases hc
       · cases hc
     · cases hc
   · cases hc
 | extract x i => simp only [cOp, Option.map_eq_some_iff] at hc; obtain ⟨y, hy, rfl⟩ := hc; simp [Gw] at hv
 | panic x => simp only [cOp, Option.map_eq_some_iff] at hc; obtain ⟨y, hy, rfl⟩ := hc; simp [Gw] at hv
 | call c =>
   obtain ⟨callee, args, tys⟩ := c
   cases callee with
   | builtin b =>
     simp only [cOp] at hc
     unfold L2 at hc
     split at hc
     · split at hc
       · simp only [Option.map_eq_some_iff] at hc; obtain ⟨y, hy, rfl⟩ := hc; simp [Gw] at hv
       · simp only [Option.map_eq_some_iff] at hc; obtain ⟨y, hy, rfl⟩ := hc; simp [Gw] at hv
       · obtain rfl := Option.some.inj hc; simp [Gw] at hv
       · cases hc
     · split at hc
       · split at hc
         · split at hc <;> first | (obtain rfl := Option.some.inj hc; simp [Gw] at hv; done) | cases hc
         · cases hc
       · cases hc
     · split at hc
       · split at hc
         · obtain rfl := Option.some.inj hc; simp [Gw] at hv
         · cases hc
       · cases hc
     · split at hc
       · split at hc
         · obtain rfl := Option.some.inj hc; simp [Gw] at hv
         · cases hc
       · cases hc
     · simp only [Option.map_eq_some_iff] at hc; obtain ⟨y, hy, rfl⟩ := hc; simp [Gw] at hv
     · simp only [Option.map_eq_some_iff] at hc; obtain ⟨y, hy, rfl⟩ := hc; simp [Gw] at hv
     · simp only [Option.map_eq_some_iff] at hc; obtain ⟨y, hy, rfl⟩ := hc; simp [Gw] at hv
     · obtain rfl := Option.some.inj hc; simp [Gw] at hv
     · simp only [Option.map_eq_some_iff] at hc; obtain ⟨y, hy, rfl⟩ := hc; simp [Gw] at hv
     · split at hc
       · split at hc
         · split at hc
           · obtain rfl := Option.some.inj hc; simp [Gw] at hv
           · cases hc
         · cases hc
       · cases hc
     · cases hc
   | value f =>
     simp only [cOp] at hc
     split at hc
     · obtain rfl := Option.some.inj hc; simp [Gw] at hv
     · cases hc
   | invoke r m => simp [cOp] at hc
 | defer c =>
   obtain ⟨callee, args, tys⟩ := c
   cases callee with
   | value f =>
     simp only [cOp] at hc
     split at hc
     · obtain rfl := Option.some.inj hc; simp [Gw] at hv
     · cases hc
   | _ => simp [cOp] at hc
 | _ => simp [cOp] at hc
end
end Go.Ab
namespace Go.Ab
variable [Q4]
variable {S S' : Nat -> Nat -> Prop} {w w' w1 : World} {μ μ' : Nat -> Nat -> Option (Nat × Nat)} {P : Program} {G : Bx} {σ σ' : Heap}
inductive Goes : Next -> Value -> Prop
 | value (c : Value) : Goes (.value c) c
 | skip : Goes .skip undef
def Acts (P : Program) (S : Nat -> Nat -> Prop) (w : World) (μ : Nat -> Nat -> Option (Nat × Nat)) (σ : Heap) (e : Sem Next) (v : AV) (σ' : Heap) : Prop :=
 ∃ nx c w1 μ', e.run P w = .ok nx w1 /\ Goes nx c /\ Good μ' S w1 σ' /\ Frm μ S w σ μ' S w1 σ' /\ Rep S w1 μ' v c
theorem Frm.refl (μ : Nat -> Nat -> Option (Nat × Nat)) (S : Nat -> Nat -> Prop) (w : World) (σ : Heap) : Frm μ S w σ μ S w σ :=
 ⟨rfl, rfl, rfl, Nat.le_refl _, fun _ _ h => ⟨h, rfl⟩, fun _ _ _ => rfl, fun _ _ h => .inl h, fun _ h => .inl h, fun _ _ _ h => h⟩
theorem Qmo (newLen oldCap : Nat) (h : oldCap < newLen) : Builtin.nextslicecap newLen oldCap <= 2 * newLen + 1024 := by
 have grow : ∀ (r c : Nat), c <= newLen + newLen -> Builtin.growBy newLen r c <= 2 * newLen + 1024 := by
   intro r
   induction r with
   | zero => intro c hc; simp only [Builtin.growBy]; omega
   | succ r ih =>
     intro c hc
     simp only [Builtin.growBy]
     split
     · omega
     · by_cases hb : c + (c + 768) / 4 <= newLen + newLen
       · exact ih _ hb
       · cases r with
         | zero => simp only [Builtin.growBy]; omega
         | succ r => simp only [Builtin.growBy]; rw [if_pos (by omega)]; omega
 unfold Builtin.nextslicecap
 split
 · omega
 · split
   · omega
   · exact grow 4 oldCap (by omega)
theorem Kk (z : Array Value) (n : Nat) (hz : 0 < z.size) : (Builtin.zeroCells z n).toList = (List.replicate n z.toList).flatten := Xv z n hz
theorem wj {id ver wm off : Nat} {c c' : Q1} {ver' : Nat} {b n e lo hi : Nat} {vs vs1 : Array Value} {new : List Value} {nc : List AV} (hg : Good μ S w σ) {ty : Option Nat} (hid : σ[id]? = some (.arr c ver wm ty))
   (hμ : μ id ver = some (b, n)) (hb : w.heap[b]? = some (.cells vs e (lo, hi))) (hn : vs.size = n) (_hcl : c.len <= n)
   (hw : w1.heap[b]? = some (.cells vs1 e (lo, hi))) (hvs : vs1.toList = N0 vs.toList off new) (hroom : off + new.length <= n) (hblk : ∀ b', b' ≠ b -> w1.heap[b']? = w.heap[b']?)
   (hsz : w1.heap.size = w.heap.size) (ho : SameOut w w1) (hwm : wm <= off)
   (hnew : RepL S w μ nc new) (h1 : ∀ x ∈ new, one x = true)
   (hc' : ∀ j v, c'.get? j = some v -> (j < off /\ c.get? j = some v) ∨ (off <= j /\ j < off + new.length /\ nc[j - off]? = some v) ∨ (off + new.length <= j /\ c.get? j = some v)) (hcl' : c'.len <= n)
   (hver : ver' = ver ∨ ver' = ver + 1) {ty' : Option Nat} (hty : ty' = ty ∨ ty' = none := by first | exact .inl rfl | exact .inr rfl) :
   ∃ μ', Good μ' S w1 (σ.set id (.arr c' ver' wm ty')) /\ Frm μ S w σ μ' S w1 (σ.set id (.arr c' ver' wm ty')) /\ μ' id ver' = some (b, n) := by
 have hob := hg.obj id _ hid
 obtain ⟨b2, n2, h2, vs2, e2, lo2, hi2, h3, h4, h5, h6, h7, h8⟩ := hob
 rw [hμ] at h2
 cases h2
 rw [hb] at h3
 cases h3
 have hvl : vs.toList.length = vs.size := Array.length_toList
 let μ' := ext μ id ver' (b, n)
 have hμ' : ∀ i v x, μ i v = some x -> μ' i v = some x := by
   intro i v x h
   by_cases hi : i = id /\ v = ver'
   · obtain ⟨rfl, rfl⟩ := hi
     rcases hver with rfl | rfl
     · rw [hμ] at h; cases h; exact Gx _ _ _ _
     · obtain ⟨o, ho, hv, _⟩ := hg.old _ _ _ h
       rw [hid] at ho
       cases ho
       simp [Obj.ver] at hv
       omega
   · show ext μ id ver' (b, n) i v = some x
     rw [Bt hi]; exact h
 have hS : ∀ bb j, S bb j -> w1.cell? ⟨bb, j, none⟩ = w.cell? ⟨bb, j, none⟩ := by
   intro bb j h
   by_cases hbb : bb = b
   · subst hbb
     rw [Sk hw, Sk hb]
     have hj : ¬ (wm <= j /\ j < n) := fun hj => (h7 j hj.1 hj.2).1 h
     rw [<- Array.getElem?_toList, hvs, On _ _ _ _ (by omega)]
     by_cases hjn : j < n
     · rw [if_pos (by omega)]; simp
     · have hsz1 : vs.toList.length = vs.size := Array.length_toList
       rw [if_neg (by omega), if_neg (by omega)]; simp
   · exact E7 (hblk bb hbb)
 have hbs : b < w.heap.size := (Array.getElem?_eq_some_iff.1 hb).1
 have hobj : ObjOK S w1 μ' id (.arr c' ver' wm ty') := by
   refine ⟨b, n, Gx _ _ _ _, vs1, e, lo, hi, hw, ?_, hcl', ?_, fun j hj hjn => h7 j hj hjn, fun t ht => (by rcases hty with rfl | rfl; exact h8 t ht; cases ht)⟩
   · rw [<- hn, <- Array.length_toList, hvs, Ux _ _ _ (by omega), Array.length_toList]
   · intro j v hv
     have hmono : ∀ {v c}, Rep S w μ v c -> Rep S w1 μ' v c := fun h => h.mono (fun b o h => ⟨h, hS b o h⟩) hμ'
     have hat : vs1[j]? = (N0 vs.toList off new)[j]? := by rw [<- hvs]; simp
     rw [On _ _ _ _ (by omega)] at hat
     rcases hc' j v hv with ⟨hj, hv⟩ | ⟨hj, hj2, hv⟩ | ⟨hj, hv⟩
     · obtain ⟨cv, k1, k2, k3⟩ := h6 j v hv
       exact ⟨cv, by rw [hat, if_pos hj]; simpa using k1, k2, hmono k3⟩
     · obtain ⟨cv, k1, k3⟩ := hnew.get hv
       exact ⟨cv, by rw [hat, if_neg (by omega), if_pos hj2]; exact k1, h1 cv (List.mem_of_getElem? k1), hmono k3⟩
     · obtain ⟨cv, k1, k2, k3⟩ := h6 j v hv
       exact ⟨cv, by rw [hat, if_neg (by omega), if_neg (by omega)]; simpa using k1, k2, hmono k3⟩
 obtain ⟨g1, g2⟩ := Xq (w1 := w1) (μ' := μ') (o' := .arr c' ver' wm ty') (b' := b) (n' := n) hg hid rfl hμ (Gx _ _ _ _) (.inl rfl) hμ' (fun i v hi => Bt (by intro h; exact hi h.1)) (by
   intro v x h
   by_cases hv : v = ver'
   · subst hv
     rw [show μ' id v = _ from Gx _ _ _ _] at h
     cases h
     exact ⟨Nat.le_refl _, by rw [hsz]; exact hbs⟩
   · rw [show μ' id v = μ id v from Bt (by intro h; exact hv h.2)] at h
     obtain ⟨o, ho, hv2, hx⟩ := hg.old _ _ _ h
     rw [hid] at ho
     cases ho
     simp only [Obj.ver] at hv2 ⊢
     exact ⟨by omega, by omega⟩) (by omega) (fun bb _ hne => hblk bb hne) hS hobj ho
 exact ⟨μ', g1, g2, Gx _ _ _ _⟩
theorem Vu {c d : Q1} {off j : Nat} {v : AV} (hr : off + d.len <= c.len) (h : (O5 c off d).get? j = some v) :
   (j < off /\ c.get? j = some v) ∨ (off <= j /\ j < off + d.len /\ d.toList[j - off]? = some v) ∨ (off + d.len <= j /\ c.get? j = some v) := by
 rw [Q1.get?_toList, X8, On _ _ _ _ (by rw [<- Q1.len_toList, <- Q1.len_toList]; exact hr), <- Q1.len_toList] at h
 rw [Q1.get?_toList]
 split at h
 · exact .inl ⟨by assumption, h⟩
 · split at h
   · exact .inr (.inl ⟨by omega, by assumption, h⟩)
   · exact .inr (.inr ⟨by omega, h⟩)
theorem Uy {c d : Q1} {off : Nat} (hr : off + d.len <= c.len) : (O5 c off d).len = c.len := by
 rw [Q1.len_toList, X8, Ux _ _ _ (by rw [<- Q1.len_toList, <- Q1.len_toList]; exact hr), <- Q1.len_toList]
theorem Elems.drawn {cx : Value} {n : Nat} {vs : List Value} (h : Elems w cx n vs) (k : Nat) : Elems { w with drawn := k } cx n vs := by
 cases h with
 | str s => exact .str s
 | none a cap => exact .none a cap
 | at_ h => exact .at_ h
structure AppArgs (P : Program) (w : World) (t u e : Nat) (i : TypeInfo) (zc : Value) (cx : Value) (n : Nat) (new : List Value) : Prop where
 ht : P.underlying t = some (.slice e)
 hi : P.info? e = some i
 hz : i.zero = some zc
 zs : zc.cells.size = i.size
 pos : 0 < i.size
 by_ : i.bytes <= 4096
 len : new.length = n * i.size
 small : n <= LIM
 second : ((∃ d, P.underlying u = some d /\ (∀ k, d ≠ .int k)) /\ Elems w cx n new /\ (∀ s, cx = .string s -> i.size = 1)) ∨
   ((∃ k, P.underlying u = some (.int k)) /\ (∃ k, cx = .int k n) /\ new = (List.replicate n zc.cells.toList).flatten)
theorem AppArgs.inplace {t u e n sLen sCap : Nat} {i : TypeInfo} {zc cx : Value} {new : List Value} (h : AppArgs P w t u e i zc cx n new) (base : Option Addr) (hcap : sLen + n <= sCap)
   {w1 : World} (hst : (match base with | some ad => storeCells (ad.add (sLen * i.size)) new | none => pure () : Sem Unit).run P w = .ok () w1) (ty : TypeId) :
   (Builtin.append_ #[t, u] ty #[.slice base sLen sCap, cx]).run P w = .ok (.slice base (sLen + n) sCap) w1 := by
 have hsize : (sizeOf e).run P w = .ok i.size w := by simp [sizeOf, typeInfo, h.hi]
 have hinfo : (typeInfo e).run P w = .ok i w := by simp [typeInfo, h.hi]
 have hzv : (zeroValue e).run P w = .ok zc w := by simp [zeroValue, typeInfo, h.hi, h.hz]
 rcases h.second with ⟨⟨d, hd, hni⟩, hel, hstr⟩ | ⟨⟨k, hk⟩, ⟨k2, rfl⟩, hnew⟩
 · have hfirst := hel.first (P := P) h.len (Nat.le_refl n) hstr
   rw [<- h.len, List.take_length] at hfirst
   have hz : (match (generalizing := false) d with | .int _ => true | _ => false) = false := by cases d <;> first | rfl | exact absurd rfl (hni _)
   simp only [Builtin.append_, List.getElem?_toArray, List.getElem?_cons_zero, List.getElem?_cons_succ, Sem.run_bind, run_underlying h.ht, Result.andThen_ok, hsize, run_underlying hd, Sem.run_pure]
   simp only [Bool.false_eq_true, if_false, hel.lenOf, Result.andThen_ok, Bool.not_false, if_true, hcap, Sem.run_bind, hfirst]
   cases base with
   | none =>
     simp only [Sem.run_pure] at hst
     cases hst
     simp
   | some ad =>
     simp only at hst
     simp [hst]
 · have hw : IntKind.i64.wrap (n : Int) = n := IntWalk.i64_in _ (by have := h.small; simp only [LIM] at this; omega)
   have hsm : ¬ ((n : Int) * i.bytes > 2 ^ 48) := by
     have h1 : (n : Int) * i.bytes <= 4294967296 * 4096 := by
       have := h.small
       have := h.by_
       simp only [LIM] at *
       exact Int.mul_le_mul (by omega) (by omega) (by omega) (by omega)
     omega
   simp only [Builtin.append_, List.getElem?_toArray, List.getElem?_cons_zero, List.getElem?_cons_succ, Sem.run_bind, run_underlying h.ht, Result.andThen_ok, hsize, run_underlying hk, Sem.run_pure, if_true,
     asInt, asIntOf, hw, hinfo, hsm, if_false, Bool.not_true, Bool.false_eq_true, Int.toNat_natCast, show ¬ ((n : Int) < 0) from by omega, hcap]
   have happ : ((if n * i.size = 0 then pure #[] else do pure (Builtin.zeroCells (<- zeroValue e).cells n)) : Sem (Array Value)).run P w = .ok new.toArray w := by
     split
     · rename_i h0
       have : new = [] := by rw [<- List.length_eq_zero_iff]; rw [h.len]; exact h0
       subst this
       rfl
     · simp only [Sem.run_bind, hzv, Result.andThen_ok, Sem.run_pure]
       congr 1
       apply Array.ext'
       rw [Kk _ _ (by have := h.zs; have := h.pos; omega), hnew]
   simp only [happ, Result.andThen_ok]
   cases base with
   | none =>
     simp only [Sem.run_pure] at hst
     cases hst
     simp
   | some ad =>
     simp only at hst
     simp [hst]
theorem AppArgs.moved {t u e n sLen sCap : Nat} {i : TypeInfo} {zc cx : Value} {new old : List Value} (h : AppArgs P w t u e i zc cx n new) (base : Option Addr) (hcap : sCap < sLen + n) (hsm : sLen + n <= LIM)
   (hold : Elems w (.slice base sLen sCap) sLen old) (hol : old.length = sLen * i.size) (ty : TypeId) :
   ∃ cap rest, sLen + n <= cap /\ (old ++ new ++ rest : List Value).length = cap * i.size /\
     (Builtin.append_ #[t, u] ty #[.slice base sLen sCap, cx]).run P w = .ok (.slice (some ⟨w.heap.size, 0, none⟩) (sLen + n) cap) ({ w with drawn := w.drawn + 1 }.alloc (.cells (old ++ new ++ rest).toArray e)) := by
 have hsize : ∀ w, (sizeOf e).run P w = .ok i.size w := by simp [sizeOf, typeInfo, h.hi]
 have hinfo : ∀ w, (typeInfo e).run P w = .ok i w := by simp [typeInfo, h.hi]
 have hzv : ∀ w, (zeroValue e).run P w = .ok zc w := by simp [zeroValue, typeInfo, h.hi, h.hz]
 have hnot : ¬ (sLen + n <= sCap) := by omega
 have hbig : ¬ (((sLen + n : Nat) : Int) > IntKind.i64.max /\ (False ∨ i.bytes = 0)) := by simp only [LIM] at hsm; simp only [IntKind.max_i64]; omega
 have hbig2 : ¬ (((sLen + n : Nat) : Int) > IntKind.i64.max /\ (True ∨ i.bytes = 0)) := by simp only [LIM] at hsm; simp only [IntKind.max_i64]; omega
 have hnext : ¬ (Builtin.nextslicecap (sLen + n) sCap * i.bytes > 2 ^ 48) := by
   have h1 := Qmo (sLen + n) sCap hcap
   have h2 : Builtin.nextslicecap (sLen + n) sCap * i.bytes <= (2 * 4294967296 + 1024) * 4096 := by
     have := h.by_
     simp only [LIM] at hsm
     exact Nat.mul_le_mul (by omega) this
   omega
 have hchoose : ∀ w : World, (choose (.appendCap (sLen + n) sCap e)).run P w = .ok (sLen + n + w.tape w.drawn (.appendCap (sLen + n) sCap e) % (2 ^ 63 - (sLen + n))) { w with drawn := w.drawn + 1 } := by
   intro w
   simp [choose, Sem.run, Question.forced, Question.cut]
 have hask : ∀ (m : Nat) (w : World), (askRoom m).run P w = .ok () w := by
   intro m w
   unfold askRoom
   split <;> rfl
 generalize hcapv : sLen + n + w.tape w.drawn (.appendCap (sLen + n) sCap e) % (2 ^ 63 - (sLen + n)) = cap at *
 have hz0 : 0 < zc.cells.size := by have := h.zs; have := h.pos; omega
 have hoe := (hold.drawn (w.drawn + 1)).first (P := P) (esz := i.size) hol (Nat.le_refl sLen) (by intro s hs; cases hs)
 rw [<- hol, List.take_length] at hoe
 refine ⟨cap, (List.replicate (cap - (sLen + n)) zc.cells.toList).flatten, by omega, ?_, ?_⟩
 · have hfl : ∀ k, ((List.replicate k zc.cells.toList).flatten).length = k * i.size := by
     intro k
     have := h.zs
     simp [this]
   rw [List.length_append, List.length_append, hol, h.len, hfl, <- Nat.add_mul, <- Nat.add_mul]
   congr 1
   omega
 · have hrow : ∀ (x : Array Value), x.toList = old ++ new ++ (List.replicate (cap - (sLen + n)) zc.cells.toList).flatten -> x = (old ++ new ++ (List.replicate (cap - (sLen + n)) zc.cells.toList).flatten).toArray := by
     intro x hx; rw [<- hx]
   rcases h.second with ⟨⟨d, hd, hni⟩, hel, hstr⟩ | ⟨⟨k, hk⟩, ⟨k2, rfl⟩, hnew⟩
   · have hfirst := (hel.drawn (w.drawn + 1)).first (P := P) h.len (Nat.le_refl n) hstr
     rw [<- h.len, List.take_length] at hfirst
     have hz : (match (generalizing := false) d with | .int _ => true | _ => false) = false := by cases d <;> first | rfl | exact absurd rfl (hni _)
     simp only [Builtin.append_, List.getElem?_toArray, List.getElem?_cons_zero, List.getElem?_cons_succ, Sem.run_bind, run_underlying h.ht, Result.andThen_ok, hsize, run_underlying hd, Sem.run_pure]
     simp only [Bool.false_eq_true, if_false, hel.lenOf, Result.andThen_ok, Bool.not_false, if_true, hnot, Sem.run_bind, hinfo]
     rw [if_neg hbig]
     simp only [Sem.run_bind, hinfo, Result.andThen_ok]
     rw [if_neg hnext]
     simp only [Sem.run_bind, hchoose, hcapv, Result.andThen_ok, hinfo, hask, hoe, hfirst, hzv, Sem.run_pure]
     rw [hrow (old.toArray ++ new.toArray ++ Builtin.zeroCells zc.cells (cap - (sLen + n))) (by simp [Kk _ _ hz0])]
     simp [newRow]
   · have hw : IntKind.i64.wrap (n : Int) = n := IntWalk.i64_in _ (by have := h.small; simp only [LIM] at this; omega)
     have hsm : ¬ ((n : Int) * i.bytes > 2 ^ 48) := by
       have h1 : (n : Int) * i.bytes <= 4294967296 * 4096 := by
         have := h.small
         have := h.by_
         simp only [LIM] at *
         exact Int.mul_le_mul (by omega) (by omega) (by omega) (by omega)
       omega
     have happ : ∀ w : World, ((if n * i.size = 0 then pure #[] else do pure (Builtin.zeroCells (<- zeroValue e).cells n)) : Sem (Array Value)).run P w = .ok new.toArray w := by
       intro w
       split
       · rename_i h0
         have : new = [] := by rw [<- List.length_eq_zero_iff]; rw [h.len]; exact h0
         subst this
         rfl
       · simp only [Sem.run_bind, hzv, Result.andThen_ok, Sem.run_pure]
         congr 1
         apply Array.ext'
         rw [Kk _ _ hz0, hnew]
     simp only [Builtin.append_, List.getElem?_toArray, List.getElem?_cons_zero, List.getElem?_cons_succ, Sem.run_bind, run_underlying h.ht, Result.andThen_ok, hsize, run_underlying hk, Sem.run_pure, if_true,
       asInt, asIntOf, hw, hinfo, hsm, if_false, Bool.not_true, Bool.false_eq_true, Int.toNat_natCast, show ¬ ((n : Int) < 0) from by omega, hnot]
     rw [if_neg hbig2]
     simp only [Sem.run_bind, hinfo, Result.andThen_ok]
     rw [if_neg hnext]
     simp only [Sem.run_bind, hchoose, hcapv, Result.andThen_ok, hinfo, hask, hoe, happ, hzv, Sem.run_pure]
     rw [hrow (old.toArray ++ new.toArray ++ Builtin.zeroCells zc.cells (cap - (sLen + n))) (by simp [Kk _ _ hz0])]
     simp [newRow]
section
variable {M : Env} {a : Act} (hE : EnvOK S w μ M a.tmps) (hG : GlobOK S w G) (hg : Good μ S w σ)
include hE hG hg
theorem Qi5 {o : Oper} {n : Nat} {x y : Opd} {v : AV} {t : Nat} {ox ov : Operand} (ho : o.op = .store t ox ov) (hn : wJ8 P t = some n) (hx : cOpd G ox = some x) (hy : cOpd G ov = some y)
   (hv : Be M σ (.store n x y) = some (v, σ')) : Acts P S w μ σ (execOp a.eval o) v σ' := by
 obtain ⟨dst, op, oty, pos, after, guard⟩ := o
 simp only at ho
 subst ho
 simp only [Be] at hv
 split at hv
 · rename_i id ver off v' he hv'
   obtain ⟨b, m, hμ, e⟩ := (Jn hE hG hx he).ptrA
   have hr := Jn hE hG hy hv'
   split at hv
   · rename_i c vr wm ty0 hob
     split at hv
     · rename_i hcond
       obtain ⟨hfit, rfl, hlen, hwm, hroom⟩ := hcond
       simp only [Option.some.injEq, Prod.mk.injEq] at hv
       obtain ⟨rfl, rfl⟩ := hv
       obtain ⟨hcr, h1⟩ := Qam hr hfit
       obtain ⟨b', n', vs, et, lo, hi, e1, e2, e3, e4, e5, e6, e7⟩ := (hg.obj id _ hob).cells
       rw [hμ] at e1
       cases e1
       have hsz : (a.eval ov).cells.toList.length = n := by rw [<- hcr.length, <- Pr, <- Q1.len_toList, hlen]
       obtain ⟨w1, vs1, r1, r2, r3, r4, r5, r6⟩ := Pi (P := P) (o := off) (a.eval ov).cells.toList w vs 0 e2 (by omega) (fun j hj1 hj2 => (e7 j (by omega) (by omega)).2) h1
       obtain ⟨μ', g1, g2, g3⟩ := wj (c' := O5 c off v'.toCells) (ver' := vr) (nc := v'.cells) hg hob hμ e2 e3 e4 r2 r3 (by omega) r4 r5 r6 hwm hcr h1 (by
         intro j v hv
         rcases Vu (by omega) hv with h | h | h
         · exact .inl h
         · rw [Pr] at h
           exact .inr (.inl ⟨h.1, by omega, h.2.2⟩)
         · exact .inr (.inr ⟨by omega, h.2⟩)) (by rw [Uy (by omega)]; exact e4) (.inl rfl)
       refine ⟨.skip, undef, w1, μ', ?_, .skip, g1, g2, .p .undef⟩
       have hsz' : (a.eval ov).cells.size = n := by rw [<- Array.length_toList]; exact hsz
       simp only [execOp, Instr.storeAt, e, Instr.sureAddr, Sem.run_bind, Sem.run_pure, Result.andThen_ok, storeVar, Kr hn]
       rw [if_neg (by simp [hsz'])]
       simp only [r1, Result.andThen_ok]
     · cases hv
   · cases hv
 · cases hv
end
end Go.Ab
