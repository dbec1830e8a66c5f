/- AD -/
import Derived.Test.YtikebbklkiodlaaGreatDoorAbA13
import Derived.Orders
import Derived.OrdersIn
import Derived.ChangeSame
set_option maxRecDepth 1000000
set_option linter.all false
namespace Go.Ab
variable [Q4]
variable {S S' : Nat -> Nat -> Prop} {w w' w1 : World} {μ μ' : Nat -> Nat -> Option (Nat × Nat)} {P : Program} {G : Bx} {σ σ' : Heap}
theorem Xh {N : Nat} {ops : Array Oper} : ∀ {l : List Oper} {as : List AOper}, yp P G N ops l = some as ->
   as.length = l.length /\ ∀ (k : Nat) o, l[k]? = some o -> ∃ ao, as[k]? = some ao /\ Qcl P G N ops o = some ao
 | [], as, h => by simp [yp] at h; subst h; exact ⟨rfl, by simp⟩
 | x :: r, as, h => by
   simp only [yp] at h
   split at h
   · rename_i a l ha hl
     obtain rfl := Option.some.inj h
     obtain ⟨h1, h2⟩ := Xh hl
     refine ⟨by simp [h1], fun k o hk => ?_⟩
     cases k with
     | zero => simp at hk; subst hk; exact ⟨a, rfl, ha⟩
     | succ k => exact h2 k o (by simpa using hk)
   · cases h
def COperI (P : Program) (G : Bx) (N : Nat) (ops : Array Oper) (o : Oper) (ao : AOper) : Prop := ∃ ao0, Qcl P G N ops o = some ao0 /\ (ao = ao0 ∨ ao = imO ao0)
def Qe3 (P : Program) (G : Bx) (N : Nat) (ops : Array Oper) (as : List AOper) : Prop :=
 as.length = ops.toList.length /\ ∀ (k : Nat) o, ops.toList[k]? = some o -> ∃ ao, as[k]? = some ao /\ COperI P G N ops o ao
theorem Qm1 {N : Nat} {ops : Array Oper} {as : List AOper} (h : yp P G N ops ops.toList = some as) : Qe3 P G N ops as := by
 obtain ⟨h1, h2⟩ := Xh h
 refine ⟨h1, fun k o hk => ?_⟩
 obtain ⟨ao, h3, h4⟩ := h2 k o hk
 exact ⟨ao, h3, ao, h4, .inl rfl⟩
theorem Qcq {N : Nat} {ops : Array Oper} {as : List AOper} (h : yp P G N ops ops.toList = some as) : Qe3 P G N ops (as.map imO) := by
 obtain ⟨h1, h2⟩ := Xh h
 refine ⟨by rw [List.length_map, h1], fun k o hk => ?_⟩
 obtain ⟨ao, h3, h4⟩ := h2 k o hk
 exact ⟨imO ao, by rw [List.getElem?_map, h3]; rfl, ao, h4, .inr rfl⟩
theorem jp (op : AOp) : imOp op = op ∨ ∃ z l e ps, op = .buildSlice z l e ps /\ imOp op = .buildVals z l e ps := by
 cases op <;> first | exact .inl rfl | exact .inr ⟨_, _, _, _, rfl, rfl⟩
theorem COperI.E {N : Nat} {ops : Array Oper} {o : Oper} {ao : AOper} (h : COperI P G N ops o ao) (hE : isE ao.op = true) : Qcl P G N ops o = some ao := by
 obtain ⟨⟨dst, op, guard⟩, h1, rfl | rfl⟩ := h
 · exact h1
 · rcases jp op with e | ⟨z, l, es, ps, e, e'⟩
   · unfold imO; simp only [e]; exact h1
   · unfold imO at hE; simp only [e'] at hE; simp [isE] at hE
theorem COperI.op {N : Nat} {ops : Array Oper} {o : Oper} {ao : AOper} (h : COperI P G N ops o ao) :
   (cOp P G o.op = some ao.op ∨ ∃ z l e ps, ao.op = .buildVals z l e ps /\ cOp P G o.op = some (.buildSlice z l e ps)) /\ ao.dst = o.dst /\ Qcj N o.dst = true := by
 obtain ⟨ao0, h1, hh⟩ := h
 obtain ⟨h2, h3, h4⟩ := xz h1
 rcases hh with rfl | rfl
 · exact ⟨.inl h2, h3, h4⟩
 · refine ⟨?_, h3, h4⟩
   rcases jp ao0.op with e | ⟨z, l, es, ps, e, e'⟩
   · exact .inl (by unfold imO; simp only [e]; exact h2)
   · exact .inr ⟨z, l, es, ps, e', by rw [h2, e]⟩
theorem COperI.wanted {N : Nat} {ops : Array Oper} {o : Oper} {ao : AOper} {M : Env} {tmps : Array Value} {b : Bool} (hE : EnvOK S w μ M tmps) (h : COperI P G N ops o ao) (hw : Hv ao.guard M = some b) :
   Region.wanted o (yielded ops tmps) = b := by
 obtain ⟨ao0, h1, hh⟩ := h
 refine Wb hE h1 ?_
 rcases hh with rfl | rfl
 · exact hw
 · exact hw
theorem Qaj {ety esz n id : Nat} {s : AV} {new : Q1} {v : AV} (h : Dm σ ety esz s n new = some (v, σ')) (hid : id < σ.length) (hw : id ∉ refV s) : σ'[id]? = σ[id]? := by
 unfold Dm at h
 split at h
 · split at h
   · simp only [Option.some.injEq, Prod.mk.injEq] at h; rw [<- h.2]
   · split at h
     · simp only [Option.some.injEq, Prod.mk.injEq] at h; rw [<- h.2, List.getElem?_append_left hid]
     · cases h
 · split at h
   · simp only [Option.some.injEq, Prod.mk.injEq] at h; rw [<- h.2]
   · split at h
     · simp only [Option.some.injEq, Prod.mk.injEq] at h; rw [<- h.2, List.getElem?_append_left hid]
     · cases h
 · rename_i id' ver off len e
   have hne : id' ≠ id := fun he => hw (by simp [refV, he])
   split at h
   · split at h
     · split at h
       · simp only [Option.some.injEq, Prod.mk.injEq] at h; rw [<- h.2]
       · simp only [Option.some.injEq, Prod.mk.injEq] at h; rw [<- h.2, List.getElem?_set_ne hne]
     · cases h
   · cases h
 · cases h
theorem Qug {M : Env} {op : AOp} {v : AV} {id : Nat} (h : Be M σ op = some (v, σ')) (hid : id < σ.length) (hw : id ∉ Nz M σ op) : σ'[id]? = σ[id]? := by
 cases op with
 | store n x y =>
   simp only [Be] at h
   split at h
   · rename_i id' ver off u hx hy
     have hne : id' ≠ id := fun he => hw (by simp [Nz, hx, refV, he])
     split at h
     · split at h
       · simp only [Option.some.injEq, Prod.mk.injEq] at h; rw [<- h.2, List.getElem?_set_ne hne]
       · cases h
     · cases h
   · cases h
 | append ety esz z s x =>
   simp only [Be] at h
   split at h
   · rename_i s' x' hs hx
     split at h
     · exact Qaj h hid (fun hm => hw (by simpa [Nz, hs] using hm))
     · cases h
   · cases h
 | appendZ ety esz z s n =>
   simp only [Be] at h
   split at h
   · rename_i s' k n' hs hx
     split at h
     · exact Qaj h hid (fun hm => hw (by simpa [Nz, hs] using hm))
     · cases h
   · cases h
 | copy esz d s =>
   simp only [Be] at h
   split at h
   · rename_i d' s' hd hs
     split at h
     · split at h
       · rename_i id' ver off len e
         have hne : id' ≠ id := fun he => hw (by simp [Nz, hd, refV, he])
         split at h
         · split at h
           · simp only [Option.some.injEq, Prod.mk.injEq] at h; rw [<- h.2, List.getElem?_set_ne hne]
           · cases h
         · cases h
       · cases h
     · cases h
   · cases h
 | clear z esz x =>
   simp only [Be] at h
   split at h
   · rename_i id' ver off len e hx
     have hne : id' ≠ id := fun he => hw (by simp [Nz, hx, refV, he])
     split at h
     · simp only [Option.some.injEq, Prod.mk.injEq] at h; rw [<- h.2]
     · split at h
       · split at h
         · simp only [Option.some.injEq, Prod.mk.injEq] at h; rw [<- h.2, List.getElem?_set_ne hne]
         · cases h
       · cases h
   · simp only [Option.some.injEq, Prod.mk.injEq] at h; rw [<- h.2]
   · cases h
 | unsafeStr ety p n =>
   simp only [Be] at h
   split at h
   · simp only [Option.some.injEq, Prod.mk.injEq] at h; rw [<- h.2]
   · rename_i id' ver' n' hx hn
     have hne : id' ≠ id := fun he => hw (by simp [Nz, hx, refV, he])
     split at h
     · split at h
       · split at h
         · simp only [Option.some.injEq, Prod.mk.injEq] at h; rw [<- h.2, List.getElem?_set_ne hne]
         · cases h
       · cases h
     · cases h
   · cases h
 | nextStr x =>
   simp only [Be] at h
   split at h
   · rename_i id' hx
     have hne : id' ≠ id := fun he => hw (by simp [Nz, hx, refV, he])
     split at h
     · split at h
       · simp only [Option.some.injEq, Prod.mk.injEq] at h; rw [<- h.2, List.getElem?_set_ne hne]
       · simp only [Option.some.injEq, Prod.mk.injEq] at h; rw [<- h.2]
     · cases h
   · cases h
 | _ => simp [Be] at h
theorem Qox {M : Env} {op : AOp} {v : AV} {id : Nat} (h : yk M σ op = some (v, σ')) (hid : id < σ.length) (hw : id ∉ Nz M σ op) : σ'[id]? = σ[id]? := by
 unfold yk at h
 split at h
 · simp only [Option.some.injEq, Prod.mk.injEq] at h; rw [<- h.2]
 · split at h
   · simp only [Option.some.injEq, Prod.mk.injEq] at h; rw [<- h.2, List.getElem?_append_left hid]
   · split at h
     · simp only [Option.some.injEq, Prod.mk.injEq] at h; rw [<- h.2]
     · exact Qug h hid hw
theorem Qn6 {C : Zj} (hT : Tame C) {o : AOper} {st st1 : St} {ex : AExit} {id : Nat} (h : Me C [o] st = some (ex, st1)) (hid : id < st.heap.length) (hw : id ∉ Nz st.env st.heap o.op) : st1.heap[id]? = st.heap[id]? := by
 simp only [Me] at h
 split at h
 · cases h
 · simp only [Option.some.injEq, Prod.mk.injEq] at h; rw [<- h.2]
 · split at h
   · rename_i f args hop
     rw [hop] at hw
     split at h
     · rename_i fv as e1 e2
       split at h
       · rename_i f' as' ht
         simp only [Nz, e1, e2, ht] at hw
         split at h
         · rename_i v σ1 hcr
           simp only [Option.some.injEq, Prod.mk.injEq] at h
           rw [<- h.2]
           exact hT _ _ _ _ _ hcr id hid hw
         · rename_i v σ1 hcr
           simp only [Option.some.injEq, Prod.mk.injEq] at h
           rw [<- h.2]
           exact hT _ _ _ _ _ hcr id hid hw
         · cases h
       · cases h
     · cases h
   · split at h
     · split at h
       · simp only [Option.some.injEq, Prod.mk.injEq] at h; rw [<- h.2]
       · cases h
     · cases h
   · split at h
     · simp only [Option.some.injEq, Prod.mk.injEq] at h; rw [<- h.2]
     · simp only [Option.some.injEq, Prod.mk.injEq] at h; rw [<- h.2]
     · cases h
   · split at h
     · rename_i v σ1 hs
       simp only [Option.some.injEq, Prod.mk.injEq] at h
       rw [<- h.2]
       exact Qox hs hid hw
     · cases h
def Fact (C : Zj) (rds : List (Nat × Nat)) (wrs : List (Nat × Nat × List Nat)) (i : Nat) (o : AOper) (s s' : St) : Prop :=
 (Hv o.guard (B4 s.env (Yw o)) = some false /\ s' = { s with env := putE s.env o.dst (.p .undef) }) ∨
 (Hv o.guard (B4 s.env (Yw o)) = some true /\ isE o.op = false /\ ∃ v oid, Fj (B4 s.env (Yw o)) s.heap o.op = some (v, oid) /\ s' = { s with env := putE s.env o.dst v } /\ ∀ id, oid = some id -> (i, id) ∈ rds) ∨
 (Hv o.guard (B4 s.env (Yw o)) = some true /\ isE o.op = true /\ ∃ st1, Me C [o] { s with env := B4 s.env (Yw o) } = some (.normal, st1) /\ s' = { st1 with env := Sp s.env o.dst st1.env } /\
   (i, s.heap.length, Nz (B4 s.env (Yw o)) s.heap o.op) ∈ wrs)
theorem Fact.more {C : Zj} {rds rds' : List (Nat × Nat)} {wrs wrs' : List (Nat × Nat × List Nat)} {i : Nat} {o : AOper} {s s' : St} (h : Fact C rds wrs i o s s') (h1 : ∀ x ∈ rds, x ∈ rds') (h2 : ∀ x ∈ wrs, x ∈ wrs') : Fact C rds' wrs' i o s s' := by
 rcases h with h | ⟨a, b, v, oid, c, d, e⟩ | ⟨a, b, st1, c, d, e⟩
 · exact .inl h
 · exact .inr (.inl ⟨a, b, v, oid, c, d, fun id hid => h1 _ (e id hid)⟩)
 · exact .inr (.inr ⟨a, b, st1, c, d, h2 _ e⟩)
def Qob (C : Zj) (i : Nat) (os : List AOper) (tr tr' : Tr) (r : Option (Nat × AV)) : Prop :=
   (∀ x ∈ tr.rds, x ∈ tr'.rds) /\ (∀ x ∈ tr.wrs, x ∈ tr'.wrs) /\
   ∃ (f : Nat -> St) (k : Nat), f i = tr.st /\ k <= os.length /\ (∀ j o, os[j]? = some o -> j < k -> Fact C tr'.rds tr'.wrs (i + j) o (f (i + j)) (f (i + j + 1))) /\
     ((r = none /\ k = os.length /\ tr'.st = f (i + k)) ∨
       (∃ v o, r = some (i + k, v) /\ os[k]? = some o /\ Hv o.guard (B4 (f (i + k)).env (Yw o)) = some true /\ isE o.op = true /\ Me C [o] { f (i + k) with env := B4 (f (i + k)).env (Yw o) } = some (.pan v, tr'.st)))
theorem Vc {C : Zj} : ∀ (os : List AOper) (i : Nat) (tr tr' : Tr) (r : Option (Nat × AV)), Zy C i os tr = some (r, tr') -> Qob C i os tr tr' r
 | [], i, tr, tr', r, h => by
   simp only [Zy, Option.some.injEq, Prod.mk.injEq] at h
   obtain ⟨rfl, rfl⟩ := h
   exact ⟨fun _ h => h, fun _ h => h, fun _ => tr.st, 0, rfl, Nat.le_refl _, fun j o hj => by simp at hj, .inl ⟨rfl, rfl, rfl⟩⟩
 | o :: os, i, tr, tr', r, h => by
   simp only [Zy] at h
   have go : ∀ tr1 : Tr, Zy C (i + 1) os tr1 = some (r, tr') -> (∀ x ∈ tr.rds, x ∈ tr1.rds) -> (∀ x ∈ tr.wrs, x ∈ tr1.wrs) -> Fact C tr1.rds tr1.wrs i o tr.st tr1.st -> Qob C i (o :: os) tr tr' r := by
     intro tr1 h1 m1 m2 hf
     obtain ⟨q1, q2, f, k, q3, q4, q5, q6⟩ := Vc os (i + 1) tr1 tr' r h1
     refine ⟨fun x hx => q1 x (m1 x hx), fun x hx => q2 x (m2 x hx), fun j => if j = i then tr.st else f j, k + 1, by simp, by simp; omega, ?_, ?_⟩
     · intro j o' hj hjk
       cases j with
       | zero =>
         simp only [List.getElem?_cons_zero, Option.some.injEq] at hj
         subst hj
         have : ¬ (i + 0 + 1 = i) := by omega
         simp only [Nat.add_zero, if_true] at this ⊢
         rw [if_neg (by omega), q3]
         exact hf.more q1 q2
       | succ j =>
         have hx := q5 j o' (by simpa using hj) (by omega)
         simp only
         rw [if_neg (by omega), if_neg (by omega)]
         have e1 : i + (j + 1) = i + 1 + j := by omega
         rw [e1]
         exact hx
     · have e1 : i + (k + 1) = i + 1 + k := by omega
       simp only
       rw [if_neg (by omega), e1]
       rcases q6 with ⟨a, b, c⟩ | ⟨v, o', a, b, c⟩
       · exact .inl ⟨a, by simp [b], c⟩
       · exact .inr ⟨v, o', a, by simpa using b, c⟩
   split at h
   · cases h
   · rename_i hw
     exact go _ h (fun _ h => h) (fun _ h => h) (.inl ⟨hw, rfl⟩)
   · rename_i hw
     split at h
     · rename_i hE
       split at h
       · rename_i st1 hr
         exact go _ h (fun _ h => h) (fun _ h => List.mem_cons_of_mem _ h) (.inr (.inr ⟨hw, hE, st1, hr, rfl, List.mem_cons_self ..⟩))
       · rename_i v st1 hr
         simp only [Option.some.injEq, Prod.mk.injEq] at h
         obtain ⟨rfl, rfl⟩ := h
         exact ⟨fun _ h => h, fun _ h => h, fun _ => tr.st, 0, rfl, Nat.zero_le _, fun j o _ hj => absurd hj (by omega), .inr ⟨v, o, rfl, rfl, hw, hE, hr⟩⟩
       · cases h
     · rename_i hE
       split at h
       · rename_i v hs
         exact go _ h (fun _ h => h) (fun _ h => h) (.inr (.inl ⟨hw, hE, v, none, hs, rfl, fun _ h => by cases h⟩))
       · rename_i v id hs
         exact go _ h (fun _ h => List.mem_cons_of_mem _ h) (fun _ h => h) (.inr (.inl ⟨hw, hE, v, some id, hs, rfl, fun _ h => by cases h; exact List.mem_cons_self ..⟩))
       · cases h
end Go.Ab
namespace Go.Ab
variable [Q4]
variable {S S' : Nat -> Nat -> Prop} {w w' w1 : World} {μ μ' : Nat -> Nat -> Option (Nat × Nat)} {P : Program} {G : Bx} {σ σ' : Heap}
theorem Qhr {l acc : List Nat} {j : Nat} (h : (qk l acc).testBit j = true) : j ∈ l ∨ ∃ k ∈ l, (acc.getD k 0).testBit j = true := by
 induction l with
 | nil => simp [qk] at h
 | cons x r ih =>
   simp only [qk, List.foldr_cons, Nat.testBit_or, Bool.or_eq_true] at h
   rcases h with (h | h) | h
   · rcases ih h with h | ⟨k, h1, h2⟩
     · exact .inl (List.mem_cons_of_mem _ h)
     · exact .inr ⟨k, List.mem_cons_of_mem _ h1, h2⟩
   · rw [Nat.testBit_two_pow] at h
     simp only [decide_eq_true_eq] at h
     subst h
     exact .inl (List.mem_cons_self ..)
   · exact .inr ⟨x, List.mem_cons_self .., h⟩
theorem Qb2 : ∀ (l : List Oper) (acc : List Nat), ∃ ext, Ip l acc = acc ++ ext /\
   ∀ i o, l[i]? = some o -> (Ip l acc)[acc.length + i]? = some (qk (Ui o) ((Ip l acc).take (acc.length + i)))
 | [], acc => ⟨[], by simp [Ip], by simp⟩
 | o :: r, acc => by
   obtain ⟨ext, h1, h2⟩ := Qb2 r (acc ++ [qk (Ui o) acc])
   refine ⟨qk (Ui o) acc :: ext, by simp [Ip, h1], ?_⟩
   intro i o' hi
   cases i with
   | zero =>
     simp only [List.getElem?_cons_zero, Option.some.injEq] at hi
     subst hi
     simp only [Ip, h1, Nat.add_zero]
     simp
   | succ i =>
     have := h2 i o' (by simpa using hi)
     simp only [List.length_append, List.length_singleton] at this
     simp only [Ip]
     rw [show acc.length + (i + 1) = acc.length + 1 + i from by omega]
     exact this
structure DOK (anc : List Nat) (ops : List Oper) (aos : List AOper) : Prop where
 has : ∀ (i : Nat) (ao : AOper), aos[i]? = some ao -> ∃ o, ops[i]? = some o /\ ∀ j ∈ Ui o, j < i
 dst : ∀ (i k : Nat) (ai ak : AOper) (d : Nat), k ≠ i -> aos[i]? = some ai -> aos[k]? = some ak -> ak.dst = some d -> ai.dst ≠ some d
 rd : ∀ (i k : Nat) (ai ak : AOper) (d : Nat), k ≠ i -> aos[i]? = some ai -> aos[k]? = some ak -> ak.dst = some d -> d ∈ Yw ai -> if k < i then bef anc k i = true else bef anc i k = true
 ee : ∀ (i k : Nat) (ai ak : AOper), k ≠ i -> aos[i]? = some ai -> aos[k]? = some ak -> isE ai.op = true -> isE ak.op = true -> if k < i then bef anc k i = true ∨ F5 anc aos i = true else bef anc i k = true ∨ F5 anc aos k = true
 frd : ∀ (i k : Nat) (ai ak : AOper) (d : Nat), k ≠ i -> aos[i]? = some ai -> aos[k]? = some ak -> ak.dst = some d -> d ∈ Yw ai -> F5 anc aos k = true -> isE ai.op = true /\ F5 anc aos i = false
theorem Qjb {anc : List Nat} {ops : List Oper} {aos : List AOper} (h : Qha anc ops aos = true) : DOK anc ops aos := by
 simp only [Qha, List.all_eq_true, List.mem_range] at h
 have get : ∀ {i : Nat} {ao : AOper}, aos[i]? = some ao -> i < aos.length := fun h => (List.getElem?_eq_some_iff.1 h).1
 have pair : ∀ (i k : Nat) (ai ak : AOper), k ≠ i -> aos[i]? = some ai -> aos[k]? = some ak ->
     ((match ak.dst with
           | some d => (match ai.dst with
             | some d' => !(Nat.beq d d')
             | none => true) && (!(Yw ai).contains d || ((if k < i then bef anc k i else bef anc i k) && (!(F5 anc aos k) || (isE ai.op && !(F5 anc aos i)))))
           | none => true) = true /\ (!(isE ai.op && isE ak.op) || (if k < i then bef anc k i else bef anc i k) || (if k < i then F5 anc aos i else F5 anc aos k)) = true) := by
   intro i k ai ak hne hi hk
   have h1 := h i (get hi)
   rw [hi] at h1
   split at h1
   · rename_i o ao _ hao
     obtain rfl := Option.some.inj hao
     simp only [Bool.and_eq_true, List.all_eq_true, List.mem_range] at h1
     have h2 := h1.2 k (get hk)
     rw [hk] at h2
     simp only [Bool.or_eq_true, decide_eq_true_eq, hne, false_or, Bool.and_eq_true] at h2
     simp only [Bool.or_eq_true]
     exact h2
   · cases h1
 refine ⟨?_, ?_, ?_, ?_, ?_⟩
 · intro i ao hi
   have h1 := h i (get hi)
   rw [hi] at h1
   split at h1
   · rename_i o ao' ho _
     simp only [Bool.and_eq_true, List.all_eq_true, decide_eq_true_eq] at h1
     exact ⟨o, ho, h1.1⟩
   · cases h1
 · intro i k ai ak d hne hi hk hd hd'
   have := (pair i k ai ak hne hi hk).1
   simp only [hd, hd', Bool.and_eq_true, Nat.beq_refl] at this
   simp at this
 · intro i k ai ak d hne hi hk hd hm
   have := (pair i k ai ak hne hi hk).1
   simp only [hd, Bool.and_eq_true, Bool.or_eq_true] at this
   rcases this.2 with h1 | ⟨h1, _⟩
   · simp at h1; exact absurd hm h1
   · split <;> rename_i hlt
     · rw [if_pos hlt] at h1; exact h1
     · rw [if_neg hlt] at h1; exact h1
 · intro i k ai ak hne hi hk e1 e2
   have := (pair i k ai ak hne hi hk).2
   simp only [e1, e2, Bool.and_self, Bool.not_true, Bool.false_or, Bool.or_eq_true] at this
   split <;> rename_i hlt
   · rw [if_pos hlt, if_pos hlt] at this; exact this
   · rw [if_neg hlt, if_neg hlt] at this; exact this
 · intro i k ai ak d hne hi hk hd hm hfr
   have := (pair i k ai ak hne hi hk).1
   simp only [hd, Bool.and_eq_true, Bool.or_eq_true] at this
   rcases this.2 with h1 | ⟨_, h1⟩
   · simp at h1; exact absurd hm h1
   · rcases h1 with h1 | ⟨h1, h2⟩
     · rw [hfr] at h1; cases h1
     · exact ⟨h1, by simpa using h2⟩
theorem Qtq {ops : List Oper} {aos : List AOper} (hok : DOK (Ip ops []) ops aos) {D : Nat -> Prop} (hcl : ∀ k o, D k -> ops[k]? = some o -> ∀ j ∈ Ui o, D j) :
   ∀ (i : Nat) (ai : AOper) (o : Oper), aos[i]? = some ai -> ops[i]? = some o -> (∀ j ∈ Ui o, D j) -> ∀ j, bef (Ip ops []) j i = true -> D j := by
 intro i
 induction i using Nat.strongRecOn with
 | _ i ih =>
   intro ai o hi ho hd j hj
   obtain ⟨o', ho', hlt⟩ := hok.has i ai hi
   rw [ho] at ho'
   obtain rfl := Option.some.inj ho'
   obtain ⟨ext, h1, h2⟩ := Qb2 ops []
   have h3 := h2 i o ho
   simp only [List.length_nil, Nat.zero_add] at h3
   unfold bef at hj
   rw [List.getD_eq_getElem?_getD, h3, Option.getD_some] at hj
   rcases Qhr hj with h4 | ⟨k, hk, h4⟩
   · exact hd j h4
   · have hki := hlt k hk
     have h5 : bef (Ip ops []) j k = true := by
       unfold bef
       rw [List.getD_eq_getElem?_getD, List.getElem?_take, if_pos hki] at h4
       rw [List.getD_eq_getElem?_getD]
       exact h4
     have hDk := hd k hk
     have hak : k < aos.length := Nat.lt_trans hki (List.getElem?_eq_some_iff.1 hi).1
     have hak' : aos[k]? = some aos[k] := by simp [hak]
     obtain ⟨ok, hok', _⟩ := hok.has k _ hak'
     exact ih k hki _ ok hak' hok' (hcl k ok hDk hok') j h5
theorem Qpi {M : Env} {l : List Nat} {t : Nat} {v : AV} (h : (B4 M l).get t = some v) : t ∈ l /\ M.get t = some v := by
 induction l with
 | nil => simp [B4, Env.get] at h
 | cons x r ih =>
   simp only [B4] at h
   split at h
   · rename_i u hu
     rw [Env.get_cons] at h
     split at h
     · rename_i hx; subst hx; exact ⟨List.mem_cons_self .., by rw [<- h]; exact hu⟩
     · exact ⟨List.mem_cons_of_mem _ (ih h).1, (ih h).2⟩
   · exact ⟨List.mem_cons_of_mem _ (ih h).1, (ih h).2⟩
theorem Qlf {M : Env} {dst : Option Nat} {v : AV} {t : Nat} (h : dst ≠ some t) : (putE M dst v).get t = M.get t := by
 cases dst with
 | none => rfl
 | some d => simp only [putE, Env.get_cons]; rw [if_neg (fun e => h (by rw [e]))]
theorem Qqv {M M1 : Env} {dst : Option Nat} {t : Nat} (h : dst ≠ some t) : (Sp M dst M1).get t = M.get t := by
 cases dst with
 | none => rfl
 | some d => simp only [Sp]; split <;> (rw [Env.get_cons, if_neg (fun e => h (by rw [e]))])
section
variable {C : Zj} {rds : List (Nat × Nat)} {wrs : List (Nat × Nat × List Nat)} {aos : List AOper} {f : Nat -> St} {m : Nat}
theorem zu (hf : ∀ k o, aos[k]? = some o -> k < m -> Fact C rds wrs k o (f k) (f (k + 1))) (hm : m <= aos.length) {t : Nat} :
   ∀ (d i : Nat), i + d <= m -> (∀ k o, i <= k -> k < i + d -> aos[k]? = some o -> o.dst ≠ some t) -> (f (i + d)).env.get t = (f i).env.get t := by
 intro d
 induction d with
 | zero => intros; rfl
 | succ d ih =>
   intro i hle hno
   rw [<- ih i (by omega) (fun k o h1 h2 => hno k o h1 (by omega))]
   have hlt : i + d < aos.length := by omega
   have hget : aos[i + d]? = some aos[i + d] := by simp [hlt]
   have hne := hno (i + d) _ (by omega) (by omega) hget
   rw [show i + (d + 1) = i + d + 1 from by omega]
   rcases hf (i + d) _ hget (by omega) with ⟨_, h⟩ | ⟨_, _, v, oid, _, h, _⟩ | ⟨_, _, st1, _, h, _⟩
   · rw [h]; exact Qlf hne
   · rw [h]; exact Qlf hne
   · rw [h]; exact Qqv hne
theorem Qjf (hf : ∀ k o, aos[k]? = some o -> k < m -> Fact C rds wrs k o (f k) (f (k + 1))) (hm : m <= aos.length) :
   ∀ (d i : Nat), i + d <= m -> (∀ k o, i <= k -> k < i + d -> aos[k]? = some o -> isE o.op = false) -> (f (i + d)).heap = (f i).heap /\ (f (i + d)).defers = (f i).defers := by
 intro d
 induction d with
 | zero => intros; exact ⟨rfl, rfl⟩
 | succ d ih =>
   intro i hle hno
   have hi := ih i (by omega) (fun k o h1 h2 => hno k o h1 (by omega))
   have hlt : i + d < aos.length := by omega
   have hget : aos[i + d]? = some aos[i + d] := by simp [hlt]
   have hne := hno (i + d) _ (by omega) (by omega) hget
   rw [show i + (d + 1) = i + d + 1 from by omega]
   rcases hf (i + d) _ hget (by omega) with ⟨_, h⟩ | ⟨_, _, v, oid, _, h, _⟩ | ⟨_, hE, st1, _, h, _⟩
   · rw [h]; exact hi
   · rw [h]; exact hi
   · rw [hE] at hne; cases hne
theorem Qj0 (hTm : Tame C) (hf : ∀ k o, aos[k]? = some o -> k < m -> Fact C rds wrs k o (f k) (f (k + 1))) (hm : m <= aos.length) {id : Nat} :
   ∀ (d i : Nat), i + d <= m -> (∀ k o, i <= k -> k < i + d -> aos[k]? = some o -> isE o.op = true -> ∀ len wr, (k, len, wr) ∈ wrs -> id < len /\ id ∉ wr) -> (f (i + d)).heap[id]? = (f i).heap[id]? := by
 intro d
 induction d with
 | zero => intros; rfl
 | succ d ih =>
   intro i hle hno
   have hi := ih i (by omega) (fun k o h1 h2 => hno k o h1 (by omega))
   have hlt : i + d < aos.length := by omega
   have hget : aos[i + d]? = some aos[i + d] := by simp [hlt]
   have hne := hno (i + d) _ (by omega) (by omega) hget
   rw [show i + (d + 1) = i + d + 1 from by omega]
   rcases hf (i + d) _ hget (by omega) with ⟨_, h⟩ | ⟨_, _, v, oid, _, h, _⟩ | ⟨_, hE, st1, hr, h, hw⟩
   · rw [h]; exact hi
   · rw [h]; exact hi
   · obtain ⟨q1, q2⟩ := hne hE _ _ hw
     rw [h, <- hi]
     have hfin := Qn6 hTm (st := { f (i + d) with env := B4 (f (i + d)).env (Yw aos[i + d]) }) (st1 := st1) hr q1 q2
     exact hfin
end
theorem Vg {F : Fence} {n : Nat} {ops : Array Oper} {Q Q' : Exit -> Act -> World -> Prop} {K K' : Act -> World -> Prop} {i : Nat} {o : Oper} {a : Act} (ho : ops[i]? = some o)
   (hk : ∀ a' w', K a' w' -> (∀ t, o.dst ≠ some t -> a'.tmps.getD t undef = a.tmps.getD t undef) -> K' a' w')
   (hq : ∀ e a' w', e ≠ .normal -> Q e a' w' -> (a' = a ∨ e = .outgrown) -> Q' e a' w') (h : wpOpIn F n P ops Q i K a w) : wpOpIn F n P ops Q' i K' a w := by
 have hput : ∀ (v : Value) (ds : List Deferred), ∀ t, o.dst ≠ some t -> (({ a with defers := ds } : Act).put o.dst v).tmps.getD t undef = a.tmps.getD t undef := by
   intro v ds t ht
   cases hd : o.dst with
   | none => rfl
   | some d =>
     have hne : d ≠ t := fun e => ht (by rw [hd, e])
     simp [Act.put, hne]
 unfold wpOpIn at h ⊢
 rw [ho] at h ⊢
 simp only at h ⊢
 split
 · rename_i hw
   rw [if_pos hw] at h
   refine ⟨h.1, ?_⟩
   have h := h.2
   generalize (o.semAt F.round a.eval).run P w = r at *
   cases r with
   | ok x w' =>
     cases x <;> simp only [Oper.uponIn] at h ⊢ <;>
       first
         | exact hk _ _ h (hput _ _)
         | exact ⟨h.1, CallsIn.mono h.2 (fun e w'' he => by
             cases e with
             | returned v => exact hk _ _ he (hput _ _)
             | panicked ch => exact hq _ _ _ (by simp) he (.inl rfl)
             | outgrown => exact let ⟨a0, w0, h0⟩ := he; ⟨a0, w0, hq _ _ _ (by simp) h0 (.inr rfl)⟩)⟩
         | exact ⟨h.1, RowsIn.mono h.2 (fun _ _ he => hk _ _ he (hput _ _))⟩
         | exact ⟨h.1, RoundIn.mono h.2 (fun e w'' he => by
             cases e with
             | returned v => exact hk _ _ he (hput _ _)
             | panicked ch => exact hq _ _ _ (by simp) he (.inl rfl)
             | outgrown => exact let ⟨a0, w0, h0⟩ := he; ⟨a0, w0, hq _ _ _ (by simp) h0 (.inr rfl)⟩)⟩
   | halt x w' => cases x <;> simp only [Oper.uponIn] at h ⊢ <;> first | exact h.elim | exact hq _ _ _ (by simp) h (.inl rfl)
 · rename_i hw
   rw [if_neg hw] at h
   exact ⟨h.1, hk _ _ h.2 (hput _ _)⟩
end Go.Ab
namespace Go.Ab
variable [Q4]
open Go.RowKit
variable {S S' : Nat -> Nat -> Prop} {w w' w1 : World} {μ μ' : Nat -> Nat -> Option (Nat × Nat)} {P : Program} {G : Bx} {σ σ' : Heap}
theorem Qc4 {b o : Nat} (h : b < w.heap.size) (hb : Below w.heap.size w w') : w'.cell? ⟨b, o, none⟩ = w.cell? ⟨b, o, none⟩ := by
 unfold World.cell?
 rw [hb.block b h]
theorem ju (hg : Good μ S w σ) (hb : Below w.heap.size w w') : Good μ S w' σ /\ Frm μ S w σ μ S w' σ := by
 have hS : ∀ b o, S b o -> S b o /\ w'.cell? ⟨b, o, none⟩ = w.cell? ⟨b, o, none⟩ := fun b o hs => ⟨hs, Qc4 (hg.sb b o hs) hb⟩
 constructor
 · refine ⟨fun id o ho => ?_, hg.inj, fun id ver x h => ?_, fun b o hs => Nat.lt_of_lt_of_le (hg.sb b o hs) hb.size⟩
   · have hob := hg.obj id o ho
     cases o with
     | arr c ver wm ty =>
       obtain ⟨b, n, h1, vs, e, lo, hi, h2, h3, h4, h5, h6, h7⟩ := hob
       have hlt : b < w.heap.size := by obtain ⟨_, _, _, hx⟩ := hg.old _ _ _ h1; exact hx
       exact ⟨b, n, h1, vs, e, lo, hi, by rw [hb.block b hlt]; exact h2, h3, h4, fun j v hv => let ⟨cv, q1, q2, q3⟩ := h5 j v hv; ⟨cv, q1, q2, q3.mono hS (fun _ _ _ h => h)⟩, h6, h7⟩
     | iter s pos =>
       obtain ⟨b, n, cs, h1, h2, h3⟩ := hob
       have hlt : b < w.heap.size := by obtain ⟨_, _, _, hx⟩ := hg.old _ _ _ h1; exact hx
       exact ⟨b, n, cs, h1, by rw [hb.block b hlt]; exact h2, h3⟩
     | loop k ts c st =>
       obtain ⟨b, n, rec, h1, h2, h3, h4, h5⟩ := hob
       have hlt : b < w.heap.size := by obtain ⟨_, _, _, hx⟩ := hg.old _ _ _ h1; exact hx
       exact ⟨b, n, rec, h1, by rw [hb.block b hlt]; exact h2, h3, h4, fun j t v ht hj => (h5 j t v ht hj).mono hS (fun _ _ _ h => h)⟩
     | mark =>
       obtain ⟨b, n, h1, h2⟩ := hob
       have hlt : b < w.heap.size := by obtain ⟨_, _, _, hx⟩ := hg.old _ _ _ h1; exact hx
       exact ⟨b, n, h1, by rw [hb.block b hlt]; exact h2⟩
     | none => trivial
   · obtain ⟨o, h1, h2, h3⟩ := hg.old _ _ _ h
     exact ⟨o, h1, h2, Nat.lt_of_lt_of_le h3 hb.size⟩
 · exact ⟨hb.os, hb.tape, hb.output, hb.size, hS, fun b h _ => hb.block b h, fun _ _ h => .inl h, fun _ h => .inl h, fun _ _ _ h => h⟩
theorem Qav {anc : List Nat} {aos : List AOper} {k : Nat} (h : F5 anc aos k = true) : ∃ ak ty z t, aos[k]? = some ak /\ ak.op = .alloc ty z /\ ak.guard = none /\ ak.dst = some t := by
 unfold F5 at h
 split at h
 · rename_i ak hak
   simp only [Bool.and_eq_true] at h
   have h1 := h.1
   split at h1
   · rename_i ty z t e1 e2 e3
     exact ⟨ak, ty, z, t, hak, e1, e2, e3⟩
   · cases h1
 · cases h
theorem Qpc {C : Zj} {rds : List (Nat × Nat)} {wrs : List (Nat × Nat × List Nat)} {k : Nat} {ak : AOper} {s s' : St} {ty : Nat} {z : List AV} {t : Nat} (hf : Fact C rds wrs k ak s s') (h1 : ak.op = .alloc ty z) (h2 : ak.guard = none) (h3 : ak.dst = some t) :
   s'.heap = s.heap ++ [.arr (Kp z) 0 0 (some ty)] /\ s'.defers = s.defers /\ s'.env.get t = some (.ptr s.heap.length 0 0) := by
 obtain ⟨dst, op, guard⟩ := ak
 simp only at h1 h2 h3
 subst h1 h2 h3
 rcases hf with ⟨hw, _⟩ | ⟨_, hE, _⟩ | ⟨_, _, st1, hr, rfl, _⟩
 · simp [Hv] at hw
 · simp [isE] at hE
 · simp [Me, Hv, yk, G2, Jp, putE] at hr
   subst hr
   exact ⟨rfl, rfl, by simp [Sp, Env.get_cons]⟩
def Pend (μ : Nat -> Nat -> Option (Nat × Nat)) (S : Nat -> Nat -> Prop) (w : World) (σ : Heap) (w0 : World) (a : Act) (ak : AOper) (b : Nat) : Prop :=
 ∃ z t vs et, ak.op = .alloc et z /\ ak.dst = some t /\ a.tmps.getD t undef = .pointer (some ⟨b, 0, none⟩) /\ w.heap[b]? = some (.cells vs et (0, 0)) /\
   (∀ (S : Nat -> Nat -> Prop) (w : World) (μ : Nat -> Nat -> Option (Nat × Nat)), RepL S w μ z vs.toList) /\ (∀ x ∈ vs.toList, one x = true) /\ w0.heap.size <= b /\ ¬ Dom μ σ b /\ ∀ o, ¬ S b o
theorem Pend.lt {w0 : World} {a : Act} {ak : AOper} {b : Nat} (h : Pend μ S w σ w0 a ak b) : b < w.heap.size := by
 obtain ⟨_, _, _, _, _, _, _, hb, _⟩ := h
 exact (Array.getElem?_eq_some_iff.1 hb).1
theorem Pend.frm {w0 : World} {a a' : Act} {ak : AOper} {b : Nat} (h : Pend μ S w σ w0 a ak b) (hf : Frm μ S w σ μ' S' w' σ') (ha : ∀ t, ak.dst = some t -> a'.tmps.getD t undef = a.tmps.getD t undef) : Pend μ' S' w' σ' w0 a' ak b := by
 have hlt := h.lt
 obtain ⟨z, t, vs, et, h1, h2, h3, h4, h5, h6, h7, h8, h9⟩ := h
 refine ⟨z, t, vs, et, h1, h2, by rw [ha t h2]; exact h3, by rw [hf.keepB b hlt h8]; exact h4, h5, h6, h7, fun hd => ?_, fun o hs => ?_⟩
 · rcases hf.newD b hd with h | h
   · exact h8 h
   · omega
 · rcases hf.newS b o hs with h | h | h
   · exact h9 o h
   · exact h8 h
   · omega
theorem Qq5 {b et : Nat} {c : Q1} {vs : Array Value} (hg : Good μ S w σ) (hb : w.heap[b]? = some (.cells vs et (0, 0))) (hd : ¬ Dom μ σ b) (hs : ∀ o, ¬ S b o)
   (hl : c.len <= vs.size) (hr : RepL S w μ c.toList (vs.toList.take c.len)) (h1 : ∀ x ∈ vs.toList.take c.len, one x = true) :
   Good (ext μ σ.length 0 (b, vs.size)) S w (σ ++ [.arr c 0 0 (some et)]) /\ (∀ id ver x, μ id ver = some x -> ext μ σ.length 0 (b, vs.size) id ver = some x) /\
   ∀ b', Dom (ext μ σ.length 0 (b, vs.size)) (σ ++ [.arr c 0 0 (some et)]) b' -> Dom μ σ b' ∨ b' = b := by
 have hblt : b < w.heap.size := (Array.getElem?_eq_some_iff.1 hb).1
 have hμ : ∀ id ver x, μ id ver = some x -> ext μ σ.length 0 (b, vs.size) id ver = some x := by
   intro id ver x h
   rw [Bt]
   · exact h
   · rintro ⟨rfl, rfl⟩
     obtain ⟨o, ho, _⟩ := hg.old _ _ _ h
     simp at ho
 have hS : ∀ b o, S b o -> S b o /\ w.cell? ⟨b, o, none⟩ = w.cell? ⟨b, o, none⟩ := fun b o h => ⟨h, rfl⟩
 have hget : ∀ id o', (σ ++ [Obj.arr c 0 0 (some et)])[id]? = some o' -> (id < σ.length /\ σ[id]? = some o') ∨ (id = σ.length /\ o' = .arr c 0 0 (some et)) := by
   intro id o' h
   by_cases hid : id < σ.length
   · rw [List.getElem?_append_left hid] at h; exact .inl ⟨hid, h⟩
   · rw [List.getElem?_append_right (by omega)] at h
     have : id - σ.length = 0 := by
       rcases Nat.eq_zero_or_pos (id - σ.length) with h0 | h0
       · exact h0
       · rw [List.getElem?_eq_none (by simp; omega)] at h; cases h
     rw [this] at h
     exact .inr ⟨by omega, (Option.some.inj h).symm⟩
 have hne : ∀ id o' m, σ[id]? = some o' -> o'.live = true -> ext μ σ.length 0 (b, vs.size) id o'.ver = some (b, m) -> False := by
   intro id o' m h1 h2 h3
   have hid : id < σ.length := (List.getElem?_eq_some_iff.1 h1).1
   rw [Bt (by omega)] at h3
   exact hd ⟨id, o', m, h1, h2, h3⟩
 refine ⟨⟨?_, ?_, ?_, hg.sb⟩, hμ, ?_⟩
 · intro id o' h
   rcases hget id o' h with ⟨hid, h⟩ | ⟨rfl, rfl⟩
   · exact (hg.obj id o' h).mono hS hμ (fun _ _ _ => rfl) (fun _ _ _ _ _ h => h)
   · exact zw hb (Gx _ _ _ _) rfl hl (hr.mono hS hμ) h1 (fun j => hs j) (.inl (Nat.le_refl _))
 · intro id id' o1 o2 b2 m m' h1 h2 l1 l2 e1 e2
   rcases hget id o1 h1 with ⟨hid, g1⟩ | ⟨i1, j1⟩ <;> rcases hget id' o2 h2 with ⟨hid', g2⟩ | ⟨i2, j2⟩
   · rw [Bt (by omega)] at e1 e2
     exact hg.inj _ _ _ _ _ _ _ g1 g2 l1 l2 e1 e2
   · rw [i2, j2] at e2
     erw [Gx] at e2
     cases e2
     exact (hne _ _ _ g1 l1 e1).elim
   · rw [i1, j1] at e1
     erw [Gx] at e1
     cases e1
     exact (hne _ _ _ g2 l2 e2).elim
   · omega
 · intro id ver x h
   by_cases hid : id = σ.length /\ ver = 0
   · obtain ⟨rfl, rfl⟩ := hid
     rw [Gx] at h
     cases h
     exact ⟨.arr c 0 0 (some et), by simp, Nat.zero_le _, hblt⟩
   · rw [Bt hid] at h
     obtain ⟨o', h1, h2, h3⟩ := hg.old _ _ _ h
     exact ⟨o', by rw [List.getElem?_append_left (List.getElem?_eq_some_iff.1 h1).1]; exact h1, h2, h3⟩
 · rintro b' ⟨id, o', m, h1, h2, h3⟩
   rcases hget id o' h1 with ⟨hid, h1⟩ | ⟨rfl, rfl⟩
   · rw [Bt (by omega)] at h3
     exact .inl ⟨id, o', m, h1, h2, h3⟩
   · erw [Gx] at h3
     cases h3
     exact .inr rfl
def Qe5 (G : Bx) (N : Nat) (anc : List Nat) (aos : List AOper) (f : Nat -> St) (μ0 : Nat -> Nat -> Option (Nat × Nat)) (S0 : Nat -> Nat -> Prop) (w0 : World) (q : Nat) (D : Nat -> Prop) (a : Act) (w : World)
   (μ : Nat -> Nat -> Option (Nat × Nat)) (S : Nat -> Nat -> Prop) (pd : Nat -> Nat) : Prop :=
 (∀ (k : Nat) (ak : AOper), aos[k]? = some ak -> isE ak.op = true -> k < q -> D k) /\ (∀ (k : Nat) (ak : AOper), aos[k]? = some ak -> isE ak.op = true -> D k -> k < q ∨ F5 anc aos k = true) /\
   Good μ S w (f q).heap /\ GlobOK S w G /\ a.tmps.size = N /\ DefRep S w μ (f q).defers a.defers /\ Frm μ0 S0 w0 (f 0).heap μ S w (f q).heap /\
   (∀ (t : Nat) (v : AV), (∀ (k : Nat) (ak : AOper), D k -> aos[k]? = some ak -> ak.dst ≠ some t) -> (f 0).env.get t = some v -> Rep S w μ v (a.tmps.getD t undef)) /\
   (∀ (k : Nat) (ak : AOper) (t : Nat) (v : AV), D k -> aos[k]? = some ak -> k < q ∨ isE ak.op = false -> ak.dst = some t -> (f (k + 1)).env.get t = some v -> Rep S w μ v (a.tmps.getD t undef)) /\
   (∀ (k : Nat) (ak : AOper), D k -> aos[k]? = some ak -> q <= k -> isE ak.op = true -> Pend μ S w (f q).heap w0 a ak (pd k)) /\
   (∀ (k k' : Nat) (ak ak' : AOper), D k -> D k' -> aos[k]? = some ak -> aos[k']? = some ak' -> q <= k -> q <= k' -> isE ak.op = true -> isE ak'.op = true -> pd k = pd k' -> k = k')
def DInv (G : Bx) (N : Nat) (anc : List Nat) (aos : List AOper) (f : Nat -> St) (m : Nat) (μ0 : Nat -> Nat -> Option (Nat × Nat)) (S0 : Nat -> Nat -> Prop) (w0 : World) (D : Nat -> Prop) (a : Act) (w : World) : Prop :=
 ∃ q, q <= m /\ ∃ μ S pd, Qe5 G N anc aos f μ0 S0 w0 q D a w μ S pd
section
variable {C : Zj} {rds : List (Nat × Nat)} {wrs : List (Nat × Nat × List Nat)} {aos : List AOper} {f : Nat -> St} {m N : Nat} {ops : Array Oper} {anc : List Nat}
theorem Qrm {id i : Nat} {ob o : Obj} (h : (oneH id ob)[i]? = some o) : (i = id /\ o = ob) ∨ o = .none := by
 unfold oneH at h
 rw [List.getElem?_append] at h
 split at h
 · rw [List.getElem?_replicate] at h
   split at h
   · exact .inr (Option.some.inj h).symm
   · cases h
 · rename_i hlt
   simp only [List.length_replicate] at h hlt
   by_cases he : i = id
   · subst he
     simp at h
     exact .inl ⟨rfl, h.symm⟩
   · have : i - id ≠ 0 := by omega
     rw [List.getElem?_eq_none (by simp; omega)] at h
     cases h
theorem Qdo {M : Env} {a : Act} {o : Oper} {hp : Heap} {z : List AV} {len esz : Nat} {parts : List (Nat × Nat × Opd)} {v : PV} (hE : EnvOK S w μ M a.tmps) (hG : GlobOK S w G) (hg : Good μ S w hp) (hc : cOp P G o.op = some (.buildSlice z len esz parts))
   (hv : Ms M (.buildVals z len esz parts) = some v) : ∃ c w' S', (execOp a.eval o).run P w = .ok (.value c) w' /\ Rep S' w' μ (.p v) c /\ Good μ S' w' hp /\ Frm μ S w hp μ S' w' hp := by
 simp only [Ms] at hv
 split at hv
 · rename_i vs hvs
   split at hv
   · rename_i out hout
     split at hv
     · rename_i ps hps
       obtain rfl := Option.some.inj hv
       obtain ⟨cs, e, hrun, hr, h1⟩ := Qp0 hE hG hc hvs hout
       have hr : RepPL S w ps cs.toList := Qf5 hps hr
       have hb := (Below.refl w.heap.size w).alloc (Nat.le_refl _) (.cells cs e)
       obtain ⟨hg1, hf1⟩ := ju hg hb
       have hnew : (w.alloc (.cells cs e)).heap[w.heap.size]? = some (.cells cs e) := Lx _ _
       have hnc : ∀ b o, S b o -> b < w.heap.size := hg.sb
       have hmono : ∀ b o, S b o -> (S b o ∨ b = w.heap.size) /\ (w.alloc (.cells cs e)).cell? ⟨b, o, none⟩ = w.cell? ⟨b, o, none⟩ := fun b o h => ⟨.inl h, Qc4 (hg.sb b o h) hb⟩
       have hmono1 : ∀ b o, S b o -> (S b o ∨ b = w.heap.size) /\ (w.alloc (.cells cs e)).cell? ⟨b, o, none⟩ = (w.alloc (.cells cs e)).cell? ⟨b, o, none⟩ := fun b o h => ⟨.inl h, rfl⟩
       have hsz : (w.alloc (.cells cs e)).heap.size = w.heap.size + 1 := Fe _ _
       refine ⟨_, _, fun b o => S b o ∨ b = w.heap.size, hrun, .p (.vsl (Nat.le_refl _) (RepCells.of_get fun i u hi => ⟨.inr rfl, ?_⟩)), ⟨?_, hg1.inj, hg1.old, ?_⟩, ⟨hf1.os, hf1.tape, hf1.output, hf1.size, hmono, hf1.keepB, ?_, hf1.newD, hf1.mu⟩⟩
       · obtain ⟨c, k1, k2⟩ := hr.get hi
         refine ⟨c, ?_, h1 c (List.mem_of_getElem? k1), k2.mono hmono⟩
         rw [Nat.zero_add]
         unfold World.cell?
         simp only [hnew]
         simpa using k1
       · intro id ob hob
         refine (hg1.obj id ob hob).mono hmono1 (fun _ _ _ h => h) (fun _ _ _ => rfl) fun b n hl hm j hs => ?_
         rcases hs with hs | rfl
         · exact hs
         · obtain ⟨_, _, _, hlt⟩ := hg.old _ _ _ hm
           exact absurd hlt (Nat.lt_irrefl _)
       · intro b o hs
         rcases hs with hs | rfl
         · exact hg1.sb b o hs
         · omega
       · intro b o hs
         rcases hs with hs | rfl
         · exact .inl hs
         · exact .inr (.inr (Nat.le_refl _))
     · cases hv
   · cases hv
 · cases hv
theorem Qyv {M : Env} {op : AOp} {v : PV} (h : Ms M op = some v) : ∃ z l e ps, op = .buildVals z l e ps := by
 cases op <;> first | exact ⟨_, _, _, _, rfl⟩ | (simp [Ms] at h)
theorem Qma {o : Op} {z : List AV} {l e : Nat} {ps : List (Nat × Nat × Opd)} : cOp P G o ≠ some (.buildVals z l e ps) := by
 intro h
 cases o <;> simp only [cOp] at h <;> first | contradiction | skip
 all_goals repeat' (first | contradiction | split at h | (simp at h; done) | (unfold L2 at h))
theorem Qjd {M : Env} {a : Act} {o : Oper} {ao : AOp} {v : AV} {oid : Option Nat} {hp : Heap} (hE : EnvOK S w μ M a.tmps) (hG : GlobOK S w G) (hg : Good μ S w hp) (hc : cOp P G o.op = some ao)
   (hv : Fj M σ ao = some (v, oid)) (hsame : ∀ id, oid = some id -> hp[id]? = σ[id]?) :
   ∃ c, (execOp a.eval o).run P w = .ok (.value c) w /\ Rep S w μ v c := by
 unfold Fj at hv
 split at hv
 · rename_i u hu
   simp only [Option.some.injEq, Prod.mk.injEq] at hv
   obtain ⟨rfl, rfl⟩ := hv
   exact Qcp hE hG hc hu w
 split at hv
 · rename_i u hu
   obtain ⟨z, l, e, ps, rfl⟩ := Qyv hu
   exact (Qma hc).elim
 · split at hv
   · split at hv
     · rename_i u hu
       simp only [Option.some.injEq, Prod.mk.injEq] at hv
       obtain ⟨rfl, rfl⟩ := hv
       exact jv hE hG (fun id o h => by simp at h) hc hu
     · cases hv
   · rename_i id _
     split at hv
     · rename_i ob hob
       split at hv
       · rename_i u hu
         simp only [Option.some.injEq, Prod.mk.injEq] at hv
         obtain ⟨rfl, rfl⟩ := hv
         refine jv hE hG (fun i o h => ?_) hc hu
         rcases Qrm h with ⟨rfl, rfl⟩ | rfl
         · exact hg.obj _ _ ((hsame _ rfl).trans hob)
         · trivial
       · cases hv
     · cases hv
theorem Qg4 {M : Env} {a : Act} {o : Oper} {ao : AOp} {v : AV} {oid : Option Nat} {hp : Heap} (hE : EnvOK S w μ M a.tmps) (hG : GlobOK S w G) (hg : Good μ S w hp)
   (hc : cOp P G o.op = some ao ∨ ∃ z l e ps, ao = .buildVals z l e ps /\ cOp P G o.op = some (.buildSlice z l e ps))
   (hv : Fj M σ ao = some (v, oid)) (hsame : ∀ id, oid = some id -> hp[id]? = σ[id]?) :
   ∃ c w' S', (execOp a.eval o).run P w = .ok (.value c) w' /\ Rep S' w' μ v c /\ Good μ S' w' hp /\ Frm μ S w hp μ S' w' hp := by
 rcases hc with hc | ⟨z, l, e, ps, rfl, hc⟩
 · obtain ⟨c, h1, h2⟩ := Qjd hE hG hg hc hv hsame
   exact ⟨c, w, S, h1, h2, hg, .refl _ _ _ _⟩
 · unfold Fj at hv
   simp only [G2] at hv
   split at hv
   · rename_i u hu
     simp only [Option.some.injEq, Prod.mk.injEq] at hv
     obtain ⟨rfl, rfl⟩ := hv
     exact Qdo hE hG hg hc hu
   · exfalso
     split at hv
     · simp [Gw] at hv
     · split at hv
       · simp [Gw] at hv
       · cases hv
theorem Qoz {s : Tr} (h : okRW anc aos s = true) {i id j len : Nat} {wr : List Nat} (h1 : (i, id) ∈ s.rds) (h2 : (j, len, wr) ∈ s.wrs) :
   (bef anc j i = true ∨ bef anc i j = true ∨ (id < len /\ id ∉ wr)) /\ (j < i -> F5 anc aos j = true -> (id < len /\ id ∉ wr) ∨ ∃ k ak, aos[k]? = some ak /\ j < k /\ isE ak.op = true /\ F5 anc aos k = false /\ bef anc k i = true) := by
 simp only [okRW, List.all_eq_true] at h
 have := h _ h1 _ h2
 simp only [Bool.or_eq_true, Bool.and_eq_true, decide_eq_true_eq] at this
 obtain ⟨ha, hb⟩ := this
 constructor
 · rcases ha with (h | h) | h
   · exact .inl h
   · exact .inr (.inl h)
   · exact .inr (.inr ⟨h.1, by simpa using h.2⟩)
 · intro hji hfr
   rcases hb with (h | h) | h
   · simp [hji, hfr] at h
   · exact .inl ⟨h.1, by simpa using h.2⟩
   · right
     simp only [jj, List.any_eq_true, List.mem_range] at h
     obtain ⟨k, _, hk⟩ := h
     split at hk
     · rename_i ak hak
       simp only [Bool.and_eq_true, decide_eq_true_eq] at hk
       exact ⟨k, ak, hak, hk.1.1.1, hk.1.1.2, by simpa using hk.1.2, hk.2⟩
     · cases hk
variable {μ0 : Nat -> Nat -> Option (Nat × Nat)} {S0 : Nat -> Nat -> Prop} {w0 : World}
theorem Qff {a : Act} {dst : Option Nat} {v : Value} {t : Nat} (h : dst ≠ some t) : (a.put dst v).tmps.getD t undef = a.tmps.getD t undef := by
 cases dst with
 | none => rfl
 | some d =>
   have hne : d ≠ t := fun e => h (by rw [e])
   simp [Act.put, hne]
theorem Qiq {a : Act} {d N : Nat} {v : Value} (h : a.tmps.size = N) (hd : d < N) : (a.put (some d) v).tmps.getD d undef = v := by
 simp [Act.put, h, hd]
theorem Qd8 {a : Act} {dst : Option Nat} {v : Value} (h : a.tmps.size = N) : (a.put dst v).tmps.size = N := by
 cases dst <;> simp [Act.put, h]
theorem qt {a : Act} {dst : Option Nat} {v : Value} : (a.put dst v).defers = a.defers := by cases dst <;> rfl
end
end Go.Ab
