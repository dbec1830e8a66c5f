/- UM -/
import Derived.Test.YtikebbklkiodlaaGreatDoorAbUE
set_option maxRecDepth 1000000
set_option linter.all false
namespace Go.Ab.Turn
open Go Go.Ab Go.Ab.Plan Go.Ab.Key Go.Ab.Cnt Go.Proofs
attribute [local simp] Uw Qe7 AV.cells N0 O5 finA qc resA resV ansV
variable [Q4]
section
variable {C : Zj} {L : Nat} {l : List Cl} {b : AV} {c col : Nat}
theorem go24 {M : Env} {i : Nat} (h : At24 l b c M i) (σ : Heap) (hb : Sl6 σ b l) (x : Cl) (hx : l[i]? = some x) (hl : l.length <= LIM)
   (hC : C 19 [.p (.agg (clC x)), .ptr c 0 0] σ = some (.ret (.p (.bool (T9 col x))), σ ++ [.arr (.pv (clC x)) 0 0 none])) :
   (T9 col x = true /\ ∃ M', exec C L Rc ⟨M, [], σ⟩ = some (.ret, ⟨M', [], σ ++ [.arr (.pv (clC x)) 0 0 none]⟩) /\ M'.get 4 = some (int i)) ∨
   (T9 col x = false /\ ∃ M', exec C L Rc ⟨M, [], σ⟩ = some (.normal, ⟨M', [], σ ++ [.arr (.pv (clC x)) 0 0 none]⟩) /\ At24 l b c M' (i + 1)) := by
 have hi : i < l.length := (List.getElem?_eq_some_iff.1 hx).1
 have hL : LIM = 4294967296 := rfl
 have hi' : (i : Int) < (l.length : Int) := by omega
 have d1 := Qf1 l i x hx
 have d3 : i * 6 + 6 <= (clsC l).length := by rw [Ry]; omega
 have d4 : (i + 1) * 6 <= (clsC l).length := by rw [Ry]; omega
 have e1 : IntKind.i64.wrap ((i : Int) + 1) = (i : Int) + 1 := J5 _ (by omega) (by omega)
 obtain ⟨id, ver, wm, ty, rfl, ho⟩ := hb.resolve_left (by rintro ⟨_, h⟩; rw [h] at hi; simp at hi)
 cases hq : T9 col x with
 | true =>
   rw [hq] at hC
   generalize clC x = cx at hC d1 ⊢
   generalize clsC l = cl at ho d1 d3 d4
   exact .inl ⟨rfl, _, by simp [Rc, Vt, Uu, qv, Wj, Tw, Ts, Tn, idxA, h.t0, h.t1, h.t7, h.t8, hi, hi', ho, d1, d3, d4, hC]; rfl, by simp⟩
 | false =>
   rw [hq] at hC
   generalize clC x = cx at hC d1 ⊢
   generalize clsC l = cl at ho d1 d3 d4
   exact .inr ⟨rfl, _, by simp [Rc, Vt, Uu, qv, Wj, Tw, Ts, Tn, Qbv, idxA, h.t0, h.t1, h.t7, h.t8, hi, hi', ho, d1, d3, d4, hC, e1]; rfl, ⟨by simp [h.t0], by simp [h.t1], by simp [h.t7], by simp⟩⟩
end
theorem seq3 {C : Zj} {L : Nat} {a b c d : Q0} {st : St} : exec C L (.seq a (.seq (.seq b c) d)) st = exec C L (.seq (.seq a b) (.seq c d)) st := by
 rw [<- Zn]
 simp only [exec]
 cases exec C L a st with
 | none => rfl
 | some r =>
   obtain ⟨e, s⟩ := r
   cases e <;> try rfl
   simp only
   cases exec C L b s with
   | none => rfl
   | some r =>
     obtain ⟨e, s⟩ := r
     cases e <;> rfl
def Qs6 (l : List Cl) (col : Nat) (r : Int) : Prop := (r = -1 /\ l.find? (T9 col) = none) ∨ ∃ (j : Nat) (x : Cl), r = j /\ l[j]? = some x /\ l.find? (T9 col) = some x
theorem Qwz {Tb : Ld} {L n : Nat} (h25 : Tb 19 = some (.raw lit25)) {l : List Cl} {b : AV} {c col : Nat} (hl : l.length <= LIM) : ∀ (d f i : Nat) (M : Env) (σ : Heap), l.length - i <= d -> d < f -> i <= l.length -> At24 l b c M i -> Sl6 σ b l ->
   σ[c]? = some (.arr (.pv [.int .i64 (col : Int)]) 0 0 (some 3)) -> l.find? (T9 col) = (l.drop i).find? (T9 col) ->
   ∃ M' τ ex, iter (exec (cAt Tb L (n + 1)).1 L Rc) none f ⟨M, [], σ⟩ = some (ex, ⟨M', [], σ ++ τ⟩) /\ ((ex = .exit 0 /\ l.find? (T9 col) = none) ∨ (ex = .ret /\ ∃ (j : Nat) (x : Cl), M'.get 4 = some (int j) /\ l[j]? = some x /\ l.find? (T9 col) = some x))
 | d, f, i, M, σ, hd, hf, hi, h, hb, hc, hfi => by
   obtain ⟨f, rfl⟩ : ∃ m, f = m + 1 := ⟨f - 1, by omega⟩
   by_cases hs : i = l.length
   · subst hs
     obtain ⟨M', e⟩ := stop24 (C := (cAt Tb L (n + 1)).1) (L := L) h σ
     exact ⟨M', [], .exit 0, by simp only [iter, St.keep, e, List.append_nil], .inl ⟨rfl, by rw [hfi, List.drop_length]; rfl⟩⟩
   · have hi' : i < l.length := by omega
     have hx : l[i]? = some l[i] := List.getElem?_eq_getElem hi'
     have hdr : l.drop i = l[i] :: l.drop (i + 1) := List.drop_eq_getElem_cons hi'
     rw [hdr] at hfi
     rcases go24 (C := (cAt Tb L (n + 1)).1) (L := L) (col := col) h σ hb l[i] hx hl (run25 h25 l[i] c col σ hc) with ⟨hq, M', e, g4⟩ | ⟨hq, M', e, g⟩
     · exact ⟨M', [.arr (.pv (clC l[i])) 0 0 none], .ret, by simp only [iter, St.keep, e], .inr ⟨rfl, i, l[i], g4, hx, by rw [hfi, List.find?_cons, hq]⟩⟩
     · obtain ⟨d, rfl⟩ : ∃ m, d = m + 1 := ⟨d - 1, by omega⟩
       have hc' : (σ ++ [Obj.arr (.pv (clC l[i])) 0 0 none])[c]? = some (.arr (.pv [.int .i64 (col : Int)]) 0 0 (some 3)) := by
         rw [List.getElem?_append_left (List.getElem?_eq_some_iff.1 hc).1]; exact hc
       obtain ⟨M2, τ, ex, e2, q⟩ := Qwz h25 hl d f (i + 1) M' _ (by omega) (by omega) (by omega) g (hb.push _) hc' (by rw [hfi, List.find?_cons, hq])
       exact ⟨M2, _, ex, by simp only [iter, St.keep, e]; rw [e2, List.append_assoc], q⟩
theorem Qx0 {Tb : Ld} {L n : Nat} (h24 : Tb 18 = some (.raw lit24)) (h25 : Tb 19 = some (.raw lit25)) {l : List Cl} {b : AV} {c col : Nat} (hl : l.length <= LIM) (hL : l.length < L) (σ : Heap) (hb : Sl6 σ b l)
   (hc : σ[c]? = some (.arr (.pv [.int .i64 (col : Int)]) 0 0 (some 3))) : ∃ r τ, (cAt Tb L (n + 2)).1 18 [b, .clo 19 [] [.ptr c 0 0]] σ = some (.ret (int r), σ ++ τ) /\ Qs6 l col r := by
 have hf : fits lit24 [b, .clo 19 [] [.ptr c 0 0]] = true := by rfl
 have hrun : (cAt Tb L (n + 2)).1 18 [b, .clo 19 [] [.ptr c 0 0]] σ = Z8 (cAt Tb L (n + 1)).1 (cAt Tb L (n + 1)).2 L lit24 [b, .clo 19 [] [.ptr c 0 0]] σ := by simp only [cAt, w6, h24, N2, hf]
 have hlen := hb.len
 have hns : ∀ s, b ≠ .p (.str s) := fun s => by rcases hb with ⟨rfl, _⟩ | ⟨_, _, _, _, rfl, _⟩ <;> simp
 obtain ⟨M1, e1, g1⟩ : ∃ M1, exec (cAt Tb L (n + 1)).1 L (.seq Qrz Qdu) ⟨params 0 [b, .clo 19 [] [.ptr c 0 0]], [], σ⟩ = some (.normal, ⟨M1, [], σ⟩) /\ At24 l b c M1 0 := by
   rcases hb with ⟨rfl, rfl⟩ | ⟨id, ver, wm, ty, rfl, _⟩
   · exact ⟨_, by simp [Qrz, Qdu, params, lenA]; rfl, ⟨rfl, rfl, rfl, rfl⟩⟩
   · exact ⟨_, by simp [Qrz, Qdu, params, lenA]; rfl, ⟨rfl, rfl, rfl, rfl⟩⟩
 obtain ⟨M2, τ, ex, e2, hq⟩ := Qwz (n := n) (L := L) h25 hl l.length L 0 M1 σ (by omega) hL (by omega) g1 hb hc (by simp)
 rw [hrun, Zp, lit24_tree]
 unfold n24 n24_2
 rw [seq3, seqN e1]
 rcases hq with ⟨rfl, hn⟩ | ⟨rfl, j, x, g4, hx, hfd⟩
 · have e3 : exec (cAt Tb L (n + 1)).1 L Qbh ⟨M1, [], σ⟩ = some (.normal, ⟨M2, [], σ ++ τ⟩) := by
     unfold Qbh Qfx
     exact F0 (by simp only [exec]; exact e2)
   rw [seqN e3]
   exact ⟨-1, τ, by simp [n24_3, finX, Hp, lit24], .inl ⟨rfl, hn⟩⟩
 · have e3 : exec (cAt Tb L (n + 1)).1 L Qbh ⟨M1, [], σ⟩ = some (.ret, ⟨M2, [], σ ++ τ⟩) := by
     unfold Qbh Qfx
     exact E5 (by simp only [exec]; exact e2)
   rw [seqR e3]
   exact ⟨j, τ, by simp [finX, Hp, lit24, g4], .inr ⟨j, x, rfl, hx, hfd⟩⟩
end Go.Ab.Turn
namespace Go.Ab.Turn
open Go Go.Ab Go.Ab.Plan Go.Ab.Key Go.Ab.Cnt Go.Proofs
attribute [local simp] Uw Qe7 AV.cells N0 O5 finA qc resA resV ansV
variable [Q4]
abbrev yy : List PV := [.bool false, .str [], .str [], .bool false]
abbrev litsV (F : List Lit) : List PV := vcs (F.map litV)
structure StF (k : List Nat) (ls : List Cl) (b : AV) (mk : Nat) (M : Env) (σ : Heap) (f : AV) (F : List Lit) : Prop where
 t6 : M.get 6 = some (.ptr 2 0 0)
 t7 : M.get 7 = some (.ptr 3 0 0)
 t11 : M.get 11 = some (.p (.vsl (cols k) k.length))
 t12 : M.get 12 = some f
 o2 : σ[2]? = some (.arr (.pv yy) 0 0 (some 37))
 o3 : σ[3]? = some (.arr (.av [b]) 0 0 (some 73))
 sl : Sl6 σ b ls
 bf : Buf 54 4 σ f (litsV F) F.length
 ob : ∀ j ∈ own f, 4 <= j /\ j ∉ own b /\ j ≠ mk
 om : σ[mk]? = some .mark
 m4 : 4 <= mk
structure AtF (k : List Nat) (M : Env) (i : Nat) : Prop where
 t49 : M.get 49 = some (.p (.vsl (cols k) k.length))
 t50 : M.get 50 = some (int k.length)
 t51 : M.get 51 = some (int i)
theorem Sl6.same {σ σ' : Heap} {b : AV} {l : List Cl} (h : Sl6 σ b l) (he : ∀ j ∈ own b, σ'[j]? = σ[j]?) : Sl6 σ' b l := by
 rcases h with h | ⟨id, ver, wm, ty, rfl, ho⟩
 · exact .inl h
 · exact .inr ⟨id, ver, wm, ty, rfl, by rw [he id (by simp [own])]; exact ho⟩
theorem Sl6.lt {σ : Heap} {b : AV} {l : List Cl} (h : Sl6 σ b l) {j : Nat} (hj : j ∈ own b) : j < σ.length := by
 rcases h with ⟨rfl, _⟩ | ⟨id, ver, wm, ty, rfl, ho⟩
 · cases hj
 · simp [own] at hj
   subst hj
   exact (List.getElem?_eq_some_iff.1 ho).1
theorem StF.push {k : List Nat} {ls : List Cl} {b : AV} {mk : Nat} {M M' : Env} {σ : Heap} {f : AV} {F : List Lit} (h : StF k ls b mk M σ f F) (τ : Heap) (h6 : M'.get 6 = M.get 6) (h7 : M'.get 7 = M.get 7) (h11 : M'.get 11 = M.get 11) (h12 : M'.get 12 = M.get 12) : StF k ls b mk M' (σ ++ τ) f F := by
 have h3l : 3 < σ.length := (List.getElem?_eq_some_iff.1 h.o3).1
 have hml : mk < σ.length := (List.getElem?_eq_some_iff.1 h.om).1
 exact ⟨h6.trans h.t6, h7.trans h.t7, h11.trans h.t11, h12.trans h.t12, by rw [List.getElem?_append_left (by omega)]; exact h.o2, by rw [List.getElem?_append_left h3l]; exact h.o3, h.sl.push τ, h.bf.push τ, h.ob, by rw [List.getElem?_append_left hml]; exact h.om, h.m4⟩
theorem j7 {C : Zj} {L id : Nat} {b c d e : Q0} {st : St} : exec C L (.seq (.block id (.seq b (.seq c d))) e) st = exec C L (.seq (.block id (.seq (.seq b c) d)) e) st := by
 have h := fun st => Zn (C := C) (L := L) (a := b) (b := c) (c := d) (st := st)
 simp only [exec] at h ⊢
 rw [h]
section
variable {C : Zj} {L : Nat} {k : List Nat} {ls : List Cl} {b f : AV} {mk i : Nat} {M : Env} {σ : Heap} {F : List Lit} {ds : List (Nat × List AV)}
theorem stopF (a : AtF k M k.length) (h : StF k ls b mk M σ f F) : ∃ M', exec C L Nu ⟨M, ds, σ⟩ = some (.exit 2, ⟨M', ds, σ⟩) /\ StF k ls b mk M' σ f F := by
 obtain ⟨M', e, q⟩ : ∃ M', exec C L Nu ⟨M, ds, σ⟩ = some (.exit 2, ⟨M', ds, σ⟩) /\ StF k ls b mk M' (σ ++ []) f F :=
   ⟨_, by simp [Nu, Om, Oq, a.t50, a.t51]; rfl, h.push [] (by simp) (by simp) (by simp) (by simp)⟩
 rw [List.append_nil] at q
 exact ⟨M', e, q⟩
theorem goF (a : AtF k M i) (h : StF k ls b mk M σ f F) (col : Nat) (hc : k[i]? = some col) (hk : k.length <= 6) (hls : ls.length <= LIM) (hF : F.length <= i)
   (hC : ∀ σ c, Sl6 σ b ls -> σ[c]? = some (.arr (.pv [.int .i64 (col : Int)]) 0 0 (some 3)) -> ∃ r τ, C 18 [b, .clo 19 [] [.ptr c 0 0]] σ = some (.ret (int r), σ ++ τ) /\ Qs6 ls col r) :
   (ls.find? (T9 col) = none /\ ∃ M' σ', exec C L Nu ⟨M, ds, σ⟩ = some (.exit 2, ⟨M', ds, σ'⟩) /\ StF k ls b mk M' σ' f F) ∨
   (∃ x, ls.find? (T9 col) = some x /\ ∃ M' σ' f', exec C L Nu ⟨M, ds, σ⟩ = some (.normal, ⟨M', ds, σ'⟩) /\ AtF k M' (i + 1) /\ StF k ls b mk M' σ' f' (F ++ [x.v])) := by
 have hi : i < k.length := (List.getElem?_eq_some_iff.1 hc).1
 have hi' : (i : Int) < (k.length : Int) := by omega
 have hLM : LIM = 4294967296 := rfl
 have h3l : 3 < σ.length := (List.getElem?_eq_some_iff.1 h.o3).1
 have hml : mk < σ.length := (List.getElem?_eq_some_iff.1 h.om).1
 have e1 : IntKind.i64.wrap ((i : Int) + 1) = (i : Int) + 1 := J5 _ (by omega) (by omega)
 have ex : k[i] = col := by
   have := List.getElem?_eq_getElem hi
   rw [hc] at this
   exact (Option.some.inj this).symm
 have d1 : ((cols k).drop i).take 1 = [.int .i64 (col : Int)] := by
   rw [List.drop_eq_getElem_cons (by simpa using hi)]
   simp [ex]
 have o3' : ∀ τ : Heap, (σ ++ τ)[3]? = some (.arr (.av [b]) 0 0 (some 73)) := fun τ => by rw [List.getElem?_append_left h3l]; exact h.o3
 obtain ⟨r, τ, hr, hfd⟩ := hC (σ ++ [.arr (.pv [.int .i64 (col : Int)]) 0 0 (some 3)]) σ.length (h.sl.push _) (by simp)
 obtain ⟨M1, r1, q6, q7, q11, q12, q15, q49, q50, q51⟩ : ∃ M1, exec C L (.seq (.seq Om Oq) (.seq Pp Mt)) ⟨M, ds, σ⟩ = some (.normal, ⟨M1, ds, σ ++ (.arr (.pv [.int .i64 (col : Int)]) 0 0 (some 3) :: τ)⟩) /\
     M1.get 6 = M.get 6 /\ M1.get 7 = M.get 7 /\ M1.get 11 = M.get 11 /\ M1.get 12 = M.get 12 /\ M1.get 15 = some (int r) /\ M1.get 49 = M.get 49 /\ M1.get 50 = M.get 50 /\ M1.get 51 = M.get 51 :=
   ⟨_, by simp [Om, Oq, Pp, Mt, idxA, Bu, Fd, Q1.get?, Q1.toList, a.t49, a.t50, a.t51, h.t7, hi, hi', ex, o3', hr]; rfl, by simp, by simp, by simp, by simp, by simp, by simp, by simp, by simp⟩
 obtain ⟨σ1, hσ1⟩ : ∃ σ1, σ1 = σ ++ (.arr (.pv [.int .i64 (col : Int)]) 0 0 (some 3) :: τ) := ⟨_, rfl⟩
 have h1 := h.push (.arr (.pv [.int .i64 (col : Int)]) 0 0 (some 3) :: τ) q6 q7 q11 q12
 rw [<- hσ1] at h1 r1
 have a1 : AtF k M1 i := ⟨q49.trans a.t49, q50.trans a.t50, q51.trans a.t51⟩
 have asm : ∀ {ex : AExit} {st : St}, exec C L (.seq (.block 3 (.seq M0 Pe)) Vf) ⟨M1, ds, σ1⟩ = some (ex, st) -> exec C L Nu ⟨M, ds, σ⟩ = some (ex, st) := by
   intro ex st he
   unfold Nu Qcg j9
   rw [Zn]
   generalize hA : exec C L (.seq Om Oq) ⟨M, ds, σ⟩ = z at *
   have r1' := r1
   simp only [exec] at r1' hA
   rw [hA] at r1'
   match z, r1', hA with
   | some (.normal, s1), r1', hA =>
     have hA' : exec C L (.seq Om Oq) ⟨M, ds, σ⟩ = some (.normal, s1) := by simp only [exec]; exact hA
     rw [seqN hA', j7 (c := Mt)]
     have r2 : exec C L (.seq Pp Mt) s1 = some (.normal, ⟨M1, ds, σ1⟩) := by simp only [exec]; exact r1'
     rw [blkA r2]
     exact he
 rcases hfd with ⟨rfl, hn⟩ | ⟨j, x, rfl, hx, hfx⟩
 · refine .inl ⟨hn, (59, .p (.bool true)) :: (58, int (-1)) :: M1, σ1, asm ?_, ?_⟩
   · simp [M0, Rj, Re, q15]
   · have := h1.push (M' := (59, .p (.bool true)) :: (58, int (-1)) :: M1) [] (by simp) (by simp) (by simp) (by simp)
     rwa [List.append_nil] at this
 · refine .inr ⟨x, hfx, ?_⟩
   have hj : j < ls.length := (List.getElem?_eq_some_iff.1 hx).1
   obtain ⟨id, ver, wm, ty, rfl, ho⟩ := h1.sl.resolve_left (by rintro ⟨_, h⟩; rw [h] at hj; simp at hj)
   obtain ⟨v1, v2, v3, v4, evc⟩ := Qer (litV x.v)
   have d5 : ((clsC ls).drop (j * 6 + 2)).take 4 = [v1, v2, v3, v4] := by
     have := Qf1 ls j x hx
     rw [Nat.add_comm, <- List.drop_drop]
     have e6 : ((clsC ls).drop (j * 6)).drop 2 = (((clsC ls).drop (j * 6)).take 6).drop 2 ++ ((clsC ls).drop (j * 6)).drop 6 := by
       conv => lhs; rw [<- List.take_append_drop 6 ((clsC ls).drop (j * 6))]
       rw [List.drop_append, this]
       have : (clC x).length = 6 := Qfb x
       rw [this]
       rfl
     have e7 : List.drop 2 ((clsC ls).drop (j * 6)) = _ := e6
     rw [show List.drop (j * 6) (List.drop 2 (clsC ls)) = List.drop 2 (List.drop (j * 6) (clsC ls)) from by rw [List.drop_drop, List.drop_drop, Nat.add_comm], e7, this]
     simp [clC, evc]
   have d6 : j * 6 + 2 + 4 <= (clsC ls).length := by rw [Ry]; omega
   have d7 : (j + 1) * 6 <= (clsC ls).length := by rw [Ry]; omega
   have hjn : ¬ (j : Int) < 0 := by omega
   have h3l1 : 3 < σ1.length := (List.getElem?_eq_some_iff.1 h1.o3).1
   have hml1 : mk < σ1.length := (List.getElem?_eq_some_iff.1 h1.om).1
   have hid : id < σ1.length := (List.getElem?_eq_some_iff.1 ho).1
   obtain ⟨f2, σ2, hA, hb2, hfr, hle, hown⟩ := (h1.bf.push [.arr (.pv [v1, v2, v3, v4]) 0 0 none]).app [v1, v2, v3, v4] rfl (by omega)
   have keep : ∀ j, j < σ1.length -> j ∉ own f -> σ2[j]? = σ1[j]? := fun j hj hjf => by rw [hfr j (by simp; omega) hjf, List.getElem?_append_left hj]
   have nf : ∀ j, (j < 4 ∨ j = id ∨ j = mk) -> j ∉ own f := fun j hj hm => by
     obtain ⟨a1, a2, a3⟩ := h1.ob j hm
     rcases hj with hj | rfl | rfl
     · omega
     · exact a2 (by simp [own])
     · exact a3 rfl
   have hl2 : litsV (F ++ [x.v]) = litsV F ++ [v1, v2, v3, v4] := by
     simp only [litsV, List.map_append, List.map_cons, List.map_nil, Qaf, evc]
   have hfin : ∃ M', exec C L (.seq (.block 3 (.seq M0 Pe)) Vf) ⟨M1, ds, σ1⟩ = some (.normal, ⟨M', ds, σ2⟩) /\ M'.get 6 = M1.get 6 /\ M'.get 7 = M1.get 7 /\ M'.get 11 = M1.get 11 /\ M'.get 12 = some f2 /\ AtF k M' (i + 1) := by
     have o3 := h1.o3
     have t12 := h1.t12
     have t7 := h1.t7
     generalize clsC ls = cl at ho d5 d6 d7
     exact ⟨_, by simp [M0, Rj, Re, Pe, Vf, idxA, Zo, Jk, Bu, Fd, Q1.get?, Q1.toList, q15, hjn, t7, t12, o3, ho, hj, d5, d6, d7, hA, a1.t51, e1]; rfl, by simp, by simp, by simp, by simp, ⟨by simp [a1.t49], by simp [a1.t50], by simp⟩⟩
   obtain ⟨M', e, g6, g7, g11, g12, ga⟩ := hfin
   refine ⟨M', σ2, f2, asm e, ga, ⟨g6.trans h1.t6, g7.trans h1.t7, g11.trans h1.t11, g12, ?_, ?_, h1.sl.same fun j hj => ?_, ?_, fun j hj => ?_, ?_, h1.m4⟩⟩
   · rw [keep 2 (by omega) (nf 2 (by omega))]; exact h1.o2
   · rw [keep 3 h3l1 (nf 3 (by omega))]; exact h1.o3
   · simp [own] at hj
     subst hj
     exact keep _ hid (nf _ (by simp))
   · rw [hl2, List.length_append]
     exact hb2
   · rcases hown j hj with hm | hm
     · exact h1.ob j hm
     · simp at hm
       refine ⟨by omega, ?_, by omega⟩
       simp [own]
       omega
   · rw [keep mk hml1 (nf mk (by simp))]; exact h1.om
end
end Go.Ab.Turn
namespace Go.Ab.Turn
open Go Go.Ab Go.Ab.Plan Go.Ab.Key Go.Ab.Cnt Go.Proofs
variable [Q4]
theorem jk (col : Nat) (ks : List Nat) (l : List Cl) : Jj (col :: ks) l = match l.find? (T9 col) with
 | none => []
 | some x => x.v :: Jj ks l := rfl
theorem Qhk : ∀ (ks : List Nat) (l : List Cl), (Jj ks l).length <= ks.length
 | [], l => Nat.le_refl _
 | c :: ks, l => by
   rw [jk]
   cases l.find? (T9 c) with
   | none => simp
   | some x => simpa using Qhk ks l
theorem loopF {C : Zj} {L : Nat} {k : List Nat} {ls : List Cl} {b : AV} {mk : Nat} {ds : List (Nat × List AV)} (hk : k.length <= 6) (hls : ls.length <= LIM)
   (hC : ∀ col σ c, Sl6 σ b ls -> σ[c]? = some (.arr (.pv [.int .i64 ((col : Nat) : Int)]) 0 0 (some 3)) -> ∃ r τ, C 18 [b, .clo 19 [] [.ptr c 0 0]] σ = some (.ret (int r), σ ++ τ) /\ Qs6 ls col r) :
   ∀ (d g i : Nat) (M : Env) (σ : Heap) (f : AV) (F : List Lit), k.length - i <= d -> d < g -> i <= k.length -> F.length <= i -> AtF k M i -> StF k ls b mk M σ f F -> Jj k ls = F ++ Jj (k.drop i) ls ->
   ∃ M' σ' f', iter (exec C L Nu) none g ⟨M, ds, σ⟩ = some (.exit 2, ⟨M', ds, σ'⟩) /\ StF k ls b mk M' σ' f' (Jj k ls)
 | d, g, i, M, σ, f, F, hd, hg, hi, hF, a, h, hfx => by
   obtain ⟨g, rfl⟩ : ∃ m, g = m + 1 := ⟨g - 1, by omega⟩
   by_cases hs : i = k.length
   · subst hs
     obtain ⟨M', e, q⟩ := stopF (C := C) (L := L) (ds := ds) a h
     rw [List.drop_length] at hfx
     have : Jj k ls = F := by rw [hfx]; simp [Jj]
     rw [this]
     exact ⟨M', σ, f, by simp only [iter, St.keep, e], q⟩
   · have hi' : i < k.length := by omega
     have hx : k[i]? = some k[i] := List.getElem?_eq_getElem hi'
     have hdr : k.drop i = k[i] :: k.drop (i + 1) := List.drop_eq_getElem_cons hi'
     rw [hdr, jk] at hfx
     rcases goF (C := C) (L := L) (ds := ds) a h k[i] hx hk hls hF (hC k[i]) with ⟨hn, M', σ', e, q⟩ | ⟨x, hn, M', σ', f', e, a', q⟩
     · rw [hn] at hfx
       have : Jj k ls = F := by rw [hfx]; simp
       rw [this]
       exact ⟨M', σ', f, by simp only [iter, St.keep, e], q⟩
     · rw [hn] at hfx
       obtain ⟨d, rfl⟩ : ∃ m, d = m + 1 := ⟨d - 1, by omega⟩
       obtain ⟨M2, σ2, f2, e2, q2⟩ := loopF hk hls hC d g (i + 1) M' σ' f' (F ++ [x.v]) (by omega) (by omega) (by omega) (by simp; omega) a' q (by rw [hfx]; simp)
       exact ⟨M2, σ2, f2, by simp only [iter, St.keep, e]; exact e2, q2⟩
end Go.Ab.Turn
namespace Go.Ab.Turn
open Go Go.Ab Go.Ab.Plan Go.Ab.Key Go.Ab.Cnt Go.Proofs
attribute [local simp] Uw Qe7 AV.cells N0 O5 finA qc resA resV ansV
variable [Q4]
theorem Qbf : ∀ x y : Word, (Op.bytesLess x y || x == y) = le x y
 | [], [] => rfl
 | [], _ :: _ => rfl
 | _ :: _, [] => rfl
 | a :: x, b :: y => by
   have ih := Qbf x y
   unfold le Op.bytesLess
   by_cases h : a < b
   · simp [h]
   · by_cases h2 : b < a
     · have : a ≠ b := fun he => by subst he; exact h h2
       simp [h, h2, this]
     · have : a = b := UInt8.le_antisymm (UInt8.not_lt.1 h2) (UInt8.not_lt.1 h)
       subst this
       simp only [h, decide_false, beq_self_eq_true, Bool.true_and, Bool.false_or, if_false, List.cons_beq_cons]
       exact ih
theorem Qsw (x y : Word) : (if (Op.bytesLess x y || x == y) = true then x else y) = minW x y := by
 rw [Qbf]; rfl
theorem Qsv (x y : Word) : (if (!(Op.bytesLess x y)) = true then x else y) = maxW x y := by
 have h := Qbf x y
 unfold maxW
 rw [<- h]
 cases hb : Op.bytesLess x y with
 | true => simp
 | false =>
   by_cases he : x = y
   · subst he; simp
   · simp [he]
def encV (v : Lit) : Word := encL [litV v]
def Pt (v : Lit) : Word := encL [litV v] ++ [255]
abbrev bdC (B : Bd) : List PV := [.bool false, .str B.lo, .str B.hi, .bool false]
section
variable {C : Zj} {L : Nat} {l : List Cl} {col i : Nat} {M : Env} {σ : Heap} {B : Bd}
structure At27 (l : List Cl) (col : Nat) (M : Env) (σ : Heap) (i : Nat) (B : Bd) : Prop where
 t1 : M.get 1 = some (int col)
 t4 : M.get 4 = some (.ptr 0 0 0)
 t5 : M.get 5 = some (.ptr 1 0 0)
 t6 : M.get 6 = some (.p (.bool B.some))
 t11 : M.get 11 = some (.p (.vsl (clsC l) l.length))
 t12 : M.get 12 = some (int l.length)
 t13 : M.get 13 = some (int i)
 o0 : σ[0]? = some (.arr (.pv yy) 0 0 (some 37))
 o1 : σ[1]? = some (.arr (.pv (bdC B)) 0 0 (some 37))
theorem stop27 (h : At27 l col M σ l.length B) : ∃ M', exec C L Pz ⟨M, [], σ⟩ = some (.exit 0, ⟨M', [], σ⟩) /\ M'.get 4 = some (.ptr 0 0 0) /\ M'.get 5 = some (.ptr 1 0 0) /\ M'.get 6 = some (.p (.bool B.some)) := by
 have t11 := h.t11
 generalize clsC l = cl at t11
 exact ⟨_, by simp [Pz, R5, Sf, h.t12, h.t13]; rfl, by simp [h.t4], by simp [h.t5], by simp [h.t6]⟩
theorem take27 (h : At27 l col M σ i B) (c : Cl) (hc : l[i]? = some c) (a b c' d : PV) (ev4 : vc (litV c.v) = [a, b, c', d]) :
   ∃ M', exec C L (.seq (.seq R5 Sf) Pj) ⟨M, [], σ⟩ = some (.normal, ⟨M', [], σ ++ [.arr (.pv [.int .i64 (c.col : Int), .str c.op, a, b, c', d]) 0 0 (some 78)]⟩) /\
     M'.get 8 = some (.ptr σ.length 0 0) /\ At27 l col M' (σ ++ [.arr (.pv [.int .i64 (c.col : Int), .str c.op, a, b, c', d]) 0 0 (some 78)]) i B := by
 have hi : i < l.length := (List.getElem?_eq_some_iff.1 hc).1
 have hi' : (i : Int) < (l.length : Int) := by omega
 have d1 := Qf1 l i c hc
 have d3 : 6 <= (clsC l).length - i * 6 := by rw [Ry]; omega
 have d4 : i * 6 + 6 <= (clsC l).length := by rw [Ry]; omega
 have hl0 : 1 < σ.length := (List.getElem?_eq_some_iff.1 h.o1).1
 obtain ⟨t1, t4, t5, t6, t11, t12, t13, o0, o1⟩ := h
 have key : ∃ M', exec C L (.seq (.seq R5 Sf) Pj) ⟨M, [], σ⟩ = some (.normal, ⟨M', [], σ ++ [.arr (.pv [.int .i64 (c.col : Int), .str c.op, a, b, c', d]) 0 0 (some 78)]⟩) /\
     M'.get 8 = some (.ptr σ.length 0 0) /\ (∀ t, t ≠ 8 -> t ≠ 14 -> t ≠ 15 -> t ≠ 16 -> M'.get t = M.get t) := by
   simp only [clC, ev4] at d1
   generalize clsC l = cl at t11 d1 d3 d4
   exact ⟨_, by simp [R5, Sf, Pj, idxA, Bu, Fd, Q1.toList, t11, t12, t13, hi, hi', d1, d3, d4]; rfl, by simp, fun t h1 h2 h3 h4 => by simp [Ne.symm h1, Ne.symm h2, Ne.symm h3, Ne.symm h4]⟩
 obtain ⟨M', e, g8, g⟩ := key
 exact ⟨M', e, g8, ⟨(g 1 (by decide) (by decide) (by decide) (by decide)).trans t1, (g 4 (by decide) (by decide) (by decide) (by decide)).trans t4, (g 5 (by decide) (by decide) (by decide) (by decide)).trans t5, (g 6 (by decide) (by decide) (by decide) (by decide)).trans t6,
   (g 11 (by decide) (by decide) (by decide) (by decide)).trans t11, (g 12 (by decide) (by decide) (by decide) (by decide)).trans t12, (g 13 (by decide) (by decide) (by decide) (by decide)).trans t13, by rw [List.getElem?_append_left (by omega)]; exact o0, by rw [List.getElem?_append_left (by omega)]; exact o1⟩⟩
theorem skip27 (h : At27 l col M σ i B) (c : Cl) (a b c' d : PV) (p : Nat) (h8 : M.get 8 = some (.ptr p 0 0)) (ho : σ[p]? = some (.arr (.pv [.int .i64 (c.col : Int), .str c.op, a, b, c', d]) 0 0 (some 78))) :
   ∃ M' ex, exec C L Hb ⟨M, [], σ⟩ = some (ex, ⟨M', [], σ⟩) /\ ex = (if c.col ≠ col ∨ c.op = wEq then .exit 1 else .normal) /\ M'.get 8 = some (.ptr p 0 0) /\ At27 l col M' σ i B := by
 obtain ⟨t1, t4, t5, t6, t11, t12, t13, o0, o1⟩ := h
 have key : ∃ M' ex, exec C L Hb ⟨M, [], σ⟩ = some (ex, ⟨M', [], σ⟩) /\ ex = (if c.col ≠ col ∨ c.op = wEq then .exit 1 else .normal) /\ (∀ t, t < 17 -> M'.get t = M.get t) := by
   by_cases h1 : c.col = col
   · have hb : ((c.col : Int) != (col : Int)) = false := by rw [h1]; simp
     by_cases h2 : c.op = [61]
     · refine ⟨_, .exit 1, by simp [Hb, M9, M8, Y9, Q1.get?, h8, t1, ho, hb, h2]; rfl, (if_pos (.inr h2)).symm, fun t ht => ?_⟩
       have : ∀ j, 17 <= j -> ¬ j = t := fun j hj he => by omega
       simp [this]
     · have hb2 := J8 h2
       refine ⟨_, .normal, by simp [Hb, M9, M8, Y9, Q1.get?, h8, t1, ho, hb, hb2]; rfl, (if_neg (by rintro (h | h); exact h h1; exact h2 h)).symm, fun t ht => ?_⟩
       have : ∀ j, 17 <= j -> ¬ j = t := fun j hj he => by omega
       simp [this]
   · have hb : ((c.col : Int) != (col : Int)) = true := bne_iff_ne.2 (by omega)
     refine ⟨_, .exit 1, by simp [Hb, M9, M8, Y9, Q1.get?, h8, t1, ho, hb]; rfl, (if_pos (.inl h1)).symm, fun t ht => ?_⟩
     have : ∀ j, 17 <= j -> ¬ j = t := fun j hj he => by omega
     simp [this]
 obtain ⟨M', ex, e, hex, g⟩ := key
 exact ⟨M', ex, e, hex, (g 8 (by decide)).trans h8, ⟨(g 1 (by decide)).trans t1, (g 4 (by decide)).trans t4, (g 5 (by decide)).trans t5, (g 6 (by decide)).trans t6, (g 11 (by decide)).trans t11, (g 12 (by decide)).trans t12, (g 13 (by decide)).trans t13, o0, o1⟩⟩
end
end Go.Ab.Turn
namespace Go.Ab.Turn
open Go Go.Ab Go.Ab.Plan Go.Ab.Key Go.Ab.Cnt Go.Proofs
attribute [local simp] Uw Qe7 AV.cells N0 O5 finA qc resA resV ansV B4 Yw opds Qc0 optO Fj Ms V3 refV oneH idxA lenA Bu Fd Q1.get?
variable [Q4]
structure E27 (C : Zj) (l : List Cl) : Prop where
 enc : ∀ c ∈ l, ∀ σ id, σ[id]? = some (.arr (.pv (vc (litV c.v))) 0 0 none) -> ∃ σ', C 20 [.sl id 0 0 1 4] σ = some (.ret (.p (.str (encV c.v))), σ') /\ σ'.length = σ.length /\ ∀ j, j ≠ id -> σ'[j]? = σ[j]?
 abv : ∀ c ∈ l, ∀ σ, C 22 [.p (.str (encV c.v))] σ = some (.ret (.p (.str (Pt c.v))), σ)
section
variable {C : Zj} {L : Nat} {l : List Cl} {col i : Nat} {M : Env} {σ : Heap} {B : Bd}
theorem code27 (h : At27 l col M σ i B) (c : Cl) (hm : c ∈ l) (hE : E27 C l) (a b c' d : PV) (ev4 : vc (litV c.v) = [a, b, c', d]) (p : Nat) (h8 : M.get 8 = some (.ptr p 0 0)) (ho : σ[p]? = some (.arr (.pv [.int .i64 (c.col : Int), .str c.op, a, b, c', d]) 0 0 (some 78))) :
   ∃ M' σ', exec C L (.seq Mv Mw) ⟨M, [], σ⟩ = some (.normal, ⟨M', [], σ'⟩) /\ M'.get 8 = some (.ptr p 0 0) /\ M'.get 9 = some (.p (.str (encV c.v))) /\ σ'[p]? = some (.arr (.pv [.int .i64 (c.col : Int), .str c.op, a, b, c', d]) 0 0 (some 78)) /\
     At27 l col M' σ' i ⟨B.lo, B.hi, true⟩ := by
 obtain ⟨t1, t4, t5, t6, t11, t12, t13, o0, o1⟩ := h
 have hp : p < σ.length := (List.getElem?_eq_some_iff.1 ho).1
 have hl0 : 1 < σ.length := (List.getElem?_eq_some_iff.1 o1).1
 have hg : (σ ++ [Obj.arr (.pv [a, b, c', d]) 0 0 none])[σ.length]? = some (.arr (.pv (vc (litV c.v))) 0 0 none) := by rw [ev4]; simp
 obtain ⟨σ', hC, hlen, hold⟩ := hE.enc c hm _ _ hg
 have keep : ∀ j, j < σ.length -> σ'[j]? = σ[j]? := fun j hj => by rw [hold j (by omega), List.getElem?_append_left hj]
 have key : ∃ M', exec C L (.seq Mv Mw) ⟨M, [], σ⟩ = some (.normal, ⟨M', [], σ'⟩) /\ M'.get 9 = some (.p (.str (encV c.v))) /\ M'.get 6 = some (.p (.bool true)) /\ (∀ t, t < 17 -> t ≠ 6 -> t ≠ 9 -> M'.get t = M.get t) := by
   refine ⟨_, by simp [Mv, Mw, Zo, h8, ho, hC]; rfl, by simp, by simp, fun t ht h6 h9 => ?_⟩
   have : ∀ j, 17 <= j -> ¬ j = t := fun j hj he => by omega
   simp [this, Ne.symm h6, Ne.symm h9]
 obtain ⟨M', e, g9, g6, g⟩ := key
 exact ⟨M', σ', e, (g 8 (by decide) (by decide) (by decide)).trans h8, g9, by rw [keep p hp]; exact ho, ⟨(g 1 (by decide) (by decide) (by decide)).trans t1, (g 4 (by decide) (by decide) (by decide)).trans t4, (g 5 (by decide) (by decide) (by decide)).trans t5, g6, (g 11 (by decide) (by decide) (by decide)).trans t11,
   (g 12 (by decide) (by decide) (by decide)).trans t12, (g 13 (by decide) (by decide) (by decide)).trans t13, by rw [keep 0 (by omega)]; exact o0, by rw [keep 1 hl0]; exact o1⟩⟩
theorem low27 (h : At27 l col M σ i B) (w : Word) (h9 : M.get 9 = some (.p (.str w))) :
   ∃ M', exec C L Nr ⟨M, [], σ⟩ = some (.normal, ⟨M', [], σ.set 1 (.arr (.pv (bdC ⟨maxW B.lo w, B.hi, B.some⟩)) 0 0 (some 37))⟩) /\ At27 l col M' (σ.set 1 (.arr (.pv (bdC ⟨maxW B.lo w, B.hi, B.some⟩)) 0 0 (some 37))) i ⟨maxW B.lo w, B.hi, B.some⟩ := by
 obtain ⟨t1, t4, t5, t6, t11, t12, t13, o0, o1⟩ := h
 have hl0 : 1 < σ.length := (List.getElem?_eq_some_iff.1 o1).1
 have hmx : maxA true (.p (.str B.lo)) [.p (.str w)] = some (.p (.str (maxW B.lo w))) := by
   rw [<- Qsv]; rfl
 generalize maxW B.lo w = v at hmx ⊢
 have key : ∃ M', exec C L Nr ⟨M, [], σ⟩ = some (.normal, ⟨M', [], σ.set 1 (.arr (.pv (bdC ⟨v, B.hi, B.some⟩)) 0 0 (some 37))⟩) /\ (∀ t, t < 17 -> M'.get t = M.get t) := by
   refine ⟨_, by simp [Nr, Q1.toList, t5, h9, o1, hmx]; rfl, fun t ht => ?_⟩
   have : ∀ j, 17 <= j -> ¬ j = t := fun j hj he => by omega
   simp [this]
 obtain ⟨M', e, g⟩ := key
 exact ⟨M', e, ⟨(g 1 (by decide)).trans t1, (g 4 (by decide)).trans t4, (g 5 (by decide)).trans t5, (g 6 (by decide)).trans t6, (g 11 (by decide)).trans t11, (g 12 (by decide)).trans t12, (g 13 (by decide)).trans t13, by rw [List.getElem?_set_ne (by decide)]; exact o0, List.getElem?_set_self hl0⟩⟩
theorem high27 (h : At27 l col M σ i B) (w u : Word) (h9 : M.get 9 = some (.p (.str w))) (hr : Q4.raw 22 = false) (hC : ∀ σ, C 22 [.p (.str w)] σ = some (.ret (.p (.str u)), σ)) :
   ∃ M', exec C L Nw ⟨M, [], σ⟩ = some (.normal, ⟨M', [], σ.set 1 (.arr (.pv (bdC ⟨B.lo, minW B.hi u, B.some⟩)) 0 0 (some 37))⟩) /\ At27 l col M' (σ.set 1 (.arr (.pv (bdC ⟨B.lo, minW B.hi u, B.some⟩)) 0 0 (some 37))) i ⟨B.lo, minW B.hi u, B.some⟩ := by
 obtain ⟨t1, t4, t5, t6, t11, t12, t13, o0, o1⟩ := h
 have hl0 : 1 < σ.length := (List.getElem?_eq_some_iff.1 o1).1
 have hmx : maxA false (.p (.str B.hi)) [.p (.str u)] = some (.p (.str (minW B.hi u))) := by
   rw [<- Qsw]; rfl
 generalize minW B.hi u = v at hmx ⊢
 have fin : (∃ s1 : Tr, Zy C 0 (opsD Nw) ⟨⟨M, [], σ⟩, [], []⟩ = some (none, s1) /\ s1.rds = [(1, 1)] /\ (∃ k0 k1, s1.wrs = [(6, k1, [1]), (3, k0, [])] /\ 1 < k0) /\ s1.st.defers = [] /\ s1.st.heap = σ.set 1 (.arr (.pv (bdC ⟨B.lo, v, B.some⟩)) 0 0 (some 37)) /\ (∀ t, t < 17 -> s1.st.env.get t = M.get t)) ->
     ∃ M', exec C L Nw ⟨M, [], σ⟩ = some (.normal, ⟨M', [], σ.set 1 (.arr (.pv (bdC ⟨B.lo, v, B.some⟩)) 0 0 (some 37))⟩) /\ (∀ t, t < 17 -> M'.get t = M.get t) := by
   rintro ⟨⟨⟨M', d, σ'⟩, rds, wrs⟩, hr, h1, ⟨k0, k1, h2, hk0⟩, h3, h4, hA⟩
   simp only at h1 h2 h3 h4
   subst h1 h2 h3 h4
   obtain ⟨m0, rfl⟩ : ∃ m, k0 = m + 2 := ⟨k0 - 2, by omega⟩
   exact ⟨M', L9 hr (by kernel_rfl), hA⟩
 obtain ⟨M', e, g⟩ := fin ⟨_, by
     show Zy C 0 (_ :: _) _ = _
     refine (Zf rfl rfl (by simp [t5, h9, o1, hr, hC, hmx]; rfl)).trans ?_
     refine (Eu rfl rfl (by simp [t5, h9, o1, hr, hC, hmx]; exact ⟨rfl, rfl⟩)).trans ?_
     refine (Zf rfl rfl (by simp [t5, h9, o1, hr, hC, hmx]; rfl)).trans ?_
     refine (B8 rfl rfl (by simp [Zo, Jk, Q1.toList, t5, h9, o1, hr, hC, hmx]; rfl) (by simp [Sp]; rfl) (by simp [Nz, Oe, Eo, D9, idsL, idsV, idsO, t5, h9, o1, hr, hC, hmx]; rfl)).trans ?_
     refine (Zf rfl rfl (by simp [t5, h9, o1, hr, hC, hmx]; rfl)).trans ?_
     refine (Zf rfl rfl (by simp [t5, h9, o1, hr, hC, hmx]; rfl)).trans ?_
     refine (B8 rfl rfl (by simp [Zo, Jk, Q1.toList, t5, h9, o1, hr, hC, hmx]; rfl) (by simp [Sp]; rfl) (by simp [Nz, Oe, Eo, D9, idsL, idsV, idsO, t5, h9, o1, hr, hC, hmx]; rfl)).trans ?_
     exact rfl, by rfl, ⟨_, _, by rfl, hl0⟩, by rfl, by rfl, fun t ht => by
     have : ∀ j, 17 <= j -> ¬ j = t := fun j hj he => by omega
     simp [this]⟩
 exact ⟨M', e, ⟨(g 1 (by decide)).trans t1, (g 4 (by decide)).trans t4, (g 5 (by decide)).trans t5, (g 6 (by decide)).trans t6, (g 11 (by decide)).trans t11, (g 12 (by decide)).trans t12, (g 13 (by decide)).trans t13, by rw [List.getElem?_set_ne (by decide)]; exact o0, List.getElem?_set_self hl0⟩⟩
end
end Go.Ab.Turn
namespace Go.Ab.Turn
open Go Go.Ab Go.Ab.Plan Go.Ab.Key Go.Ab.Cnt Go.Proofs
variable [Q4]
theorem inBlk {C : Zj} {L k : Nat} {a b c r d : Q0} {st st1 : St} (h : exec C L (.seq (.seq a b) c) st = some (.normal, st1)) : exec C L (.seq a (.seq b (.seq (.block k (.seq c r)) d))) st = exec C L (.seq (.block k r) d) st1 := by
 rw [Zn]
 generalize hA : exec C L (.seq a b) st = z
 have h' := h
 simp only [exec] at h' hA
 rw [hA] at h'
 match z, h', hA with
 | some (.normal, s1), h', hA =>
   have hA' : exec C L (.seq a b) st = some (.normal, s1) := by simp only [exec]; exact hA
   rw [seqN hA', blkA (st1 := st1) h']
theorem blkE {C : Zj} {L k : Nat} {a b c : Q0} {st st1 : St} (h : exec C L a st = some (.exit k, st1)) : exec C L (.seq (.block k (.seq a b)) c) st = exec C L c st1 := by
 simp only [exec, h, if_true]
section
variable {C : Zj} {L : Nat} {l : List Cl} {col i : Nat} {M : Env} {σ : Heap} {B : Bd}
theorem sign27 (h : At27 l col M σ i B) (c : Cl) (a b c' d : PV) (p : Nat) (h8 : M.get 8 = some (.ptr p 0 0)) (ho : σ[p]? = some (.arr (.pv [.int .i64 (c.col : Int), .str c.op, a, b, c', d]) 0 0 (some 78))) (w : Word) (h9 : M.get 9 = some (.p (.str w))) (hop : Hc c.op = true) (hne : ¬ c.op = wEq) :
   ∃ M' q, exec C L Fb ⟨M, [], σ⟩ = some (.normal, ⟨M', [], σ⟩) /\ M'.get 33 = some (.p (.bool q)) /\ q = decide (c.op = wGt ∨ c.op = wGe) /\ M'.get 9 = some (.p (.str w)) /\ At27 l col M' σ i B := by
 obtain ⟨t1, t4, t5, t6, t11, t12, t13, o0, o1⟩ := h
 have key : ∃ M' q, exec C L Fb ⟨M, [], σ⟩ = some (.normal, ⟨M', [], σ⟩) /\ M'.get 33 = some (.p (.bool q)) /\ q = decide (c.op = wGt ∨ c.op = wGe) /\ (∀ t, t < 17 -> M'.get t = M.get t) := by
   have h5 : c.op = [60] ∨ c.op = [60, 61] ∨ c.op = [62] ∨ c.op = [62, 61] := by
     simp [Hc] at hop
     rcases hop with (((h | h) | h) | h) | h
     · exact absurd h hne
     · exact .inl h
     · exact .inr (.inl h)
     · exact .inr (.inr (.inl h))
     · exact .inr (.inr (.inr h))
   rcases h5 with h | h | h | h <;> rw [h] at ho ⊢
   · refine ⟨_, false, by simp [Fb, Zt, Q1.get?, h8, ho]; rfl, by simp, by decide, fun t ht => ?_⟩
     have : ∀ j, 17 <= j -> ¬ j = t := fun j hj he => by omega
     simp [this]
   · refine ⟨_, false, by simp [Fb, Zt, Q1.get?, h8, ho]; rfl, by simp, by decide, fun t ht => ?_⟩
     have : ∀ j, 17 <= j -> ¬ j = t := fun j hj he => by omega
     simp [this]
   · refine ⟨_, true, by simp [Fb, Zt, Q1.get?, h8, ho]; rfl, by simp, by decide, fun t ht => ?_⟩
     have : ∀ j, 17 <= j -> ¬ j = t := fun j hj he => by omega
     simp [this]
   · refine ⟨_, true, by simp [Fb, Zt, Q1.get?, h8, ho]; rfl, by simp, by decide, fun t ht => ?_⟩
     have : ∀ j, 17 <= j -> ¬ j = t := fun j hj he => by omega
     simp [this]
 obtain ⟨M', q, e, g33, hq, g⟩ := key
 exact ⟨M', q, e, g33, hq, (g 9 (by decide)).trans h9, ⟨(g 1 (by decide)).trans t1, (g 4 (by decide)).trans t4, (g 5 (by decide)).trans t5, (g 6 (by decide)).trans t6, (g 11 (by decide)).trans t11, (g 12 (by decide)).trans t12, (g 13 (by decide)).trans t13, o0, o1⟩⟩
theorem Qns (h : At27 l col M σ i B) (hi : i < l.length) (hl : l.length <= LIM) : ∃ M', exec C L R8 ⟨M, [], σ⟩ = some (.normal, ⟨M', [], σ⟩) /\ At27 l col M' σ (i + 1) B := by
 have hLM : LIM = 4294967296 := rfl
 have e1 : IntKind.i64.wrap ((i : Int) + 1) = (i : Int) + 1 := J5 _ (by omega) (by omega)
 exact ⟨_, by simp [R8, h.t13, e1]; rfl, ⟨by simp [h.t1], by simp [h.t4], by simp [h.t5], by simp [h.t6], by simp [h.t11], by simp [h.t12], by simp, h.o0, h.o1⟩⟩
theorem go27 (h : At27 l col M σ i B) (c : Cl) (hc : l[i]? = some c) (hl : l.length <= LIM) (hop : Hc c.op = true) (hE : E27 C l) (hr : Q4.raw 22 = false) :
   ∃ M' σ', exec C L Pz ⟨M, [], σ⟩ = some (.normal, ⟨M', [], σ'⟩) /\ At27 l col M' σ' (i + 1) (Rq encV Pt col B c) := by
 have hi : i < l.length := (List.getElem?_eq_some_iff.1 hc).1
 have hm : c ∈ l := List.mem_of_getElem? hc
 obtain ⟨a, b, c', d, e4⟩ := Qer (litV c.v)
 obtain ⟨M1, r1, g8, h1⟩ := take27 (C := C) (L := L) h c hc a b c' d e4
 have ho1 : (σ ++ [Obj.arr (.pv [.int .i64 (c.col : Int), .str c.op, a, b, c', d]) 0 0 (some 78)])[σ.length]? = some (.arr (.pv [.int .i64 (c.col : Int), .str c.op, a, b, c', d]) 0 0 (some 78)) := by simp
 generalize σ ++ [Obj.arr (.pv [.int .i64 (c.col : Int), .str c.op, a, b, c', d]) 0 0 (some 78)] = σ1 at r1 h1 ho1
 obtain ⟨M2, ex, r2, hex, g8, h2⟩ := skip27 (C := C) (L := L) h1 c a b c' d σ.length g8 ho1
 have hstart : exec C L Pz ⟨M, [], σ⟩ = exec C L (.seq (.block 1 (.seq Hb (.seq Mv (.seq Mw (.seq Fb Hd))))) R8) ⟨M1, [], σ1⟩ := by
   unfold Pz Qb7 yj
   exact inBlk r1
 by_cases hs : c.col ≠ col ∨ c.op = wEq
 · rw [if_pos hs] at hex
   subst hex
   obtain ⟨M3, r3, h3⟩ := Qns (C := C) (L := L) h2 hi hl
   refine ⟨M3, σ1, by rw [hstart, blkE r2, r3], ?_⟩
   unfold Rq
   rw [if_pos hs]
   exact h3
 · rw [if_neg hs] at hex
   subst hex
   have hne : ¬ c.op = wEq := fun h => hs (.inr h)
   obtain ⟨M3, σ3, r3, g8, g9, ho3, h3⟩ := code27 (C := C) (L := L) h2 c hm hE a b c' d e4 σ.length g8 ho1
   obtain ⟨M4, q, r4, g33, hq, g9, h4⟩ := sign27 (C := C) (L := L) h3 c a b c' d σ.length g8 ho3 _ g9 hop hne
   have hmid : ∀ {st : St}, exec C L (.seq Hd R8) ⟨M4, [], σ3⟩ = some (.normal, st) -> exec C L Pz ⟨M, [], σ⟩ = some (.normal, st) := by
     intro st he
     rw [hstart, blkA r2, j7, blkA r3, blkA r4]
     exact blkN he
   unfold Rq
   rw [if_neg hs]
   by_cases hg : c.op = wGt ∨ c.op = wGe
   · rw [if_pos hg]
     rw [decide_eq_true hg] at hq
     subst hq
     obtain ⟨M5, r5, h5⟩ := low27 (C := C) (L := L) h4 _ g9
     obtain ⟨M6, r6, h6⟩ := Qns (C := C) (L := L) h5 hi hl
     refine ⟨M6, _, hmid ?_, h6⟩
     rw [seqN (a := Hd) (by unfold Hd; rw [y5 (c := .t 33) (st := ⟨M4, [], σ3⟩) g33]; exact r5), r6]
   · rw [if_neg hg]
     rw [decide_eq_false hg] at hq
     subst hq
     obtain ⟨M5, r5, h5⟩ := high27 (C := C) (L := L) h4 _ (Pt c.v) g9 hr (hE.abv c hm)
     obtain ⟨M6, r6, h6⟩ := Qns (C := C) (L := L) h5 hi hl
     refine ⟨M6, _, hmid ?_, h6⟩
     rw [seqN (a := Hd) (by unfold Hd; rw [Tv (c := .t 33) (st := ⟨M4, [], σ3⟩) g33]; exact r5), r6]
end
theorem Qwy {C : Zj} {L : Nat} {l : List Cl} {col : Nat} (hl : l.length <= LIM) (hop : ∀ c ∈ l, Hc c.op = true) (hE : E27 C l) (hr : Q4.raw 22 = false) : ∀ (d f i : Nat) (M : Env) (σ : Heap) (B : Bd), l.length - i <= d -> d < f -> i <= l.length -> At27 l col M σ i B ->
   ∃ M' σ', iter (exec C L Pz) none f ⟨M, [], σ⟩ = some (.exit 0, ⟨M', [], σ'⟩) /\ M'.get 4 = some (.ptr 0 0 0) /\ M'.get 5 = some (.ptr 1 0 0) /\ M'.get 6 = some (.p (.bool ((l.drop i).foldl (Rq encV Pt col) B).some)) /\
     σ'[0]? = some (.arr (.pv yy) 0 0 (some 37)) /\ σ'[1]? = some (.arr (.pv (bdC ((l.drop i).foldl (Rq encV Pt col) B))) 0 0 (some 37))
 | d, f, i, M, σ, B, hd, hf, hi, h => by
   obtain ⟨f, rfl⟩ : ∃ m, f = m + 1 := ⟨f - 1, by omega⟩
   by_cases hs : i = l.length
   · subst hs
     obtain ⟨M', e, g4, g5, g6⟩ := stop27 (C := C) (L := L) h
     rw [List.drop_length]
     exact ⟨M', σ, by simp only [iter, St.keep, e], g4, g5, g6, h.o0, h.o1⟩
   · have hi' : i < l.length := by omega
     have hdr : l.drop i = l[i] :: l.drop (i + 1) := List.drop_eq_getElem_cons hi'
     obtain ⟨M1, σ1, e, h1⟩ := go27 (C := C) (L := L) h l[i] (List.getElem?_eq_getElem hi') hl (hop _ (List.getElem_mem hi')) hE hr
     obtain ⟨d, rfl⟩ : ∃ m, d = m + 1 := ⟨d - 1, by omega⟩
     obtain ⟨M', σ', e2, q⟩ := Qwy hl hop hE hr d f (i + 1) M1 σ1 _ (by omega) (by omega) (by omega) h1
     rw [hdr, List.foldl_cons]
     exact ⟨M', σ', by simp only [iter, St.keep, e]; exact e2, q⟩
end Go.Ab.Turn
namespace Go.Ab.Turn
open Go Go.Ab Go.Ab.Plan Go.Ab.Key Go.Ab.Cnt Go.Proofs
attribute [local simp] Uw Qe7 AV.cells N0 O5 finA qc resA resV ansV
variable [Q4]
def zx (B : Bd) : List PV := if B.some = false then [.bool true, .str [], .str [], .bool false] else if le B.lo B.hi = false then [.bool false, .str [], .str [], .bool true] else bdC B
abbrev bd0 : Bd := ⟨[], [255], false⟩
theorem run27 (C : Zj) (D : Yo) (L : Nat) {l : List Cl} {col : Nat} (hl : l.length <= LIM) (hL : l.length < L) (hop : ∀ c ∈ l, Hc c.op = true) (hE : E27 C l) (hr : Q4.raw 22 = false) :
   ansV (Z8 C D L lit27 [.p (.vsl (clsC l) l.length), int col] []) = some (.agg (zx (l.foldl (Rq encV Pt col) bd0))) := by
 have hpro : ∃ M1, exec C L (.seq (.seq Qs8 Qru) Qef) ⟨params 0 [.p (.vsl (clsC l) l.length), int col], [], []⟩ = some (.normal, ⟨M1, [], [.arr (.pv yy) 0 0 (some 37), .arr (.pv (bdC bd0)) 0 0 (some 37)]⟩) /\
     At27 l col M1 [.arr (.pv yy) 0 0 (some 37), .arr (.pv (bdC bd0)) 0 0 (some 37)] 0 bd0 := by
   have key : ∀ cl : List PV, ∃ M1, exec C L (.seq (.seq Qs8 Qru) Qef) ⟨params 0 [.p (.vsl cl l.length), int col], [], []⟩ = some (.normal, ⟨M1, [], [.arr (.pv yy) 0 0 (some 37), .arr (.pv (bdC bd0)) 0 0 (some 37)]⟩) /\
     M1.get 1 = some (int col) /\ M1.get 4 = some (.ptr 0 0 0) /\ M1.get 5 = some (.ptr 1 0 0) /\ M1.get 6 = some (.p (.bool false)) /\ M1.get 11 = some (.p (.vsl cl l.length)) /\ M1.get 12 = some (int l.length) /\ M1.get 13 = some (int 0) := fun cl =>
     ⟨_, by simp [Qs8, Qru, Qef, params, lenA, Q1.toList]; rfl, rfl, rfl, rfl, rfl, rfl, rfl, rfl⟩
   obtain ⟨M1, e, q1, q4, q5, q6, q11, q12, q13⟩ := key (clsC l)
   exact ⟨M1, e, ⟨q1, q4, q5, q6, q11, q12, q13, rfl, rfl⟩⟩
 obtain ⟨M1, e1, h1⟩ := hpro
 obtain ⟨M2, σ2, e2, g4, g5, g6, o0, o1⟩ := Qwy (C := C) (L := L) hl hop hE hr l.length L 0 M1 _ bd0 (by omega) hL (by omega) h1
 rw [List.drop_zero] at g6 o1
 generalize l.foldl (Rq encV Pt col) bd0 = B at g6 o1 ⊢
 rw [Zp, lit27_tree]
 unfold n27 n27_3
 rw [Zn, seq3, seqN e1]
 have e3 : exec C L Qjh ⟨M1, [], [.arr (.pv yy) 0 0 (some 37), .arr (.pv (bdC bd0)) 0 0 (some 37)]⟩ = some (.normal, ⟨M2, [], σ2⟩) := by
   unfold Qjh Qk8
   exact F0 (by simp only [exec]; exact e2)
 rw [seqN e3]
 have hl1 : 1 < σ2.length := (List.getElem?_eq_some_iff.1 o1).1
 have hs0 : ∀ x : Obj, (σ2.set 0 x)[0]? = some x := fun x => List.getElem?_set_self (by omega)
 have hgt : (!(Op.bytesLess B.lo B.hi || B.lo == B.hi)) = !(le B.lo B.hi) := by rw [Qbf]
 cases hsm : B.some with
 | false =>
   have hp : zx B = [.bool true, .str [], .str [], .bool false] := if_pos hsm
   rw [hp]
   rw [hsm] at g6
   simp [Qt9, Qjs, x9, xi, Qh0, Qby, finX, Hp, lit27, Bu, Fd, Q1.get?, Q1.toList, g4, g6, o0, hs0]
 | true =>
   rw [hsm] at g6
   cases hle : le B.lo B.hi with
   | false =>
     have hp : zx B = [.bool false, .str [], .str [], .bool true] := by unfold zx; rw [if_neg (by rw [hsm]; decide), if_pos hle]
     rw [hp]
     rw [hle] at hgt
     simp only [Bool.not_false] at hgt
     simp [Qt9, Qjs, x9, xi, Qbm, qy, qx, Y9, finX, Hp, lit27, Bu, Fd, Q1.get?, Q1.toList, g4, g5, g6, o0, o1, hs0, ↓hgt]
   | true =>
     have hp : zx B = bdC B := by unfold zx; rw [if_neg (by rw [hsm]; decide), if_neg (by rw [hle]; decide)]
     rw [hp]
     rw [hle] at hgt
     simp only [Bool.not_true] at hgt
     simp [Qt9, Qjs, x9, xi, Qbm, qy, qx, n27_5, Y9, finX, Hp, lit27, Bu, Fd, Q1.get?, Q1.toList, g4, g5, g6, o0, o1, hs0, ↓hgt]
end Go.Ab.Turn
namespace Go.Ab.Turn
open Go Go.Ab Go.Ab.Plan Go.Ab.Key Go.Ab.Cnt Go.Proofs
attribute [local simp] Uw Qe7 AV.cells N0 O5 finA qc resA resV ansV
variable [Q4]
theorem Qtf {Tb : Ld} {L n m : Nat} (k : List Nat) (t : T) (hok : okT t) (h22 : Tb 16 = some (.raw lit22)) (h29 : Tb 26 = some (.raw lit29)) (hr : Tb 4294967295 = some .rnd) (hraw : Q4.raw 4294967295 = true) (hL : 3 <= L) (hcl : (Jo t).length <= LIM)
   (h23 : ∀ n, m <= n -> ∀ t, okT t -> ∃ c b, (∀ σ, (cAt Tb L n).1 17 [.p (tbl k), .p (node t), int 0] σ = some (.ret (.p (.tup [.agg c, .bool b])), σ)) /\ Ok23 (read slT t) c b /\ c.length = 6) (hn : m + 1 + 2 * deep t <= n + 1) :
   ∃ M σ b, exec (cAt Tb L (n + 1)).1 L (.seq (.seq (.seq Qt2 Qtt) Qr6) (.seq Qxy (.seq Qrx Qtj))) ⟨params 0 [.p (tbl k), .p (.vsl (cells t) 1), int 0], [], []⟩ = some (.normal, ⟨M, [(4294967294, [.ptr 5 0 0])], σ⟩) /\
     StF k (L5 (Jo t)) b 5 M σ .nil0 [] /\ ∀ j ∈ own b, 6 <= j := by
 have hcell : ∃ p q r s, cells t = [p, q, r, s] := by cases t; exact ⟨_, _, _, _, rfl⟩
 obtain ⟨p, q, r, s, ec⟩ := hcell
 obtain ⟨H, hH⟩ : ∃ H : Heap, H = [.arr (.pv (tblC k)) 0 0 none, .arr (.pv [.int .i64 0]) 0 0 none, .arr (.pv yy) 0 0 (some 37), .arr (.av [.nil0]) 0 0 (some 73)] := ⟨_, rfl⟩
 have hHl : H.length = 4 := by rw [hH]; rfl
 obtain ⟨M1, e1, q3, q5, q6, q7, q30⟩ : ∃ M1, exec (cAt Tb L (n + 1)).1 L (.seq (.seq (.seq Qt2 Qtt) Qr6) Qij) ⟨params 0 [.p (tbl k), .p (.vsl (cells t) 1), int 0], [], []⟩ = some (.normal, ⟨M1, [], H ++ [boxT t]⟩) /\
     M1.get 3 = some (.ptr 0 0 0) /\ M1.get 5 = some (.ptr 1 0 0) /\ M1.get 6 = some (.ptr 2 0 0) /\ M1.get 7 = some (.ptr 3 0 0) /\ M1.get 30 = some (.clo 26 [] [.ptr 4 0 0]) := by
   have hr22 := fun σ => run22 (L := L) (n := n) h22 t σ
   rw [hH]
   generalize (cAt Tb L (n + 1)).1 = C at hr22 ⊢
   simp only [node, boxT, ec] at hr22 ⊢
   exact ⟨_, by simp [Qt2, Qtt, Qny, Qp4, Qr6, Qij, params, idxA, lenA, Bu, Fd, Q1.get?, Q1.toList, tblC, hr22]; rfl, rfl, rfl, rfl, rfl, rfl⟩
 obtain ⟨σ2, hσ2⟩ : ∃ σ2, σ2 = H ++ [boxT t] := ⟨_, rfl⟩
 rw [<- hσ2] at e1
 have hlen2 : σ2.length = 5 := by rw [hσ2]; simp [hHl]
 obtain ⟨ts, hts⟩ : ∃ ts, ts = (B4 M1 [43, 42, 40, 41, 7, 39, 10, 38, 37, 9, 32, 36, 35, 34, 33, 5, 3, 31, 8]).map (·.1) := ⟨_, rfl⟩
 obtain ⟨cc, hcc⟩ : ∃ cc, cc = Kp ((B4 M1 [43, 42, 40, 41, 7, 39, 10, 38, 37, 9, 32, 36, 35, 34, 33, 5, 3, 31, 8]).map (·.2)) := ⟨_, rfl⟩
 have z3 : (zipE ts cc.toList).get 3 = some (.ptr 0 0 0) := by rw [hts, hcc, Qab, Vn _ _ _ (by decide), q3]
 have z5 : (zipE ts cc.toList).get 5 = some (.ptr 1 0 0) := by rw [hts, hcc, Qab, Vn _ _ _ (by decide), q5]
 have z7 : (zipE ts cc.toList).get 7 = some (.ptr 3 0 0) := by rw [hts, hcc, Qab, Vn _ _ _ (by decide), q7]
 obtain ⟨σ3, hσ3⟩ : ∃ σ3, σ3 = σ2 ++ [.mark, .loop K17 ts cc .ready] := ⟨_, rfl⟩
 have hexp : σ3 = [.arr (.pv (tblC k)) 0 0 none, .arr (.pv [.int .i64 0]) 0 0 none, .arr (.pv yy) 0 0 (some 37), .arr (.av [.nil0]) 0 0 (some 73), boxT t, .mark, .loop K17 ts cc .ready] := by rw [hσ3, hσ2, hH]; rfl
 have hI3 : (gath k 6).I [] (6 :: 0 :: 1 :: 3 :: own .nil0) σ3 := by
   rw [hexp]
   exact ⟨.nil0, ts, cc, rfl, rfl, z3, z5, z7, rfl, rfl, rfl, Buf.nil, by simp [own], by decide⟩
 have hlen3 : σ3.length = 7 := by rw [hexp]; rfl
 obtain ⟨σ4, O4, e4, hI4, hF4⟩ := Qks h22 h29 hr hraw hL (deep t) t (Nat.le_refl _) hok (n + 1) (gath k 6) 6 (m + 1) (Qw5 k hr hraw h23 6) hn [] _ σ3 4 (by simpa using hcl) hI3 (by rw [hexp]; rfl) (by simp [own])
 obtain ⟨b, ts4, cc4, rfl, i1, _, _, _, i2, i3, i4, i5, i6, _⟩ := hI4
 rw [List.nil_append] at i5
 have hl4 : 6 < σ4.length := (List.getElem?_eq_some_iff.1 i1).1
 have hob : ∀ j ∈ own b, 7 <= j := fun j hj => by
   have h1 := i6 j hj
   rcases hF4.new j (by simp [hj]) with hm | hm
   · simp [own] at hm; omega
   · omega
 have hold : ∀ j, j = 2 ∨ j = 5 -> σ4[j]? = σ3[j]? := fun j hj => hF4.old j (by omega) (by simp [own]; omega)
 have e3 : exec (cAt Tb L (n + 1)).1 L Qim ⟨M1, [], σ2⟩ = some (.normal, ⟨M1, [(4294967294, [.ptr 5 0 0])], σ4.set 6 (.loop K17 ts4 cc4 .over)⟩) := by
   unfold Qim
   refine Lp ?_
   have := Qqn (C := (cAt Tb L (n + 1)).1) (L := L) (ps := [31]) (a := xaOf Ph) (b := xbOf Ph) (g := .t 30) (ts := [43, 42, 40, 41, 7, 39, 10, 38, 37, 9, 32, 36, 35, 34, 33, 5, 3, 31, 8]) (M := M1) (ds := []) (σ := σ2) (σ2 := σ4) (gv := .clo 26 [] [.ptr 4 0 0]) (v := .p (.tup [])) (f := 26) (xs := [.yld 6, .ptr 4 0 0]) (k := K17) (ts' := ts4) (c := cc4)
     q30 (by rw [hlen2]; rfl) (by rw [<- hts, <- hcc, <- hσ3]; exact e4) (by rw [hlen2]; exact i1)
   rw [hlen2] at this
   exact this
 have i2' : (σ4.set 6 (.loop K17 ts4 cc4 .over))[0]? = some (.arr (.pv (tblC k)) 0 0 none) := by rw [List.getElem?_set_ne (by decide)]; exact i2
 obtain ⟨M5, e5, g6, g7, g11, g12⟩ : ∃ M5, exec (cAt Tb L (n + 1)).1 L (.seq Qrx Qtj) ⟨M1, [(4294967294, [.ptr 5 0 0])], σ4.set 6 (.loop K17 ts4 cc4 .over)⟩ = some (.normal, ⟨M5, [(4294967294, [.ptr 5 0 0])], σ4.set 6 (.loop K17 ts4 cc4 .over)⟩) /\
     M5.get 6 = M1.get 6 /\ M5.get 7 = M1.get 7 /\ M5.get 11 = some (.p (.vsl (cols k) k.length)) /\ M5.get 12 = some .nil0 := by
   generalize σ4.set 6 (.loop K17 ts4 cc4 .over) = σ5 at i2' ⊢
   generalize (cAt Tb L (n + 1)).1 = C
   simp only [tblC] at i2'
   exact ⟨_, by simp [Qrx, Qtj, idxA, Bu, Fd, Q1.get?, q3, i2']; rfl, by simp, by simp, by simp, by simp⟩
 refine ⟨M5, σ4.set 6 (.loop K17 ts4 cc4 .over), b, ?_, ⟨g6.trans q6, g7.trans q7, g11, g12, ?_, ?_, ?_, Buf.nil, by simp [own], ?_, by decide⟩, fun j hj => by have := hob j hj; omega⟩
 · unfold Qxy
   rw [seq3, seqN e1, seqN e3]
   exact e5
 · rw [List.getElem?_set_ne (by decide), hold 2 (.inl rfl), hexp]; rfl
 · rw [List.getElem?_set_ne (by decide)]; exact i4
 · rcases i5.2 with ⟨rfl, h0⟩ | ⟨_, id, ver, rfl, ho⟩
   · exact .inl ⟨rfl, List.eq_nil_of_length_eq_zero h0⟩
   · refine .inr ⟨id, ver, 0, some 78, rfl, ?_⟩
     have := hob id (by simp [own])
     rw [List.getElem?_set_ne (by omega)]
     exact ho
 · rw [List.getElem?_set_ne (by decide), hold 5 (.inr rfl), hexp]; rfl
end Go.Ab.Turn
namespace Go.Ab.Turn
open Go Go.Ab Go.Ab.Plan Go.Ab.Key Go.Ab.Cnt Go.Proofs
attribute [local simp] Uw Qe7 AV.cells N0 O5 finA qc resA resV ansV
variable [Q4]
def encF (F : List Lit) : Word := encL (F.map litV)
def V4 (k : List Nat) (ls : List Cl) : List PV :=
 if (Jj k ls).length = k.length then [.bool false, .str (encF (Jj k ls)), .str (encF (Jj k ls)), .bool false]
 else if (Jj k ls).length = 0 then zx (ls.foldl (Rq encV Pt (k.headD 0)) bd0)
 else [.bool false, .str (encF (Jj k ls)), .str (encF (Jj k ls) ++ [255]), .bool false]
theorem Qdc (B : Bd) : ∃ a b c d, zx B = [a, b, c, d] := by
 unfold zx
 split
 · exact ⟨_, _, _, _, rfl⟩
 · split
   · exact ⟨_, _, _, _, rfl⟩
   · exact ⟨_, _, _, _, rfl⟩
structure E17 (C : Zj) (k : List Nat) (ls : List Cl) (b : AV) : Prop where
 enc : ∀ σ f, SlAt σ f ((Jj k ls).map litV) -> ∃ σ', C 20 [f] σ = some (.ret (.p (.str (encF (Jj k ls)))), σ') /\ SlAt σ' f ((Jj k ls).map litV) /\ σ'.length = σ.length /\ ∀ j, j ∉ own f -> σ'[j]? = σ[j]?
 btw : ∀ σ, Sl6 σ b ls -> ∃ σ', C 21 [b, int (k.headD 0)] σ = some (.ret (.p (.agg (zx (ls.foldl (Rq encV Pt (k.headD 0)) bd0)))), σ') /\ σ'.length = σ.length /\ ∀ j, j ∉ own b -> σ'[j]? = σ[j]?
 abv : ∀ σ, C 22 [.p (.str (encF (Jj k ls)))] σ = some (.ret (.p (.str (encF (Jj k ls) ++ [255]))), σ)
theorem fin17 (D : Yo) (M : Env) (σ : Heap) (a b c d : PV) (h6 : M.get 6 = some (.ptr 2 0 0)) (h2 : σ[2]? = some (.arr (.pv [a, b, c, d]) 0 0 (some 37))) (h5 : σ[5]? = some .mark) :
   ansV (finX D lit17 (some (.ret, ⟨M, [(4294967294, [.ptr 5 0 0])], σ⟩))) = some (.agg [a, b, c, d]) := by
 have hs : (σ.set 5 .none)[2]? = some (.arr (.pv [a, b, c, d]) 0 0 (some 37)) := by rw [List.getElem?_set_ne (by decide)]; exact h2
 simp [finX, Hp, lit17, h6, h5, hs]
structure G17 (k : List Nat) (ls : List Cl) (b : AV) (M : Env) (σ : Heap) (f : AV) : Prop where
 t6 : M.get 6 = some (.ptr 2 0 0)
 t7 : M.get 7 = some (.ptr 3 0 0)
 t11 : M.get 11 = some (.p (.vsl (cols k) k.length))
 t12 : M.get 12 = some f
 fb : f = .nil0 /\ (Jj k ls).length = 0 ∨ ∃ id ver, f = .sl id ver 0 (Jj k ls).length 4
 o2 : σ[2]? = some (.arr (.pv yy) 0 0 (some 37))
 o3 : σ[3]? = some (.arr (.av [b]) 0 0 (some 73))
 o5 : σ[5]? = some .mark
 sl : Sl6 σ b ls
 ob : ∀ j ∈ own b, 6 <= j
theorem pair17 {C : Zj} {L : Nat} {k : List Nat} {ls : List Cl} {b : AV} {M : Env} {σ : Heap} {f : AV} {ds : List (Nat × List AV)} (h : StF k ls b 5 M σ f (Jj k ls)) (hE : E17 C k ls b) (hob : ∀ j ∈ own b, 6 <= j) :
   ∃ M' σ' p, exec C L Qrv ⟨M, ds, σ⟩ = some (.normal, ⟨M', ds, σ'⟩) /\ G17 k ls b M' σ' f /\ M'.get 16 = some (.ptr p 0 0) /\ σ'[p]? = some (.arr (.pv [.bool false, .str (encF (Jj k ls)), .str (encF (Jj k ls)), .bool false]) 0 0 (some 37)) /\ 6 <= p := by
 have hsl : SlAt σ f ((Jj k ls).map litV) := by
   rcases h.bf.2 with ⟨rfl, h0⟩ | ⟨_, id, ver, rfl, ho⟩
   · exact .inl ⟨rfl, by rw [List.eq_nil_of_length_eq_zero h0]; rfl⟩
   · exact .inr ⟨id, ver, 0, [], some 54, by rw [List.length_map], by rw [List.append_nil]; exact ho⟩
 obtain ⟨σ1, c1, s1, l1, k1⟩ := hE.enc σ f hsl
 obtain ⟨σ2, c2, s2, l2, k2⟩ := hE.enc σ1 f s1
 have hfb : f = .nil0 /\ (Jj k ls).length = 0 ∨ ∃ id ver, f = .sl id ver 0 (Jj k ls).length 4 := by
   rcases h.bf.2 with ⟨rfl, h0⟩ | ⟨_, id, ver, rfl, _⟩
   · exact .inl ⟨rfl, h0⟩
   · exact .inr ⟨id, ver, rfl⟩
 have hof : ∀ j ∈ own f, 4 <= j /\ j ∉ own b /\ j ≠ 5 := h.ob
 have keep : ∀ j, j ∉ own f -> σ2[j]? = σ[j]? := fun j hj => (k2 j hj).trans (k1 j hj)
 have nf : ∀ j, (j < 4 ∨ j = 5 ∨ j ∈ own b) -> j ∉ own f := fun j hj hm => by
   obtain ⟨a1, a2, a3⟩ := hof j hm
   rcases hj with hj | hj | hj
   · omega
   · exact a3 hj
   · exact a2 hj
 have h5l : 5 < σ.length := (List.getElem?_eq_some_iff.1 h.om).1
 have hln : σ2.length = σ.length := l2.trans l1
 have push : ∀ j, j < σ2.length -> ∀ τ : Heap, (σ2 ++ τ)[j]? = σ2[j]? := fun j hj τ => List.getElem?_append_left hj
 generalize encF (Jj k ls) = e at c1 c2 ⊢
 obtain ⟨M', r, q16, g6, g7, g11, g12⟩ : ∃ M', exec C L Qrv ⟨M, ds, σ⟩ = some (.normal, ⟨M', ds, σ2 ++ [.arr (.pv [.bool false, .str e, .str e, .bool false]) 0 0 (some 37)]⟩) /\ M'.get 16 = some (.ptr σ2.length 0 0) /\ M'.get 6 = M.get 6 /\ M'.get 7 = M.get 7 /\ M'.get 11 = M.get 11 /\ M'.get 12 = M.get 12 :=
   ⟨_, by simp [Qrv, Q1.toList, h.t12, c1, c2]; rfl, by simp, by simp, by simp, by simp, by simp⟩
 refine ⟨M', _, σ2.length, r, ⟨g6.trans h.t6, g7.trans h.t7, g11.trans h.t11, g12.trans h.t12, hfb, ?_, ?_, ?_, ?_, hob⟩, q16, by simp, by omega⟩
 · rw [push 2 (by omega), keep 2 (nf 2 (by simp))]; exact h.o2
 · rw [push 3 (by omega), keep 3 (nf 3 (by simp))]; exact h.o3
 · rw [push 5 (by omega), keep 5 (nf 5 (by simp))]; exact h.om
 · exact (h.sl.same fun j hj => keep j (nf j (.inr (.inr hj)))).push _
end Go.Ab.Turn
