/- XR -/
import Derived.Test.YtikebbklkiodlaaGreatDoorAbXM
set_option maxRecDepth 1000000
set_option linter.all false
namespace Go.Ab.Keep
open Go Go.Ab Go.Ab.Plan Go.Ab.Key Go.Ab.Cnt Go.Ab.Turn Go.Proofs
theorem At174.app {s pt : Word} {i j i1 i2 : Nat} {k : Int} {M : Env} (h : At174 M s pt i j i1 i2 k) (r : Env) (hr : ∀ t, t < 10 -> Env.get r t = none) : At174 (r ++ M) s pt i j i1 i2 k := by
 have e : ∀ t, t < 10 -> Env.get (r ++ M) t = M.get t := by
   intro t ht
   have h1 := hr t ht
   clear hr
   induction r with
   | nil => rfl
   | cons x r ih =>
     obtain ⟨y, z⟩ := x
     rw [List.cons_append]
     rw [Env.get_cons] at h1 ⊢
     split at h1
     · cases h1
     · rename_i hne
       rw [if_neg hne]
       exact ih h1
 exact ⟨(e 0 (by omega)).trans h.t0, (e 1 (by omega)).trans h.t1, (e 5 (by omega)).trans h.t5, (e 6 (by omega)).trans h.t6, (e 7 (by omega)).trans h.t7, (e 8 (by omega)).trans h.t8, (e 9 (by omega)).trans h.t9⟩
section
variable [Mx] (C : Zj) (L : Nat) (s pt : Word) (i j i1 i2 k : Nat) (M : Env) (σ : Heap)
theorem sw174 (h : At174 M s pt i j i1 i2 (k : Int)) (hne : i1 ≠ i2) (hs : s.length <= 1048576) (hk : k <= s.length) (c : UInt8) (hc : pt[i]? = some c) (g : M.get 35 = some (.p (.int .u8 c.toNat))) (h1 : Bs σ i1 s.length) (h2 : Bs σ i2 s.length) : Way C L Bq s pt i j i1 i2 k M σ := by
 have lift : ∀ (c' : Q0) (r : Env), (∀ t, t < 10 -> Env.get r t = none) -> exec C L Yg ⟨M, [], σ⟩ = exec C L c' ⟨r ++ M, [], σ⟩ -> Way C L c' s pt i j i1 i2 k (r ++ M) σ -> Way C L Bq s pt i j i1 i2 k M σ := by
   rintro c' r hr e ⟨M', σ', e1, q⟩
   exact ⟨M', σ', Lp (e.trans e1), q⟩
 by_cases q1 : c = 37
 · subst q1
   refine lift Jq [(58, .p (.bool true)), (59, .p (.bool true))] (fun t ht => by
     have : ∀ j, 10 <= j -> ¬ j = t := fun j hj he => by omega
     simp [this, Env.get]) ?_ (Qw9 C L s pt i j i1 i2 k _ σ (h.app _ (fun t ht => by
     have : ∀ j, 10 <= j -> ¬ j = t := fun j hj he => by omega
     simp [this, Env.get])) hne hs hk h1 h2)
   unfold Yg Yp
   rw [seqN (by simp [Ys, g]; rfl), y5 (by rfl)]
   rfl
 · have f1 : ((c.toNat : Int) == 37) = false := Qex (k := 37) q1
   by_cases q2 : c = 95
   · subst q2
     refine lift J7 [(79, .p (.bool true)), (80, .p (.bool true)), (58, .p (.bool false)), (59, .p (.bool false))] (fun t ht => by
       have : ∀ j, 10 <= j -> ¬ j = t := fun j hj he => by omega
       simp [this, Env.get]) ?_ (any174 C L s pt i j i1 i2 k _ σ (h.app _ (fun t ht => by
       have : ∀ j, 10 <= j -> ¬ j = t := fun j hj he => by omega
       simp [this, Env.get])) hne hs hk h1 h2)
     unfold Yg Yp Bw Y8
     rw [seqN (by simp [Ys, g]; rfl), Tv (by rfl), seqN (by simp [Y6, g]; rfl), y5 (by rfl)]
     rfl
   · have f2 : ((c.toNat : Int) == 95) = false := Qex (k := 95) q2
     refine lift Js [(79, .p (.bool false)), (80, .p (.bool false)), (58, .p (.bool false)), (59, .p (.bool false))] (fun t ht => by
       have : ∀ j, 10 <= j -> ¬ j = t := fun j hj he => by omega
       simp [this, Env.get]) ?_ (one174 C L s pt i j i1 i2 k _ σ (h.app _ (fun t ht => by
       have : ∀ j, 10 <= j -> ¬ j = t := fun j hj he => by omega
       simp [this, Env.get])) hne hs hk c hc h1 h2)
     unfold Yg Yp Bw Y8
     rw [seqN (by simp [Ys, g, f1]; rfl), Tv (by rfl), seqN (by simp [Y6, g, f2]; rfl), Tv (by rfl)]
     rfl
theorem in174 (h : At174 M s pt i j i1 i2 (k : Int)) (hne : i1 ≠ i2) (hs : s.length <= 1048576) (hk : k <= s.length) (c : UInt8) (hc : pt[i]? = some c) (h1 : Bs σ i1 s.length) (h2 : Bs σ i2 s.length) :
   ∃ M' σ', exec C L B9 ⟨M, [], σ⟩ = some (.normal, ⟨M', [], σ'⟩) /\ At174 M' s pt i j i1 i2 ((k : Int) - 1) /\ Bs σ' i1 s.length /\ Bs σ' i2 s.length /\ σ'.length = σ.length := by
 have ha : At174 ([(35, .p (.int .u8 c.toNat)), (34, int i), (33, .p (.str pt)), (30, .p (.bool true)), (29, int k)] ++ M) s pt i j i1 i2 k := h.app _ (fun t ht => by
   have : ∀ j, 10 <= j -> ¬ j = t := fun j hj he => by omega
   simp [this, Env.get])
 obtain ⟨M1, σ1, e1, h3, b1, b2, hl⟩ := sw174 C L s pt i j i1 i2 k _ σ ha hne hs hk c hc (by simp) h1 h2
 have ew : IntKind.i64.wrap ((k : Int) - 1) = (k : Int) - 1 := J5 _ (by omega) (by omega)
 refine ⟨(9, int ((k : Int) - 1)) :: (32, int ((k : Int) - 1)) :: (31, int k) :: M1, σ1, ?_, ⟨by simp [h3.t0], by simp [h3.t1], by simp [h3.t5], by simp [h3.t6], by simp [h3.t7], by simp [h3.t8], by simp⟩, b1, b2, hl⟩
 unfold B9 Kw Kq
 rw [seqN (by simp [Lj, Iy, I0, h.t9]; rfl)]
 have e2 : exec C L (.block 3 (.seq D1 Bq)) ⟨(30, .p (.bool true)) :: (29, int k) :: M, [], σ⟩ = some (.normal, ⟨M1, [], σ1⟩) := by
   refine Lp ?_
   rw [seqN (by simp [D1, Zt, h.t1, h.t7, hc]; rfl)]
   exact e1
 rw [seqN e2]
 simp [Lc, h3.t9, ew]
theorem Qzm (h : At174 M s pt i j i1 i2 (-1)) : ∃ M', exec C L B9 ⟨M, [], σ⟩ = some (.exit 2, ⟨M', [], σ⟩) /\ At174 M' s pt i j i1 i2 (-1) :=
 ⟨[(30, .p (.bool false)), (29, int (-1))] ++ M, by simp [B9, Lj, Iy, I0, Kw, Kq, D1, Bq, Yg, Ys, Yp, Bw, Y6, Y8, Js, J7, Jq, Lc, h.t9], h.app _ (fun t ht => by
   have : ∀ j, 10 <= j -> ¬ j = t := fun j hj he => by omega
   simp [this, Env.get])⟩
end
theorem Qo2 [Mx] (C : Zj) (L : Nat) (s pt : Word) (i j i1 i2 : Nat) (hne : i1 ≠ i2) (hs : s.length <= 1048576) (c : UInt8) (hc : pt[i]? = some c) : ∀ (d f : Nat) (M : Env) (σ : Heap), d <= s.length + 1 -> d < f -> At174 M s pt i j i1 i2 ((d : Int) - 1) -> Bs σ i1 s.length -> Bs σ i2 s.length ->
   ∃ M' σ', iter (exec C L B9) none f ⟨M, [], σ⟩ = some (.exit 2, ⟨M', [], σ'⟩) /\ At174 M' s pt i j i1 i2 (-1) /\ Bs σ' i1 s.length /\ Bs σ' i2 s.length /\ σ'.length = σ.length
 | 0, f, M, σ, hd, hf, h, h1, h2 => by
   obtain ⟨f, rfl⟩ : ∃ m, f = m + 1 := ⟨f - 1, by omega⟩
   obtain ⟨M', e, g⟩ := Qzm C L s pt i j i1 i2 M σ h
   exact ⟨M', σ, by simp only [iter, St.keep, e], g, h1, h2, rfl⟩
 | d + 1, f, M, σ, hd, hf, h, h1, h2 => by
   obtain ⟨f, rfl⟩ : ∃ m, f = m + 1 := ⟨f - 1, by omega⟩
   have ed : ((d + 1 : Nat) : Int) - 1 = (d : Int) := by omega
   rw [ed] at h
   obtain ⟨M1, σ1, e, g, b1, b2, hl⟩ := in174 C L s pt i j i1 i2 d M σ h hne hs (by omega) c hc h1 h2
   obtain ⟨M', σ', e2, g2, b3, b4, hl2⟩ := Qo2 C L s pt i j i1 i2 hne hs c hc d f M1 σ1 (by omega) (by omega) g b1 b2
   exact ⟨M', σ', by simp only [iter, St.keep, e]; exact e2, g2, b3, b4, hl2.trans hl⟩
end Go.Ab.Keep
namespace Go.Ab.Keep
open Go Go.Ab Go.Ab.Plan Go.Ab.Key Go.Ab.Cnt Go.Ab.Turn Go.Proofs
structure Ot174 (M : Env) (s pt : Word) (i1 : Nat) (k : Int) : Prop where
 t0 : M.get 0 = some (.p (.str s))
 t1 : M.get 1 = some (.p (.str pt))
 t5 : M.get 5 = some (int s.length)
 t6 : M.get 6 = some (.sl i1 0 0 (s.length + 1) 1)
 t7 : M.get 7 = some (int k)
theorem Qvk (n : Nat) : List.replicate (n + 1) (PV.bool false) = (List.replicate (n + 1) false).map PV.bool := by simp
section
variable [Mx] (C : Zj) (L : Nat) (s pt : Word) (i i1 : Nat) (M : Env) (σ : Heap)
theorem out174 (h : Ot174 M s pt i1 (i : Int)) (hs : s.length <= 1048576) (c : UInt8) (hc : pt[i]? = some c) (hi : i <= 1048576) (h1 : Bs σ i1 s.length) (hL : s.length + 1 < L) :
   ∃ M' σ' i2, exec C L R0 ⟨M, [], σ⟩ = some (.normal, ⟨M', [], σ'⟩) /\ Ot174 M' s pt i2 ((i : Int) - 1) /\ Bs σ' i2 s.length := by
 have hlt : i1 < σ.length := by
   obtain ⟨bs, _, o⟩ := h1
   exact (List.getElem?_eq_some_iff.1 o).1
 have e1 : IntKind.i64.wrap ((s.length : Int) + 1) = (s.length : Int) + 1 := J5 _ (by omega) (by omega)
 have hp : (0 : Int) <= (s.length : Int) + 1 := by omega
 have hlim : (s.length : Int) + 1 <= (LIM : Int) := by have : LIM = 4294967296 := rfl; omega
 have ht : ((s.length : Int) + 1).toNat = s.length + 1 := by omega
 have hr : repZ [.p (.bool false)] (s.length + 1) = .pv (List.replicate (s.length + 1) (.bool false)) := rfl
 have ew : IntKind.i64.wrap ((i : Int) - 1) = (i : Int) - 1 := J5 _ (by omega) (by omega)
 have ei : ((s.length + 1 : Nat) : Int) - 1 = (s.length : Int) := by omega
 have A : ∃ M1, (∀ X, exec C L (.seq N9 (.seq Oc X)) ⟨(22, .p (.bool true)) :: (21, int i) :: M, [], σ⟩ = exec C L (.seq Ol X) ⟨M1, [], σ ++ [.arr (.pv ((List.replicate (s.length + 1) false).map .bool)) 0 0 none]⟩) /\ At174 M1 s pt i 0 i1 σ.length (((s.length + 1 : Nat) : Int) - 1) := by
   rw [<- Qvk, ei]
   exact ⟨_, fun X => by
     unfold Oc
     rw [seqN (by simp [N9, h.t5, e1, hp, hlim, ht, hr]; rfl), <- Zn, seqN (by simp [Um, h.t5]; rfl)], ⟨by simp [h.t0], by simp [h.t1], by simp [h.t5], by simp [h.t6], by simp [h.t7], by simp, by simp⟩⟩
 obtain ⟨M1, e2, g1⟩ := A
 obtain ⟨bs, l1, o1⟩ := h1
 have b1 : Bs (σ ++ [.arr (.pv ((List.replicate (s.length + 1) false).map .bool)) 0 0 none]) i1 s.length := ⟨bs, l1, by rw [List.getElem?_append_left hlt]; exact o1⟩
 have b2 : Bs (σ ++ [.arr (.pv ((List.replicate (s.length + 1) false).map .bool)) 0 0 none]) σ.length s.length := ⟨List.replicate (s.length + 1) false, by simp, by simp⟩
 obtain ⟨M2, σ2, e3, g2, _, b3, _⟩ := Qo2 C L s pt i 0 i1 σ.length (by omega) hs c hc (s.length + 1) L M1 _ (Nat.le_refl _) hL g1 b1 b2
 refine ⟨(7, int ((i : Int) - 1)) :: (24, int ((i : Int) - 1)) :: (23, int i) :: (6, .sl σ.length 0 0 (s.length + 1) 1) :: (94, .sl σ.length 0 0 (s.length + 1) 1) :: M2, σ2, σ.length, ?_, ⟨by simp [g2.t0], by simp [g2.t1], by simp [g2.t5], by simp, by simp⟩, b3⟩
 unfold R0 yc wk
 have hi0 : (0 : Int) <= (i : Int) := by omega
 rw [seqN (by simp [W9, T1, T3, h.t7]; rfl)]
 have e4 : exec C L (.block 1 (.seq N9 (.seq Oc Sh))) ⟨(22, .p (.bool true)) :: (21, int i) :: M, [], σ⟩ = some (.normal, ⟨(6, .sl σ.length 0 0 (s.length + 1) 1) :: (94, .sl σ.length 0 0 (s.length + 1) 1) :: M2, [], σ2⟩) := by
   refine Lp ?_
   rw [e2, seqN (a := Ol) (by exact F0 (id := 2) (b := S8) e3)]
   simp [Sh, g2.t8]
 rw [seqN e4]
 simp [jz, g2.t7, ew]
theorem end174 (h : Ot174 M s pt i1 (-1)) : ∃ M', exec C L R0 ⟨M, [], σ⟩ = some (.exit 0, ⟨M', [], σ⟩) /\ Ot174 M' s pt i1 (-1) :=
 ⟨_, by simp [W9, T1, T3, R0, h.t7]; rfl, ⟨by simp [h.t0], by simp [h.t1], by simp [h.t5], by simp [h.t6], by simp [h.t7]⟩⟩
end
theorem Qjy [Mx] (C : Zj) (L : Nat) (s pt : Word) (hs : s.length <= 1048576) (hp : pt.length <= 1048576) (hL : s.length + 1 < L) : ∀ (d f i1 : Nat) (M : Env) (σ : Heap), d <= pt.length -> d < f -> Ot174 M s pt i1 ((d : Int) - 1) -> Bs σ i1 s.length ->
   ∃ M' σ' i2, iter (exec C L R0) none f ⟨M, [], σ⟩ = some (.exit 0, ⟨M', [], σ'⟩) /\ Ot174 M' s pt i2 (-1) /\ Bs σ' i2 s.length
 | 0, f, i1, M, σ, hd, hf, h, h1 => by
   obtain ⟨f, rfl⟩ : ∃ m, f = m + 1 := ⟨f - 1, by omega⟩
   obtain ⟨M', e, g⟩ := end174 C L s pt i1 M σ h
   exact ⟨M', σ, i1, by simp only [iter, St.keep, e], g, h1⟩
 | d + 1, f, i1, M, σ, hd, hf, h, h1 => by
   obtain ⟨f, rfl⟩ : ∃ m, f = m + 1 := ⟨f - 1, by omega⟩
   have ed : ((d + 1 : Nat) : Int) - 1 = (d : Int) := by omega
   rw [ed] at h
   obtain ⟨M1, σ1, i2, e, g, b1⟩ := out174 C L s pt d i1 M σ h hs pt[d] (List.getElem?_eq_getElem (by omega)) (by omega) h1 hL
   obtain ⟨M', σ', i3, e2, g2, b2⟩ := Qjy C L s pt hs hp hL d f i2 M1 σ1 (by omega) (by omega) g b1
   exact ⟨M', σ', i3, by simp only [iter, St.keep, e]; exact e2, g2, b2⟩
theorem like74 [Mx] (L n : Nat) (s pt : Word) (hs : s.length <= 1048576) (hp : pt.length <= 1048576) (hL : 1048577 < L) : ∃ c : Bool, ∀ σ, (cAt TT L (n + 1)).1 74 [.p (.str s), .p (.str pt)] σ = some (.ret (.p (.bool c)), σ) := by
 have key : ∃ c : Bool, ansV (Z8 (cAt TT L n).1 (cAt TT L n).2 L lit174 [.p (.str s), .p (.str pt)] []) = some (.bool c) := by
   generalize (cAt TT L n).1 = C
   generalize (cAt TT L n).2 = D
   have e1 : IntKind.i64.wrap ((s.length : Int) + 1) = (s.length : Int) + 1 := J5 _ (by omega) (by omega)
   have e2 : IntKind.i64.wrap ((pt.length : Int) - 1) = (pt.length : Int) - 1 := J5 _ (by omega) (by omega)
   have hp1 : (0 : Int) <= (s.length : Int) + 1 := by omega
   have hlim : (s.length : Int) + 1 <= (LIM : Int) := by have : LIM = 4294967296 := rfl; omega
   have ht : ((s.length : Int) + 1).toNat = s.length + 1 := by omega
   have hr : repZ [.p (.bool false)] (s.length + 1) = .pv (List.replicate (s.length + 1) (.bool false)) := rfl
   have hk1 : (s.length : Int) < (s.length : Int) + 1 := by omega
   have b0 := Bs.set (σ := [.arr (.pv ((List.replicate (s.length + 1) false).map .bool)) 0 0 none]) (id := 0) (n := s.length) (k := s.length) (bs := List.replicate (s.length + 1) false) (by simp) rfl (Nat.le_refl _) true
   rw [<- Qvk] at b0
   rw [Zp, lit174_tree]
   unfold n174 Qvn
   have st : ∃ M1 σ1, (∀ X, exec C L (.seq Qni (.seq Qpv (.seq Qqr (.seq Qpk (.seq (.seq Qeq xq) X))))) ⟨params 0 [.p (.str s), .p (.str pt)], [], []⟩ = exec C L (.seq xq X) ⟨M1, [], σ1⟩) /\ Ot174 M1 s pt 0 ((pt.length : Int) - 1) /\ Bs σ1 0 s.length :=
     ⟨_, _, fun X => by
       rw [seqN (by simp [Qni, params]; rfl), seqN (by simp [Qpv]; rfl), seqN (by simp [Qqr, e1, hp1, hlim, ht, hr]; rfl), seqN (by simp [Qpk, hk1]; rfl), <- Zn, seqN (by simp [Qeq, e2]; rfl)], ⟨by simp, by simp, by simp, by simp, by simp⟩, by simpa using b0⟩
   obtain ⟨M1, σ1, e3, g1, b1⟩ := st
   obtain ⟨M2, σ2, i2, e4, g2, bs, l2, o2⟩ := Qjy C L s pt hs hp (by omega) pt.length L 0 M1 σ1 (Nat.le_refl _) (by omega) g1 b1
   rw [e3, seqN (a := xq) (by exact F0 (id := 0) (b := Qg9) e4)]
   have g0 : (bs.map PV.bool)[0]? = some (.bool (bs[0]'(by omega))) := by rw [List.getElem?_map, List.getElem?_eq_getElem (by omega)]; rfl
   have hz : (0 : Int) < (s.length : Int) + 1 := by omega
   exact ⟨bs[0]'(by omega), by simp [Qux, lit174, g2.t6, o2, g0, hz]⟩
 obtain ⟨c, hc⟩ := key
 exact ⟨c, fun σ => Z7 (ps := [.str s, .str pt]) q174 (by rfl) hc σ⟩
end Go.Ab.Keep
namespace Go.Ab.Keep
open Go Go.Ab Go.Ab.Plan Go.Ab.Key Go.Ab.Cnt Go.Ab.Turn Go.Proofs
def Qbu : List Word := [[115, 108, 111, 116], [110, 117, 109], [116, 101, 120, 116], [98, 111, 111, 108], [110, 117, 108, 108]]
def Qbw : List Word := [[110, 101, 103], [110, 111, 116], [105, 115], [101, 120, 105, 115, 116, 115], [115, 99, 97, 108, 97, 114]]
def Qa1 : List Word := [[43], [45], [42], [47], [124, 124], [61], [60, 62], [60], [60, 61], [62], [62, 61], [97, 110, 100], [111, 114], [108, 105, 107, 101], [110, 117, 108, 108, 105, 102], [99, 97, 115, 116], [97, 110, 121], [97, 108, 108]]
abbrev Kt : Word := [98, 101, 116, 119, 101, 101, 110]
abbrev wIn : Word := [105, 110]
abbrev js : Word := [99, 97, 115, 101]
abbrev je : Word := [99, 111, 97, 108, 101, 115, 99, 101]
abbrev Qbn : Word := [113, 117, 101, 114, 121]
abbrev Qoy : Word := [119, 104, 101, 110]
def Ek (op s : Word) : Int × Bool :=
 if op ∈ Qbu then (0, true) else if op ∈ Qbw then (1, true) else if op ∈ Qa1 then (2, true) else if op = Kt then (3, true) else if op = wIn then (if s = Qbn then (2, true) else (-1, true)) else if op = js ∨ op = je then (-1, true) else (0, false)
section
variable [Mx] (L n : Nat)
theorem Qyw (t : T) (σ : Heap) : (cAt TT L (n + 1)).1 52 [.p (node t)] σ = some (.ret (.p (.tup [.int .i64 (Ek t.op t.s).1, .bool (Ek t.op t.s).2])), σ) := by
 refine Z7 (ps := [node t]) q152 (by rfl) ?_ σ
 obtain ⟨op, s, z, l⟩ := t
 simp only [T.op, T.s]
 by_cases h0 : op ∈ Qbu
 · simp only [Qbu, List.mem_cons, List.not_mem_nil, or_false] at h0
   rcases h0 with rfl | rfl | rfl | rfl | rfl <;> kernel_rfl
 · by_cases h1 : op ∈ Qbw
   · simp only [Qbw, List.mem_cons, List.not_mem_nil, or_false] at h1
     rcases h1 with rfl | rfl | rfl | rfl | rfl <;> kernel_rfl
   · by_cases h2 : op ∈ Qa1
     · simp only [Qa1, List.mem_cons, List.not_mem_nil, or_false] at h2
       rcases h2 with rfl | rfl | rfl | rfl | rfl | rfl | rfl | rfl | rfl | rfl | rfl | rfl | rfl | rfl | rfl | rfl | rfl | rfl <;> kernel_rfl
     · by_cases h3 : op = Kt
       · subst h3; kernel_rfl
       · by_cases h4 : op = wIn
         · subst h4
           by_cases hq : s = Qbn
           · subst hq; kernel_rfl
           · have f : (s == Qbn) = false := J8 hq
             have e : Ek wIn s = (-1, true) := by
               unfold Ek
               rw [if_neg (by decide), if_neg (by decide), if_neg (by decide), if_neg (by decide), if_pos rfl, if_neg hq]
             rw [e]
             simp [lit152, Z8, params, node, cells, f]
         · by_cases h5 : op = js
           · subst h5; kernel_rfl
           · by_cases h6 : op = je
             · subst h6; kernel_rfl
             · have e : Ek op s = (0, false) := by
                 unfold Ek
                 rw [if_neg h0, if_neg h1, if_neg h2, if_neg h3, if_neg h4, if_neg (by simp [h5, h6])]
               rw [e]
               simp only [Qbu, List.mem_cons, List.not_mem_nil, or_false, not_or] at h0
               simp only [Qbw, List.mem_cons, List.not_mem_nil, or_false, not_or] at h1
               simp only [Qa1, List.mem_cons, List.not_mem_nil, or_false, not_or] at h2
               obtain ⟨a0, a1, a2, a3, a4⟩ := h0
               obtain ⟨b0, b1, b2, b3, b4⟩ := h1
               obtain ⟨c0, c1, c2, c3, c4, c5, c6, c7, c8, c9, c10, c11, c12, c13, c14, c15, c16, c17⟩ := h2
               simp only [node, cells]
               generalize PV.vsl (Zs l) l.length = lv
               simp [lit152, Z8, params, J8 a0, J8 a1, J8 a2, J8 a3, J8 a4, J8 b0, J8 b1, J8 b2, J8 b3, J8 b4, J8 c0, J8 c1, J8 c2, J8 c3, J8 c4, J8 c5, J8 c6, J8 c7, J8 c8, J8 c9, J8 c10, J8 c11, J8 c12, J8 c13, J8 c14, J8 c15, J8 c16, J8 c17, J8 h3, J8 h4, J8 h5, J8 h6]
end
end Go.Ab.Keep
namespace Go.Ab.Keep
open Go Go.Ab Go.Ab.Plan Go.Ab.Key Go.Ab.Cnt Go.Ab.Turn Go.Proofs
theorem lit132_tree : lit132.body = n132 := rfl
theorem Nb : ∀ (l : List T) (i : Nat) (c : T), l[i]? = some c -> (Zs l).drop (i * 4) = cells c ++ Zs (l.drop (i + 1))
 | [], i, c, h => by simp at h
 | t :: r, 0, c, h => by
   simp at h
   subst h
   simp [Zs]
 | t :: r, i + 1, c, h => by
   have ih := Nb r i c (by simpa using h)
   simp only [Zs]
   rw [show (i + 1) * 4 = (cells t).length + i * 4 from by rw [W8]; omega, List.drop_append, List.drop_eq_nil_of_le (by omega)]
   simpa using ih
structure FitOK (t : T) : Prop where
 known : (Ek t.op t.s).2 = true
 exact' : 0 <= (Ek t.op t.s).1 -> (t.l.length : Int) = (Ek t.op t.s).1
 least : (Ek t.op t.s).1 < 0 -> 1 <= t.l.length
 whens : t.op = js -> ∀ i c, i + 1 < t.l.length -> t.l[i]? = some c -> c.op = Qoy /\ c.l.length = 2
section
variable [Mx] (C : Zj) (L : Nat) (op s : Word) (z : Int) (l : List T) (i : Nat) (M : Env)
abbrev Sn (op s : Word) (z : Int) (l : List T) : Heap := [.arr (.pv [.str op, .str s, .int .i64 z, .vsl (Zs l) l.length]) 0 0 none]
structure At32 (M : Env) (i : Nat) : Prop where
 t1 : M.get 1 = some (.ptr 0 0 0)
 t5 : M.get 5 = some (int i)
theorem stop32 (h : At32 M i) (hl : l.length <= 1048576) (hi : ¬ (i + 1 < l.length /\ op = js)) : ∃ M', exec C L Ia ⟨M, [], Sn op s z l⟩ = some (.exit 0, ⟨M', [], Sn op s z l⟩) := by
 have e1 : IntKind.i64.wrap ((l.length : Int) - 1) = (l.length : Int) - 1 := J5 _ (by omega) (by omega)
 by_cases h1 : i + 1 < l.length
 · have h2 : ¬ op = js := fun q => hi ⟨h1, q⟩
   have f1 : ((i : Int) < (l.length : Int) - 1) = True := eq_true (by omega)
   exact ⟨_, by simp [Ia, Nl, Kd, Kg, Nf, Ma, Il, Hw, Ni, h.t1, h.t5, e1, f1, J8 h2]; rfl⟩
 · have f1 : ((i : Int) < (l.length : Int) - 1) = False := eq_false (by omega)
   exact ⟨_, by simp [Ia, Nl, Kd, Kg, Nf, Ma, Il, Hw, Ni, h.t1, h.t5, e1, f1]; rfl⟩
theorem go32 (h : At32 M i) (hl : l.length <= 1048576) (hi : i + 1 < l.length) (ho : op = js) (c : T) (hc : l[i]? = some c) :
   (c.op = Qoy /\ c.l.length = 2 /\ ∃ M', exec C L Ia ⟨M, [], Sn op s z l⟩ = some (.normal, ⟨M', [], Sn op s z l⟩) /\ At32 M' (i + 1)) ∨
   (∃ M', exec C L Ia ⟨M, [], Sn op s z l⟩ = some (.ret, ⟨M', [], Sn op s z l⟩) /\ M'.get 2 = some (.p (.bool false))) := by
 have e1 : IntKind.i64.wrap ((l.length : Int) - 1) = (l.length : Int) - 1 := J5 _ (by omega) (by omega)
 have e2 : IntKind.i64.wrap ((i : Int) + 1) = (i : Int) + 1 := J5 _ (by omega) (by omega)
 have f1 : ((i : Int) < (l.length : Int) - 1) = True := eq_true (by omega)
 have f2 : ((i : Int) < (l.length : Int)) := by omega
 have f3 : i < l.length := by omega
 have hd := Nb l i c hc
 obtain ⟨o', s', z', l'⟩ := c
 have hd' : (Zs l).drop (i * 4) = .str o' :: .str s' :: .int .i64 z' :: .vsl (Zs l') l'.length :: Zs (l.drop (i + 1)) := hd
 clear hd hc
 subst ho
 simp only [T.op, T.l]
 by_cases h1 : o' = Qoy
 · by_cases h2 : l'.length = 2
   · refine .inl ⟨h1, h2, ?_⟩
     have g1 : (o' == Qoy) = true := by rw [h1]; decide
     have g2 : ((l'.length : Int) == 2) = true := by rw [h2]; rfl
     have g3 : ((l'.length : Int) = 2) := by omega
     exact ⟨_, by simp [Ia, Nl, Kd, Kg, Nf, Ma, Il, Hw, Ni, h.t1, h.t5, e1, e2, f1, f2, f3, hd', h1, h2, g3, bne]; rfl, ⟨by simp [h.t1], by simp⟩⟩
   · refine .inr ⟨_, by
       have g2 : ((l'.length : Int) == 2) = false := beq_eq_false_iff_ne.2 (by omega)
       simp [Ia, Nl, Kd, Kg, Nf, Ma, Il, Hw, Ni, h.t1, h.t5, e1, f1, f2, f3, hd', h1, g2, bne]
       rfl, by simp⟩
 · refine .inr ⟨_, by
     simp [Ia, Nl, Kd, Kg, Nf, Ma, Il, Hw, Ni, h.t1, h.t5, e1, f1, f2, f3, hd', J8 h1, bne]
     rfl, by simp⟩
end
end Go.Ab.Keep
namespace Go.Ab.Keep
open Go Go.Ab Go.Ab.Plan Go.Ab.Key Go.Ab.Cnt Go.Ab.Turn Go.Proofs
def Qxo (op : Word) (l : List T) (n : Nat) : Prop := op = js -> ∀ j c, j < n -> j + 1 < l.length -> l[j]? = some c -> c.op = Qoy /\ c.l.length = 2
theorem Qu8 [Mx] (C : Zj) (L : Nat) (op s : Word) (z : Int) (l : List T) (hl : l.length <= 1048576) : ∀ (d f i : Nat) (M : Env), l.length - i <= d -> d < f -> At32 M i -> Qxo op l i ->
   (∃ M', iter (exec C L Ia) none f ⟨M, [], Sn op s z l⟩ = some (.exit 0, ⟨M', [], Sn op s z l⟩) /\ Qxo op l l.length) ∨
   (∃ M', iter (exec C L Ia) none f ⟨M, [], Sn op s z l⟩ = some (.ret, ⟨M', [], Sn op s z l⟩) /\ M'.get 2 = some (.p (.bool false)))
 | d, f, i, M, hd, hf, h, hw => by
   obtain ⟨f, rfl⟩ : ∃ m, f = m + 1 := ⟨f - 1, by omega⟩
   by_cases hi : i + 1 < l.length /\ op = js
   · obtain ⟨h1, h2⟩ := hi
     obtain ⟨d, rfl⟩ : ∃ m, d = m + 1 := ⟨d - 1, by omega⟩
     have hc : l[i]? = some (l[i]'(by omega)) := List.getElem?_eq_getElem (by omega)
     rcases go32 C L op s z l i M h hl h1 h2 _ hc with ⟨q1, q2, M1, e, g⟩ | ⟨M1, e, g⟩
     · have hw' : Qxo op l (i + 1) := by
         intro _ j c hj hj2 hcj
         by_cases hji : j = i
         · subst hji
           rw [hc] at hcj
           cases hcj
           exact ⟨q1, q2⟩
         · exact hw h2 j c (by omega) hj2 hcj
       rcases Qu8 C L op s z l hl d f (i + 1) M1 (by omega) (by omega) g hw' with ⟨M', e2, q⟩ | ⟨M', e2, q⟩
       · exact .inl ⟨M', by simp only [iter, St.keep, e]; exact e2, q⟩
       · exact .inr ⟨M', by simp only [iter, St.keep, e]; exact e2, q⟩
     · exact .inr ⟨M1, by simp only [iter, St.keep, e], g⟩
   · obtain ⟨M', e⟩ := stop32 C L op s z l i M h hl hi
     refine .inl ⟨M', by simp only [iter, St.keep, e], fun h2 j c hj hj2 hcj => hw h2 j c ?_ hj2 hcj⟩
     by_cases h1 : i + 1 < l.length
     · exact absurd ⟨h1, h2⟩ hi
     · omega
theorem Qmr (op s : Word) : Ek op s = (0, true) ∨ Ek op s = (1, true) ∨ Ek op s = (2, true) ∨ Ek op s = (3, true) ∨ Ek op s = (-1, true) ∨ Ek op s = (0, false) := by
 unfold Ek
 repeat' split
 all_goals simp
theorem fits32 [Mx] (L n : Nat) (t : T) (hl : t.l.length <= 1048576) (hL : t.l.length < L) : ∃ b : Bool, (b = true -> FitOK t) /\ ∀ σ, (cAt TT L (n + 2)).1 32 [.p (node t)] σ = some (.ret (.p (.bool b)), σ) := by
 have key : ∃ b : Bool, (b = true -> FitOK t) /\ ansV (Z8 (cAt TT L (n + 1)).1 (cAt TT L (n + 1)).2 L lit132 [.p (node t)] []) = some (.bool b) := by
   have e1 := Qyw L n t
   generalize (cAt TT L (n + 1)).1 = C at *
   generalize (cAt TT L (n + 1)).2 = D
   obtain ⟨op, s, z, l⟩ := t
   simp only [T.op, T.s, T.l, node, cells] at e1 hl hL ⊢
   rw [Zp, lit132_tree]
   have st : ∃ M1, (∀ X, exec C L (.seq Qp5 (.seq Qpg X)) ⟨params 0 [.p (.agg [.str op, .str s, .int .i64 z, .vsl (Zs l) l.length])], [], []⟩ = exec C L X ⟨M1, [], Sn op s z l⟩) /\ M1.get 1 = some (.ptr 0 0 0) /\ M1.get 3 = some (int (Ek op s).1) /\ M1.get 4 = some (.p (.bool (Ek op s).2)) :=
     ⟨_, fun X => by
       rw [seqN (by simp [Qp5, params]; rfl), seqN (by simp [Qpg, e1]; rfl)], by simp, by simp, by simp⟩
   obtain ⟨M1, e0, g1, g3, g4⟩ := st
   unfold n132
   rw [e0]
   have go : ∀ (M2 : Env), exec C L w5 ⟨M1, [], Sn op s z l⟩ = some (.normal, ⟨M2, [], Sn op s z l⟩) -> M2.get 1 = some (.ptr 0 0 0) -> (Ek op s).2 = true -> (0 <= (Ek op s).1 -> (l.length : Int) = (Ek op s).1) -> ((Ek op s).1 < 0 -> 1 <= l.length) ->
       ∃ b : Bool, (b = true -> FitOK (.mk op s z l)) /\ ansV (finX D lit132 (exec C L (.seq w5 (.seq Qlh (.seq Qjq .ret))) ⟨M1, [], Sn op s z l⟩)) = some (.bool b) := by
     intro M2 e2 q1 k1 k2 k3
     rw [seqN e2]
     unfold Qlh
     rw [<- Zn, seqN (by simp [Ql4]; rfl)]
     rcases Qu8 C L op s z l hl l.length L 0 ((5, int 0) :: M2) (by omega) hL ⟨by simp [q1], by simp⟩ (fun _ j c hj => by omega) with ⟨M', e3, hw⟩ | ⟨M', e3, g⟩
     · rw [seqN (a := Qdv) (by exact F0 (id := 0) (b := Qb0) e3)]
       exact ⟨true, fun _ => ⟨k1, k2, k3, fun h i c hi hc => hw h i c (by simp only [T.l] at hi; omega) hi hc⟩, by simp [Qjq, lit132]⟩
     · rw [seqR (a := Qdv) (by exact E5 (id := 0) (b := Qb0) e3)]
       exact ⟨false, by simp, by simp [lit132, g]⟩
   have hlen : ∀ m : Int, ((l.length : Int) == m) = true ∨ ((l.length : Int) == m) = false := fun m => by cases ((l.length : Int) == m) <;> simp
   have pos : ∀ m : Int, 0 <= m -> Ek op s = (m, true) -> ∃ b : Bool, (b = true -> FitOK (.mk op s z l)) /\ ansV (finX D lit132 (exec C L (.seq w5 (.seq Qlh (.seq Qjq .ret))) ⟨M1, [], Sn op s z l⟩)) = some (.bool b) := by
     intro m hm hv
     rw [hv] at g3 g4 go
     simp only at g3 g4 go
     have f1 : (0 <= m) = True := eq_true hm
     have f2 : (m < 0) = False := eq_false (by omega)
     rcases hlen m with q | q
     · exact go _ (by simp [w5, Xe, Xw, g1, g3, g4, f1, f2, q, bne]; rfl) (by simp [g1]) trivial (fun _ => beq_iff_eq.1 q) (fun h => by omega)
     · exact ⟨false, by simp, by simp [w5, Xe, Xw, lit132, g1, g3, g4, f1, f2, q, bne]⟩
   rcases Qmr op s with hv | hv | hv | hv | hv | hv
   · exact pos 0 (by decide) hv
   · exact pos 1 (by decide) hv
   · exact pos 2 (by decide) hv
   · exact pos 3 (by decide) hv
   · rw [hv] at g3 g4 go
     simp only at g3 g4 go
     by_cases q : l.length < 1
     · have q1 : ((l.length : Int) < 1) = True := eq_true (by omega)
       exact ⟨false, by simp, by simp [w5, Xe, Xw, lit132, g1, g3, g4, q1, IntKind.wrap, IntKind.bits, IntKind.signed]⟩
     · have q1 : ((l.length : Int) < 1) = False := eq_false (by omega)
       exact go _ (by simp [w5, Xe, Xw, g1, g3, g4, q1, IntKind.wrap, IntKind.bits, IntKind.signed]; rfl) (by simp [g1]) trivial (fun h => by omega) (fun _ => by omega)
   · rw [hv] at g3 g4
     exact ⟨false, by simp, by simp [w5, Xe, Xw, lit132, g1, g3, g4]⟩
 obtain ⟨b, h1, h2⟩ := key
 exact ⟨b, h1, fun σ => Z7 (ps := [node t]) (n := n + 1) q132 (by rfl) h2 σ⟩
end Go.Ab.Keep
namespace Go.Ab.Keep
open Go Go.Ab Go.Ab.Turn
theorem lit110_tree : lit110.body = n110 := rfl
theorem lit160_tree : lit160.body = n160 := rfl
theorem lit140_tree : lit140.body = n140 := rfl
theorem lit135_tree : lit135.body = n135 := rfl
theorem lit141_tree : lit141.body = n141 := rfl
theorem lit171_tree : lit171.body = n171 := rfl
theorem lit172_tree : lit172.body = n172 := rfl
theorem lit173_tree : lit173.body = n173 := rfl
theorem lit123_tree : lit123.body = n123 := rfl
end Go.Ab.Keep
namespace Go.Ab.Keep
open Go Go.Ab Go.Ab.Plan Go.Ab.Key Go.Ab.Cnt Go.Ab.Turn Go.Proofs
variable [Mx]
def Vz (v : V) (w : Word) : Tr × Word := if w = Zi then ofV v else (.u, w)
def VC (C : Zj) (rP : PV) (t : T) (v : V) (w : Word) : Prop := ∀ σ, C 23 [.p (node t), .p rP, .p src] σ = some (.ret (.p (Z3 (v, w))), σ)
def TC (C : Zj) (rP : PV) (t : T) (q : Tr) (w : Word) : Prop := ∀ σ, C 10 [.p (node t), .p rP, .p src] σ = some (.ret (.p (truP (q, w))), σ)
theorem Qje (L n : Nat) (rP : PV) (t : T) (v : V) (w : Word) (h : VC (cAt TT L (n + 1)).1 rP t v w) : TC (cAt TT L (n + 2)).1 rP t (Vz v w).1 (Vz v w).2 := by
 intro σ
 refine Z7 (ps := [node t, rP, src]) (n := n + 1) q110 (by rfl) ?_ σ
 have e2 := of24 L n v
 unfold VC at h
 generalize (cAt TT L (n + 1)).1 = C at *
 generalize (cAt TT L (n + 1)).2 = D
 obtain ⟨op, s, z, l⟩ := t
 obtain ⟨p, q, r, x, ev'⟩ := vc4 v
 simp only [node, cells, val, Z3, ev'] at h e2 ⊢
 generalize PV.vsl (Zs l) l.length = lv at *
 rw [Zp, lit110_tree]
 by_cases hw : w = Zi
 · subst hw
   rw [show Vz v Zi = ofV v from if_pos rfl]
   generalize ofV v = o at *
   obtain ⟨q, w'⟩ := o
   simp [n110, Qoj, Qq3, Qqj, Qfr, Qfc, Qpm, params, lit110, h, e2, truP]
 · rw [show Vz v w = (.u, w) from if_neg hw]
   have hw' : (w == Zi) = false := beq_eq_false_iff_ne.2 hw
   simp [n110, Qoj, Qq3, Qqj, Qfr, Qfc, Qpm, params, lit110, h, e2, truP, hw', bne, Tr.n]
def Vals (C : Zj) (rP : PV) (l : List T) (vs : List V) : Prop := vs.length = l.length /\ ∀ (i : Nat) (c : T), l[i]? = some c -> ∃ v : V, vs[i]? = some v /\ okV v /\ VC C rP c v Zi
section
variable (C : Zj) (L : Nat) (rP : PV) (l : List T) (i : Nat) (M : Env) (σ : Heap) (b : AV) (vs : List V)
structure At160 (M : Env) (rP : PV) (l : List T) (i : Nat) (b : AV) : Prop where
 t0 : M.get 0 = some (.p (.vsl (Zs l) l.length))
 t1 : M.get 1 = some (.p rP)
 t2 : M.get 2 = some (.p src)
 t8 : M.get 8 = some b
 t9 : M.get 9 = some (int i)
theorem Qxv (h : At160 M rP l i b) (hi : l.length <= i) : ∃ M', exec C L L7 ⟨M, [], σ⟩ = some (.exit 0, ⟨M', [], σ⟩) /\ At160 M' rP l i b := by
 have hl : ((i : Int) < (l.length : Int)) = False := eq_false (by omega)
 have hl' : (i < l.length) = False := eq_false (by omega)
 exact ⟨_, by simp [Tj, O9, O7, L7, h.t0, h.t9, hl, hl']; rfl, ⟨by simp [h.t0], by simp [h.t1], by simp [h.t2], by simp [h.t8], by simp [h.t9]⟩⟩
theorem go160 (h : At160 M rP l i b) (hb : Buf 54 4 σ b (vcs vs) i) (hl : l.length <= 1048576) (c : T) (hc : l[i]? = some c) (v : V) (w : Word) (hv : VC C rP c v w) :
   (w = Zi /\ ∃ M' σ' b', exec C L L7 ⟨M, [], σ⟩ = some (.normal, ⟨M', [], σ'⟩) /\ At160 M' rP l (i + 1) b' /\ Buf 54 4 σ' b' (vcs (vs ++ [v])) (i + 1)) ∨
   (w ≠ Zi /\ ∃ M' σ', exec C L L7 ⟨M, [], σ⟩ = some (.ret, ⟨M', [], σ'⟩) /\ M'.get 6 = some .nil0 /\ M'.get 7 = some (.p (.str w))) := by
 obtain ⟨t0, t1, t2, t8, t9⟩ := h
 obtain ⟨hi, _⟩ := List.getElem?_eq_some_iff.1 hc
 have f1 : ((i : Int) < (l.length : Int)) := by omega
 have f0 : (0 : Int) <= (i : Int) := by omega
 have e1 : IntKind.i64.wrap ((i : Int) + 1) = (i : Int) + 1 := J5 _ (by omega) (by omega)
 have hd := Nb l i c hc
 obtain ⟨p, q, r, x, ev'⟩ := vc4 v
 unfold VC at hv
 obtain ⟨o', s', z', l'⟩ := c
 have hd' : (Zs l).drop (i * 4) = .str o' :: .str s' :: .int .i64 z' :: .vsl (Zs l') l'.length :: Zs (l.drop (i + 1)) := hd
 clear hd hc
 simp only [node, cells, Z3, val, ev'] at hv
 generalize PV.vsl (Zs l') l'.length = lv at *
 generalize hcl : Zs l = cl at *
 generalize hsr : src = sr at *
 by_cases hw : w = Zi
 · refine .inl ⟨hw, ?_⟩
   subst hw
   obtain ⟨b2, σ2, ha, hb2, _⟩ := ((hb.push [.arr (.pv [p, q, r, x]) 0 0 (some 54)]).push [.arr (.pv [p, q, r, x]) 0 0 none]).app [p, q, r, x] rfl (by have : LIM = 4294967296 := rfl; omega)
   simp only [List.append_assoc, List.cons_append, List.nil_append] at ha
   have hvc : vcs (vs ++ [v]) = vcs vs ++ [p, q, r, x] := by rw [Qaf, ev']
   rw [hvc]
   exact ⟨_, σ2, b2, by simp [L7, Tj, O9, O7, Wq, Uz, Sb, Sc, O0, Ot, R4, Wo, Jk, Zo, t0, t1, t2, t8, t9, f1, hi, hd', hv, e1, ha]; rfl, ⟨by simp [t0, hcl], by simp [t1], by simp [t2]; exact hsr.symm, by simp, by simp⟩, hb2⟩
 · refine .inr ⟨hw, ?_⟩
   have hw' : (w == Zi) = false := beq_eq_false_iff_ne.2 hw
   exact ⟨_, _, by simp [L7, Tj, O9, O7, Wq, Uz, Sb, Sc, O0, Ot, R4, Wo, t0, t1, t2, t8, t9, f1, hi, hd', hv, hw', bne]; exact ⟨rfl, rfl⟩, by simp, by simp⟩
end
theorem Qnr (C : Zj) (L : Nat) (rP : PV) (l : List T) (hl : l.length <= 1048576) (hV : ∀ c ∈ l, ∃ v w, okV v /\ VC C rP c v w) : ∀ (d f i : Nat) (M : Env) (σ : Heap) (b : AV) (vs : List V), l.length - i <= d -> d < f -> i <= l.length -> At160 M rP l i b -> Buf 54 4 σ b (vcs vs) i -> Vals C rP (l.take i) vs ->
   (∃ M' σ' b' vs', iter (exec C L L7) none f ⟨M, [], σ⟩ = some (.exit 0, ⟨M', [], σ'⟩) /\ At160 M' rP l l.length b' /\ Buf 54 4 σ' b' (vcs vs') l.length /\ Vals C rP l vs') ∨
   (∃ M' σ' w, w ≠ Zi /\ iter (exec C L L7) none f ⟨M, [], σ⟩ = some (.ret, ⟨M', [], σ'⟩) /\ M'.get 6 = some .nil0 /\ M'.get 7 = some (.p (.str w)))
 | d, f, i, M, σ, b, vs, hd, hf, hi, h, hb, hvs => by
   obtain ⟨f, rfl⟩ : ∃ m, f = m + 1 := ⟨f - 1, by omega⟩
   by_cases hs : l.length <= i
   · have : i = l.length := by omega
     subst this
     obtain ⟨M', e, g⟩ := Qxv C L rP l l.length M σ b h hs
     rw [List.take_length] at hvs
     exact .inl ⟨M', σ, b, vs, by simp only [iter, St.keep, e], g, hb, hvs⟩
   · have hi' : i < l.length := by omega
     have hc : l[i]? = some l[i] := List.getElem?_eq_getElem hi'
     obtain ⟨v, w, hv, hvc⟩ := hV l[i] (List.getElem_mem hi')
     rcases go160 C L rP l i M σ b vs h hb hl l[i] hc v w hvc with ⟨hw, M1, σ1, b1, e, h1, hb1⟩ | ⟨hw, M1, σ1, e, g6, g7⟩
     · subst hw
       obtain ⟨d, rfl⟩ : ∃ m, d = m + 1 := ⟨d - 1, by omega⟩
       have hvs' : Vals C rP (l.take (i + 1)) (vs ++ [v]) := by
         obtain ⟨k1, k2⟩ := hvs
         have hlen : (l.take i).length = i := by simp; omega
         refine ⟨by simp at k1 ⊢; omega, fun j c hj => ?_⟩
         have hj' : j < i + 1 := by
           have := (List.getElem?_eq_some_iff.1 hj).1
           simp at this
           omega
         rw [List.getElem?_take, if_pos hj'] at hj
         by_cases hji : j = i
         · subst hji
           rw [hc] at hj
           cases hj
           exact ⟨v, by rw [List.getElem?_append_right (by omega), k1, hlen]; simp, hv, hvc⟩
         · obtain ⟨u, q1, q2⟩ := k2 j c (by rw [List.getElem?_take, if_pos (by omega)]; exact hj)
           exact ⟨u, by rw [List.getElem?_append_left (by omega)]; exact q1, q2⟩
       rcases Qnr C L rP l hl hV d f (i + 1) M1 σ1 b1 (vs ++ [v]) (by omega) (by omega) (by omega) h1 hb1 hvs' with ⟨M', σ', b', vs', e2, q⟩ | ⟨M', σ', w, hw, e2, q⟩
       · exact .inl ⟨M', σ', b', vs', by simp only [iter, St.keep, e]; exact e2, q⟩
       · exact .inr ⟨M', σ', w, hw, by simp only [iter, St.keep, e]; exact e2, q⟩
     · exact .inr ⟨M1, σ1, w, hw, by simp only [iter, St.keep, e], g6, g7⟩
def AC (C : Zj) (rP : PV) (l : List T) (vs : List V) (w : Word) : Prop := ∀ σ, C 60 [.p (.vsl (Zs l) l.length), .p rP, .p src] σ = some (.ret (.p (.tup [.vsl (vcs vs) vs.length, .str w])), σ)
theorem all60 (L n : Nat) (rP : PV) (l : List T) (hl : l.length <= 1048576) (hL : l.length < L) (hV : ∀ c ∈ l, ∃ v w, okV v /\ VC (cAt TT L n).1 rP c v w) :
   ∃ vs w, AC (cAt TT L (n + 1)).1 rP l vs w /\ (w = Zi -> Vals (cAt TT L n).1 rP l vs) := by
 have key : ∃ vs w v σr σ2, Z8 (cAt TT L n).1 (cAt TT L n).2 L lit160 [.p (.vsl (Zs l) l.length), .p rP, .p src] [] = some (.ret v, σr) /\ frz (List.range σr.length) 9 σr v = some (.tup [.vsl (vcs vs) vs.length, .str w], σ2) /\ (w = Zi -> Vals (cAt TT L n).1 rP l vs) := by
   generalize (cAt TT L n).1 = C at *
   generalize (cAt TT L n).2 = D
   have hv0 : Vals C rP (l.take 0) [] := ⟨by simp, fun i c h => by simp at h⟩
   rw [Zp, lit160_tree]
   unfold n160 Qvh
   rw [seqN (by simp [Qvj, params]; rfl), seqN (by simp [Quo]; rfl), <- Zn, seqN (by simp [Qjn]; rfl)]
   rcases Qnr C L rP l hl hV l.length L 0 [(9, int 0), (8, .nil0), (7, .p (.str [])), (6, .nil0), (0, .p (.vsl (Zs l) l.length)), (1, .p rP), (2, .p src)] [] .nil0 [] (by omega) hL (by omega) ⟨rfl, rfl, rfl, rfl, rfl⟩ Buf.nil hv0 with ⟨M', σ', b', vs', e2, g, hb, hvs⟩ | ⟨M', σ', w, hw, e2, g6, g7⟩
   · rw [seqN (a := Qe6) (by exact F0 (id := 0) (b := Qa8) e2)]
     obtain ⟨σ2, hz, _⟩ := hb.frz (d := 7)
     rw [<- hvs.1] at hz
     refine ⟨vs', Zi, .tup [b', .p (.str Zi)], σ', σ2, ?_, ?_, fun _ => hvs⟩
     · have hb' : b' = .nil0 ∨ ∃ id ver k, b' = .sl id ver 0 k 4 := by
         rcases hb.2 with ⟨rfl, _⟩ | ⟨_, id, ver, rfl, _⟩
         · exact .inl rfl
         · exact .inr ⟨_, _, _, rfl⟩
       rcases hb' with rfl | ⟨id, ver, k, rfl⟩ <;> simp [Qu6, lit160, g.t8]
     · show (match frzs (frz (List.range σ'.length) 8) σ' [b', .p (.str Zi)] with
         | some (ps, σ1) => some (PV.tup ps, σ1)
         | none => none) = _
       have e : ∀ σ, frz (List.range σ'.length) 8 σ (.p (.str Zi)) = some (.str Zi, σ) := fun _ => rfl
       simp only [frzs, hz, e]
   · rw [seqR (a := Qe6) (by exact E5 (id := 0) (b := Qa8) e2)]
     exact ⟨[], w, .tup [.nil0, .p (.str w)], σ', σ', by simp [lit160, g6, g7], rfl, fun h => absurd h hw⟩
 obtain ⟨vs, w, v, σr, σ2, h1, h2, h3⟩ := key
 exact ⟨vs, w, fun σ => xy (ps := [.vsl (Zs l) l.length, rP, src]) q160 (by rfl) h1 h2 σ, h3⟩
end Go.Ab.Keep
namespace Go.Ab.Keep
open Go Go.Ab Go.Ab.Plan Go.Ab.Key Go.Ab.Cnt Go.Ab.Turn Go.Proofs
attribute [local simp] Fj Ms V3 refV oneH Nz Oe Eo D9 idsL idsV idsO Sp
variable [Mx]
abbrev Yk (c : List PV) (r : List PV) : Heap := [.arr (.pv c) 0 0 none, .arr (.pv r) 0 0 (some 54)]
structure At140 (M : Env) (vs : List V) : Prop where
 t3 : M.get 3 = some (.ptr 0 0 0)
 t6 : M.get 6 = some (.ptr 1 0 0)
 t8 : M.get 8 = some (.p (.vsl (vcs vs) vs.length))
theorem vcs2 (a b : V) : vcs [a, b] = vc a ++ vc b := by simp [vcs]
theorem vcs1 (a : V) : vcs [a] = vc a := by simp [vcs]
section
variable (C : Zj) (L : Nat) (c : List PV) (a b : V) (M : Env) (v : V) (w : Word)
def Sum (C : Zj) (L : Nat) (x : Q0) (c : List PV) (M : Env) (v : V) (w : Word) : Prop := ∃ M', exec C L x ⟨M, [], Yk c Yl⟩ = some (.normal, ⟨M', [], Yk c (vc v)⟩) /\ M'.get 6 = some (.ptr 1 0 0) /\ M'.get 7 = some (.p (.str w))
theorem add140 (h : At140 M [a, b]) (hf : ∀ σ, C 61 [.p (val a), .p (val b)] σ = some (.ret (.p (Z3 (v, w))), σ)) : Sum C L Hg c M v w := by
 obtain ⟨t3, t6, t8⟩ := h
 have r0 : Q4.raw 61 = false := by rfl
 obtain ⟨p, q, r, x, ea⟩ := vc4 a
 obtain ⟨p1, q1, r1, x1, eb⟩ := vc4 b
 obtain ⟨p2, q2, r2, x2, ev'⟩ := vc4 v
 rw [vcs2] at t8
 unfold Sum
 simp only [val, Z3, ea, eb, ev', Yk, Yl, List.cons_append, List.nil_append, List.length_cons, List.length_nil] at hf t8 ⊢
 have fin : ∀ (H H' : Heap), (∃ s1 : Go.Ab.Tr, Zy C 0 (opsD Hg) ⟨⟨M, [], H⟩, [], []⟩ = some (none, s1) /\ okRW [0, 1, 3, 0, 8, 24, 63, 127, 127, 511, 1023] (opsD Hg) s1 = true /\ s1.st.defers = [] /\ s1.st.heap = H' /\ s1.st.env.get 6 = some (.ptr 1 0 0) /\ s1.st.env.get 7 = some (.p (.str w))) ->
     ∃ M', exec C L Hg ⟨M, [], H⟩ = some (.normal, ⟨M', [], H'⟩) /\ M'.get 6 = some (.ptr 1 0 0) /\ M'.get 7 = some (.p (.str w)) := by
   rintro H H' ⟨⟨⟨M', d, σ'⟩, rds, wrs⟩, hr, hok, hd, hh, hA⟩
   simp only at hd hh
   subst hd hh
   exact ⟨M', L9 hr hok, hA⟩
 exact fin _ _ ⟨_, by
     show Zy C 0 (_ :: _) _ = _
     refine (Zf rfl rfl (by simp [t3, t6, t8, r0, hf]; rfl)).trans ?_
     refine (Zf rfl rfl (by simp [t3, t6, t8, r0, hf]; rfl)).trans ?_
     refine (Zf rfl rfl (by simp [t3, t6, t8, r0, hf]; rfl)).trans ?_
     refine (Zf rfl rfl (by simp [t3, t6, t8, r0, hf]; rfl)).trans ?_
     refine (Zf rfl rfl (by simp [t3, t6, t8, r0, hf]; rfl)).trans ?_
     refine (Zf rfl rfl (by simp [t3, t6, t8, r0, hf]; rfl)).trans ?_
     refine (B8 rfl rfl (by simp [Zo, Jk, t3, t6, t8, r0, hf]; rfl) (by simp; rfl) (by simp [t3, t6, t8, r0, hf]; rfl)).trans ?_
     refine (Zf rfl rfl (by simp [t3, t6, t8, r0, hf]; rfl)).trans ?_
     refine (Zf rfl rfl (by simp [t3, t6, t8, r0, hf]; rfl)).trans ?_
     refine (B8 rfl rfl (by simp [Zo, Jk, t3, t6, t8, r0, hf]; rfl) (by simp; rfl) (by simp [t3, t6, t8, r0, hf]; rfl)).trans ?_
     refine (Zf rfl rfl (by simp [t3, t6, t8, r0, hf]; rfl)).trans ?_
     exact rfl, by kernel_rfl, by rfl, by rfl, by simp [t6], by simp⟩
theorem sub140 (h : At140 M [a, b]) (hf : ∀ σ, C 62 [.p (val a), .p (val b)] σ = some (.ret (.p (Z3 (v, w))), σ)) : Sum C L De c M v w := by
 obtain ⟨t3, t6, t8⟩ := h
 have r0 : Q4.raw 62 = false := by rfl
 obtain ⟨p, q, r, x, ea⟩ := vc4 a
 obtain ⟨p1, q1, r1, x1, eb⟩ := vc4 b
 obtain ⟨p2, q2, r2, x2, ev'⟩ := vc4 v
 rw [vcs2] at t8
 unfold Sum
 simp only [val, Z3, ea, eb, ev', Yk, Yl, List.cons_append, List.nil_append, List.length_cons, List.length_nil] at hf t8 ⊢
 have fin : ∀ (H H' : Heap), (∃ s1 : Go.Ab.Tr, Zy C 0 (opsD De) ⟨⟨M, [], H⟩, [], []⟩ = some (none, s1) /\ okRW [0, 1, 3, 0, 8, 24, 63, 127, 127, 511, 1023] (opsD De) s1 = true /\ s1.st.defers = [] /\ s1.st.heap = H' /\ s1.st.env.get 6 = some (.ptr 1 0 0) /\ s1.st.env.get 7 = some (.p (.str w))) ->
     ∃ M', exec C L De ⟨M, [], H⟩ = some (.normal, ⟨M', [], H'⟩) /\ M'.get 6 = some (.ptr 1 0 0) /\ M'.get 7 = some (.p (.str w)) := by
   rintro H H' ⟨⟨⟨M', d, σ'⟩, rds, wrs⟩, hr, hok, hd, hh, hA⟩
   simp only at hd hh
   subst hd hh
   exact ⟨M', L9 hr hok, hA⟩
 exact fin _ _ ⟨_, by
     show Zy C 0 (_ :: _) _ = _
     refine (Zf rfl rfl (by simp [t3, t6, t8, r0, hf]; rfl)).trans ?_
     refine (Zf rfl rfl (by simp [t3, t6, t8, r0, hf]; rfl)).trans ?_
     refine (Zf rfl rfl (by simp [t3, t6, t8, r0, hf]; rfl)).trans ?_
     refine (Zf rfl rfl (by simp [t3, t6, t8, r0, hf]; rfl)).trans ?_
     refine (Zf rfl rfl (by simp [t3, t6, t8, r0, hf]; rfl)).trans ?_
     refine (Zf rfl rfl (by simp [t3, t6, t8, r0, hf]; rfl)).trans ?_
     refine (B8 rfl rfl (by simp [Zo, Jk, t3, t6, t8, r0, hf]; rfl) (by simp; rfl) (by simp [t3, t6, t8, r0, hf]; rfl)).trans ?_
     refine (Zf rfl rfl (by simp [t3, t6, t8, r0, hf]; rfl)).trans ?_
     refine (Zf rfl rfl (by simp [t3, t6, t8, r0, hf]; rfl)).trans ?_
     refine (B8 rfl rfl (by simp [Zo, Jk, t3, t6, t8, r0, hf]; rfl) (by simp; rfl) (by simp [t3, t6, t8, r0, hf]; rfl)).trans ?_
     refine (Zf rfl rfl (by simp [t3, t6, t8, r0, hf]; rfl)).trans ?_
     exact rfl, by kernel_rfl, by rfl, by rfl, by simp [t6], by simp⟩
theorem mul140 (h : At140 M [a, b]) (hf : ∀ σ, C 63 [.p (val a), .p (val b)] σ = some (.ret (.p (Z3 (v, w))), σ)) : Sum C L Yz c M v w := by
 obtain ⟨t3, t6, t8⟩ := h
 have r0 : Q4.raw 63 = false := by rfl
 obtain ⟨p, q, r, x, ea⟩ := vc4 a
 obtain ⟨p1, q1, r1, x1, eb⟩ := vc4 b
 obtain ⟨p2, q2, r2, x2, ev'⟩ := vc4 v
 rw [vcs2] at t8
 unfold Sum
 simp only [val, Z3, ea, eb, ev', Yk, Yl, List.cons_append, List.nil_append, List.length_cons, List.length_nil] at hf t8 ⊢
 have fin : ∀ (H H' : Heap), (∃ s1 : Go.Ab.Tr, Zy C 0 (opsD Yz) ⟨⟨M, [], H⟩, [], []⟩ = some (none, s1) /\ okRW [0, 1, 3, 0, 8, 24, 63, 127, 127, 511, 1023] (opsD Yz) s1 = true /\ s1.st.defers = [] /\ s1.st.heap = H' /\ s1.st.env.get 6 = some (.ptr 1 0 0) /\ s1.st.env.get 7 = some (.p (.str w))) ->
     ∃ M', exec C L Yz ⟨M, [], H⟩ = some (.normal, ⟨M', [], H'⟩) /\ M'.get 6 = some (.ptr 1 0 0) /\ M'.get 7 = some (.p (.str w)) := by
   rintro H H' ⟨⟨⟨M', d, σ'⟩, rds, wrs⟩, hr, hok, hd, hh, hA⟩
   simp only at hd hh
   subst hd hh
   exact ⟨M', L9 hr hok, hA⟩
 exact fin _ _ ⟨_, by
     show Zy C 0 (_ :: _) _ = _
     refine (Zf rfl rfl (by simp [t3, t6, t8, r0, hf]; rfl)).trans ?_
     refine (Zf rfl rfl (by simp [t3, t6, t8, r0, hf]; rfl)).trans ?_
     refine (Zf rfl rfl (by simp [t3, t6, t8, r0, hf]; rfl)).trans ?_
     refine (Zf rfl rfl (by simp [t3, t6, t8, r0, hf]; rfl)).trans ?_
     refine (Zf rfl rfl (by simp [t3, t6, t8, r0, hf]; rfl)).trans ?_
     refine (Zf rfl rfl (by simp [t3, t6, t8, r0, hf]; rfl)).trans ?_
     refine (B8 rfl rfl (by simp [Zo, Jk, t3, t6, t8, r0, hf]; rfl) (by simp; rfl) (by simp [t3, t6, t8, r0, hf]; rfl)).trans ?_
     refine (Zf rfl rfl (by simp [t3, t6, t8, r0, hf]; rfl)).trans ?_
     refine (Zf rfl rfl (by simp [t3, t6, t8, r0, hf]; rfl)).trans ?_
     refine (B8 rfl rfl (by simp [Zo, Jk, t3, t6, t8, r0, hf]; rfl) (by simp; rfl) (by simp [t3, t6, t8, r0, hf]; rfl)).trans ?_
     refine (Zf rfl rfl (by simp [t3, t6, t8, r0, hf]; rfl)).trans ?_
     exact rfl, by kernel_rfl, by rfl, by rfl, by simp [t6], by simp⟩
theorem div140 (h : At140 M [a, b]) (hf : ∀ σ, C 64 [.p (val a), .p (val b)] σ = some (.ret (.p (Z3 (v, w))), σ)) : Sum C L G8 c M v w := by
 obtain ⟨t3, t6, t8⟩ := h
 have r0 : Q4.raw 64 = false := by rfl
 obtain ⟨p, q, r, x, ea⟩ := vc4 a
 obtain ⟨p1, q1, r1, x1, eb⟩ := vc4 b
 obtain ⟨p2, q2, r2, x2, ev'⟩ := vc4 v
 rw [vcs2] at t8
 unfold Sum
 simp only [val, Z3, ea, eb, ev', Yk, Yl, List.cons_append, List.nil_append, List.length_cons, List.length_nil] at hf t8 ⊢
 have fin : ∀ (H H' : Heap), (∃ s1 : Go.Ab.Tr, Zy C 0 (opsD G8) ⟨⟨M, [], H⟩, [], []⟩ = some (none, s1) /\ okRW [0, 1, 3, 0, 8, 24, 63, 127, 127, 511, 1023] (opsD G8) s1 = true /\ s1.st.defers = [] /\ s1.st.heap = H' /\ s1.st.env.get 6 = some (.ptr 1 0 0) /\ s1.st.env.get 7 = some (.p (.str w))) ->
     ∃ M', exec C L G8 ⟨M, [], H⟩ = some (.normal, ⟨M', [], H'⟩) /\ M'.get 6 = some (.ptr 1 0 0) /\ M'.get 7 = some (.p (.str w)) := by
   rintro H H' ⟨⟨⟨M', d, σ'⟩, rds, wrs⟩, hr, hok, hd, hh, hA⟩
   simp only at hd hh
   subst hd hh
   exact ⟨M', L9 hr hok, hA⟩
 exact fin _ _ ⟨_, by
     show Zy C 0 (_ :: _) _ = _
     refine (Zf rfl rfl (by simp [t3, t6, t8, r0, hf]; rfl)).trans ?_
     refine (Zf rfl rfl (by simp [t3, t6, t8, r0, hf]; rfl)).trans ?_
     refine (Zf rfl rfl (by simp [t3, t6, t8, r0, hf]; rfl)).trans ?_
     refine (Zf rfl rfl (by simp [t3, t6, t8, r0, hf]; rfl)).trans ?_
     refine (Zf rfl rfl (by simp [t3, t6, t8, r0, hf]; rfl)).trans ?_
     refine (Zf rfl rfl (by simp [t3, t6, t8, r0, hf]; rfl)).trans ?_
     refine (B8 rfl rfl (by simp [Zo, Jk, t3, t6, t8, r0, hf]; rfl) (by simp; rfl) (by simp [t3, t6, t8, r0, hf]; rfl)).trans ?_
     refine (Zf rfl rfl (by simp [t3, t6, t8, r0, hf]; rfl)).trans ?_
     refine (Zf rfl rfl (by simp [t3, t6, t8, r0, hf]; rfl)).trans ?_
     refine (B8 rfl rfl (by simp [Zo, Jk, t3, t6, t8, r0, hf]; rfl) (by simp; rfl) (by simp [t3, t6, t8, r0, hf]; rfl)).trans ?_
     refine (Zf rfl rfl (by simp [t3, t6, t8, r0, hf]; rfl)).trans ?_
     exact rfl, by kernel_rfl, by rfl, by rfl, by simp [t6], by simp⟩
theorem cat140 (h : At140 M [a, b]) (hf : ∀ σ, C 65 [.p (val a), .p (val b)] σ = some (.ret (.p (Z3 (v, w))), σ)) : Sum C L Gj c M v w := by
 obtain ⟨t3, t6, t8⟩ := h
 have r0 : Q4.raw 65 = false := by rfl
 obtain ⟨p, q, r, x, ea⟩ := vc4 a
 obtain ⟨p1, q1, r1, x1, eb⟩ := vc4 b
 obtain ⟨p2, q2, r2, x2, ev'⟩ := vc4 v
 rw [vcs2] at t8
 unfold Sum
 simp only [val, Z3, ea, eb, ev', Yk, Yl, List.cons_append, List.nil_append, List.length_cons, List.length_nil] at hf t8 ⊢
 have fin : ∀ (H H' : Heap), (∃ s1 : Go.Ab.Tr, Zy C 0 (opsD Gj) ⟨⟨M, [], H⟩, [], []⟩ = some (none, s1) /\ okRW [0, 1, 3, 0, 8, 24, 63, 127, 127, 511, 1023] (opsD Gj) s1 = true /\ s1.st.defers = [] /\ s1.st.heap = H' /\ s1.st.env.get 6 = some (.ptr 1 0 0) /\ s1.st.env.get 7 = some (.p (.str w))) ->
     ∃ M', exec C L Gj ⟨M, [], H⟩ = some (.normal, ⟨M', [], H'⟩) /\ M'.get 6 = some (.ptr 1 0 0) /\ M'.get 7 = some (.p (.str w)) := by
   rintro H H' ⟨⟨⟨M', d, σ'⟩, rds, wrs⟩, hr, hok, hd, hh, hA⟩
   simp only at hd hh
   subst hd hh
   exact ⟨M', L9 hr hok, hA⟩
 exact fin _ _ ⟨_, by
     show Zy C 0 (_ :: _) _ = _
     refine (Zf rfl rfl (by simp [t3, t6, t8, r0, hf]; rfl)).trans ?_
     refine (Zf rfl rfl (by simp [t3, t6, t8, r0, hf]; rfl)).trans ?_
     refine (Zf rfl rfl (by simp [t3, t6, t8, r0, hf]; rfl)).trans ?_
     refine (Zf rfl rfl (by simp [t3, t6, t8, r0, hf]; rfl)).trans ?_
     refine (Zf rfl rfl (by simp [t3, t6, t8, r0, hf]; rfl)).trans ?_
     refine (Zf rfl rfl (by simp [t3, t6, t8, r0, hf]; rfl)).trans ?_
     refine (B8 rfl rfl (by simp [Zo, Jk, t3, t6, t8, r0, hf]; rfl) (by simp; rfl) (by simp [t3, t6, t8, r0, hf]; rfl)).trans ?_
     refine (Zf rfl rfl (by simp [t3, t6, t8, r0, hf]; rfl)).trans ?_
     refine (Zf rfl rfl (by simp [t3, t6, t8, r0, hf]; rfl)).trans ?_
     refine (B8 rfl rfl (by simp [Zo, Jk, t3, t6, t8, r0, hf]; rfl) (by simp; rfl) (by simp [t3, t6, t8, r0, hf]; rfl)).trans ?_
     refine (Zf rfl rfl (by simp [t3, t6, t8, r0, hf]; rfl)).trans ?_
     exact rfl, by kernel_rfl, by rfl, by rfl, by simp [t6], by simp⟩
theorem neg140 (h : At140 M [a]) (hf : ∀ σ, C 66 [.p (val a)] σ = some (.ret (.p (Z3 (v, w))), σ)) : Sum C L Yf c M v w := by
 obtain ⟨t3, t6, t8⟩ := h
 obtain ⟨p, q, r, x, ea⟩ := vc4 a
 obtain ⟨p2, q2, r2, x2, ev'⟩ := vc4 v
 rw [vcs1] at t8
 unfold Sum
 simp only [val, Z3, ea, ev', Yk, Yl, List.length_cons, List.length_nil] at hf t8 ⊢
 exact ⟨_, by simp [Yf, t3, t6, t8, hf]; rfl, by simp [t6], by simp⟩
theorem Qxb (q : Tr) (h : At140 M [a, b]) (hf : ∀ σ, C 67 [.p (.str wEq), .p (val a), .p (val b)] σ = some (.ret (.p (truP (q, w))), σ)) : ∃ M', exec C L Qhu ⟨M, [], Yk c Yl⟩ = some (.normal, ⟨M', [], Yk c Yl⟩) /\ At140 M' [a, b] /\ M'.get 10 = some (.p q.p) /\ M'.get 11 = some (.p (.str w)) := by
 obtain ⟨t3, t6, t8⟩ := h
 have r0 : Q4.raw 67 = false := by rfl
 obtain ⟨p, q', r, x, ea⟩ := vc4 a
 obtain ⟨p1, q1, r1, x1, eb⟩ := vc4 b
 have t8' := t8
 rw [vcs2] at t8
 simp only [val, truP, ea, eb, Yk, Yl, List.cons_append, List.nil_append, List.length_cons, List.length_nil] at hf t8 ⊢
 have fin : ∀ (H H' : Heap), (∃ s1 : Go.Ab.Tr, Zy C 0 (opsD Qhu) ⟨⟨M, [], H⟩, [], []⟩ = some (none, s1) /\ okRW [0, 1, 3, 0, 8, 24, 63, 127, 255, 255, 511, 2047] (opsD Qhu) s1 = true /\ s1.st.defers = [] /\ s1.st.heap = H' /\ At140 s1.st.env [a, b] /\ s1.st.env.get 10 = some (.p q.p) /\ s1.st.env.get 11 = some (.p (.str w))) ->
     ∃ M', exec C L Qhu ⟨M, [], H⟩ = some (.normal, ⟨M', [], H'⟩) /\ At140 M' [a, b] /\ M'.get 10 = some (.p q.p) /\ M'.get 11 = some (.p (.str w)) := by
   rintro H H' ⟨⟨⟨M', d, σ'⟩, rds, wrs⟩, hr, hok, hd, hh, hA⟩
   simp only at hd hh
   subst hd hh
   exact ⟨M', L9 hr hok, hA⟩
 exact fin _ _ ⟨_, by
     show Zy C 0 (_ :: _) _ = _
     refine (Zf rfl rfl (by simp [t3, t6, t8, r0, hf]; rfl)).trans ?_
     refine (Zf rfl rfl (by simp [t3, t6, t8, r0, hf]; rfl)).trans ?_
     refine (Zf rfl rfl (by simp [t3, t6, t8, r0, hf]; rfl)).trans ?_
     refine (Zf rfl rfl (by simp [t3, t6, t8, r0, hf]; rfl)).trans ?_
     refine (Zf rfl rfl (by simp [t3, t6, t8, r0, hf]; rfl)).trans ?_
     refine (Zf rfl rfl (by simp [t3, t6, t8, r0, hf]; rfl)).trans ?_
     refine (B8 rfl rfl (by simp [Zo, Jk, t3, t6, t8, r0, hf]; rfl) (by simp; rfl) (by simp [t3, t6, t8, r0, hf]; rfl)).trans ?_
     refine (Zf rfl rfl (by simp [t3, t6, t8, r0, hf]; rfl)).trans ?_
     refine (Zf rfl rfl (by simp [t3, t6, t8, r0, hf]; rfl)).trans ?_
     refine (Zf rfl rfl (by simp [t3, t6, t8, r0, hf]; rfl)).trans ?_
     refine (Zf rfl rfl (by simp [t3, t6, t8, r0, hf]; rfl)).trans ?_
     refine (Zf rfl rfl (by simp [t3, t6, t8, r0, hf]; rfl)).trans ?_
     exact rfl, by kernel_rfl, by rfl, by rfl, ⟨by simp [t3], by simp [t6], by simpa [putE, Env.get_cons] using t8'⟩, by simp, by simp⟩
end
end Go.Ab.Keep
