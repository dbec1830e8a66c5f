/- U5 -/
import Derived.Test.YtikebbklkiodlaaGreatDoorAbU1
import Derived.Test.YtikebbklkiodlaaGreatDoorAbE2
set_option maxRecDepth 1000000
set_option linter.all false
namespace Go.Ab.Turn
open Go Go.Ab Go.Ab.Plan Go.Ab.Key Go.Ab.Cnt Go.Proofs
variable [Q4]
abbrev Dv : List PV := [.str [97], .int .i64 2, .int .i64 0, .bool false, .str [98], .int .i64 3, .int .i64 0, .bool false, .str [99], .int .i64 5, .int .i64 9, .bool false]
abbrev tblC (k : List Nat) : List PV := [.str [116], .vsl Dv 3, .vsl [.str [], .vsl (cols k) k.length, .bool true] 1, .vsl [] 0, .vsl [] 0]
abbrev tbl (k : List Nat) : PV := .agg (tblC k)
def ansF (x : Option (CRes × Heap)) : Option PV := match x with
 | some (.ret v, σ1) => match frz (List.range σ1.length) 9 σ1 v with
   | some (p, _) => some p
   | none => none
 | _ => none
theorem Qqa {T : Ld} {L n f : Nat} {af : Q2} {ps : List PV} {p : PV} (hT : T f = some (.ans af)) (hf : fits af (ps.map .p) = true)
   (h : ansF (Z8 (cAt T L n).1 (cAt T L n).2 L af (ps.map .p) []) = some p) (σ : Heap) : (cAt T L (n + 1)).1 f (ps.map .p) σ = some (.ret (.p p), σ) := by
 unfold ansF at h
 split at h
 · rename_i v σ1 hr
   split at h
   · rename_i q σ2 hz
     obtain rfl := Option.some.inj h
     exact xy hT hf hr hz σ
   · cases h
 · cases h
theorem Qzf {T : Ld} {L n : Nat} (hT : T 6 = some (.ans lit15)) (k : List Nat) (σ : Heap) : (cAt T L (n + 1)).1 6 [.p (.vsl (cols k) k.length)] σ = some (.ret (.p (tbl k)), σ) := by
 generalize hc : cols k = c
 generalize hl : k.length = m
 have := Qqa (n := n) (L := L) (ps := [.vsl c m]) (p := .agg [.str [116], .vsl Dv 3, .vsl [.str [], .vsl c m, .bool true] 1, .vsl [] 0, .vsl [] 0]) hT (by rfl) (by kernel_rfl) σ
 simp only [tbl, tblC, hc, hl]
 exact this
def opsD : Q0 -> List AOper
 | .draw _ _ ops => ops
 | _ => []
end Go.Ab.Turn
namespace Go.Ab.Turn
open Go Go.Ab Go.Ab.Plan Go.Ab.Key Go.Ab.Cnt Go.Proofs
attribute [local simp] Uw Qe7 AV.cells N0 O5 finA qc resA resV ansV
variable [Q4]
def litV : Lit -> V
 | .num n => .num n
 | .text s => .text s
 | .bool n => .bool (n != 0)
abbrev Qr7 : List PV := [.int .i64 0, .int .i64 0, .str [], .bool false]
def litC : Option Lit -> List PV
 | some v => vc (litV v)
 | none => Qr7
theorem Qmh (n : Int) (h : inR n) : IntKind.i64.wrap (-n) = negI n := by
 unfold inR at h
 unfold negI
 by_cases h1 : n = -9223372036854775808
 · subst h1; decide
 · rw [if_neg h1]; exact J5 _ (by omega) (by omega)
theorem J8 {a b : Word} (h : ¬ a = b) : (a == b) = false := beq_eq_false_iff_ne.2 h
section
variable (C : Zj) (D : Yo) (L : Nat)
theorem run31 (t : T) (hok : okT t) (h35 : ∀ n σ, C 44 [int n] σ = some (.ret (.p (.agg [.int .i64 1, .int .i64 n, .str [], .bool false])), σ)) (h36 : ∀ s σ, C 45 [.p (.str s)] σ = some (.ret (.p (.agg [.int .i64 2, .int .i64 0, .str s, .bool false])), σ)) :
   ansV (Z8 C D L lit31 [.p (node t)] []) = some (.tup [.agg (litC (lit t)), .bool (lit t).isSome]) := by
 rw [Zp, lit31_tree]
 cases t with
 | mk op s n l =>
   simp only [okT, allT] at hok
   have hb : ((n == 0) = false) = (n ≠ 0) := by simp
   unfold n31
   rw [seqN (a := Qy1) (by simp [Qy1, params, cells]; rfl)]
   unfold n31_2
   rw [<- Zn, seqN (a := Qir) (by simp [Qir, Bu, Fd, Q1.get?]; rfl)]
   unfold Qnp Qjz
   by_cases h1 : op = [110, 117, 109]
   · subst h1
     simp [L1, L8, I7, Ey, Iu, Ev, Ez, Dl, Bf, Dn, Bh, Bg, Yx, Yd, Yv, Ye, Yb, Gy, Ge, Gb, J6, Jx, Qfh, Y9, finX, Hp, lit31, h35, h36, Bu, Fd, Q1.get?, Q1.toList, lit, litC, litV, T.op, T.n, T.s, T.l, vc, Ur]
   · have b1 := J8 h1
     by_cases h2 : op = [116, 101, 120, 116]
     · subst h2
       simp [L1, L8, I7, Ey, Iu, Ev, Ez, Dl, Bf, Dn, Bh, Bg, Yx, Yd, Yv, Ye, Yb, Gy, Ge, Gb, J6, Jx, Qfh, Y9, finX, Hp, lit31, h35, h36, Bu, Fd, Q1.get?, Q1.toList, lit, litC, litV, T.op, T.n, T.s, T.l, vc, Ur]
     · have b2 := J8 h2
       by_cases h3 : op = [98, 111, 111, 108]
       · subst h3
         simp [L1, L8, I7, Ey, Iu, Ev, Ez, Dl, Bf, Dn, Bh, Bg, Yx, Yd, Yv, Ye, Yb, Gy, Ge, Gb, J6, Jx, Qfh, Y9, finX, Hp, lit31, h35, h36, Bu, Fd, Q1.get?, Q1.toList, lit, litC, litV, T.op, T.n, T.s, T.l, vc, Ur]
       · have b3 := J8 h3
         by_cases h4 : op = [110, 101, 103]
         · subst h4
           match l, hok with
           | [], _ =>
             simp [L1, L8, I7, Ey, Iu, Ev, Ez, Dl, Bf, Dn, Bh, Bg, Yx, Yd, Yv, Ye, Yb, Gy, Ge, Gb, J6, Jx, Qfh, Y9, finX, Hp, lit31, h35, h36, Bu, Fd, Q1.get?, Q1.toList, lit, litC, litV, T.op, T.n, T.s, T.l, vc, Ur, lenA]
           | [.mk zo zs zn zl], hok =>
             have hz : inR zn := hok.2.1.1.1
             have e1 := Qmh zn hz
             by_cases h5 : zo = [110, 117, 109]
             · subst h5
               simp [L1, L8, I7, Ey, Iu, Ev, Ez, Dl, Bf, Dn, Bh, Bg, Yx, Yd, Yv, Ye, Yb, Gy, Ge, Gb, J6, Jx, Qfh, Y9, finX, Hp, lit31, h35, h36, Bu, Fd, Q1.get?, Q1.toList, lit, litC, litV, T.op, T.n, T.s, T.l, vc, Ur, lenA, Zs, cells, idxA, e1]
             · have b5 := J8 h5
               simp [L1, L8, I7, Ey, Iu, Ev, Ez, Dl, Bf, Dn, Bh, Bg, Yx, Yd, Yv, Ye, Yb, Gy, Ge, Gb, J6, Jx, Qfh, Y9, finX, Hp, lit31, h35, h36, Bu, Fd, Q1.get?, Q1.toList, lit, litC, litV, T.op, T.n, T.s, T.l, vc, Ur, lenA, Zs, cells, idxA, b5, h5]
           | x :: y :: r, _ =>
             have hn' : ¬ ((r.length : Int) + 1 + 1 = 1) := by omega
             have hn : ((r.length : Int) + 1 + 1 == 1) = false := beq_eq_false_iff_ne.2 hn'
             simp [L1, L8, I7, Ey, Iu, Ev, Ez, Dl, Bf, Dn, Bh, Bg, Yx, Yd, Yv, Ye, Yb, Gy, Ge, Gb, J6, Jx, Qfh, Y9, finX, Hp, lit31, h35, h36, Bu, Fd, Q1.get?, Q1.toList, lit, litC, litV, T.op, T.n, T.s, T.l, vc, Ur, lenA, hn, hn']
         · have b4 := J8 h4
           simp [L1, L8, I7, Ey, Iu, Ev, Ez, Dl, Bf, Dn, Bh, Bg, Yx, Yd, Yv, Ye, Yb, Gy, Ge, Gb, J6, Jx, Qfh, Y9, finX, Hp, lit31, h35, h36, Bu, Fd, Q1.get?, Q1.toList, lit, litC, litV, T.op, T.n, T.s, T.l, vc, Ur, b1, b2, b3, b4, h1, h2, h3, h4]
theorem run30 (op : Word) : ansV (Z8 C D L lit30 [.p (.str op)] []) = some (.str (if Hc op = true then flip op else [])) := by
 by_cases h1 : op = [61]
 · subst h1
   rfl
 · by_cases h2 : op = [60]
   · subst h2
     rfl
   · by_cases h3 : op = [60, 61]
     · subst h3
       rfl
     · by_cases h4 : op = [62]
       · subst h4
         rfl
       · by_cases h5 : op = [62, 61]
         · subst h5
           rfl
         · have hc : Hc op = false := by simp [Hc, h1, h2, h3, h4, h5]
           rw [hc]
           simp [Z8, lit30, params, Y9, Hp, J8 h1, J8 h2, J8 h3, J8 h4, J8 h5]
theorem run35 (n : Int) : ansV (Z8 C D L lit35 [int n] []) = some (.agg [.int .i64 1, .int .i64 n, .str [], .bool false]) := by kernel_rfl
theorem run36 (s : Word) : ansV (Z8 C D L lit36 [.p (.str s)] []) = some (.agg [.int .i64 2, .int .i64 0, .str s, .bool false]) := by kernel_rfl
end
end Go.Ab.Turn
namespace Go.Ab.Turn
open Go Go.Ab Go.Ab.Plan Go.Ab.Key Go.Ab.Cnt Go.Proofs
attribute [local simp] Uw Qe7 AV.cells N0 O5 finA qc resA resV ansV
variable [Q4]
def slT (n : Int) (v : Lit) : Option Nat := match v with
 | .num _ => if n = 0 ∨ n = 1 then some n.toNat else none
 | .text _ => if n = 2 then some 2 else none
 | .bool _ => none
abbrev clC (c : Cl) : List PV := .int .i64 c.col :: .str c.op :: vc (litV c.v)
def Ok23 (r : Option Cl) (c : List PV) (b : Bool) : Prop := match r with
 | some cl => b = true /\ c = clC cl
 | none => b = false /\ c.length = 6
def y7 : Lit -> Int
 | .num _ => 1
 | .text _ => 2
 | .bool _ => 3
section
variable (C : Zj) (L : Nat) (k : List Nat)
structure At23 (M : Env) (σ : Heap) (OP xo xs : Word) (xn : Int) (XL : List PV) (xm : Nat) (lc : List PV) : Prop where
 t2 : M.get 2 = some (int 0)
 t3 : M.get 3 = some (.ptr 0 0 0)
 t6 : M.get 6 = some (.ptr 2 0 0)
 t8 : M.get 8 = some (.ptr 3 0 0)
 t9 : M.get 9 = some (.ptr 4 0 0)
 o0 : σ[0]? = some (.arr (.pv (tblC k)) 0 0 none)
 o2 : σ[2]? = some (.arr (.pv (.int .i64 0 :: .str OP :: lc)) 0 0 (some 78))
 o3 : σ[3]? = some (.arr (.pv [.str xo, .str xs, .int .i64 xn, .vsl XL xm]) 0 0 (some 25))
theorem Qyj (M : Env) (σ : Heap) (OP xo xs : Word) (xn : Int) (XL : List PV) (xm : Nat) (y : T) (hy : okT y) (h : At23 k M σ OP xo xs xn XL xm Qr7) (o4 : σ[4]? = some (.arr (.pv (cells y)) 0 0 (some 25)))
   (h31 : ∀ t, okT t -> ∀ σ, C 28 [.p (node t)] σ = some (.ret (.p (.tup [.agg (litC (lit t)), .bool (lit t).isSome])), σ)) :
   ∃ M' σ', exec C L Qtk ⟨M, [], σ⟩ = some (.normal, ⟨M', [], σ'⟩) /\ At23 k M' σ' OP xo xs xn XL xm (litC (lit y)) /\ M'.get 7 = some (.p (.bool (lit y).isSome)) := by
 have hC := h31 y hy
 have hlc : ∃ a b c d, litC (lit y) = [a, b, c, d] := by
   cases lit y with
   | none => exact ⟨_, _, _, _, rfl⟩
   | some v => cases v <;> exact ⟨_, _, _, _, rfl⟩
 have hyc : ∃ a b c d, cells y = [a, b, c, d] := by cases y; exact ⟨_, _, _, _, rfl⟩
 obtain ⟨a, b, c, d, e1⟩ := hlc
 obtain ⟨p, q, r, s, e2⟩ := hyc
 have h2 : 2 < σ.length := (List.getElem?_eq_some_iff.1 h.o2).1
 have hs2 : ∀ x : Obj, (σ.set 2 x)[2]? = some x := fun x => List.getElem?_set_self h2
 have o2 := h.o2
 have hC' : ∀ σ, C 28 [.p (.agg [p, q, r, s])] σ = some (.ret (.p (.tup [.agg [a, b, c, d], .bool (lit y).isSome])), σ) := by
   intro σ
   have := hC σ
   rw [e1] at this
   simpa [node, e2] using this
 rw [e2] at o4
 rw [e1]
 refine ⟨_, _, by simp [Qtk, Vb, Bu, Fd, Q1.get?, Q1.toList, h.t9, h.t6, o4, hC', o2]; exact ⟨rfl, rfl⟩, ⟨by simp [h.t2], by simp [h.t3], by simp [h.t6], by simp [h.t8], by simp [h.t9], ?_, ?_, ?_⟩, by simp⟩
 · rw [List.getElem?_set_ne (by decide)]; exact h.o0
 · rw [hs2]
 · rw [List.getElem?_set_ne (by decide)]; exact h.o3
theorem fail23 (M : Env) (σ : Heap) (OP xo xs : Word) (xn : Int) (XL : List PV) (xm : Nat) (a b c d : PV) (ok : Bool) (h : At23 k M σ OP xo xs xn XL xm [a, b, c, d]) (h7 : M.get 7 = some (.p (.bool ok)))
   (hf : ok = false ∨ ¬ xo = [115, 108, 111, 116] ∨ xn < 0 ∨ 3 <= xn) :
   ∃ M' σ', exec C L Qei ⟨M, [], σ⟩ = some (.ret, ⟨M', [], σ'⟩) /\ M'.get 6 = some (.ptr 2 0 0) /\ M'.get 7 = some (.p (.bool false)) /\ σ'[2]? = some (.arr (.pv [.int .i64 0, .str OP, a, b, c, d]) 0 0 (some 78)) := by
 have h2 : 2 < σ.length := (List.getElem?_eq_some_iff.1 h.o2).1
 have hs2 : ∀ x : Obj, (σ.set 2 x)[2]? = some x := fun x => List.getElem?_set_self h2
 have e3 : IntKind.i64.wrap 3 = 3 := by decide
 have hmax : maxA false (AV.p (PV.int IntKind.i64 1000)) [AV.p (PV.int IntKind.i64 3)] = some (.p (.int .i64 3)) := by rfl
 cases ok with
 | false => exact ⟨_, _, by simp [Qei, jt, jo, Y9, lenA, Bu, Fd, Q1.get?, Q1.toList, h.t2, h.t3, h.t6, h.t8, h7, h.o0, h.o2, h.o3]; exact ⟨rfl, rfl⟩, by simp [h.t6], by simp, by rw [hs2]⟩
 | true =>
   by_cases hx : xo = [115, 108, 111, 116]
   · subst hx
     by_cases h0 : xn < 0
     · exact ⟨_, _, by simp [Qei, jt, jo, Y9, lenA, Bu, Fd, Q1.get?, Q1.toList, h.t2, h.t3, h.t6, h.t8, h7, h.o0, h.o2, h.o3, h0]; exact ⟨rfl, rfl⟩, by simp [h.t6], by simp, by rw [hs2]⟩
     · have h3 : 3 <= xn := by
         rcases hf with hf | hf | hf | hf
         · cases hf
         · exact absurd rfl hf
         · exact absurd hf h0
         · exact hf
       exact ⟨_, _, by simp [Qei, jt, jo, Y9, lenA, Bu, Fd, Q1.get?, Q1.toList, h.t2, h.t3, h.t6, h.t8, h7, h.o0, h.o2, h.o3, h0, h3, e3, hmax]; exact ⟨rfl, rfl⟩, by simp [h.t6], by simp, by rw [hs2]⟩
   · have b1 := J8 hx
     exact ⟨_, _, by simp [Qei, jt, jo, Y9, lenA, Bu, Fd, Q1.get?, Q1.toList, h.t2, h.t3, h.t6, h.t8, h7, h.o0, h.o2, h.o3, b1]; exact ⟨rfl, rfl⟩, by simp [h.t6], by simp, by rw [hs2]⟩
theorem pass23 (M : Env) (σ : Heap) (OP xs : Word) (xn : Int) (XL : List PV) (xm : Nat) (a b c d : PV) (h : At23 k M σ OP [115, 108, 111, 116] xs xn XL xm [a, b, c, d]) (h7 : M.get 7 = some (.p (.bool true)))
   (h0 : 0 <= xn) (h3 : xn < 3) :
   ∃ M', exec C L Qei ⟨M, [], σ⟩ = some (.normal, ⟨M', [], σ⟩) /\ At23 k M' σ OP [115, 108, 111, 116] xs xn XL xm [a, b, c, d] := by
 have h0' : ¬ xn < 0 := by omega
 have h3' : ¬ 3 <= xn := by omega
 have e3 : IntKind.i64.wrap 3 = 3 := by decide
 have hmax : maxA false (AV.p (PV.int IntKind.i64 1000)) [AV.p (PV.int IntKind.i64 3)] = some (.p (.int .i64 3)) := by rfl
 exact ⟨_, by simp [Qei, jt, jo, Y9, lenA, Bu, Fd, Q1.get?, Q1.toList, h.t2, h.t3, h.t6, h.t8, h7, h.o0, h.o2, h.o3, h0', h3', e3, hmax]; rfl, ⟨by simp [h.t2], by simp [h.t3], by simp [h.t6], by simp [h.t8], by simp [h.t9], h.o0, h.o2, h.o3⟩⟩
end
end Go.Ab.Turn
namespace Go.Ab.Turn
open Go Go.Ab Go.Ab.Plan Go.Ab.Key Go.Ab.Cnt Go.Proofs
attribute [local simp] Uw Qe7 AV.cells N0 O5 finA qc resA resV ansV B4 Yw opds Qc0 optO Fj Ms V3 refV oneH idxA lenA Bu Fd Q1.get? Nz Oe Eo D9 idsL idsV idsO Sp
variable [Q4]
structure K32 (C : Zj) : Prop where
 k0 : ∀ σ, C 29 [.p (.agg [.int .i64 2, .int .i64 0])] σ = some (.ret (int 1), σ)
 k1 : ∀ σ, C 29 [.p (.agg [.int .i64 3, .int .i64 0])] σ = some (.ret (int 1), σ)
 k2 : ∀ σ, C 29 [.p (.agg [.int .i64 5, .int .i64 9])] σ = some (.ret (int 2), σ)
section
variable (C : Zj) (L : Nat) (k : List Nat)
theorem col23 (M : Env) (σ : Heap) (OP xo xs : Word) (xn : Int) (XL : List PV) (xm : Nat) (a b c d : PV) (h : At23 k M σ OP xo xs xn XL xm [a, b, c, d]) (h0 : 0 <= xn) (h3 : xn < 3) :
   ∃ M', exec C L Que ⟨M, [], σ⟩ = some (.normal, ⟨M', [], σ.set 2 (.arr (.pv [.int .i64 xn, .str OP, a, b, c, d]) 0 0 (some 78))⟩) /\ M'.get 3 = some (.ptr 0 0 0) /\ M'.get 6 = some (.ptr 2 0 0) := by
 have e1 : IntKind.i64.wrap xn = xn := J5 _ (by omega) (by omega)
 exact ⟨_, by simp [Que, Q1.toList, h.t2, h.t6, h.t8, h.o2, h.o3, e1]; rfl, by simp [h.t3], by simp [h.t6]⟩
theorem Qr8 (M : Env) (σ : Heap) (OP : Word) (ka : Int) (b c d : PV) (t3 : M.get 3 = some (.ptr 0 0 0)) (t6 : M.get 6 = some (.ptr 2 0 0)) (o0 : σ[0]? = some (.arr (.pv (tblC k)) 0 0 none)) (o2 : σ[2]? = some (.arr (.pv [.int .i64 0, .str OP, .int .i64 ka, b, c, d]) 0 0 (some 78)))
   (hr : Q4.raw 29 = false) (hK : K32 C) : ∃ M' σ', exec C L yx ⟨M, [], σ⟩ = some (.normal, ⟨M', [], σ'⟩) /\ M'.get 6 = some (.ptr 2 0 0) /\ M'.get 7 = some (.p (.bool (1 == ka))) /\ σ'[2]? = some (.arr (.pv [.int .i64 0, .str OP, .int .i64 ka, b, c, d]) 0 0 (some 78)) := by
 have h2 : 2 < σ.length := (List.getElem?_eq_some_iff.1 o2).1
 have hC := hK.k0
 have fin : (∃ s1 : Tr, Zy C 0 (opsD yx) ⟨⟨M, [], σ⟩, [], []⟩ = some (none, s1) /\ s1.rds = [(11, 2), (4, 2), (2, 0), (0, 2)] /\ (∃ k0 k1, s1.wrs = [(13, k1, [2]), (8, k0, [])] /\ 2 < k0) /\ s1.st.defers = [] /\ s1.st.env.get 6 = some (.ptr 2 0 0) /\ s1.st.env.get 7 = some (.p (.bool (1 == ka))) /\ s1.st.heap[2]? = some (.arr (.pv [.int .i64 0, .str OP, .int .i64 ka, b, c, d]) 0 0 (some 78))) ->
     ∃ M' σ', exec C L yx ⟨M, [], σ⟩ = some (.normal, ⟨M', [], σ'⟩) /\ M'.get 6 = some (.ptr 2 0 0) /\ M'.get 7 = some (.p (.bool (1 == ka))) /\ σ'[2]? = some (.arr (.pv [.int .i64 0, .str OP, .int .i64 ka, b, c, d]) 0 0 (some 78)) := by
   rintro ⟨⟨⟨M', d, σ'⟩, rds, wrs⟩, hr, h1, ⟨k0, k1, h2, hk0⟩, h3, h4, h5, h6⟩
   simp only at h1 h2 h3
   subst h1 h2 h3
   obtain ⟨m0, rfl⟩ : ∃ m, k0 = m + 3 := ⟨k0 - 3, by omega⟩
   exact ⟨M', σ', L9 hr (by kernel_rfl), h4, h5, h6⟩
 exact fin ⟨_, by
     show Zy C 0 (_ :: _) _ = _
     refine (Eu rfl rfl (by simp [t3, t6, o0, o2, hr, hC, Dv]; exact ⟨rfl, rfl⟩)).trans ?_
     refine (Zf rfl rfl (by simp [t3, t6, o0, o2, hr, hC, Dv]; rfl)).trans ?_
     refine (Eu rfl rfl (by simp [t3, t6, o0, o2, hr, hC, Dv]; exact ⟨rfl, rfl⟩)).trans ?_
     refine (Zf rfl rfl (by simp [t3, t6, o0, o2, hr, hC, Dv]; rfl)).trans ?_
     refine (Eu rfl rfl (by simp [t3, t6, o0, o2, hr, hC, Dv]; exact ⟨rfl, rfl⟩)).trans ?_
     refine (Zf rfl rfl (by simp [t3, t6, o0, o2, hr, hC, Dv]; rfl)).trans ?_
     refine (Zf rfl rfl (by simp [t3, t6, o0, o2, hr, hC, Dv]; rfl)).trans ?_
     refine (Zf rfl rfl (by simp [t3, t6, o0, o2, hr, hC, Dv]; rfl)).trans ?_
     refine (B8 rfl rfl (by simp [Zo, Jk, Q1.toList, t3, t6, o0, o2, hr, hC, Dv]; rfl) (by simp; rfl) (by simp [t3, t6, o0, o2, hr, hC, Dv]; rfl)).trans ?_
     refine (Zf rfl rfl (by simp [t3, t6, o0, o2, hr, hC, Dv]; rfl)).trans ?_
     refine (Zf rfl rfl (by simp [t3, t6, o0, o2, hr, hC, Dv]; rfl)).trans ?_
     refine (Eu rfl rfl (by simp [t3, t6, o0, o2, hr, hC, Dv]; exact ⟨rfl, rfl⟩)).trans ?_
     refine (Zf rfl rfl (by simp [t3, t6, o0, o2, hr, hC, Dv]; rfl)).trans ?_
     refine (B8 rfl rfl (by simp [Zo, Jk, Q1.toList, t3, t6, o0, o2, hr, hC, Dv]; rfl) (by simp; rfl) (by simp [t3, t6, o0, o2, hr, hC, Dv]; rfl)).trans ?_
     refine (Zf rfl rfl (by simp [t3, t6, o0, o2, hr, hC, Dv]; rfl)).trans ?_
     exact rfl, by rfl, ⟨_, _, by rfl, h2⟩, by rfl, by simp [t6], by simp, List.getElem?_set_self h2⟩
theorem Qt1 (M : Env) (σ : Heap) (OP : Word) (ka : Int) (b c d : PV) (t3 : M.get 3 = some (.ptr 0 0 0)) (t6 : M.get 6 = some (.ptr 2 0 0)) (o0 : σ[0]? = some (.arr (.pv (tblC k)) 0 0 none)) (o2 : σ[2]? = some (.arr (.pv [.int .i64 1, .str OP, .int .i64 ka, b, c, d]) 0 0 (some 78)))
   (hr : Q4.raw 29 = false) (hK : K32 C) : ∃ M' σ', exec C L yx ⟨M, [], σ⟩ = some (.normal, ⟨M', [], σ'⟩) /\ M'.get 6 = some (.ptr 2 0 0) /\ M'.get 7 = some (.p (.bool (1 == ka))) /\ σ'[2]? = some (.arr (.pv [.int .i64 1, .str OP, .int .i64 ka, b, c, d]) 0 0 (some 78)) := by
 have h2 : 2 < σ.length := (List.getElem?_eq_some_iff.1 o2).1
 have hC := hK.k1
 have fin : (∃ s1 : Tr, Zy C 0 (opsD yx) ⟨⟨M, [], σ⟩, [], []⟩ = some (none, s1) /\ s1.rds = [(11, 2), (4, 2), (2, 0), (0, 2)] /\ (∃ k0 k1, s1.wrs = [(13, k1, [2]), (8, k0, [])] /\ 2 < k0) /\ s1.st.defers = [] /\ s1.st.env.get 6 = some (.ptr 2 0 0) /\ s1.st.env.get 7 = some (.p (.bool (1 == ka))) /\ s1.st.heap[2]? = some (.arr (.pv [.int .i64 1, .str OP, .int .i64 ka, b, c, d]) 0 0 (some 78))) ->
     ∃ M' σ', exec C L yx ⟨M, [], σ⟩ = some (.normal, ⟨M', [], σ'⟩) /\ M'.get 6 = some (.ptr 2 0 0) /\ M'.get 7 = some (.p (.bool (1 == ka))) /\ σ'[2]? = some (.arr (.pv [.int .i64 1, .str OP, .int .i64 ka, b, c, d]) 0 0 (some 78)) := by
   rintro ⟨⟨⟨M', d, σ'⟩, rds, wrs⟩, hr, h1, ⟨k0, k1, h2, hk0⟩, h3, h4, h5, h6⟩
   simp only at h1 h2 h3
   subst h1 h2 h3
   obtain ⟨m0, rfl⟩ : ∃ m, k0 = m + 3 := ⟨k0 - 3, by omega⟩
   exact ⟨M', σ', L9 hr (by kernel_rfl), h4, h5, h6⟩
 exact fin ⟨_, by
     show Zy C 0 (_ :: _) _ = _
     refine (Eu rfl rfl (by simp [t3, t6, o0, o2, hr, hC, Dv]; exact ⟨rfl, rfl⟩)).trans ?_
     refine (Zf rfl rfl (by simp [t3, t6, o0, o2, hr, hC, Dv]; rfl)).trans ?_
     refine (Eu rfl rfl (by simp [t3, t6, o0, o2, hr, hC, Dv]; exact ⟨rfl, rfl⟩)).trans ?_
     refine (Zf rfl rfl (by simp [t3, t6, o0, o2, hr, hC, Dv]; rfl)).trans ?_
     refine (Eu rfl rfl (by simp [t3, t6, o0, o2, hr, hC, Dv]; exact ⟨rfl, rfl⟩)).trans ?_
     refine (Zf rfl rfl (by simp [t3, t6, o0, o2, hr, hC, Dv]; rfl)).trans ?_
     refine (Zf rfl rfl (by simp [t3, t6, o0, o2, hr, hC, Dv]; rfl)).trans ?_
     refine (Zf rfl rfl (by simp [t3, t6, o0, o2, hr, hC, Dv]; rfl)).trans ?_
     refine (B8 rfl rfl (by simp [Zo, Jk, Q1.toList, t3, t6, o0, o2, hr, hC, Dv]; rfl) (by simp; rfl) (by simp [t3, t6, o0, o2, hr, hC, Dv]; rfl)).trans ?_
     refine (Zf rfl rfl (by simp [t3, t6, o0, o2, hr, hC, Dv]; rfl)).trans ?_
     refine (Zf rfl rfl (by simp [t3, t6, o0, o2, hr, hC, Dv]; rfl)).trans ?_
     refine (Eu rfl rfl (by simp [t3, t6, o0, o2, hr, hC, Dv]; exact ⟨rfl, rfl⟩)).trans ?_
     refine (Zf rfl rfl (by simp [t3, t6, o0, o2, hr, hC, Dv]; rfl)).trans ?_
     refine (B8 rfl rfl (by simp [Zo, Jk, Q1.toList, t3, t6, o0, o2, hr, hC, Dv]; rfl) (by simp; rfl) (by simp [t3, t6, o0, o2, hr, hC, Dv]; rfl)).trans ?_
     refine (Zf rfl rfl (by simp [t3, t6, o0, o2, hr, hC, Dv]; rfl)).trans ?_
     exact rfl, by rfl, ⟨_, _, by rfl, h2⟩, by rfl, by simp [t6], by simp, List.getElem?_set_self h2⟩
theorem Qsa (M : Env) (σ : Heap) (OP : Word) (ka : Int) (b c d : PV) (t3 : M.get 3 = some (.ptr 0 0 0)) (t6 : M.get 6 = some (.ptr 2 0 0)) (o0 : σ[0]? = some (.arr (.pv (tblC k)) 0 0 none)) (o2 : σ[2]? = some (.arr (.pv [.int .i64 2, .str OP, .int .i64 ka, b, c, d]) 0 0 (some 78)))
   (hr : Q4.raw 29 = false) (hK : K32 C) : ∃ M' σ', exec C L yx ⟨M, [], σ⟩ = some (.normal, ⟨M', [], σ'⟩) /\ M'.get 6 = some (.ptr 2 0 0) /\ M'.get 7 = some (.p (.bool (2 == ka))) /\ σ'[2]? = some (.arr (.pv [.int .i64 2, .str OP, .int .i64 ka, b, c, d]) 0 0 (some 78)) := by
 have h2 : 2 < σ.length := (List.getElem?_eq_some_iff.1 o2).1
 have hC := hK.k2
 have fin : (∃ s1 : Tr, Zy C 0 (opsD yx) ⟨⟨M, [], σ⟩, [], []⟩ = some (none, s1) /\ s1.rds = [(11, 2), (4, 2), (2, 0), (0, 2)] /\ (∃ k0 k1, s1.wrs = [(13, k1, [2]), (8, k0, [])] /\ 2 < k0) /\ s1.st.defers = [] /\ s1.st.env.get 6 = some (.ptr 2 0 0) /\ s1.st.env.get 7 = some (.p (.bool (2 == ka))) /\ s1.st.heap[2]? = some (.arr (.pv [.int .i64 2, .str OP, .int .i64 ka, b, c, d]) 0 0 (some 78))) ->
     ∃ M' σ', exec C L yx ⟨M, [], σ⟩ = some (.normal, ⟨M', [], σ'⟩) /\ M'.get 6 = some (.ptr 2 0 0) /\ M'.get 7 = some (.p (.bool (2 == ka))) /\ σ'[2]? = some (.arr (.pv [.int .i64 2, .str OP, .int .i64 ka, b, c, d]) 0 0 (some 78)) := by
   rintro ⟨⟨⟨M', d, σ'⟩, rds, wrs⟩, hr, h1, ⟨k0, k1, h2, hk0⟩, h3, h4, h5, h6⟩
   simp only at h1 h2 h3
   subst h1 h2 h3
   obtain ⟨m0, rfl⟩ : ∃ m, k0 = m + 3 := ⟨k0 - 3, by omega⟩
   exact ⟨M', σ', L9 hr (by kernel_rfl), h4, h5, h6⟩
 exact fin ⟨_, by
     show Zy C 0 (_ :: _) _ = _
     refine (Eu rfl rfl (by simp [t3, t6, o0, o2, hr, hC, Dv]; exact ⟨rfl, rfl⟩)).trans ?_
     refine (Zf rfl rfl (by simp [t3, t6, o0, o2, hr, hC, Dv]; rfl)).trans ?_
     refine (Eu rfl rfl (by simp [t3, t6, o0, o2, hr, hC, Dv]; exact ⟨rfl, rfl⟩)).trans ?_
     refine (Zf rfl rfl (by simp [t3, t6, o0, o2, hr, hC, Dv]; rfl)).trans ?_
     refine (Eu rfl rfl (by simp [t3, t6, o0, o2, hr, hC, Dv]; exact ⟨rfl, rfl⟩)).trans ?_
     refine (Zf rfl rfl (by simp [t3, t6, o0, o2, hr, hC, Dv]; rfl)).trans ?_
     refine (Zf rfl rfl (by simp [t3, t6, o0, o2, hr, hC, Dv]; rfl)).trans ?_
     refine (Zf rfl rfl (by simp [t3, t6, o0, o2, hr, hC, Dv]; rfl)).trans ?_
     refine (B8 rfl rfl (by simp [Zo, Jk, Q1.toList, t3, t6, o0, o2, hr, hC, Dv]; rfl) (by simp; rfl) (by simp [t3, t6, o0, o2, hr, hC, Dv]; rfl)).trans ?_
     refine (Zf rfl rfl (by simp [t3, t6, o0, o2, hr, hC, Dv]; rfl)).trans ?_
     refine (Zf rfl rfl (by simp [t3, t6, o0, o2, hr, hC, Dv]; rfl)).trans ?_
     refine (Eu rfl rfl (by simp [t3, t6, o0, o2, hr, hC, Dv]; exact ⟨rfl, rfl⟩)).trans ?_
     refine (Zf rfl rfl (by simp [t3, t6, o0, o2, hr, hC, Dv]; rfl)).trans ?_
     refine (B8 rfl rfl (by simp [Zo, Jk, Q1.toList, t3, t6, o0, o2, hr, hC, Dv]; rfl) (by simp; rfl) (by simp [t3, t6, o0, o2, hr, hC, Dv]; rfl)).trans ?_
     refine (Zf rfl rfl (by simp [t3, t6, o0, o2, hr, hC, Dv]; rfl)).trans ?_
     exact rfl, by rfl, ⟨_, _, by rfl, h2⟩, by rfl, by simp [t6], by simp, List.getElem?_set_self h2⟩
end
end Go.Ab.Turn
namespace Go.Ab.Turn
open Go Go.Ab Go.Ab.Plan Go.Ab.Key Go.Ab.Cnt Go.Proofs
variable [Q4]
def said (OP : Word) (x y : T) : Option Cl := if x.op = Oh then (match lit y with
 | some v => (slT x.n v).map fun c => ⟨c, OP, v⟩
 | none => none) else none
theorem Qbc {OP : Word} {x y : T} (h : x.op = Oh) : said OP x y = (match lit y with
 | some v => (slT x.n v).map fun c => ⟨c, OP, v⟩
 | none => none) := if_pos h
theorem Qs5 {OP : Word} {x y : T} (h : ¬ x.op = Oh) : said OP x y = none := if_neg h
section
variable (C : Zj) (L : Nat) (k : List Nat)
theorem Qv7 (M : Env) (σ : Heap) (OP xo xs : Word) (xn : Int) (xl : List T) (y : T) (hy : okT y) (h : At23 k M σ OP xo xs xn (Zs xl) xl.length Qr7) (o4 : σ[4]? = some (.arr (.pv (cells y)) 0 0 (some 25)))
   (h31 : ∀ t, okT t -> ∀ σ, C 28 [.p (node t)] σ = some (.ret (.p (.tup [.agg (litC (lit t)), .bool (lit t).isSome])), σ)) (hr : Q4.raw 29 = false) (hK : K32 C) :
   ∃ M' σ' c b, exec C L (.seq Qtk (.seq Qei (.seq Que (.seq yx .ret)))) ⟨M, [], σ⟩ = some (.ret, ⟨M', [], σ'⟩) /\ M'.get 6 = some (.ptr 2 0 0) /\ M'.get 7 = some (.p (.bool b)) /\ σ'[2]? = some (.arr (.pv c) 0 0 (some 78)) /\
     Ok23 (said OP (.mk xo xs xn xl) y) c b /\ c.length = 6 := by
 obtain ⟨M1, σ1, e1, h1, g7⟩ := Qyj C L k M σ OP xo xs xn _ _ y hy h o4 h31
 have hlc : ∃ a b c d, litC (lit y) = [a, b, c, d] := by
   cases lit y with
   | none => exact ⟨_, _, _, _, rfl⟩
   | some v => cases v <;> exact ⟨_, _, _, _, rfl⟩
 obtain ⟨a, b, c, d, el⟩ := hlc
 by_cases hf : (lit y).isSome = false ∨ ¬ xo = [115, 108, 111, 116] ∨ xn < 0 ∨ 3 <= xn
 · rw [el] at h1
   obtain ⟨M2, σ2, e2, g6, g7, o2⟩ := fail23 C L k M1 σ1 OP xo xs xn _ _ a b c d _ h1 g7 hf
   refine ⟨M2, σ2, _, false, by rw [seqN e1, seqR e2], g6, g7, o2, ?_, rfl⟩
   have hn : said OP (.mk xo xs xn xl) y = none := by
     by_cases hx : xo = Oh
     · rw [Qbc (x := .mk xo xs xn xl) hx]
       rcases hf with hf | hf | hf
       · cases hl : lit y with
         | none => rfl
         | some v => rw [hl] at hf; cases hf
       · exact absurd hx hf
       · cases hl : lit y with
         | none => rfl
         | some v =>
           have : slT xn v = none := by
             cases v with
             | num m => exact if_neg (by omega)
             | text m => exact if_neg (by omega)
             | bool m => rfl
           simp only [T.n, this, Option.map_none]
     · exact Qs5 (x := .mk xo xs xn xl) hx
   rw [hn]
   exact ⟨rfl, rfl⟩
 · have hs : (lit y).isSome = true := by
     cases h : (lit y).isSome with
     | true => rfl
     | false => exact absurd (.inl h) hf
   have hx : xo = [115, 108, 111, 116] := Classical.byContradiction fun h => hf (.inr (.inl h))
   have h0 : 0 <= xn := by
     apply Classical.byContradiction
     intro h
     exact hf (.inr (.inr (.inl (by omega))))
   have h3 : xn < 3 := by
     apply Classical.byContradiction
     intro h
     exact hf (.inr (.inr (.inr (by omega))))
   subst hx
   obtain ⟨v, hv⟩ : ∃ v, lit y = some v := by
     cases h : lit y with
     | none => rw [h] at hs; cases hs
     | some v => exact ⟨v, rfl⟩
   obtain ⟨b', c', d', el⟩ : ∃ b c d, litC (lit y) = [.int .i64 (y7 v), b, c, d] := by
     rw [hv]
     cases v <;> exact ⟨_, _, _, rfl⟩
   rw [el] at h1
   rw [hs] at g7
   obtain ⟨M2, e2, h2⟩ := pass23 C L k M1 σ1 OP xs xn _ _ _ _ _ _ h1 g7 h0 h3
   obtain ⟨M3, e3, g3, g6⟩ := col23 C L k M2 σ1 OP _ xs xn _ _ _ _ _ _ h2 h0 h3
   have hl2 : 2 < σ1.length := (List.getElem?_eq_some_iff.1 h2.o2).1
   have o0 : (σ1.set 2 (.arr (.pv [.int .i64 xn, .str OP, .int .i64 (y7 v), b', c', d']) 0 0 (some 78)))[0]? = some (.arr (.pv (tblC k)) 0 0 none) := by
     rw [List.getElem?_set_ne (by decide)]; exact h2.o0
   have o2 := List.getElem?_set_self (l := σ1) (i := 2) (a := Obj.arr (.pv [.int .i64 xn, .str OP, .int .i64 (y7 v), b', c', d']) 0 0 (some 78)) hl2
   have key : ∃ M' σ' q, exec C L yx ⟨M3, [], σ1.set 2 (.arr (.pv [.int .i64 xn, .str OP, .int .i64 (y7 v), b', c', d']) 0 0 (some 78))⟩ = some (.normal, ⟨M', [], σ'⟩) /\ M'.get 6 = some (.ptr 2 0 0) /\ M'.get 7 = some (.p (.bool q)) /\
       σ'[2]? = some (.arr (.pv [.int .i64 xn, .str OP, .int .i64 (y7 v), b', c', d']) 0 0 (some 78)) /\ q = (slT xn v).isSome /\ (q = true -> slT xn v = some xn.toNat) := by
     have hxn : xn = 0 ∨ xn = 1 ∨ xn = 2 := by omega
     rcases hxn with rfl | rfl | rfl
     · obtain ⟨M', σ', e, q6, q7, q2⟩ := Qr8 C L k M3 _ OP (y7 v) b' c' d' g3 g6 o0 o2 hr hK
       exact ⟨M', σ', _, e, q6, q7, q2, by cases v <;> rfl, by cases v <;> simp [y7, slT]⟩
     · obtain ⟨M', σ', e, q6, q7, q2⟩ := Qt1 C L k M3 _ OP (y7 v) b' c' d' g3 g6 o0 o2 hr hK
       exact ⟨M', σ', _, e, q6, q7, q2, by cases v <;> rfl, by cases v <;> simp [y7, slT]⟩
     · obtain ⟨M', σ', e, q6, q7, q2⟩ := Qsa C L k M3 _ OP (y7 v) b' c' d' g3 g6 o0 o2 hr hK
       exact ⟨M', σ', _, e, q6, q7, q2, by cases v <;> rfl, by cases v <;> simp [y7, slT]⟩
   obtain ⟨M4, σ4, q, e4, q6, q7, q2, hq, hq2⟩ := key
   refine ⟨M4, σ4, _, q, by rw [seqN e1, seqN e2, seqN e3, seqN e4]; rfl, q6, q7, q2, ?_, rfl⟩
   have hsd : said OP (.mk [115, 108, 111, 116] xs xn xl) y = (slT xn v).map fun c => ⟨c, OP, v⟩ := by
     rw [Qbc (x := .mk [115, 108, 111, 116] xs xn xl) rfl, hv]
     rfl
   rw [hsd]
   cases q with
   | false =>
     have : slT xn v = none := by
       cases h : slT xn v with
       | none => rfl
       | some c => rw [h] at hq; cases hq
     rw [this]
     exact ⟨rfl, rfl⟩
   | true =>
     rw [hq2 rfl]
     refine ⟨rfl, ?_⟩
     have hvc : vc (litV v) = [.int .i64 (y7 v), b', c', d'] := by
       have := el
       rw [hv] at this
       exact this
     simp only [clC, hvc]
     have : ((xn.toNat : Nat) : Int) = xn := by omega
     rw [this]
end
end Go.Ab.Turn
namespace Go.Ab.Turn
open Go Go.Ab Go.Ab.Plan Go.Ab.Key Go.Ab.Cnt Go.Proofs
attribute [local simp] Uw Qe7 AV.cells N0 O5 finA qc resA resV ansV B4 Yw opds Qc0 optO Fj Ms V3 refV oneH idxA lenA Bu Fd Q1.get? Nz Oe Eo D9 idsL idsV idsO Sp
variable [Q4]
section
variable (C : Zj) (D : Yo) (L : Nat) (k : List Nat)
theorem Qfs (sl : Int -> Lit -> Option Nat) (op s : Word) (n : Int) (x y : T) : read sl (.mk op s n [x, y]) = if Hc op = true then (
     if x.op = Oh then (match lit y with
       | some v => (sl x.n v).map fun c => ⟨c, op, v⟩
       | none => none)
     else if y.op = Oh then (match lit x with
       | some v => (sl y.n v).map fun c => ⟨c, flip op, v⟩
       | none => none)
     else none) else none := rfl
theorem Qx7 {op : Word} (h : Hc op = true) : (flip op == []) = false := by
 simp [Hc] at h
 rcases h with (((rfl | rfl) | rfl) | rfl) | rfl <;> rfl
def H23 (t : T) (op : Word) : Heap := [.arr (.pv (tblC k)) 0 0 none, .arr (.pv (cells t)) 0 0 none, .arr (.pv [.int .i64 0, .str op, .int .i64 0, .int .i64 0, .str [], .bool false]) 0 0 (some 78)]
theorem Qxz (op s : Word) (n : Int) (l : List T) (h30 : ∀ op σ, C 27 [.p (.str op)] σ = some (.ret (.p (.str (if Hc op = true then flip op else []))), σ)) :
   ∃ M ex, exec C L (.seq (.seq Qmu Qmw) Qmt) ⟨[(0, .p (tbl k)), (1, .p (node (.mk op s n l))), (2, int 0)], [], []⟩ = some (ex, ⟨M, [], H23 k (.mk op s n l) op⟩) /\ ex = (if Hc op = true /\ l.length = 2 then .normal else .ret) /\
     M.get 2 = some (int 0) /\ M.get 3 = some (.ptr 0 0 0) /\ M.get 4 = some (.ptr 1 0 0) /\ M.get 6 = some (.ptr 2 0 0) /\ M.get 7 = some (.p (.bool false)) := by
 by_cases hc : Hc op = true
 · have h := h30 op
   rw [if_pos hc] at h
   have hne := Qx7 hc
   by_cases hl : l.length = 2
   · refine ⟨_, .normal, by simp [Qmu, Qmw, Qmt, Qep, Qeh, Y9, cells, Q1.toList, h, hne, hl, H23]; rfl, (if_pos ⟨hc, hl⟩).symm, by simp, by simp, by simp, by simp, by simp⟩
   · have hl' : ((l.length : Int) != 2) = true := bne_iff_ne.2 (by omega)
     refine ⟨_, .ret, by simp [Qmu, Qmw, Qmt, Qep, Qeh, Y9, cells, Q1.toList, h, hne, hl', H23]; rfl, (if_neg (fun h => hl h.2)).symm, by simp, by simp, by simp, by simp, by simp⟩
 · have h := h30 op
   rw [if_neg hc] at h
   refine ⟨_, .ret, by simp [Qmu, Qmw, Qmt, Qep, Qeh, Y9, cells, Q1.toList, h, H23]; rfl, (if_neg (fun h => hc h.1)).symm, by simp, by simp, by simp, by simp, by simp⟩
theorem Qxx (M : Env) (op s : Word) (n : Int) (xo xs yo ys : Word) (xn yn : Int) (xl yl : List T) (g2 : M.get 2 = some (int 0)) (g3 : M.get 3 = some (.ptr 0 0 0)) (g4 : M.get 4 = some (.ptr 1 0 0)) (g6 : M.get 6 = some (.ptr 2 0 0)) :
   ∃ M', exec C L Qss ⟨M, [], H23 k (.mk op s n [.mk xo xs xn xl, .mk yo ys yn yl]) op⟩ =
     some (.normal, ⟨M', [], H23 k (.mk op s n [.mk xo xs xn xl, .mk yo ys yn yl]) op ++ [.arr (.pv (cells (.mk xo xs xn xl))) 0 0 (some 25), .arr (.pv (cells (.mk yo ys yn yl))) 0 0 (some 25)]⟩) /\
     M'.get 2 = some (int 0) /\ M'.get 3 = some (.ptr 0 0 0) /\ M'.get 6 = some (.ptr 2 0 0) /\ M'.get 8 = some (.ptr 3 0 0) /\ M'.get 9 = some (.ptr 4 0 0) := by
 have fin : (∃ s1 : Tr, Zy C 0 (opsD Qss) ⟨⟨M, [], H23 k (.mk op s n [.mk xo xs xn xl, .mk yo ys yn yl]) op⟩, [], []⟩ = some (none, s1) /\ s1.rds = [(5, 1), (1, 1)] /\ s1.wrs = [(11, 5, [4]), (10, 5, [3]), (9, 4, []), (8, 3, [])] /\ s1.st.defers = [] /\
     s1.st.heap = H23 k (.mk op s n [.mk xo xs xn xl, .mk yo ys yn yl]) op ++ [.arr (.pv (cells (.mk xo xs xn xl))) 0 0 (some 25), .arr (.pv (cells (.mk yo ys yn yl))) 0 0 (some 25)] /\
     s1.st.env.get 2 = some (int 0) /\ s1.st.env.get 3 = some (.ptr 0 0 0) /\ s1.st.env.get 6 = some (.ptr 2 0 0) /\ s1.st.env.get 8 = some (.ptr 3 0 0) /\ s1.st.env.get 9 = some (.ptr 4 0 0)) ->
     ∃ M', exec C L Qss ⟨M, [], H23 k (.mk op s n [.mk xo xs xn xl, .mk yo ys yn yl]) op⟩ =
     some (.normal, ⟨M', [], H23 k (.mk op s n [.mk xo xs xn xl, .mk yo ys yn yl]) op ++ [.arr (.pv (cells (.mk xo xs xn xl))) 0 0 (some 25), .arr (.pv (cells (.mk yo ys yn yl))) 0 0 (some 25)]⟩) /\
     M'.get 2 = some (int 0) /\ M'.get 3 = some (.ptr 0 0 0) /\ M'.get 6 = some (.ptr 2 0 0) /\ M'.get 8 = some (.ptr 3 0 0) /\ M'.get 9 = some (.ptr 4 0 0) := by
   rintro ⟨⟨⟨M', d, σ'⟩, rds, wrs⟩, hr, h1, h2, h3, h4, hA⟩
   simp only at h1 h2 h3 h4
   subst h1 h2 h3 h4
   exact ⟨M', L9 hr (by kernel_rfl), hA⟩
 simp only [H23, cells, Zs] at fin ⊢
 exact fin ⟨_, by
     show Zy C 0 (_ :: _) _ = _
     refine (Zf rfl rfl (by simp [g4]; rfl)).trans ?_
     refine (Eu rfl rfl (by simp [g4]; exact ⟨rfl, rfl⟩)).trans ?_
     refine (Zf rfl rfl (by simp [g4]; rfl)).trans ?_
     refine (Zf rfl rfl (by simp [g4]; rfl)).trans ?_
     refine (Zf rfl rfl (by simp [g4]; rfl)).trans ?_
     refine (Eu rfl rfl (by simp [g4]; exact ⟨rfl, rfl⟩)).trans ?_
     refine (Zf rfl rfl (by simp [g4]; rfl)).trans ?_
     refine (Zf rfl rfl (by simp [g4]; rfl)).trans ?_
     refine (B8 rfl rfl (by simp [Zo, Jk, Q1.toList, g4]; rfl) (by simp; rfl) (by simp [g4]; rfl)).trans ?_
     refine (B8 rfl rfl (by simp [Zo, Jk, Q1.toList, g4]; rfl) (by simp; rfl) (by simp [g4]; rfl)).trans ?_
     refine (B8 rfl rfl (by simp [Zo, Jk, Q1.toList, g4]; rfl) (by simp; rfl) (by simp [g4]; rfl)).trans ?_
     refine (B8 rfl rfl (by simp [Zo, Jk, Q1.toList, g4]; rfl) (by simp; rfl) (by simp [g4]; rfl)).trans ?_
     exact rfl, by rfl, by rfl, by rfl, by rfl, by simp [g2], by simp [g3], by simp [g6], by simp, by simp⟩
theorem swap23 (M : Env) (op s : Word) (n : Int) (t : T) (xo xs yo ys : Word) (xn yn : Int) (xl yl : List T) (g2 : M.get 2 = some (int 0)) (g3 : M.get 3 = some (.ptr 0 0 0)) (g6 : M.get 6 = some (.ptr 2 0 0)) (g8 : M.get 8 = some (.ptr 3 0 0)) (g9 : M.get 9 = some (.ptr 4 0 0))
   (hr : Q4.raw 27 = false) (OP : Word) (h30 : ∀ σ, C 27 [.p (.str op)] σ = some (.ret (.p (.str OP)), σ)) :
   ∃ M', exec C L xu ⟨M, [], H23 k t op ++ [.arr (.pv (cells (.mk xo xs xn xl))) 0 0 (some 25), .arr (.pv (cells (.mk yo ys yn yl))) 0 0 (some 25)]⟩ =
     some (.normal, ⟨M', [], H23 k t OP ++ [.arr (.pv (cells (.mk yo ys yn yl))) 0 0 (some 25), .arr (.pv (cells (.mk xo xs xn xl))) 0 0 (some 25)]⟩) /\
     M'.get 2 = some (int 0) /\ M'.get 3 = some (.ptr 0 0 0) /\ M'.get 6 = some (.ptr 2 0 0) /\ M'.get 8 = some (.ptr 3 0 0) /\ M'.get 9 = some (.ptr 4 0 0) := by
 have fin : (∃ s1 : Tr, Zy C 0 (opsD xu) ⟨⟨M, [], H23 k t op ++ [.arr (.pv (cells (.mk xo xs xn xl))) 0 0 (some 25), .arr (.pv (cells (.mk yo ys yn yl))) 0 0 (some 25)]⟩, [], []⟩ = some (none, s1) /\ s1.rds = [(3, 2), (1, 3), (0, 4)] /\
     s1.wrs = [(8, 5, [2]), (6, 5, [4]), (5, 5, [3]), (4, 5, [])] /\ s1.st.defers = [] /\
     s1.st.heap = H23 k t OP ++ [.arr (.pv (cells (.mk yo ys yn yl))) 0 0 (some 25), .arr (.pv (cells (.mk xo xs xn xl))) 0 0 (some 25)] /\
     s1.st.env.get 2 = some (int 0) /\ s1.st.env.get 3 = some (.ptr 0 0 0) /\ s1.st.env.get 6 = some (.ptr 2 0 0) /\ s1.st.env.get 8 = some (.ptr 3 0 0) /\ s1.st.env.get 9 = some (.ptr 4 0 0)) ->
     ∃ M', exec C L xu ⟨M, [], H23 k t op ++ [.arr (.pv (cells (.mk xo xs xn xl))) 0 0 (some 25), .arr (.pv (cells (.mk yo ys yn yl))) 0 0 (some 25)]⟩ =
     some (.normal, ⟨M', [], H23 k t OP ++ [.arr (.pv (cells (.mk yo ys yn yl))) 0 0 (some 25), .arr (.pv (cells (.mk xo xs xn xl))) 0 0 (some 25)]⟩) /\
     M'.get 2 = some (int 0) /\ M'.get 3 = some (.ptr 0 0 0) /\ M'.get 6 = some (.ptr 2 0 0) /\ M'.get 8 = some (.ptr 3 0 0) /\ M'.get 9 = some (.ptr 4 0 0) := by
   rintro ⟨⟨⟨M', d, σ'⟩, rds, wrs⟩, hr, h1, h2, h3, h4, hA⟩
   simp only at h1 h2 h3 h4
   subst h1 h2 h3 h4
   exact ⟨M', L9 hr (by kernel_rfl), hA⟩
 generalize cells t = ct at fin ⊢
 simp only [H23, cells] at fin ⊢
 exact fin ⟨_, by
     show Zy C 0 (_ :: _) _ = _
     refine (Eu rfl rfl (by simp [g6, g8, g9, hr, h30]; exact ⟨rfl, rfl⟩)).trans ?_
     refine (Eu rfl rfl (by simp [g6, g8, g9, hr, h30]; exact ⟨rfl, rfl⟩)).trans ?_
     refine (Zf rfl rfl (by simp [g6, g8, g9, hr, h30]; rfl)).trans ?_
     refine (Eu rfl rfl (by simp [g6, g8, g9, hr, h30]; exact ⟨rfl, rfl⟩)).trans ?_
     refine (B8 rfl rfl (by simp [Zo, Jk, Q1.toList, g6, g8, g9, hr, h30]; rfl) (by simp; rfl) (by simp [g6, g8, g9, hr, h30]; rfl)).trans ?_
     refine (B8 rfl rfl (by simp [Zo, Jk, Q1.toList, g6, g8, g9, hr, h30]; rfl) (by simp; rfl) (by simp [g6, g8, g9, hr, h30]; rfl)).trans ?_
     refine (B8 rfl rfl (by simp [Zo, Jk, Q1.toList, g6, g8, g9, hr, h30]; rfl) (by simp; rfl) (by simp [g6, g8, g9, hr, h30]; rfl)).trans ?_
     refine (Zf rfl rfl (by simp [g6, g8, g9, hr, h30]; rfl)).trans ?_
     refine (B8 rfl rfl (by simp [Zo, Jk, Q1.toList, g6, g8, g9, hr, h30]; rfl) (by simp; rfl) (by simp [g6, g8, g9, hr, h30]; rfl)).trans ?_
     exact rfl, by rfl, by rfl, by rfl, by rfl, by simp [g2], by simp [g3], by simp [g6], by simp [g8], by simp [g9]⟩
theorem At23.of (M : Env) (op xo xs : Word) (xn : Int) (xl : List T) (t y : T) (g2 : M.get 2 = some (int 0)) (g3 : M.get 3 = some (.ptr 0 0 0)) (g6 : M.get 6 = some (.ptr 2 0 0)) (g8 : M.get 8 = some (.ptr 3 0 0)) (g9 : M.get 9 = some (.ptr 4 0 0)) :
   At23 k M (H23 k t op ++ [.arr (.pv (cells (.mk xo xs xn xl))) 0 0 (some 25), .arr (.pv (cells y)) 0 0 (some 25)]) op xo xs xn (Zs xl) xl.length Qr7 := ⟨g2, g3, g6, g8, g9, rfl, rfl, rfl⟩
theorem run23 (t : T) (hok : okT t) (h30 : ∀ op σ, C 27 [.p (.str op)] σ = some (.ret (.p (.str (if Hc op = true then flip op else []))), σ))
   (h31 : ∀ t, okT t -> ∀ σ, C 28 [.p (node t)] σ = some (.ret (.p (.tup [.agg (litC (lit t)), .bool (lit t).isSome])), σ)) (hr : Q4.raw 29 = false) (hr30 : Q4.raw 27 = false) (hK : K32 C) :
   ∃ c b, ansV (Z8 C D L lit23 [.p (tbl k), .p (node t), int 0] []) = some (.tup [.agg c, .bool b]) /\ Ok23 (read slT t) c b /\ c.length = 6 := by
 have fin : ∀ (M : Env) (σ : Heap) c b, M.get 6 = some (.ptr 2 0 0) -> M.get 7 = some (.p (.bool b)) -> σ[2]? = some (.arr (.pv c) 0 0 (some 78)) -> c.length = 6 -> ansV (finX D lit23 (some (.ret, ⟨M, [], σ⟩))) = some (.tup [.agg c, .bool b]) := by
   intro M σ c b g6 g7 o2 hl
   have ht : c.take 6 = c := List.take_of_length_le (by omega)
   simp [finX, Hp, lit23, g6, g7, o2, hl, ht, Ur]
 cases t with
 | mk op s n l =>
   obtain ⟨M1, ex, e1, hex, g2, g3, g4, g6, g7⟩ := Qxz C L k op s n l h30
   rw [Zp, lit23_tree]
   unfold n23
   rw [Zn, Zn]
   have e1' : exec C L (.seq (.seq Qmu Qmw) Qmt) ⟨params 0 [.p (tbl k), .p (node (.mk op s n l)), int 0], [], []⟩ = some (ex, ⟨M1, [], H23 k (.mk op s n l) op⟩) := e1
   by_cases hc : Hc op = true /\ l.length = 2
   · rw [if_pos hc] at hex
     subst hex
     rw [seqN e1']
     obtain ⟨hc, hl⟩ := hc
     match l, hl with
     | [.mk xo xs xn xl, .mk yo ys yn yl], _ =>
       have hx : okT (.mk xo xs xn xl) := hok.2.1
       have hy : okT (.mk yo ys yn yl) := hok.2.2.1
       obtain ⟨M2, e2, a2, a3, a6, a8, a9⟩ := Qxx C L k M1 op s n xo xs yo ys xn yn xl yl g2 g3 g4 g6
       rw [seqN e2, Qfs, if_pos hc]
       by_cases hs : xo = [115, 108, 111, 116]
       · have e5 : exec C L Qp1 ⟨M2, [], H23 k (.mk op s n [.mk xo xs xn xl, .mk yo ys yn yl]) op ++ [.arr (.pv (cells (.mk xo xs xn xl))) 0 0 (some 25), .arr (.pv (cells (.mk yo ys yn yl))) 0 0 (some 25)]⟩ =
             some (.normal, ⟨(34, .p (.bool false)) :: (33, .p (.str xo)) :: (32, .ptr 3 0 0) :: M2, [], H23 k (.mk op s n [.mk xo xs xn xl, .mk yo ys yn yl]) op ++ [.arr (.pv (cells (.mk xo xs xn xl))) 0 0 (some 25), .arr (.pv (cells (.mk yo ys yn yl))) 0 0 (some 25)]⟩) := by
           subst hs
           simp [Qp1, Qi8, Qh8, Y9, a8, H23, cells]
         rw [seqN e5]
         obtain ⟨M', σ', c, b, e, q6, q7, q2, hO, hcl⟩ := Qv7 C L k _ _ op xo xs xn xl (.mk yo ys yn yl) hy (At23.of k ((34, .p (.bool false)) :: (33, .p (.str xo)) :: (32, .ptr 3 0 0) :: M2) op xo xs xn xl (.mk op s n [.mk xo xs xn xl, .mk yo ys yn yl]) (.mk yo ys yn yl) a2 a3 a6 a8 a9) rfl h31 hr hK
         rw [e]
         refine ⟨c, b, fin M' σ' c b q6 q7 q2 hcl, ?_, hcl⟩
         rw [if_pos (show (T.mk xo xs xn xl).op = Oh from hs)]
         rw [Qbc (x := .mk xo xs xn xl) hs] at hO
         exact hO
       · have h30' : ∀ σ, C 27 [.p (.str op)] σ = some (.ret (.p (.str (flip op))), σ) := by
           intro σ
           have := h30 op σ
           rwa [if_pos hc] at this
         obtain ⟨M3, e3, b2, b3, b6, b8, b9⟩ := swap23 C L k ((34, .p (.bool true)) :: (33, .p (.str xo)) :: (32, .ptr 3 0 0) :: M2) op s n (.mk op s n [.mk xo xs xn xl, .mk yo ys yn yl]) xo xs yo ys xn yn xl yl a2 a3 a6 a8 a9 hr30 (flip op) h30'
         have hb := J8 hs
         have e5 : exec C L Qp1 ⟨M2, [], H23 k (.mk op s n [.mk xo xs xn xl, .mk yo ys yn yl]) op ++ [.arr (.pv (cells (.mk xo xs xn xl))) 0 0 (some 25), .arr (.pv (cells (.mk yo ys yn yl))) 0 0 (some 25)]⟩ =
             some (.normal, ⟨M3, [], H23 k (.mk op s n [.mk xo xs xn xl, .mk yo ys yn yl]) (flip op) ++ [.arr (.pv (cells (.mk yo ys yn yl))) 0 0 (some 25), .arr (.pv (cells (.mk xo xs xn xl))) 0 0 (some 25)]⟩) := by
           unfold Qp1
           rw [seqN (st1 := ⟨(34, .p (.bool true)) :: (33, .p (.str xo)) :: (32, .ptr 3 0 0) :: M2, [], H23 k (.mk op s n [.mk xo xs xn xl, .mk yo ys yn yl]) op ++ [.arr (.pv (cells (.mk xo xs xn xl))) 0 0 (some 25), .arr (.pv (cells (.mk yo ys yn yl))) 0 0 (some 25)]⟩) (by simp [Qi8, Y9, a8, H23, cells, hb])]
           unfold Qh8
           rw [y5 rfl, e3]
         rw [seqN e5]
         obtain ⟨M', σ', c, b, e, q6, q7, q2, hO, hcl⟩ := Qv7 C L k _ _ (flip op) yo ys yn yl (.mk xo xs xn xl) hx (At23.of k M3 (flip op) yo ys yn yl (.mk op s n [.mk xo xs xn xl, .mk yo ys yn yl]) (.mk xo xs xn xl) b2 b3 b6 b8 b9) rfl h31 hr hK
         rw [e]
         refine ⟨c, b, fin M' σ' c b q6 q7 q2 hcl, ?_, hcl⟩
         rw [if_neg (show ¬ (T.mk xo xs xn xl).op = Oh from hs)]
         exact hO
   · rw [if_neg hc] at hex
     subst hex
     rw [seqR e1']
     refine ⟨_, false, fin M1 _ _ false g6 g7 rfl rfl, ?_, rfl⟩
     have hn : read slT (.mk op s n l) = none := by
       match l, hc with
       | [], _ => rfl
       | [_], _ => rfl
       | [x, y], hc =>
         rw [Qfs]
         exact if_neg fun h => hc ⟨h, rfl⟩
       | _ :: _ :: _ :: _, _ => rfl
     rw [hn]
     exact ⟨rfl, rfl⟩
end
end Go.Ab.Turn
namespace Go.Ab.Turn
open Go Go.Ab Go.Ab.Plan Go.Ab.Key Go.Ab.Cnt Go.Proofs
attribute [local simp] Uw Qe7 AV.cells N0 O5 finA qc resA resV ansV
variable [Q4]
structure YInv where
 I : List T -> List Nat -> Heap -> Prop
 lt : ∀ {acc O σ}, I acc O σ -> ∀ j ∈ O, j < σ.length
 ext : ∀ {acc O σ σ'}, I acc O σ -> (∀ j ∈ O, σ'[j]? = σ[j]?) -> I acc O σ'
structure Fr (O O' : List Nat) (σ σ' : Heap) : Prop where
 len : σ.length <= σ'.length
 old : ∀ j, j < σ.length -> j ∉ O -> σ'[j]? = σ[j]?
 new : ∀ j ∈ O', j ∈ O ∨ σ.length <= j
theorem Fr.trans {O O1 O2 : List Nat} {σ σ1 σ2 : Heap} (h : Fr O O1 σ σ1) (g : Fr O1 O2 σ1 σ2) : Fr O O2 σ σ2 :=
 ⟨Nat.le_trans h.len g.len, fun j hj ho => (g.old j (Nat.lt_of_lt_of_le hj h.len) (fun hm => by rcases h.new j hm with hm | hm <;> first | exact ho hm | omega)).trans (h.old j hj ho),
   fun j hj => by
     rcases g.new j hj with hm | hm
     · exact h.new j hm
     · exact .inr (Nat.le_trans h.len hm)⟩
theorem Fr.push (O : List Nat) (σ τ : Heap) : Fr O O σ (σ ++ τ) := ⟨by simp, fun _ hj _ => List.getElem?_append_left hj, fun _ hj => .inl hj⟩
def YOK (Tb : Ld) (L m id : Nat) (Y : YInv) : Prop := ∀ n, m <= n -> ∀ acc O σ c, okT c -> acc.length + 1 <= LIM -> Y.I acc O σ ->
 ∃ σ' O', (cAt Tb L n).1 4294967295 [.yld id, .p (node c)] σ = some (.ret (.p (.bool true)), σ') /\ Y.I (acc ++ [c]) O' σ' /\ Fr O O' σ σ'
def xaOf : Q0 -> Q0
 | .rng _ a _ _ _ => a
 | c => c
def xbOf : Q0 -> Q0
 | .rng _ _ b _ _ => b
 | c => c
theorem Qhi : ∀ (e : Env), zipE (e.map (·.1)) (e.map (·.2)) = e
 | [] => rfl
 | (t, v) :: r => by simp only [List.map_cons, zipE, Qhi r]
theorem Qab (M : Env) (ts : List Nat) : zipE ((B4 M ts).map (·.1)) (Kp ((B4 M ts).map (·.2))).toList = B4 M ts := by
 rw [By, Qhi]
theorem Vn (M : Env) : ∀ (ts : List Nat) (t : Nat), t ∈ ts -> (B4 M ts).get t = M.get t
 | x :: ts, t, h => by
   unfold B4
   by_cases hx : x = t
   · subst hx
     split
     · rename_i v hv
       rw [Env.get_cons, if_pos rfl, hv]
     · rename_i hv
       by_cases hm : x ∈ ts
       · exact Vn M ts x hm
       · have : ∀ (ts : List Nat), x ∉ ts -> (B4 M ts).get x = none := by
           intro ts
           induction ts with
           | nil => intro _; rfl
           | cons y ts ih =>
             intro hy
             simp only [List.mem_cons, not_or] at hy
             unfold B4
             split
             · rw [Env.get_cons, if_neg (Ne.symm hy.1)]; exact ih hy.2
             · exact ih hy.2
         rw [this ts hm, hv]
   · have hm : t ∈ ts := by
       rcases List.mem_cons.1 h with h | h
       · exact absurd h.symm hx
       · exact h
     split
     · rw [Env.get_cons, if_neg hx]; exact Vn M ts t hm
     · exact Vn M ts t hm
theorem Qqn {C : Zj} {L f : Nat} {ps : List Nat} {a b : Q0} {g : Opd} {ts : List Nat} {M : Env} {ds : List (Nat × List AV)} {σ σ2 : Heap} {gv v : AV} {xs : List AV} {k : List Nat × Q0 × Q0} {ts' : List Nat} {c : Q1}
   (hg : ev M g = some gv) (hd : Wn gv [.yld (σ.length + 1)] = some (f, xs))
   (hC : C f xs (σ ++ [.mark, .loop (ps, a, b) ((B4 M ts).map (·.1)) (Kp ((B4 M ts).map (·.2))) .ready]) = some (.ret v, σ2)) (hl : σ2[σ.length + 1]? = some (.loop k ts' c .ready)) :
   exec C L (.rng ps a b g ts) ⟨M, ds, σ⟩ = some (.normal, ⟨M, (4294967294, [.ptr σ.length 0 0]) :: ds, σ2.set (σ.length + 1) (.loop k ts' c .over)⟩) := by
 simp only [exec, hg, hd, hC, hl]
theorem Qg8 {C : Zj} {L id : Nat} {ps : List Nat} {xa xb : Q0} {ts : List Nat} {c : Q1} {args : List AV} {σ σ1 σ2 : Heap} {M1 M2 : Env} {d1 d2 : List (Nat × List AV)} {k1 : List Nat × Q0 × Q0} {ts1 : List Nat} {c1 : Q1} {k2 : List Nat × Q0 × Q0} {ts2 : List Nat} {c2 : Q1}
   (h0 : σ[id]? = some (.loop (ps, xa, xb) ts c .ready)) (hn : ps.length = args.length) (ha : exec C L xa ⟨Wk ps args (zipE ts c.toList), [], σ⟩ = some (.normal, ⟨M1, d1, σ1⟩)) (h1 : σ1[id]? = some (.loop k1 ts1 c1 .ready))
   (hb : exec C L xb ⟨M1, d1, σ1.set id (.loop k1 ts1 c1 .busy)⟩ = some (.normal, ⟨M2, d2, σ2⟩)) (h2 : σ2[id]? = some (.loop k2 ts2 c2 .busy)) :
   Xs C L (.yld id :: args) σ = some (.ret (.p (.bool true)), σ2.set id (.loop k2 ts2 c2 .ready)) := by
 have hbq : Nat.beq ps.length args.length = true := by rw [hn]; exact Nat.beq_refl _
 simp only [Xs, h0, hbq, ha, h1, hb, endR, h2]
def inner (Y : YInv) (id : Nat) (K : List Nat × Q0 × Q0) (l a0 : Nat) : YInv where
 I acc O' σ := ∃ O ts c, O' = l :: a0 :: O /\ Y.I acc O σ /\ σ[l]? = some (.loop K ts c .ready) /\ (zipE ts c.toList).get 2 = some (.ptr a0 0 0) /\ σ[a0]? = some (.arr (.av [.yld id]) 0 0 none) /\ l ∉ O /\ a0 ∉ O /\ l ≠ a0
 lt := by
   rintro acc O' σ ⟨O, ts, c, rfl, h1, h2, _, h3, _⟩ j hj
   rcases List.mem_cons.1 hj with rfl | hj
   · exact (List.getElem?_eq_some_iff.1 h2).1
   · rcases List.mem_cons.1 hj with rfl | hj
     · exact (List.getElem?_eq_some_iff.1 h3).1
     · exact Y.lt h1 j hj
 ext := by
   rintro acc O' σ σ' ⟨O, ts, c, rfl, h1, h2, h2', h3, h4, h5, h6⟩ he
   refine ⟨O, ts, c, rfl, Y.ext h1 fun j hj => he j (by simp [hj]), by rw [he l (by simp)]; exact h2, h2', by rw [he a0 (by simp)]; exact h3, h4, h5, h6⟩
abbrev K29 : List Nat × Q0 × Q0 := ([27], xaOf Et, xbOf Et)
theorem Qs3 {Tb : Ld} {L m id : Nat} {Y : YInv} (hr : Tb 4294967295 = some .rnd) (hraw : Q4.raw 4294967295 = true) (hY : YOK Tb L m id Y) (l a0 : Nat) : YOK Tb L (m + 1) l (inner Y id K29 l a0) := by
 intro n hn acc O' σ c hc hac hI
 obtain ⟨n, rfl⟩ : ∃ k, n = k + 1 := ⟨n - 1, by omega⟩
 obtain ⟨O, ts, cc, rfl, h1, h2, h2', h3, h4, h5, h6⟩ := hI
 have hl : l < σ.length := (List.getElem?_eq_some_iff.1 h2).1
 have ha : a0 < σ.length := (List.getElem?_eq_some_iff.1 h3).1
 have hcell : ∃ p q r s, cells c = [p, q, r, s] := by cases c; exact ⟨_, _, _, _, rfl⟩
 obtain ⟨p, q, r, s, ec⟩ := hcell
 have ra : exec (cAt Tb L n).1 L (xaOf Et) ⟨Wk [27] [.p (node c)] (zipE ts cc.toList), [], σ⟩ = some (.normal, ⟨(5, .ptr σ.length 0 0) :: (27, .p (node c)) :: zipE ts cc.toList, [], σ ++ [.arr (.pv (cells c)) 0 0 (some 25)]⟩) := by
   simp [xaOf, Et, Wk, Q1.toList, node, ec]
 have hpush : ∀ j, j < σ.length -> (σ ++ [Obj.arr (.pv (cells c)) 0 0 (some 25)])[j]? = σ[j]? := fun j hj => List.getElem?_append_left hj
 have hI1 : Y.I acc O ((σ ++ [Obj.arr (.pv (cells c)) 0 0 (some 25)]).set l (.loop K29 ts cc .busy)) := Y.ext h1 fun j hj => by
   have hne : l ≠ j := fun he => h4 (he ▸ hj)
   rw [List.getElem?_set_ne hne, hpush j (Y.lt h1 j hj)]
 obtain ⟨σ3, O2, e3, hI3, hF3⟩ := hY n (by omega) acc O _ c hc hac hI1
 have g0 : ((σ ++ [Obj.arr (.pv (cells c)) 0 0 (some 25)]).set l (.loop K29 ts cc .busy))[a0]? = some (.arr (.av [.yld id]) 0 0 none) := by
   rw [List.getElem?_set_ne h6, hpush a0 ha]; exact h3
 have gs : ((σ ++ [Obj.arr (.pv (cells c)) 0 0 (some 25)]).set l (.loop K29 ts cc .busy))[σ.length]? = some (.arr (.pv (cells c)) 0 0 (some 25)) := by
   rw [List.getElem?_set_ne (by omega)]; simp
 have rb : ∃ M2, exec (cAt Tb L n).1 L (xbOf Et) ⟨(5, .ptr σ.length 0 0) :: (27, .p (node c)) :: zipE ts cc.toList, [], (σ ++ [Obj.arr (.pv (cells c)) 0 0 (some 25)]).set l (.loop K29 ts cc .busy)⟩ = some (.normal, ⟨M2, [], σ3⟩) := by
   generalize (σ ++ [Obj.arr (.pv (cells c)) 0 0 (some 25)]).set l (.loop K29 ts cc .busy) = σb at *
   generalize (cAt Tb L n).1 = C at e3 ⊢
   simp only [node, ec] at e3 gs ⊢
   exact ⟨_, by simp [xbOf, Et, Bu, Fd, Q1.get?, h2', g0, gs, e3]; rfl⟩
 obtain ⟨M2, rb⟩ := rb
 have hlb : l < ((σ ++ [Obj.arr (.pv (cells c)) 0 0 (some 25)]).set l (.loop K29 ts cc .busy)).length := by simp; omega
 have g3 : σ3[l]? = some (.loop K29 ts cc .busy) := by
   rw [hF3.old l hlb h4, List.getElem?_set_self (by simp; omega)]
 have g3a : σ3[a0]? = some (.arr (.av [.yld id]) 0 0 none) := by
   rw [hF3.old a0 (by simp; omega) h5]; exact g0
 have hnew : ∀ j, j < σ.length + 1 -> j ∉ O -> j ∉ O2 := fun j hj ho hm => by
   rcases hF3.new j hm with hm | hm
   · exact ho hm
   · simp at hm; omega
 refine ⟨σ3.set l (.loop K29 ts cc .ready), l :: a0 :: O2, ?_, ⟨O2, ts, cc, rfl, Y.ext hI3 fun j hj => ?_, ?_, h2', ?_, hnew l (by omega) h4, hnew a0 (by omega) h5, h6⟩, ?_, ?_, ?_⟩
 · simp only [cAt, w6, hr, hraw]
   exact Qg8 h2 rfl ra (by rw [hpush l hl]; exact h2) rb g3
 · have hne : l ≠ j := fun he => hnew l (by omega) h4 (he ▸ hj)
   rw [List.getElem?_set_ne hne]
 · exact List.getElem?_set_self (List.getElem?_eq_some_iff.1 g3).1
 · rw [List.getElem?_set_ne h6]; exact g3a
 · have := hF3.len
   simp at this ⊢
   omega
 · intro j hj ho
   simp only [List.mem_cons, not_or] at ho
   rw [List.getElem?_set_ne (Ne.symm ho.1), hF3.old j (by simp; omega) ho.2.2, List.getElem?_set_ne (Ne.symm ho.1), hpush j hj]
 · intro j hj
   rcases List.mem_cons.1 hj with rfl | hj
   · exact .inl (by simp)
   · rcases List.mem_cons.1 hj with rfl | hj
     · exact .inl (by simp)
     · rcases hF3.new j hj with hm | hm
       · exact .inl (by simp [hm])
       · refine .inr ?_
         simp at hm
         omega
end Go.Ab.Turn
