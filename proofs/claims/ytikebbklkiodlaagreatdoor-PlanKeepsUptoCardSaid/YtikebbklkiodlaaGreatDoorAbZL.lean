/- ZL -/
import Derived.Test.YtikebbklkiodlaaGreatDoorAbZH
set_option maxRecDepth 1000000
set_option linter.all false
namespace Go.Ab.Keep
open Go Go.Ab Go.Ab.Plan Go.Ab.Key Go.Ab.Cnt Go.Ab.Turn Go.Proofs
attribute [local simp] Fj Ms V3 refV oneH Nz Oe Eo D9 idsL idsV idsO Sp
variable [Mx]
section
variable (C : Zj) (D : Yo) (L : Nat) (rP : PV) (op s : Word) (z : Int) (l : List T) (M : Env)
theorem Qqk (a : T) (h : At123 M rP) (hc : ∀ (t : T) (r : PV) σ, C 38 [.p src, .p (node t), .p r] σ = some (.ret (.p (.tup [.vsl [] 0, .str Zi])), σ)) : Rest C D L M [115, 99, 97, 108, 97, 114] s z [a] (.null, Zi) := by
 obtain ⟨t1, t2, t3, t6⟩ := h
 have hc := hc a rP
 obtain ⟨a1, a2, a3, a4, ea⟩ := M5 a
 have hcl : Zs [a] = [a1, a2, a3, a4] := by simp [Zs, ea]
 unfold Rest
 simp only [node, hcl, ea, Z3, val, Ja, Jz, Jb, Z9, J0, List.length_cons, List.length_nil] at hc ⊢
 generalize src = sr at *
 simp [Gq, Jf, Jd, Z2, Zl, Zm, Zk, Zh, Zg, Ze, Zc, Zd, Zb, Za, Q9, Q8, Q6, Q7, Qz, Qy, Qx, Qw, Qv, Qu, Qt, Qr, Qq, Qs, Qo, Qp, Fa, D4, Dy, Df, Dj, Dz, Dg, Dk, D3, Dh, Di, D0, lit123, t1, t2, t3, t6, hc]
theorem Qqz (a b : T) (h : At123 M rP) (v : V) (w : Word) (hV : VC C rP b v w) (y k : Int) (hT : ∀ σ, C 37 [.p (node a)] σ = some (.ret (.p (tyP y k)), σ)) (v' : V) (w' : Word) (hK : ∀ σ, C 36 [.p (val v), .p (tyP y k)] σ = some (.ret (.p (Z3 (v', w'))), σ)) : Rest C D L M [99, 97, 115, 116] s z [a, b] (if w = Zi then (v', w') else (.null, w)) := by
 obtain ⟨t1, t2, t3, t6⟩ := h
 obtain ⟨a1, a2, a3, a4, ea⟩ := M5 a
 obtain ⟨b1, b2, b3, b4, eb⟩ := M5 b
 have hcl : Zs [a, b] = [a1, a2, a3, a4, b1, b2, b3, b4] := by rw [Qak, ea, eb]; rfl
 obtain ⟨p, q, r, x, ev'⟩ := vc4 v
 unfold VC at hV
 unfold Rest
 by_cases hw : w = Zi
 · rw [if_pos hw]
   subst hw
   obtain ⟨p', q', r', x', ew'⟩ := vc4 v'
   have r37 : Q4.raw 37 = false := by rfl
   have r36 : Q4.raw 36 = false := by rfl
   simp only [node, hcl, ea, eb, Z3, val, ev', ew', J0, Yl, List.length_cons, List.length_nil] at hV hT hK ⊢
   generalize src = sr at *
   have e5 : ∃ M2, (∀ X, exec C L (.seq Gq X) ⟨M, [], [.arr (.pv [.str [99, 97, 115, 116], .str s, .int .i64 z, .vsl [a1, a2, a3, a4, b1, b2, b3, b4] 2]) 0 0 none, .arr (.pv [.int .i64 0, .int .i64 0, .str [], .bool false]) 0 0 (some 54)]⟩ = exec C L (.seq (.block 0 (.seq Ju .ret)) X) ⟨M2, [], [.arr (.pv [.str [99, 97, 115, 116], .str s, .int .i64 z, .vsl [a1, a2, a3, a4, b1, b2, b3, b4] 2]) 0 0 none, .arr (.pv [.int .i64 0, .int .i64 0, .str [], .bool false]) 0 0 (some 54), .arr (.pv [p, q, r, x]) 0 0 (some 54)]⟩) /\ M2.get 3 = some (.ptr 0 0 0) /\ M2.get 6 = some (.ptr 1 0 0) /\ M2.get 14 = some (.ptr 2 0 0) :=
     ⟨_, fun X => by
       unfold Gq
       rw [<- Zn, seqN (by simp [Jf, t3]; rfl)]
       refine Qdp ?_
       unfold Jd
       simp only [exec, Z2, Zm, Zk, Zg, Ze, Zd, Zb, Q9, Q8, Q7, Qz, Qx, Qw, Qu, Qt, Qq, Bz, G9]
       simp [Zl, Zh, Zc, Za, Q6, Qy, Qv, Qr, Bp, G9, Yy, Y2, t1, t2, t3, hV]
       rfl, by simp [t3], by simp [t6], by simp⟩
   obtain ⟨M2, e6, k3, k6, k14⟩ := e5
   rw [e6]
   have fin : ∀ (H H' : Heap), (∃ s1 : Go.Ab.Tr, Zy C 0 (opsD Ju) ⟨⟨M2, [], H⟩, [], []⟩ = some (none, s1) /\ okRW [0, 0, 2, 6, 14, 30, 63, 127, 127, 511, 1023] (opsD Ju) s1 = true /\ s1.st.defers = [] /\ s1.st.heap = H' /\ s1.st.env.get 6 = some (.ptr 1 0 0) /\ s1.st.env.get 7 = some (.p (.str w'))) ->
       ∃ M', exec C L Ju ⟨M2, [], H⟩ = some (.normal, ⟨M', [], H'⟩) /\ M'.get 6 = some (.ptr 1 0 0) /\ M'.get 7 = some (.p (.str w')) := by
     rintro H H' ⟨⟨⟨M', d, σ'⟩, rds, wrs⟩, hr, hok, hd, hh, hA⟩
     simp only at hd hh
     subst hd hh
     exact ⟨M', L9 hr hok, hA⟩
   obtain ⟨M3, e7, g6, g7⟩ := fin [.arr (.pv [.str [99, 97, 115, 116], .str s, .int .i64 z, .vsl [a1, a2, a3, a4, b1, b2, b3, b4] 2]) 0 0 none, .arr (.pv [.int .i64 0, .int .i64 0, .str [], .bool false]) 0 0 (some 54), .arr (.pv [p, q, r, x]) 0 0 (some 54)] [.arr (.pv [.str [99, 97, 115, 116], .str s, .int .i64 z, .vsl [a1, a2, a3, a4, b1, b2, b3, b4] 2]) 0 0 none, .arr (.pv [p', q', r', x']) 0 0 (some 54), .arr (.pv [p, q, r, x]) 0 0 (some 54)] ⟨_, by
       show Zy C 0 (_ :: _) _ = _
       refine (Eu rfl rfl (by simp [k3, k6, k14, r37, r36, hT, hK]; exact ⟨rfl, rfl⟩)).trans ?_
       refine (Zf rfl rfl (by simp [k3, k6, k14, r37, r36, hT, hK]; rfl)).trans ?_
       refine (Eu rfl rfl (by simp [k3, k6, k14, r37, r36, hT, hK]; exact ⟨rfl, rfl⟩)).trans ?_
       refine (Zf rfl rfl (by simp [k3, k6, k14, r37, r36, hT, hK]; rfl)).trans ?_
       refine (Zf rfl rfl (by simp [k3, k6, k14, r37, r36, hT, hK]; rfl)).trans ?_
       refine (B8 rfl rfl (by simp [Zo, Jk, k3, k6, k14, r37, r36, hT, hK]; rfl) (by simp; rfl) (by simp [k3, k6, k14, r37, r36, hT, hK]; rfl)).trans ?_
       refine (B8 rfl rfl (by simp [Zo, Jk, k3, k6, k14, r37, r36, hT, hK]; rfl) (by simp; rfl) (by simp [k3, k6, k14, r37, r36, hT, hK]; rfl)).trans ?_
       refine (Zf rfl rfl (by simp [k3, k6, k14, r37, r36, hT, hK]; rfl)).trans ?_
       refine (Zf rfl rfl (by simp [k3, k6, k14, r37, r36, hT, hK]; rfl)).trans ?_
       refine (B8 rfl rfl (by simp [Zo, Jk, k3, k6, k14, r37, r36, hT, hK]; rfl) (by simp; rfl) (by simp [k3, k6, k14, r37, r36, hT, hK]; rfl)).trans ?_
       refine (Zf rfl rfl (by simp [k3, k6, k14, r37, r36, hT, hK]; rfl)).trans ?_
       exact rfl, by kernel_rfl, by rfl, by rfl, by simp [k6], by simp⟩
   have e8 : exec C L (.block 0 (.seq Ju .ret)) ⟨M2, [], [.arr (.pv [.str [99, 97, 115, 116], .str s, .int .i64 z, .vsl [a1, a2, a3, a4, b1, b2, b3, b4] 2]) 0 0 none, .arr (.pv [.int .i64 0, .int .i64 0, .str [], .bool false]) 0 0 (some 54), .arr (.pv [p, q, r, x]) 0 0 (some 54)]⟩ = some (.ret, ⟨M3, [], [.arr (.pv [.str [99, 97, 115, 116], .str s, .int .i64 z, .vsl [a1, a2, a3, a4, b1, b2, b3, b4] 2]) 0 0 none, .arr (.pv [p', q', r', x']) 0 0 (some 54), .arr (.pv [p, q, r, x]) 0 0 (some 54)]⟩) := by
     refine E5 ?_
     rw [seqN e7]
     rfl
   rw [seqR e8]
   simp [lit123, g6, g7]
 · rw [if_neg hw]
   have hw' : (w == Zi) = false := beq_eq_false_iff_ne.2 hw
   simp only [node, hcl, ea, eb, Z3, val, ev', Ja, Jz, Jb, Z9, J0, Yl, List.length_cons, List.length_nil] at hV ⊢
   generalize src = sr at *
   simp [Gq, Jf, Jd, Z2, Zl, Zm, Zk, Zh, Zg, Ze, Zc, Zd, Zb, Za, Q9, Q8, Q6, Q7, Qz, Qy, Qx, Qw, Qv, Qu, Qt, Qr, Qq, Bz, Bp, G9, Yy, Y2, lit123, t1, t2, t3, t6, hV, hw', bne]
end
end Go.Ab.Keep
namespace Go.Ab.Keep
open Go Go.Ab Go.Ab.Plan Go.Ab.Key Go.Ab.Cnt Go.Ab.Turn Go.Proofs
variable [Mx]
section
variable (C : Zj) (D : Yo) (L : Nat) (rP : PV) (op s : Word) (z : Int) (l : List T) (M : Env)
theorem Qzg (v0 v1 v2 : V) (h : At123 M (Y1 [v0, v1, v2])) (hz : inR z) : ∃ v, (v = .null ∨ v = v0 ∨ v = v1 ∨ v = v2) /\ (∀ i : Nat, i < 3 -> z = i -> [v0, v1, v2][i]? = some v) /\ Rest C D L M Oh s z l (v, Zi) := by
 obtain ⟨t1, t2, t3, t6⟩ := h
 obtain ⟨p0, q0, r0, x0, e0⟩ := vc4 v0
 obtain ⟨p1, q1, r1, x1, e1⟩ := vc4 v1
 obtain ⟨p2, q2, r2, x2, e2⟩ := vc4 v2
 unfold inR at hz
 simp only [Y1, vcs3, e0, e1, e2, List.cons_append, List.nil_append, List.length_cons, List.length_nil] at t1
 unfold Rest
 simp only [J0, Yl]
 generalize PV.vsl (Zs l) l.length = lv at *
 have hd : ∀ d, z.tdiv 1000 = d -> IntKind.i64.wrap (z.tdiv 1000) = d := by
   intro d hd
   rw [hd]
   have : z.tdiv 1000 = d := hd
   have h1 : -9223372036854775808 <= d /\ d <= 9223372036854775807 := by
     have e := Int.tmod_add_mul_tdiv z 1000
     rw [this] at e
     rcases Int.lt_or_le z 0 with q | q
     · have k1 := Int.tmod_nonneg (1000 : Int) (show (0 : Int) <= -z by omega)
       have k2 := Int.tmod_lt_of_pos (-z) (show (0 : Int) < 1000 by decide)
       rw [Int.neg_tmod] at k1 k2
       omega
     · have k1 := Int.tmod_nonneg (1000 : Int) q
       have k2 := Int.tmod_lt_of_pos z (show (0 : Int) < 1000 by decide)
       omega
   exact J5 _ h1.1 h1.2
 rcases Int.lt_or_le z 0 with hneg | hpos
 · have f0 : (0 <= z) = False := eq_false (by omega)
   have hw := hd _ rfl
   refine ⟨.null, .inl rfl, fun i hi he => by omega, ?_⟩
   simp [Gq, Jf, Jd, Z2, Zl, Zm, K2, Hk, He, Hn, Eg, Ec, Da, Bk, Ha, lit123, t1, t2, t3, t6, f0, hw, Z3, Ja, Jz, Jb, Z9]
 · have f0 : (0 <= z) = True := eq_true hpos
   by_cases h0 : z = 0
   · subst h0
     refine ⟨v0, .inr (.inl rfl), fun i hi he => by
       have : i = 0 := by omega
       subst this; rfl, ?_⟩
     simp [Gq, Jf, Jd, Z2, Zl, Zm, K2, Hk, He, Hn, Eg, Ec, Da, Bk, Ha, lit123, t1, t2, t3, t6, Z3, e0, IntKind.wrap, IntKind.bits, IntKind.signed]
   · by_cases h1 : z = 1
     · subst h1
       refine ⟨v1, .inr (.inr (.inl rfl)), fun i hi he => by
         have : i = 1 := by omega
         subst this; rfl, ?_⟩
       simp [Gq, Jf, Jd, Z2, Zl, Zm, K2, Hk, He, Hn, Eg, Ec, Da, Bk, Ha, lit123, t1, t2, t3, t6, Z3, e1, IntKind.wrap, IntKind.bits, IntKind.signed]
     · by_cases h2 : z = 2
       · subst h2
         refine ⟨v2, .inr (.inr (.inr rfl)), fun i hi he => by
           have : i = 2 := by omega
           subst this; rfl, ?_⟩
         simp [Gq, Jf, Jd, Z2, Zl, Zm, K2, Hk, He, Hn, Eg, Ec, Da, Bk, Ha, lit123, t1, t2, t3, t6, Z3, e2, IntKind.wrap, IntKind.bits, IntKind.signed]
       · refine ⟨.null, .inl rfl, fun i hi he => by omega, ?_⟩
         have hpos' : z.tdiv 1000 = z / 1000 := Int.tdiv_eq_ediv_of_nonneg hpos
         by_cases h3 : z < 1000
         · have hq : z.tdiv 1000 = 0 := by rw [hpos']; omega
           have hm : z.tmod 1000 = z := by
             rw [Int.tmod_eq_emod_of_nonneg hpos]
             omega
           have hw : IntKind.i64.wrap 0 = 0 := by decide
           have f3 : (z < 3) = False := eq_false (by omega)
           simp [Gq, Jf, Jd, Z2, Zl, Zm, K2, Hk, He, Hn, Eg, Ec, Da, Bk, Ha, lit123, t1, t2, t3, t6, f0, f3, hq, hm, hw, Z3, Ja, Jz, Jb, Z9]
         · have hq : 1 <= z.tdiv 1000 := by rw [hpos']; omega
           have hw := hd _ rfl
           have f3 : (z.tdiv 1000 < 1) = False := eq_false (by omega)
           simp [Gq, Jf, Jd, Z2, Zl, Zm, K2, Hk, He, Hn, Eg, Ec, Da, Bk, Ha, lit123, t1, t2, t3, t6, f0, f3, hw, Z3, Ja, Jz, Jb, Z9]
abbrev Ue (op s : Word) (z : Int) (l : List T) (r : List PV) (τ : Heap) : Heap := .arr (.pv [.str op, .str s, .int .i64 z, .vsl (Zs l) l.length]) 0 0 none :: .arr (.pv r) 0 0 (some 54) :: τ
variable (τ : Heap) (i : Nat)
theorem stopC (h : At123 M rP) (h11 : M.get 11 = some (int i)) (hi : l.length <= i) : ∃ M', exec C L Zw ⟨M, [], Ue op s z l Yl τ⟩ = some (.exit 1, ⟨M', [], Ue op s z l Yl τ⟩) /\ At123 M' rP := by
 have f1 : ((i : Int) < (l.length : Int)) = False := eq_false (by omega)
 have f2 : (i < l.length) = False := eq_false (by omega)
 exact ⟨_, by simp [J2, Jv, Jw, Zw, h.t3, h11, f1, f2]; rfl, ⟨by simp [h.t1], by simp [h.t2], by simp [h.t3], by simp [h.t6]⟩⟩
theorem goC (h : At123 M rP) (h11 : M.get 11 = some (int i)) (hm : l.length <= 1048576) (c : T) (hc : l[i]? = some c) (v : V) (w : Word) (hV : VC C rP c v w) :
   (∃ M' τ', exec C L Zw ⟨M, [], Ue op s z l Yl τ⟩ = some (.ret, ⟨M', [], Ue op s z l (vc v) τ'⟩) /\ M'.get 6 = some (.ptr 1 0 0) /\ M'.get 7 = some (.p (.str w))) ∨
   (∃ M' τ', exec C L Zw ⟨M, [], Ue op s z l Yl τ⟩ = some (.normal, ⟨M', [], Ue op s z l Yl τ'⟩) /\ At123 M' rP /\ M'.get 11 = some (int ((i + 1 : Nat) : Int))) := by
 obtain ⟨t1, t2, t3, t6⟩ := h
 obtain ⟨hi, _⟩ := List.getElem?_eq_some_iff.1 hc
 have f1 : ((i : Int) < (l.length : Int)) := by omega
 have e1 : IntKind.i64.wrap ((i : Int) + 1) = (i : Int) + 1 := J5 _ (by omega) (by omega)
 have hd := Nb l i c hc
 obtain ⟨a1, a2, a3, a4, ea⟩ := M5 c
 have hk : ∃ k q r x, vc v = [.int .i64 k, q, r, x] := by cases v <;> exact ⟨_, _, _, _, rfl⟩
 obtain ⟨k, q, r, x, ev'⟩ := hk
 rw [ea] at hd
 unfold VC at hV
 clear hc
 simp only [node, ea, Z3, val, ev', List.cons_append, List.nil_append, Ue, Yl] at hV hd ⊢
 generalize hsr : src = sr at *
 generalize hcl : Zs l = cl at *
 cases hw : (w == Zi) with
 | false => exact .inl ⟨_, τ ++ [.arr (.pv [.int .i64 k, q, r, x]) 0 0 (some 54)], by
     simp [Zw, J2, Jv, Jw, Gu, Gl, Gd, Gc, Ga, Gt, t1, t2, t3, t6, h11, f1, hi, hd, hV, hw, bne]
     rfl, by simp [t6], by simp⟩
 | true =>
   cases h0 : (k == 0) with
   | false => exact .inl ⟨_, τ ++ [.arr (.pv [.int .i64 k, q, r, x]) 0 0 (some 54)], by
       simp [Zw, J2, Jv, Jw, Gu, Gl, Gd, Gc, Ga, Gt, t1, t2, t3, t6, h11, f1, hi, hd, hV, hw, h0, bne]
       rfl, by simp [t6], by simp⟩
   | true => exact .inr ⟨_, τ ++ [.arr (.pv [.int .i64 k, q, r, x]) 0 0 (some 54)], by
       simp [Zw, J2, Jv, Jw, Gu, Gl, Gd, Gc, Ga, Gt, t1, t2, t3, t6, h11, f1, hi, hd, hV, hw, h0, bne, e1]
       rfl, ⟨by simp [t1], by simp [t2]; exact hsr.symm, by simp [t3], by simp [t6]⟩, by simp⟩
end
end Go.Ab.Keep
namespace Go.Ab.Keep
open Go Go.Ab Go.Ab.Plan Go.Ab.Key Go.Ab.Cnt Go.Ab.Turn Go.Proofs
variable [Mx]
theorem loopC (C : Zj) (L : Nat) (rP : PV) (op s : Word) (z : Int) (l : List T) (hm : l.length <= 1048576) (hV : ∀ c ∈ l, ∃ v w, okV v /\ VC C rP c v w) : ∀ (d f i : Nat) (M : Env) (τ : Heap), l.length - i <= d -> d < f -> At123 M rP -> M.get 11 = some (int i) ->
   (∃ M' τ' v w, okV v /\ iter (exec C L Zw) none f ⟨M, [], Ue op s z l Yl τ⟩ = some (.ret, ⟨M', [], Ue op s z l (vc v) τ'⟩) /\ M'.get 6 = some (.ptr 1 0 0) /\ M'.get 7 = some (.p (.str w))) ∨
   (∃ M' τ', iter (exec C L Zw) none f ⟨M, [], Ue op s z l Yl τ⟩ = some (.exit 1, ⟨M', [], Ue op s z l Yl τ'⟩) /\ At123 M' rP)
 | d, f, i, M, τ, hd, hf, h, h11 => by
   obtain ⟨f, rfl⟩ : ∃ m, f = m + 1 := ⟨f - 1, by omega⟩
   by_cases hs : l.length <= i
   · obtain ⟨M', e, g⟩ := stopC C L rP op s z l M τ i h h11 hs
     exact .inr ⟨M', τ, by simp only [iter, St.keep, e], g⟩
   · have hi : i < l.length := by omega
     obtain ⟨d, rfl⟩ : ∃ m, d = m + 1 := ⟨d - 1, by omega⟩
     obtain ⟨v, w, hv, hvc⟩ := hV l[i] (List.getElem_mem hi)
     rcases goC C L rP op s z l M τ i h h11 hm l[i] (List.getElem?_eq_getElem hi) v w hvc with ⟨M1, τ1, e, g6, g7⟩ | ⟨M1, τ1, e, g, g11⟩
     · exact .inl ⟨M1, τ1, v, w, hv, by simp only [iter, St.keep, e], g6, g7⟩
     · rcases loopC C L rP op s z l hm hV d f (i + 1) M1 τ1 (by omega) (by omega) g g11 with ⟨M', τ', v', w', hv', e2, k⟩ | ⟨M', τ', e2, k⟩
       · exact .inl ⟨M', τ', v', w', hv', by simp only [iter, St.keep, e]; exact e2, k⟩
       · exact .inr ⟨M', τ', by simp only [iter, St.keep, e]; exact e2, k⟩
theorem Qx9 (C : Zj) (D : Yo) (L : Nat) (rP : PV) (s : Word) (z : Int) (l : List T) (M : Env) (hm : l.length <= 1048576) (hL : l.length < L) (hV : ∀ c ∈ l, ∃ v w, okV v /\ VC C rP c v w) (h : At123 M rP) : ∃ v w, okV v /\ Rest C D L M je s z l (v, w) := by
 have e5 : ∃ M2, (∀ X, exec C L (.seq Gq X) ⟨M, [], J0 je s z l⟩ = exec C L (.seq (.block 0 (.seq Gi (.seq Gv .ret))) X) ⟨M2, [], Ue je s z l Yl []⟩) /\ At123 M2 rP /\ M2.get 11 = some (int ((0 : Nat) : Int)) := by
   obtain ⟨t1, t2, t3, t6⟩ := h
   simp only [J0, Ue, Yl]
   generalize PV.vsl (Zs l) l.length = lv at *
   generalize hsr : src = sr at *
   exact ⟨_, fun X => by
     unfold Gq
     rw [<- Zn, seqN (by simp [Jf, t3]; rfl)]
     refine Qdp ?_
     unfold Jd
     simp only [exec, Z2, Zm, Zk, Zg, Ze, Zd, Zb, Q9, Q8, Q7, Qz, Qx, Qw, Qu, Iq, Hs]
     simp [Zl, Zh, Zc, Za, Q6, Qy, Qv, Fp]
     rfl, ⟨by simp [t1], by simp [t2]; exact hsr.symm, by simp [t3], by simp [t6]⟩, by simp⟩
 obtain ⟨M2, e6, h2, h11⟩ := e5
 unfold Rest
 simp only [e6]
 rcases loopC C L rP je s z l hm hV l.length L 0 M2 [] (by omega) hL h2 h11 with ⟨M', τ', v, w, hv, e7, g6, g7⟩ | ⟨M', τ', e7, g⟩
 · refine ⟨v, w, hv, ?_⟩
   have e8 : exec C L (.block 0 (.seq Gi (.seq Gv .ret))) ⟨M2, [], Ue je s z l Yl []⟩ = some (.ret, ⟨M', [], Ue je s z l (vc v) τ'⟩) := by
     refine E5 ?_
     exact seqR (E5 (id := 1) (b := Bl) e7)
   rw [seqR e8]
   obtain ⟨p, q, r, x, ev'⟩ := vc4 v
   simp [lit123, g6, g7, Ue, Z3, ev']
 · refine ⟨.null, Zi, trivial, ?_⟩
   have e8 : ∃ M3, exec C L (.block 0 (.seq Gi (.seq Gv .ret))) ⟨M2, [], Ue je s z l Yl []⟩ = some (.ret, ⟨M3, [], Ue je s z l Yl τ'⟩) /\ M3.get 6 = some (.ptr 1 0 0) /\ M3.get 7 = some (.p (.str Zi)) := by
     refine ⟨_, E5 (by
       rw [seqN (a := Gi) (by exact F0 (id := 1) (b := Bl) e7)]
       simp only [Ue, Yl]
       generalize PV.vsl (Zs l) l.length = lv at *
       simp [Gv, g.t6]
       rfl), by simp [g.t6], by simp⟩
   obtain ⟨M3, e8, g6, g7⟩ := e8
   rw [seqR e8]
   simp [lit123, g6, g7, Ue, Z3, Ja, Jz, Jb, Z9]
end Go.Ab.Keep
namespace Go.Ab.Keep
open Go Go.Ab Go.Ab.Plan Go.Ab.Key Go.Ab.Cnt Go.Ab.Turn Go.Proofs
variable [Mx]
theorem lit_none {op s : Word} {n : Int} {l : List T} (h1 : op ≠ wNum) (h2 : op ≠ Qs4) (h3 : op ≠ Qrs) (h4 : op ≠ Turn.wNeg) : lit (.mk op s n l) = none := by
 simp [lit, T.op, h1, h2, h3, h4]
theorem H5 {r : List V} {op s : Word} {n : Int} {l : List T} {v : V} (h : op ≠ wAnd) (hc : Hc op = false) (hs : op ≠ Oh) (hl : lit (.mk op s n l) = none) : Spec r (.mk op s n l) v :=
 ⟨fun _ => Yn h hc, fun q => absurd q hs, fun x q => by rw [hl] at q; cases q⟩
theorem Eh {r : List V} {op s : Word} {n : Int} {l : List T} {q : Tr} (hs : op ≠ Oh) (hl : lit (.mk op s n l) = none) (h : q = .t -> Qap r (.mk op s n l)) : Spec r (.mk op s n l) (Bc q) :=
 ⟨fun e => h (by cases q <;> first | rfl | cases e), fun q => absurd q hs, fun x q => by rw [hl] at q; cases q⟩
theorem Ql9 {op s : Word} {n : Int} {l : List T} {c : T} {d : Nat} (h : deep (.mk op s n l) <= d + 1) (hc : c ∈ l) : deep c <= d := by
 have := Ua hc
 simp only [deep] at h
 omega
theorem Qax {op s : Word} {n : Int} {l : List T} {c : T} {L : Nat} (h : zz (.mk op s n l) < L) (hc : c ∈ l) : zz c < L := by
 simp only [zz] at h
 have : ∀ l : List T, c ∈ l -> zz c <= yb l := by
   intro l
   induction l with
   | nil => intro h; cases h
   | cons t r ih =>
     intro hm
     simp only [yb]
     rcases List.mem_cons.1 hm with rfl | hm
     · exact Nat.le_max_left _ _
     · exact Nat.le_trans (ih hm) (Nat.le_max_right _ _)
 have h1 := this l hc
 have h2 : yb l <= Nat.max l.length (yb l) := Nat.le_max_right _ _
 omega
theorem Qq1 {op s : Word} {n : Int} {l : List T} {L : Nat} (h : zz (.mk op s n l) < L) : l.length < L := by
 simp only [zz] at h
 have h2 : l.length <= Nat.max l.length (yb l) := Nat.le_max_left _ _
 omega
theorem Qh9 {op s : Word} (h : (Ek op s).2 = true) : op ∈ Qbu ∨ op ∈ Qbw ∨ op ∈ Qa1 ∨ op = Kt ∨ op = wIn ∨ op = js ∨ op = je := by
 unfold Ek at h
 by_cases h0 : op ∈ Qbu
 · exact .inl h0
 · by_cases h1 : op ∈ Qbw
   · exact .inr (.inl h1)
   · by_cases h2 : op ∈ Qa1
     · exact .inr (.inr (.inl h2))
     · by_cases h3 : op = Kt
       · exact .inr (.inr (.inr (.inl h3)))
       · by_cases h4 : op = wIn
         · exact .inr (.inr (.inr (.inr (.inl h4))))
         · by_cases h5 : op = js
           · exact .inr (.inr (.inr (.inr (.inr (.inl h5)))))
           · by_cases h6 : op = je
             · exact .inr (.inr (.inr (.inr (.inr (.inr h6)))))
             · rw [if_neg h0, if_neg h1, if_neg h2, if_neg h3, if_neg h4, if_neg (by simp [h5, h6])] at h
               cases h
theorem Qyl (x y : Int) : subV (.num x) (.num y) = if (x ≥ 0 /\ y < 0 /\ IntKind.i64.wrap (x - y) < 0) ∨ (x < 0 /\ y ≥ 0 /\ IntKind.i64.wrap (x - y) ≥ 0) then (.null, ws) else (.num (IntKind.i64.wrap (x - y)), Zi) := rfl
theorem two_of {l : List T} (h : l.length = 2) : ∃ a b, l = [a, b] := by
 match l, h with
 | [a, b], _ => exact ⟨a, b, rfl⟩
set_option maxHeartbeats 8000000 in
theorem Qi7 (L : Nat) (hL : 1048577 < L) (v0 v1 v2 : V) (k0 : okV v0) (k1 : okV v1) (k2 : okV v2) : ∀ (d : Nat) (t : T), deep t <= d -> okT t -> zz t < L -> ∀ m, 4 * d + 12 <= m -> PVal L [v0, v1, v2] t m
 | 0, .mk _ _ _ _, h, _, _, _, _ => by simp [deep] at h
 | d + 1, .mk op s z l, hd, hok, hb, m, hm => by
   obtain ⟨n, rfl⟩ : ∃ n, m = n + 7 := ⟨m - 7, by omega⟩
   have hn : 4 * d + 9 <= n := by omega
   have IH : ∀ c ∈ l, ∀ k, 4 * d + 12 <= k -> PVal L [v0, v1, v2] c k := fun c hc k hk => Qi7 L hL v0 v1 v2 k0 k1 k2 d c (Ql9 hd hc) (R9 hok.2 hc) (Qax hb hc) k hk
   have IH2 : ∀ c ∈ l, ∀ a ∈ c.l, ∀ k, 4 * d + 12 <= k -> PVal L [v0, v1, v2] a k := by
     intro c hc a ha k hk
     have h1 := Ql9 hd hc
     have h2 : okT c := R9 hok.2 hc
     have h3 := Qax hb hc
     obtain ⟨o', s', z', l'⟩ := c
     simp only [T.l] at ha
     have h4 : deep a <= d := by
       have := Ua ha
       simp only [deep] at h1
       omega
     exact Qi7 L hL v0 v1 v2 k0 k1 k2 d a h4 (R9 h2.2 ha) (Qax h3 ha) k hk
   have hlm : l.length <= 1048576 := hok.1.2.2
   have hsl : s.length <= 1048576 := hok.1.2.1
   have hz : inR z := hok.1.1
   have hLl : l.length < L := Qq1 hb
   obtain ⟨b, hf, e32⟩ := fits32 L (n + 4) (.mk op s z l) hlm hLl
   have done : ∀ (v : V) (w : Word), okV v -> RunV (cAt TT L (n + 6)).1 (cAt TT L (n + 6)).2 L (Y1 [v0, v1, v2]) (.mk op s z l) (v, w) -> (w = Zi -> Spec [v0, v1, v2] (.mk op s z l) v) -> PVal L [v0, v1, v2] (.mk op s z l) (n + 7) :=
     fun v w h1 h2 h3 => ⟨v, w, h1, fun σ => Z7 (ps := [node (.mk op s z l), Y1 [v0, v1, v2], src]) (n := n + 6) q123 (by rfl) h2 σ, h3⟩
   cases b with
   | false => exact done .null Qia trivial (Qr2 _ _ L _ op s z l e32) (fun h => by cases h)
   | true =>
     have hf := hf rfl
     have fin : ∀ (v : V) (w : Word), okV v -> (∀ M, At123 M (Y1 [v0, v1, v2]) -> Rest (cAt TT L (n + 6)).1 (cAt TT L (n + 6)).2 L M op s z l (v, w)) -> (w = Zi -> Spec [v0, v1, v2] (.mk op s z l) v) -> PVal L [v0, v1, v2] (.mk op s z l) (n + 7) :=
       fun v w h1 h2 h3 => done v w h1 (Qxf _ _ L _ op s z l e32 (v, w) h2) h3
     have e33 := fun (z : Int) σ => Qjg L (n + 5) z σ
     have e34 := fun (s : Word) σ => Qnj L (n + 5) s σ
     have e42 := fun (q : Tr) σ => back42 L (n + 5) q σ
     have e38 := fun t r σ => Qfk L (n + 5) t r σ
     have two : ∀ k : Nat, Ek op s = ((k : Int), true) -> l.length = k := fun k e => Qnd hf k e
     have t41 := fun h => test41 L (n + 1) hL [v0, v1, v2] (.mk op s z l) hlm hLl hf h (fun c hc => IH c hc (n + 4) (by omega))
     have hV4 : ∀ c ∈ l, ∃ v w, okV v /\ VC (cAt TT L (n + 4)).1 (Y1 [v0, v1, v2]) c v w := fun c hc => by
       obtain ⟨v, w, h1, h2, _⟩ := IH c hc (n + 4) (by omega)
       exact ⟨v, w, h1, h2⟩
     have hV6 : ∀ c ∈ l, ∃ v w, okV v /\ VC (cAt TT L (n + 6)).1 (Y1 [v0, v1, v2]) c v w := fun c hc => by
       obtain ⟨v, w, h1, h2, _⟩ := IH c hc (n + 6) (by omega)
       exact ⟨v, w, h1, h2⟩
     obtain ⟨vs, wa, hA, hvs⟩ := all60 L (n + 4) (Y1 [v0, v1, v2]) l hlm hLl hV4
     have okA : wa = Zi -> ∀ v ∈ vs, okV v := by
       intro hw v hv
       obtain ⟨i, hi⟩ := List.getElem?_of_mem hv
       obtain ⟨j1, j2⟩ := hvs hw
       have hlt : i < l.length := by have := (List.getElem?_eq_some_iff.1 hi).1; omega
       obtain ⟨u, q1, q2, _⟩ := j2 i _ (List.getElem?_eq_getElem hlt)
       rw [hi] at q1
       cases q1
       exact q2
     have t40 := fun h1 h2 h3 => sums40 L (n + 1) hL (Y1 [v0, v1, v2]) (.mk op s z l) h1 vs wa hA h2 h3 okA
     have kn := Qh9 hf.known
     simp only [T.op, T.s] at kn
     simp only [Qbu, Qbw, Qa1, List.mem_cons, List.not_mem_nil, or_false] at kn
     have vsl : wa = Zi -> vs.length = l.length := fun h => (hvs h).1
     rcases kn with (rfl | rfl | rfl | rfl | rfl) | (rfl | rfl | rfl | rfl | rfl) | (rfl | rfl | rfl | rfl | rfl | rfl | rfl | rfl | rfl | rfl | rfl | rfl | rfl | rfl | rfl | rfl | rfl | rfl) | rfl | rfl | rfl | rfl
     · -- slot
       have hall : ∀ M, At123 M (Y1 [v0, v1, v2]) -> ∃ v, (v = .null ∨ v = v0 ∨ v = v1 ∨ v = v2) /\ (∀ i : Nat, i < 3 -> z = i -> [v0, v1, v2][i]? = some v) /\ Rest (cAt TT L (n + 6)).1 (cAt TT L (n + 6)).2 L M Oh s z l (v, Zi) := fun M h => Qzg _ _ L s z l M v0 v1 v2 h hz
       obtain ⟨M1, e, h1⟩ := Qps (cAt TT L (n + 6)).1 L (Y1 [v0, v1, v2]) Oh s z l e32
       obtain ⟨v, g1, g2, g3⟩ := hall M1 h1
       refine done v Zi (by rcases g1 with rfl | rfl | rfl | rfl <;> first | trivial | assumption) ?_ (fun _ => ⟨fun _ => Yn (by decide) (by decide), fun _ i hi he => g2 i hi he, fun x q => by rw [lit_none (by decide) (by decide) (by decide) (by decide)] at q; cases q⟩)
       unfold RunV
       rw [Zp, lit123_tree]
       unfold n123
       rw [e]
       exact g3
     · -- num
       refine fin (.num z) Zi hz (fun M h => num123 _ _ L _ s z l M h e33) (fun _ => ⟨fun _ => Yn (by decide) (by decide), fun h => absurd (show ([110, 117, 109] : Word) = Oh from h) (by decide), fun x hx => ?_⟩)
       have : lit (.mk [110, 117, 109] s z l) = some (.num z) := rfl
       rw [this] at hx
       obtain rfl := Option.some.inj hx
       rfl
     · -- text
       refine fin (.text s) Zi hsl (fun M h => Qzq _ _ L _ s z l M h e34) (fun _ => ⟨fun _ => Yn (by decide) (by decide), fun h => absurd (show ([116, 101, 120, 116] : Word) = Oh from h) (by decide), fun x hx => ?_⟩)
       have : lit (.mk [116, 101, 120, 116] s z l) = some (.text s) := rfl
       rw [this] at hx
       obtain rfl := Option.some.inj hx
       rfl
     · -- bool
       refine fin (.bool (z != 0)) Zi trivial (fun M h => Qyb _ _ L _ s z l M h) (fun _ => ⟨fun _ => Yn (by decide) (by decide), fun h => absurd (show ([98, 111, 111, 108] : Word) = Oh from h) (by decide), fun x hx => ?_⟩)
       have : lit (.mk [98, 111, 111, 108] s z l) = some (.bool z) := rfl
       rw [this] at hx
       obtain rfl := Option.some.inj hx
       rfl
     · exact fin .null Zi trivial (fun M h => Qx1 _ _ L _ s z l M h) (fun _ => H5 (by decide) (by decide) (by decide) (lit_none (by decide) (by decide) (by decide) (by decide)))
     · -- neg
       have h1 := two 1 (by kernel_rfl)
       obtain ⟨v, w, h2, h3, h4⟩ := t40 (by simp [wy, T.op]) (fun h _ => by rw [vsl h]; exact h1) (fun _ h => absurd rfl h)
       refine fin v w h2 (fun M h => Qsx _ _ L _ s z l M h v w h3) (fun hw => ⟨fun _ => Yn (by decide) (by decide), fun h => absurd (show ([110, 101, 103] : Word) = Oh from h) (by decide), fun x hx => ?_⟩)
       obtain ⟨g1, a, rfl, g2⟩ := h4 hw rfl
       obtain ⟨c, rfl⟩ : ∃ c, l = [c] := by
         match l, h1 with
         | [c], _ => exact ⟨c, rfl⟩
       obtain ⟨u, p1, _, c1⟩ := (hvs g1).2 0 c rfl
       simp only [List.getElem?_cons_zero, Option.some.injEq] at p1
       subst p1
       obtain ⟨u2, w2, _, d1, s1⟩ := IH c (by simp) (n + 4) (by omega)
       obtain ⟨rfl, rfl⟩ := Qq7 c1 d1
       have hcz : inR c.n := by
         have : okT c := R9 hok.2 (by simp)
         obtain ⟨o', s', z', l'⟩ := c
         exact this.1.1
       have hx' : (if c.op = wNum then some (Turn.Lit.num (negI c.n)) else none) = some x := hx
       by_cases ho : c.op = wNum
       · rw [if_pos ho] at hx'
         obtain rfl := Option.some.inj hx'
         have hl : lit c = some (.num c.n) := by unfold lit; rw [if_pos ho]
         have ha := (s1 rfl).lit _ hl
         subst ha
         have g3 : subV (.num 0) (litV (.num c.n)) = (v, w) := g2.symm
         have g4 : subV (.num 0) (.num c.n) = (v, w) := g3
         rw [Qyl] at g4
         split at g4
         · have := congrArg Prod.snd g4
           simp only at this
           rw [hw] at this
           cases this
         · have := congrArg Prod.fst g4
           simp only at this
           rw [<- this, Int.zero_sub, Qmh _ hcz]
           rfl
       · rw [if_neg ho] at hx'
         cases hx'
     · -- not
       obtain ⟨q, w, h1, h2⟩ := t41 (by simp [Oi, T.op])
       by_cases hw : w = Zi
       · refine fin (Bc q) Zi (by cases q <;> trivial) (fun M h => ?_) (fun _ => Eh (by decide) (lit_none (by decide) (by decide) (by decide) (by decide)) (h2 hw))
         have e := Qgp _ (cAt TT L (n + 6)).2 L (Y1 [v0, v1, v2]) s z l M h q w h1 e42
         rw [if_pos hw] at e
         exact e
       · refine fin .null w trivial (fun M h => ?_) (fun h => absurd h hw)
         have e := Qgp _ (cAt TT L (n + 6)).2 L (Y1 [v0, v1, v2]) s z l M h q w h1 e42
         rw [if_neg hw] at e
         exact e
     · -- is
       obtain ⟨q, w, h1, h2⟩ := t41 (by simp [Oi, T.op])
       by_cases hw : w = Zi
       · refine fin (Bc q) Zi (by cases q <;> trivial) (fun M h => ?_) (fun _ => Eh (by decide) (lit_none (by decide) (by decide) (by decide) (by decide)) (h2 hw))
         have e := Qg5 _ (cAt TT L (n + 6)).2 L (Y1 [v0, v1, v2]) s z l M h q w h1 e42
         rw [if_pos hw] at e
         exact e
       · refine fin .null w trivial (fun M h => ?_) (fun h => absurd h hw)
         have e := Qg5 _ (cAt TT L (n + 6)).2 L (Y1 [v0, v1, v2]) s z l M h q w h1 e42
         rw [if_neg hw] at e
         exact e
     · -- exists
       obtain ⟨q, w, h1, h2⟩ := t41 (by simp [Oi, T.op])
       by_cases hw : w = Zi
       · refine fin (Bc q) Zi (by cases q <;> trivial) (fun M h => ?_) (fun _ => Eh (by decide) (lit_none (by decide) (by decide) (by decide) (by decide)) (h2 hw))
         have e := Qg2 _ (cAt TT L (n + 6)).2 L (Y1 [v0, v1, v2]) s z l M h q w h1 e42
         rw [if_pos hw] at e
         exact e
       · refine fin .null w trivial (fun M h => ?_) (fun h => absurd h hw)
         have e := Qg2 _ (cAt TT L (n + 6)).2 L (Y1 [v0, v1, v2]) s z l M h q w h1 e42
         rw [if_neg hw] at e
         exact e
     · -- scalar
       obtain ⟨a, rfl⟩ : ∃ a, l = [a] := by
         match l, two 1 (by kernel_rfl) with
         | [a], _ => exact ⟨a, rfl⟩
       exact fin .null Zi trivial (fun M h => Qqk _ _ L _ s z M a h e38) (fun _ => H5 (by decide) (by decide) (by decide) (lit_none (by decide) (by decide) (by decide) (by decide)))
     · -- +
       have h1 := two 2 (by kernel_rfl)
       obtain ⟨v, w, h2, h3, _⟩ := t40 (by simp [wy, T.op]) (fun _ h => absurd (show ([43] : Word) = wNeg from h) (by decide)) (fun h _ => by rw [vsl h]; exact h1)
       exact fin v w h2 (fun M h => Qtz _ _ L _ s z l M h v w h3) (fun _ => H5 (by decide) (by decide) (by decide) (lit_none (by decide) (by decide) (by decide) (by decide)))
     · -- -
       have h1 := two 2 (by kernel_rfl)
       obtain ⟨v, w, h2, h3, _⟩ := t40 (by simp [wy, T.op]) (fun _ h => absurd (show ([45] : Word) = wNeg from h) (by decide)) (fun h _ => by rw [vsl h]; exact h1)
       exact fin v w h2 (fun M h => Qth _ _ L _ s z l M h v w h3) (fun _ => H5 (by decide) (by decide) (by decide) (lit_none (by decide) (by decide) (by decide) (by decide)))
     · -- *
       have h1 := two 2 (by kernel_rfl)
       obtain ⟨v, w, h2, h3, _⟩ := t40 (by simp [wy, T.op]) (fun _ h => absurd (show ([42] : Word) = wNeg from h) (by decide)) (fun h _ => by rw [vsl h]; exact h1)
       exact fin v w h2 (fun M h => Qr0 _ _ L _ s z l M h v w h3) (fun _ => H5 (by decide) (by decide) (by decide) (lit_none (by decide) (by decide) (by decide) (by decide)))
     · -- /
       have h1 := two 2 (by kernel_rfl)
       obtain ⟨v, w, h2, h3, _⟩ := t40 (by simp [wy, T.op]) (fun _ h => absurd (show ([47] : Word) = wNeg from h) (by decide)) (fun h _ => by rw [vsl h]; exact h1)
       exact fin v w h2 (fun M h => Qrr _ _ L _ s z l M h v w h3) (fun _ => H5 (by decide) (by decide) (by decide) (lit_none (by decide) (by decide) (by decide) (by decide)))
     · -- ||
       have h1 := two 2 (by kernel_rfl)
       obtain ⟨v, w, h2, h3, _⟩ := t40 (by simp [wy, T.op]) (fun _ h => absurd (show ([124, 124] : Word) = wNeg from h) (by decide)) (fun h _ => by rw [vsl h]; exact h1)
       exact fin v w h2 (fun M h => Qrp _ _ L _ s z l M h v w h3) (fun _ => H5 (by decide) (by decide) (by decide) (lit_none (by decide) (by decide) (by decide) (by decide)))
     · -- =
       obtain ⟨q, w, h1, h2⟩ := t41 (by simp [Oi, T.op])
       by_cases hw : w = Zi
       · refine fin (Bc q) Zi (by cases q <;> trivial) (fun M h => ?_) (fun _ => Eh (by decide) (lit_none (by decide) (by decide) (by decide) (by decide)) (h2 hw))
         have e := Qdb _ (cAt TT L (n + 6)).2 L (Y1 [v0, v1, v2]) s z l M h q w h1 e42
         rw [if_pos hw] at e
         exact e
       · refine fin .null w trivial (fun M h => ?_) (fun h => absurd h hw)
         have e := Qdb _ (cAt TT L (n + 6)).2 L (Y1 [v0, v1, v2]) s z l M h q w h1 e42
         rw [if_neg hw] at e
         exact e
     · -- <>
       obtain ⟨q, w, h1, h2⟩ := t41 (by simp [Oi, T.op])
       by_cases hw : w = Zi
       · refine fin (Bc q) Zi (by cases q <;> trivial) (fun M h => ?_) (fun _ => Eh (by decide) (lit_none (by decide) (by decide) (by decide) (by decide)) (h2 hw))
         have e := Qc5 _ (cAt TT L (n + 6)).2 L (Y1 [v0, v1, v2]) s z l M h q w h1 e42
         rw [if_pos hw] at e
         exact e
       · refine fin .null w trivial (fun M h => ?_) (fun h => absurd h hw)
         have e := Qc5 _ (cAt TT L (n + 6)).2 L (Y1 [v0, v1, v2]) s z l M h q w h1 e42
         rw [if_neg hw] at e
         exact e
     · -- <
       obtain ⟨q, w, h1, h2⟩ := t41 (by simp [Oi, T.op])
       by_cases hw : w = Zi
       · refine fin (Bc q) Zi (by cases q <;> trivial) (fun M h => ?_) (fun _ => Eh (by decide) (lit_none (by decide) (by decide) (by decide) (by decide)) (h2 hw))
         have e := Qcz _ (cAt TT L (n + 6)).2 L (Y1 [v0, v1, v2]) s z l M h q w h1 e42
         rw [if_pos hw] at e
         exact e
       · refine fin .null w trivial (fun M h => ?_) (fun h => absurd h hw)
         have e := Qcz _ (cAt TT L (n + 6)).2 L (Y1 [v0, v1, v2]) s z l M h q w h1 e42
         rw [if_neg hw] at e
         exact e
     · -- <=
       obtain ⟨q, w, h1, h2⟩ := t41 (by simp [Oi, T.op])
       by_cases hw : w = Zi
       · refine fin (Bc q) Zi (by cases q <;> trivial) (fun M h => ?_) (fun _ => Eh (by decide) (lit_none (by decide) (by decide) (by decide) (by decide)) (h2 hw))
         have e := Qds _ (cAt TT L (n + 6)).2 L (Y1 [v0, v1, v2]) s z l M h q w h1 e42
         rw [if_pos hw] at e
         exact e
       · refine fin .null w trivial (fun M h => ?_) (fun h => absurd h hw)
         have e := Qds _ (cAt TT L (n + 6)).2 L (Y1 [v0, v1, v2]) s z l M h q w h1 e42
         rw [if_neg hw] at e
         exact e
     · -- >
       obtain ⟨q, w, h1, h2⟩ := t41 (by simp [Oi, T.op])
       by_cases hw : w = Zi
       · refine fin (Bc q) Zi (by cases q <;> trivial) (fun M h => ?_) (fun _ => Eh (by decide) (lit_none (by decide) (by decide) (by decide) (by decide)) (h2 hw))
         have e := Qc7 _ (cAt TT L (n + 6)).2 L (Y1 [v0, v1, v2]) s z l M h q w h1 e42
         rw [if_pos hw] at e
         exact e
       · refine fin .null w trivial (fun M h => ?_) (fun h => absurd h hw)
         have e := Qc7 _ (cAt TT L (n + 6)).2 L (Y1 [v0, v1, v2]) s z l M h q w h1 e42
         rw [if_neg hw] at e
         exact e
     · -- >=
       obtain ⟨q, w, h1, h2⟩ := t41 (by simp [Oi, T.op])
       by_cases hw : w = Zi
       · refine fin (Bc q) Zi (by cases q <;> trivial) (fun M h => ?_) (fun _ => Eh (by decide) (lit_none (by decide) (by decide) (by decide) (by decide)) (h2 hw))
         have e := Qdk _ (cAt TT L (n + 6)).2 L (Y1 [v0, v1, v2]) s z l M h q w h1 e42
         rw [if_pos hw] at e
         exact e
       · refine fin .null w trivial (fun M h => ?_) (fun h => absurd h hw)
         have e := Qdk _ (cAt TT L (n + 6)).2 L (Y1 [v0, v1, v2]) s z l M h q w h1 e42
         rw [if_neg hw] at e
         exact e
     · -- and
       obtain ⟨q, w, h1, h2⟩ := t41 (by simp [Oi, T.op])
       by_cases hw : w = Zi
       · refine fin (Bc q) Zi (by cases q <;> trivial) (fun M h => ?_) (fun _ => Eh (by decide) (lit_none (by decide) (by decide) (by decide) (by decide)) (h2 hw))
         have e := Qg7 _ (cAt TT L (n + 6)).2 L (Y1 [v0, v1, v2]) s z l M h q w h1 e42
         rw [if_pos hw] at e
         exact e
       · refine fin .null w trivial (fun M h => ?_) (fun h => absurd h hw)
         have e := Qg7 _ (cAt TT L (n + 6)).2 L (Y1 [v0, v1, v2]) s z l M h q w h1 e42
         rw [if_neg hw] at e
         exact e
     · -- or
       obtain ⟨q, w, h1, h2⟩ := t41 (by simp [Oi, T.op])
       by_cases hw : w = Zi
       · refine fin (Bc q) Zi (by cases q <;> trivial) (fun M h => ?_) (fun _ => Eh (by decide) (lit_none (by decide) (by decide) (by decide) (by decide)) (h2 hw))
         have e := Qhv _ (cAt TT L (n + 6)).2 L (Y1 [v0, v1, v2]) s z l M h q w h1 e42
         rw [if_pos hw] at e
         exact e
       · refine fin .null w trivial (fun M h => ?_) (fun h => absurd h hw)
         have e := Qhv _ (cAt TT L (n + 6)).2 L (Y1 [v0, v1, v2]) s z l M h q w h1 e42
         rw [if_neg hw] at e
         exact e
     · -- like
       obtain ⟨q, w, h1, h2⟩ := t41 (by simp [Oi, T.op])
       by_cases hw : w = Zi
       · refine fin (Bc q) Zi (by cases q <;> trivial) (fun M h => ?_) (fun _ => Eh (by decide) (lit_none (by decide) (by decide) (by decide) (by decide)) (h2 hw))
         have e := Qg3 _ (cAt TT L (n + 6)).2 L (Y1 [v0, v1, v2]) s z l M h q w h1 e42
         rw [if_pos hw] at e
         exact e
       · refine fin .null w trivial (fun M h => ?_) (fun h => absurd h hw)
         have e := Qg3 _ (cAt TT L (n + 6)).2 L (Y1 [v0, v1, v2]) s z l M h q w h1 e42
         rw [if_neg hw] at e
         exact e
     · -- nullif
       have h1 := two 2 (by kernel_rfl)
       obtain ⟨v, w, h2, h3, _⟩ := t40 (by simp [wy, T.op]) (fun _ h => absurd (show ([110, 117, 108, 108, 105, 102] : Word) = wNeg from h) (by decide)) (fun h _ => by rw [vsl h]; exact h1)
       exact fin v w h2 (fun M h => Qtp _ _ L _ s z l M h v w h3) (fun _ => H5 (by decide) (by decide) (by decide) (lit_none (by decide) (by decide) (by decide) (by decide)))
     · -- cast
       obtain ⟨a, b, rfl⟩ : ∃ a b, l = [a, b] := by
         match l, two 2 (by kernel_rfl) with
         | [a, b], _ => exact ⟨a, b, rfl⟩
       obtain ⟨v, w, hv, hc⟩ := hV6 b (by simp)
       obtain ⟨L0, rfl⟩ : ∃ L0, L = L0 + 8 := ⟨L - 8, by omega⟩
       obtain ⟨y, k, hty, eT⟩ := type37 L0 (n + 5) a
       obtain ⟨v', w', hv', eK⟩ := cast36 (L0 + 8) n (by omega) v y k hty hv
       by_cases hw : w = Zi
       · refine fin v' w' hv' (fun M h => ?_) (fun _ => H5 (by decide) (by decide) (by decide) (lit_none (by decide) (by decide) (by decide) (by decide)))
         have e := Qqz _ (cAt TT (L0 + 8) (n + 6)).2 (L0 + 8) (Y1 [v0, v1, v2]) s z M a b h v w hc y k eT v' w' eK
         rw [if_pos hw] at e
         exact e
       · refine fin .null w trivial (fun M h => ?_) (fun h => absurd h hw)
         have e := Qqz _ (cAt TT (L0 + 8) (n + 6)).2 (L0 + 8) (Y1 [v0, v1, v2]) s z M a b h v w hc y k eT v' w' eK
         rw [if_neg hw] at e
         exact e
     · -- any
       obtain ⟨q, w, h1, h2⟩ := t41 (by simp [Oi, T.op])
       by_cases hw : w = Zi
       · refine fin (Bc q) Zi (by cases q <;> trivial) (fun M h => ?_) (fun _ => Eh (by decide) (lit_none (by decide) (by decide) (by decide) (by decide)) (h2 hw))
         have e := Qgk _ (cAt TT L (n + 6)).2 L (Y1 [v0, v1, v2]) s z l M h q w h1 e42
         rw [if_pos hw] at e
         exact e
       · refine fin .null w trivial (fun M h => ?_) (fun h => absurd h hw)
         have e := Qgk _ (cAt TT L (n + 6)).2 L (Y1 [v0, v1, v2]) s z l M h q w h1 e42
         rw [if_neg hw] at e
         exact e
     · -- all
       obtain ⟨q, w, h1, h2⟩ := t41 (by simp [Oi, T.op])
       by_cases hw : w = Zi
       · refine fin (Bc q) Zi (by cases q <;> trivial) (fun M h => ?_) (fun _ => Eh (by decide) (lit_none (by decide) (by decide) (by decide) (by decide)) (h2 hw))
         have e := Qf9 _ (cAt TT L (n + 6)).2 L (Y1 [v0, v1, v2]) s z l M h q w h1 e42
         rw [if_pos hw] at e
         exact e
       · refine fin .null w trivial (fun M h => ?_) (fun h => absurd h hw)
         have e := Qf9 _ (cAt TT L (n + 6)).2 L (Y1 [v0, v1, v2]) s z l M h q w h1 e42
         rw [if_neg hw] at e
         exact e
     · -- jj
       obtain ⟨q, w, h1, h2⟩ := t41 (by simp [Oi, T.op])
       by_cases hw : w = Zi
       · refine fin (Bc q) Zi (by cases q <;> trivial) (fun M h => ?_) (fun _ => Eh (by decide) (lit_none (by decide) (by decide) (by decide) (by decide)) (h2 hw))
         have e := Qg1 _ (cAt TT L (n + 6)).2 L (Y1 [v0, v1, v2]) s z l M h q w h1 e42
         rw [if_pos hw] at e
         exact e
       · refine fin .null w trivial (fun M h => ?_) (fun h => absurd h hw)
         have e := Qg1 _ (cAt TT L (n + 6)).2 L (Y1 [v0, v1, v2]) s z l M h q w h1 e42
         rw [if_neg hw] at e
         exact e
     · -- in
       obtain ⟨q, w, h1, h2⟩ := t41 (by simp [Oi, T.op])
       by_cases hw : w = Zi
       · refine fin (Bc q) Zi (by cases q <;> trivial) (fun M h => ?_) (fun _ => Eh (by decide) (lit_none (by decide) (by decide) (by decide) (by decide)) (h2 hw))
         have e := Qhm _ (cAt TT L (n + 6)).2 L (Y1 [v0, v1, v2]) s z l M h q w h1 e42
         rw [if_pos hw] at e
         exact e
       · refine fin .null w trivial (fun M h => ?_) (fun h => absurd h hw)
         have e := Qhm _ (cAt TT L (n + 6)).2 L (Y1 [v0, v1, v2]) s z l M h q w h1 e42
         rw [if_neg hw] at e
         exact e
     · -- case
       have hp : Ek js s = (-1, true) := by kernel_rfl
       have hl1 : 1 <= l.length := hf.least (show (Ek js s).1 < 0 by rw [hp]; decide)
       have hlast : l[l.length - 1]? = some (l[l.length - 1]'(by omega)) := List.getElem?_eq_getElem (by omega)
       obtain ⟨v1', w1, hv1, hc1, _⟩ := IH _ (List.mem_of_getElem? hlast) (n + 5) (by omega)
       obtain ⟨v, w, hv, e35⟩ := Qyu L (n + 5) (Y1 [v0, v1, v2]) (.mk js s z l) hl1 hlm hLl (by
         intro i c hc hi
         obtain ⟨g1, g2⟩ := hf.whens rfl i c hi hc
         have hcm := List.mem_of_getElem? hc
         have h2 := IH2 c hcm
         obtain ⟨a, b, hab⟩ := two_of g2
         rw [hab] at h2
         obtain ⟨va, wa', _, ca, _⟩ := h2 a (by simp) (n + 4) (by omega)
         obtain ⟨vb, wb', hvb, cb, _⟩ := h2 b (by simp) (n + 5) (by omega)
         exact ⟨a, b, hab, ⟨_, _, Qje L (n + 3) (Y1 [v0, v1, v2]) a va wa' ca⟩, ⟨vb, wb', hvb, cb⟩⟩) ⟨_, v1', w1, hlast, hv1, hc1⟩
       exact fin v w hv (fun M h => Qxw _ _ L _ s z l M h v w e35) (fun _ => H5 (by decide) (by decide) (by decide) (lit_none (by decide) (by decide) (by decide) (by decide)))
     · -- coalesce
       obtain ⟨M1, e, h1⟩ := Qps (cAt TT L (n + 6)).1 L (Y1 [v0, v1, v2]) je s z l e32
       obtain ⟨v, w, hv, hr⟩ := Qx9 (cAt TT L (n + 6)).1 (cAt TT L (n + 6)).2 L (Y1 [v0, v1, v2]) s z l M1 hlm hLl hV6 h1
       refine done v w hv ?_ (fun _ => H5 (by decide) (by decide) (by decide) (lit_none (by decide) (by decide) (by decide) (by decide)))
       unfold RunV
       rw [Zp, lit123_tree]
       unfold n123
       rw [e]
       exact hr
end Go.Ab.Keep
namespace Go.Ab.Keep
open Go Go.Ab Go.Ab.Plan Go.Ab.Key Go.Ab.Cnt Go.Ab.Turn Go.Proofs
theorem Qcu : ∀ x y : Word, le x y = true ↔ cmpL x y ≠ .gt
 | [], y => by cases y <;> simp [le, cmpL]
 | a :: x, [] => by simp [le, cmpL]
 | a :: x, b :: y => by
   have ih := Qcu x y
   unfold le
   rw [Ny]
   by_cases h1 : a < b
   · simp [h1]
   · by_cases h2 : b < a
     · simp [h1, h2]
     · simp [h1, h2, ih]
theorem Qln (p : Word) : ∀ a b : Word, cmpL (p ++ a) (p ++ b) = cmpL a b := by
 intro a b
 induction p with
 | nil => rfl
 | cons c p ih => rw [List.cons_append, List.cons_append, N1, ih]
theorem Qs2 (a b : List V) : encL (a ++ b) = encL a ++ encL b := by simp [encL]
theorem Uh (v : V) (l : List V) : encL (v :: l) = enc1 v ++ encL l := by simp [encL]
theorem Qpx (l : List V) : cmpL (encL l) [255] = .lt := by
 cases l with
 | nil => rfl
 | cons v r =>
   rw [Uh]
   cases v with
   | null => exact Of (by decide) _ _
   | num n => exact Of (by decide) _ _
   | text s => exact Of (by decide) _ _
   | bool b => exact Of (by decide) _ _
theorem Qj5 (l : Word) : cmpL [] l ≠ .gt := by cases l <;> simp [cmpL]
theorem enc_eq {a b : V} (ha : a.ok) (hb : b.ok) (h : ordV a b = .eq) : enc1 a = enc1 b := by
 have := Qd0 a b [] [] ha hb
 rw [h, List.append_nil, List.append_nil] at this
 exact cmpL_eq.1 this
def keyV (r : List V) (k : List Nat) : List V := k.map fun c => (r[c]?).getD .null
theorem Qh6 {op : Word} {x y : V} (h : Qau op x y = (.t, Zi)) : Vd op (ordV x y) = some true := by
 unfold Qau at h
 cases hs : Vd op (ordV x y) with
 | none => rw [hs] at h; cases h
 | some b =>
   rw [hs] at h
   simp only at h
   split at h
   · cases h
   · split at h
     · cases b
       · cases h
       · rfl
     · cases h
theorem Qgr {r : List V} (hr : ∀ v ∈ r, v.ok) {ls : List Cl} (hs : ∀ c ∈ ls, Sat r c) (hok : ∀ c ∈ ls, (litV c.v).ok) : ∀ k : List Nat, encF (Jj k ls) = encL ((keyV r k).take (Jj k ls).length) /\ (Jj k ls).length <= k.length
 | [] => ⟨rfl, Nat.le_refl _⟩
 | c :: k => by
   unfold Jj
   cases hf : ls.find? (fun x => x.col == c && x.op == wEq) with
   | none => exact ⟨rfl, by simp⟩
   | some x =>
     obtain ⟨ih, il⟩ := Qgr hr hs hok k
     have hm := List.mem_of_find?_eq_some hf
     have hp := List.find?_some hf
     simp only [Bool.and_eq_true, beq_iff_eq] at hp
     obtain ⟨hp1, hp2⟩ := hp
     obtain ⟨y, g1, g2⟩ := hs x hm
     rw [hp2] at g2
     have g3 := Qh6 g2
     have g4 : ordV y (litV x.v) = .eq := by
       have : Vd wEq (ordV y (litV x.v)) = some (ordV y (litV x.v) == .eq) := rfl
       rw [this] at g3
       exact beq_iff_eq.1 (Option.some.inj g3)
     have g5 := enc_eq (hr y (List.mem_of_getElem? g1)) (hok x hm) g4
     have hk : keyV r (c :: k) = y :: keyV r k := by
       rw [hp1] at g1
       simp [keyV, g1]
     rw [hk]
     unfold encF at ih ⊢
     simp only [List.map_cons, List.length_cons, List.take_succ_cons, Uh, ih, g5]
     exact ⟨trivial, by omega⟩
theorem Qhx {r : List V} (hr : ∀ v ∈ r, v.ok) {col : Nat} {y : V} {rest : List V} (hy : r[col]? = some y) : ∀ (ls : List Cl), (∀ c ∈ ls, Sat r c) -> (∀ c ∈ ls, (litV c.v).ok /\ Hc c.op = true) -> ∀ B : Bd, le B.lo (encL (y :: rest)) = true -> le (encL (y :: rest)) B.hi = true ->
   le (ls.foldl (Rq encV Pt col) B).lo (encL (y :: rest)) = true /\ le (encL (y :: rest)) (ls.foldl (Rq encV Pt col) B).hi = true
 | [], _, _, B, h1, h2 => ⟨h1, h2⟩
 | c :: ls, hs, hok, B, h1, h2 => by
   rw [List.foldl_cons]
   refine Qhx hr hy ls (fun d hd => hs d (by simp [hd])) (fun d hd => hok d (by simp [hd])) _ ?_ ?_
   all_goals
     unfold Rq
     by_cases hc : c.col ≠ col ∨ c.op = wEq
     · rw [if_pos hc]
       assumption
     · rw [if_neg hc]
       have hcol : c.col = col := Decidable.byContradiction fun q => hc (.inl q)
       have hne : c.op ≠ wEq := fun q => hc (.inr q)
       obtain ⟨x, g1, g2⟩ := hs c (by simp)
       rw [hcol, hy] at g1
       obtain rfl := Option.some.inj g1
       have g3 := Qh6 g2
       obtain ⟨o1, o2⟩ := hok c (by simp)
       have hyk := hr _ (List.mem_of_getElem? hy)
       have e1 := Qd0 (litV c.v) y [] (encL rest) o1 hyk
       have e2 := Qd0 y (litV c.v) (encL rest) [255] hyk o1
       rw [List.append_nil] at e1
       rw [Qpx] at e2
       simp [Hc] at o2
       by_cases hg : c.op = wGt ∨ c.op = wGe
       · rw [if_pos hg]
         have ho : ordV y (litV c.v) ≠ .lt := by
           rcases hg with hg | hg <;> rw [hg] at g3
           · have : Vd wGt (ordV y (litV c.v)) = some (ordV y (litV c.v) == .gt) := rfl
             rw [this] at g3
             have := beq_iff_eq.1 (Option.some.inj g3)
             rw [this]; decide
           · have : Vd wGe (ordV y (litV c.v)) = some (ordV y (litV c.v) != .lt) := rfl
             rw [this] at g3
             have := Option.some.inj g3
             simpa using this
         have hlo : le (encV c.v) (encL (y :: rest)) = true := by
           rw [Qcu]
           unfold encV
           rw [Uh, Uh, show encL [] = [] from rfl, List.append_nil, e1, Qhw y (litV c.v)]
           cases hq : ordV y (litV c.v) with
           | lt => exact absurd hq ho
           | eq => exact Qj5 _
           | gt => simp [Ordering.then]
         first
           | (unfold maxW; simp only; split <;> assumption)
           | assumption
       · rw [if_neg hg]
         have ho : ordV y (litV c.v) ≠ .gt := by
           have ho3 : c.op = wLt ∨ c.op = wLe := by
             rcases o2 with (((h | h) | h) | h) | h
             · exact absurd h hne
             · exact .inl h
             · exact .inr h
             · exact absurd (.inl h) hg
             · exact absurd (.inr h) hg
           rcases ho3 with hg | hg <;> rw [hg] at g3
           · have : Vd wLt (ordV y (litV c.v)) = some (ordV y (litV c.v) == .lt) := rfl
             rw [this] at g3
             have := beq_iff_eq.1 (Option.some.inj g3)
             rw [this]; decide
           · have : Vd wLe (ordV y (litV c.v)) = some (ordV y (litV c.v) != .gt) := rfl
             rw [this] at g3
             have := Option.some.inj g3
             simpa using this
         have hhi : le (encL (y :: rest)) (Pt c.v) = true := by
           rw [Qcu]
           unfold Pt
           rw [Uh, Uh, show encL [] = [] from rfl, List.append_nil, e2]
           cases hq : ordV y (litV c.v) with
           | lt => simp [Ordering.then]
           | eq => simp [Ordering.then]
           | gt => exact absurd hq ho
         first
           | (unfold minW; simp only; split <;> assumption)
           | assumption
theorem keeps {r : List V} (hr : ∀ v ∈ r, v.ok) {ls : List Cl} (hs : ∀ c ∈ ls, Sat r c) (hok : ∀ c ∈ ls, (litV c.v).ok /\ Hc c.op = true) (k : List Nat) (hk : k ≠ []) (hin : ∀ c ∈ k, c < r.length) :
   ∃ A lo hi N, V4 k ls = [.bool A, .str lo, .str hi, .bool N] /\ (A = true ∨ (N = false /\ le lo (encL (keyV r k)) = true /\ le (encL (keyV r k)) hi = true)) := by
 obtain ⟨h1, h2⟩ := Qgr hr hs (fun c hc => (hok c hc).1) k
 have hkl : (keyV r k).length = k.length := by simp [keyV]
 unfold V4
 by_cases hf : (Jj k ls).length = k.length
 · rw [if_pos hf]
   refine ⟨false, _, _, false, rfl, .inr ⟨rfl, ?_⟩⟩
   rw [h1, hf, <- hkl, List.take_length]
   exact ⟨le_refl _, le_refl _⟩
 · rw [if_neg hf]
   by_cases h0 : (Jj k ls).length = 0
   · rw [if_pos h0]
     obtain ⟨c, k, rfl⟩ : ∃ c k', k = c :: k' := by
       cases k with
       | nil => exact absurd rfl hk
       | cons c k => exact ⟨c, k, rfl⟩
     have hc : r[c]? = some (r[c]'(hin c (by simp))) := List.getElem?_eq_getElem _
     have hkey : keyV r (c :: k) = r[c]'(hin c (by simp)) :: keyV r k := by simp [keyV, hc]
     rw [hkey]
     obtain ⟨g1, g2⟩ := Qhx (rest := keyV r k) hr hc ls hs hok bd0 rfl (by rw [Qcu, Qpx]; decide)
     simp only [List.headD_cons]
     generalize ls.foldl (Rq encV Pt c) bd0 = B at *
     unfold zx
     by_cases hb : B.some = false
     · rw [if_pos hb]
       exact ⟨true, _, _, false, rfl, .inl rfl⟩
     · rw [if_neg hb, if_neg (by rw [le_trans _ _ _ g1 g2]; decide)]
       exact ⟨false, _, _, false, rfl, .inr ⟨rfl, g1, g2⟩⟩
   · rw [if_neg h0]
     refine ⟨false, _, _, false, rfl, .inr ⟨rfl, ?_, ?_⟩⟩
     all_goals
       rw [Qcu, h1]
       have : encL (keyV r k) = encL ((keyV r k).take (Jj k ls).length) ++ encL ((keyV r k).drop (Jj k ls).length) := by rw [<- Qs2, List.take_append_drop]
     · rw [this]
       have e := Qln (encL ((keyV r k).take (Jj k ls).length)) [] (encL ((keyV r k).drop (Jj k ls).length))
       rw [List.append_nil] at e
       rw [e]
       exact Qj5 _
     · rw [this, Qln, Qpx]
       decide
end Go.Ab.Keep
