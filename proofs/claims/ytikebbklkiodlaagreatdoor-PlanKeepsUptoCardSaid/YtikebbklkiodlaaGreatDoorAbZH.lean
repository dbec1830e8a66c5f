/- ZH -/
import Derived.Test.YtikebbklkiodlaaGreatDoorAbXZ
set_option maxRecDepth 1000000
set_option linter.all false
namespace Go.Ab.Keep
open Go Go.Ab Go.Ab.Plan Go.Ab.Key Go.Ab.Cnt Go.Ab.Turn Go.Proofs
attribute [local simp] Fj Ms V3 refV oneH Nz Oe Eo D9 idsL idsV idsO Sp
variable [Mx]
section
variable (C : Zj) (D : Yo) (L : Nat) (rP : PV) (s : Word) (z : Int) (l : List T)
theorem btw141 (a b c : V) (hA : AC C rP l [a, b, c] Zi) (r1 r2 : Tr × Word) (hT1 : ∀ σ, C 67 [.p (.str wGe), .p (val a), .p (val b)] σ = some (.ret (.p (truP r1)), σ)) (hT2 : ∀ σ, C 67 [.p (.str wLe), .p (val a), .p (val c)] σ = some (.ret (.p (truP r2)), σ)) (hm : ∀ (q r : Tr) σ, C 68 [.p q.p, .p r.p] σ = some (.ret (.p (q.min r).p), σ)) :
   ∃ r, Ik C D L rP (.mk Kt s z l) r := by
 obtain ⟨M1, e, h⟩ := Qiv C L rP Kt s z l [a, b, c] (by simp [Wh]) hA
 obtain ⟨q1, w1⟩ := r1
 obtain ⟨q2, w2⟩ := r2
 obtain ⟨t3, t16⟩ := h
 have r0 : Q4.raw 67 = false := by rfl
 obtain ⟨p, q', r, x, ea⟩ := vc4 a
 obtain ⟨p1, q1', r1, x1, eb⟩ := vc4 b
 obtain ⟨p2, q2', r2, x2, ec⟩ := vc4 c
 rw [vcs3] at t16
 refine ⟨(q1.min q2, if w1 = Zi then w2 else w1), ?_⟩
 unfold Ik
 rw [Zp, lit141_tree]
 unfold n141
 rw [e]
 clear e hA
 simp only [val, truP, ea, eb, ec, List.cons_append, List.nil_append, List.length_cons, List.length_nil, jd] at hT1 hT2 t16 ⊢
 generalize PV.vsl (Zs l) l.length = lv at *
 have e5 : ∃ M2, (∀ X, exec C L (.seq Qaz X) ⟨M1, [], [.arr (.pv [.str Kt, .str s, .int .i64 z, lv]) 0 0 none]⟩ = exec C L (.seq (.block 1 Ss) X) ⟨M2, [], [.arr (.pv [.str Kt, .str s, .int .i64 z, lv]) 0 0 none]⟩) /\ M2.get 16 = some (.p (.vsl [p, q', r, x, p1, q1', r1, x1, p2, q2', r2, x2] 3)) :=
   ⟨_, fun X => by
     unfold Qaz
     rw [<- Zn, seqN (by simp [Qaa, t3]; rfl)]
     refine Qdp ?_
     unfold xk w9 Vv
     simp only [exec]
     simp [Vk]
     rfl, by simpa [Env.get_cons] using t16⟩
 obtain ⟨M2, e6, k16⟩ := e5
 rw [e6]
 have fin1 : ∀ (H : Heap), (∃ s1 : Go.Ab.Tr, Zy C 0 (opsD Pm) ⟨⟨M2, [], H⟩, [], []⟩ = some (none, s1) /\ okRW [0, 1, 3, 0, 8, 24, 63, 127, 255, 255, 511, 2047] (opsD Pm) s1 = true /\ s1.st.defers = [] /\ s1.st.heap = H /\ s1.st.env.get 16 = some (.p (.vsl [p, q', r, x, p1, q1', r1, x1, p2, q2', r2, x2] 3)) /\ s1.st.env.get 18 = some (.p q1.p) /\ s1.st.env.get 19 = some (.p (.str w1))) ->
     ∃ M', exec C L Pm ⟨M2, [], H⟩ = some (.normal, ⟨M', [], H⟩) /\ M'.get 16 = some (.p (.vsl [p, q', r, x, p1, q1', r1, x1, p2, q2', r2, x2] 3)) /\ M'.get 18 = some (.p q1.p) /\ M'.get 19 = some (.p (.str w1)) := by
   rintro H ⟨⟨⟨M', d, σ'⟩, rds, wrs⟩, hr, hok, hd, hh, hA⟩
   simp only at hd hh
   subst hd hh
   exact ⟨M', L9 hr hok, hA⟩
 obtain ⟨M3, e7, j16, j18, j19⟩ := fin1 [.arr (.pv [.str Kt, .str s, .int .i64 z, lv]) 0 0 none] ⟨_, by
     show Zy C 0 (_ :: _) _ = _
     refine (Zf rfl rfl (by simp [k16, r0, hT1]; rfl)).trans ?_
     refine (Zf rfl rfl (by simp [k16, r0, hT1]; rfl)).trans ?_
     refine (Zf rfl rfl (by simp [k16, r0, hT1]; rfl)).trans ?_
     refine (Zf rfl rfl (by simp [k16, r0, hT1]; rfl)).trans ?_
     refine (Zf rfl rfl (by simp [k16, r0, hT1]; rfl)).trans ?_
     refine (Zf rfl rfl (by simp [k16, r0, hT1]; rfl)).trans ?_
     refine (B8 rfl rfl (by simp [Zo, Jk, k16, r0, hT1]; rfl) (by simp; rfl) (by simp [k16, r0, hT1]; rfl)).trans ?_
     refine (Zf rfl rfl (by simp [k16, r0, hT1]; rfl)).trans ?_
     refine (Zf rfl rfl (by simp [k16, r0, hT1]; rfl)).trans ?_
     refine (Zf rfl rfl (by simp [k16, r0, hT1]; rfl)).trans ?_
     refine (Zf rfl rfl (by simp [k16, r0, hT1]; rfl)).trans ?_
     refine (Zf rfl rfl (by simp [k16, r0, hT1]; rfl)).trans ?_
     exact rfl, by kernel_rfl, by rfl, by rfl, by simpa [putE, Env.get_cons] using k16, by simp, by simp⟩
 have fin2 : ∀ (H : Heap), (∃ s1 : Go.Ab.Tr, Zy C 0 (opsD Pl) ⟨⟨M3, [], H⟩, [], []⟩ = some (none, s1) /\ okRW [0, 1, 3, 0, 8, 24, 63, 127, 255, 255, 511, 2047] (opsD Pl) s1 = true /\ s1.st.defers = [] /\ s1.st.heap = H /\ s1.st.env.get 18 = some (.p q1.p) /\ s1.st.env.get 19 = some (.p (.str w1)) /\ s1.st.env.get 20 = some (.p q2.p) /\ s1.st.env.get 21 = some (.p (.str w2))) ->
     ∃ M', exec C L Pl ⟨M3, [], H⟩ = some (.normal, ⟨M', [], H⟩) /\ M'.get 18 = some (.p q1.p) /\ M'.get 19 = some (.p (.str w1)) /\ M'.get 20 = some (.p q2.p) /\ M'.get 21 = some (.p (.str w2)) := by
   rintro H ⟨⟨⟨M', d, σ'⟩, rds, wrs⟩, hr, hok, hd, hh, hA⟩
   simp only at hd hh
   subst hd hh
   exact ⟨M', L9 hr hok, hA⟩
 obtain ⟨M4, e8, i18, i19, i20, i21⟩ := fin2 [.arr (.pv [.str Kt, .str s, .int .i64 z, lv]) 0 0 none] ⟨_, by
     show Zy C 0 (_ :: _) _ = _
     refine (Zf rfl rfl (by simp [j16, r0, hT2]; rfl)).trans ?_
     refine (Zf rfl rfl (by simp [j16, r0, hT2]; rfl)).trans ?_
     refine (Zf rfl rfl (by simp [j16, r0, hT2]; rfl)).trans ?_
     refine (Zf rfl rfl (by simp [j16, r0, hT2]; rfl)).trans ?_
     refine (Zf rfl rfl (by simp [j16, r0, hT2]; rfl)).trans ?_
     refine (Zf rfl rfl (by simp [j16, r0, hT2]; rfl)).trans ?_
     refine (B8 rfl rfl (by simp [Zo, Jk, j16, r0, hT2]; rfl) (by simp; rfl) (by simp [j16, r0, hT2]; rfl)).trans ?_
     refine (Zf rfl rfl (by simp [j16, r0, hT2]; rfl)).trans ?_
     refine (Zf rfl rfl (by simp [j16, r0, hT2]; rfl)).trans ?_
     refine (Zf rfl rfl (by simp [j16, r0, hT2]; rfl)).trans ?_
     refine (Zf rfl rfl (by simp [j16, r0, hT2]; rfl)).trans ?_
     refine (Zf rfl rfl (by simp [j16, r0, hT2]; rfl)).trans ?_
     exact rfl, by kernel_rfl, by rfl, by rfl, by simp [j18], by simp [j19], by simp, by simp⟩
 have hm' := hm q1 q2
 have e9 : ∃ M5, exec C L (.seq Pk (.seq O8 .ret)) ⟨M4, [], [.arr (.pv [.str Kt, .str s, .int .i64 z, lv]) 0 0 none]⟩ = some (.ret, ⟨M5, [], [.arr (.pv [.str Kt, .str s, .int .i64 z, lv]) 0 0 none]⟩) /\ M5.get 6 = some (.p (q1.min q2).p) /\ M5.get 7 = some (.p (.str (if w1 = Zi then w2 else w1))) := by
   by_cases hw : w1 = Zi
   · subst hw
     exact ⟨_, by simp [Pk, Ri, Rg, O8, i18, i19, i20, i21, hm']; rfl, by simp, by simp⟩
   · have hw' : (w1 == Zi) = false := beq_eq_false_iff_ne.2 hw
     exact ⟨_, by simp [Pk, Ri, Rg, O8, i18, i19, i20, i21, hm', hw']; rfl, by simp, by simp [hw]⟩
 obtain ⟨M5, e9, g6, g7⟩ := e9
 have e10 : exec C L (.block 1 Ss) ⟨M2, [], [.arr (.pv [.str Kt, .str s, .int .i64 z, lv]) 0 0 none]⟩ = some (.ret, ⟨M5, [], [.arr (.pv [.str Kt, .str s, .int .i64 z, lv]) 0 0 none]⟩) := by
   refine E5 ?_
   unfold Ss
   rw [seqN e7, seqN e8]
   exact e9
 rw [seqR e10]
 simp [lit141, g6, g7]
abbrev y3 : Word := [108, 105, 107, 101]
theorem Qyz (a b : V) (ha : okV a) (hb : okV b) (hA : AC C rP l [a, b] Zi) (hK : ∀ s t : Word, s.length <= 1048576 -> t.length <= 1048576 -> ∃ c : Bool, ∀ σ, C 74 [.p (.str s), .p (.str t)] σ = some (.ret (.p (.bool c)), σ)) (hO : ∀ v σ, C 24 [.p (val v)] σ = some (.ret (.p (truP (ofV v))), σ)) :
   ∃ r, Ik C D L rP (.mk y3 s z l) r := by
 obtain ⟨M1, e, h⟩ := Qiv C L rP y3 s z l [a, b] (by simp [Wh]) hA
 obtain ⟨t3, t16⟩ := h
 have r0 : Q4.raw 74 = false := by rfl
 have ka : ∃ k q' m x, vc a = [.int .i64 k, q', .str m, x] /\ (k == 0) = Ul a /\ (k = 2 -> a = .text m) := by cases a <;> exact ⟨_, _, _, _, rfl, rfl, fun h => by first | rfl | (exact absurd h (by decide))⟩
 have kb : ∃ k q' m x, vc b = [.int .i64 k, q', .str m, x] /\ (k == 0) = Ul b /\ (k = 2 -> b = .text m) := by cases b <;> exact ⟨_, _, _, _, rfl, rfl, fun h => by first | rfl | (exact absurd h (by decide))⟩
 obtain ⟨k, q', m, x, ea, na, ta⟩ := ka
 obtain ⟨k1, q1', m1, x1, eb, nb, tb⟩ := kb
 rw [vcs2] at t16
 unfold Ik
 simp only [Zp, lit141_tree]
 unfold n141
 rw [e]
 clear e hA
 simp only [truP, ea, eb, List.cons_append, List.nil_append, List.length_cons, List.length_nil, jd] at t16 ⊢
 generalize PV.vsl (Zs l) l.length = lv at *
 have e5 : ∃ M2, (∀ X, exec C L (.seq Qaz X) ⟨M1, [], [.arr (.pv [.str y3, .str s, .int .i64 z, lv]) 0 0 none]⟩ = exec C L (.seq (.block 1 Lh) X) ⟨M2, [], [.arr (.pv [.str y3, .str s, .int .i64 z, lv]) 0 0 none]⟩) /\ M2.get 16 = some (.p (.vsl [.int .i64 k, q', .str m, x, .int .i64 k1, q1', .str m1, x1] 2)) :=
   ⟨_, fun X => by
     unfold Qaz
     rw [<- Zn, seqN (by simp [Qaa, t3]; rfl)]
     refine Qdp ?_
     unfold xk w9 Vv Wl Tp
     simp only [exec]
     simp [Vk, Tx]
     rfl, by simpa [Env.get_cons] using t16⟩
 obtain ⟨M2, e6, k16⟩ := e5
 simp only [e6]
 have fin : ∀ (q : Tr) (w : Word), (∃ M5, exec C L Lh ⟨M2, [], [.arr (.pv [.str y3, .str s, .int .i64 z, lv]) 0 0 none]⟩ = some (.ret, ⟨M5, [], [.arr (.pv [.str y3, .str s, .int .i64 z, lv]) 0 0 none]⟩) /\ M5.get 6 = some (.p q.p) /\ M5.get 7 = some (.p (.str w))) ->
     ∃ r : Tr × Word, ansV (finX D lit141 (exec C L (.seq (.block 1 Lh) (.seq Qgn .ret)) ⟨M2, [], [.arr (.pv [.str y3, .str s, .int .i64 z, lv]) 0 0 none]⟩)) = some (.tup [r.1.p, .str r.2]) := by
   rintro q w ⟨M5, e9, g6, g7⟩
   have e10 := E5 (id := 1) e9
   rw [seqR e10]
   exact ⟨(q, w), by simp [lit141, g6, g7]⟩
 unfold Lh at fin ⊢
 cases hna : (k == 0) with
 | true => exact fin .u Zi ⟨_, by simp [In, It, I5, k16, hna]; rfl, by simp [Tr.n], by simp⟩
 | false =>
   cases hnb : (k1 == 0) with
   | true => exact fin .u Zi ⟨_, by simp [In, It, I5, k16, hna, hnb]; rfl, by simp [Tr.n], by simp⟩
   | false =>
     have s1 : ∃ M3, exec C L In ⟨M2, [], [.arr (.pv [.str y3, .str s, .int .i64 z, lv]) 0 0 none]⟩ = some (.normal, ⟨M3, [], [.arr (.pv [.str y3, .str s, .int .i64 z, lv]) 0 0 none]⟩) /\ M3.get 16 = some (.p (.vsl [.int .i64 k, q', .str m, x, .int .i64 k1, q1', .str m1, x1] 2)) := ⟨_, by simp [In, It, I5, k16, hna, hnb]; rfl, by simpa [Env.get_cons] using k16⟩
     obtain ⟨M3, e7, j16⟩ := s1
     simp only [seqN e7] at fin ⊢
     cases h2 : (k == 2) with
     | false => exact fin .u wBad ⟨_, by simp [Ij, Ix, I3, j16, h2, bne]; rfl, by simp [Tr.n], by simp⟩
     | true =>
       cases h3 : (k1 == 2) with
       | false => exact fin .u wBad ⟨_, by simp [Ij, Ix, I3, j16, h2, h3, bne]; rfl, by simp [Tr.n], by simp⟩
       | true =>
         have s2 : ∃ M4, exec C L Ij ⟨M3, [], [.arr (.pv [.str y3, .str s, .int .i64 z, lv]) 0 0 none]⟩ = some (.normal, ⟨M4, [], [.arr (.pv [.str y3, .str s, .int .i64 z, lv]) 0 0 none]⟩) /\ M4.get 16 = some (.p (.vsl [.int .i64 k, q', .str m, x, .int .i64 k1, q1', .str m1, x1] 2)) := ⟨_, by simp [Ij, Ix, I3, j16, h2, h3, bne]; rfl, by simpa [Env.get_cons] using j16⟩
         obtain ⟨M4, e8, i16⟩ := s2
         simp only [seqN e8] at fin ⊢
         have hm : m.length <= 1048576 := by
           have := ta (beq_iff_eq.1 h2)
           subst this
           exact ha
         have hm1 : m1.length <= 1048576 := by
           have := tb (beq_iff_eq.1 h3)
           subst this
           exact hb
         obtain ⟨c, hc⟩ := hK m m1 hm hm1
         have ho := hO (.bool c)
         simp only [val, truP, Z9] at ho
         generalize ofV (.bool c) = o at ho
         obtain ⟨q, w⟩ := o
         have drw : ∀ (H : Heap), (∃ s1 : Go.Ab.Tr, Zy C 0 (opsD Md) ⟨⟨M4, [], H⟩, [], []⟩ = some (none, s1) /\ okRW [0, 1, 3, 7, 0, 16, 48, 112, 255, 511] (opsD Md) s1 = true /\ s1.st.defers = [] /\ s1.st.heap = H /\ s1.st.env.get 22 = some (.p (.bool c))) ->
             ∃ M', exec C L Md ⟨M4, [], H⟩ = some (.normal, ⟨M', [], H⟩) /\ M'.get 22 = some (.p (.bool c)) := by
           rintro H ⟨⟨⟨M', d, σ'⟩, rds, wrs⟩, hr, hok, hd, hh, hA⟩
           simp only at hd hh
           subst hd hh
           exact ⟨M', L9 hr hok, hA⟩
         obtain ⟨M5, e9, g22⟩ := drw [.arr (.pv [.str y3, .str s, .int .i64 z, lv]) 0 0 none] ⟨_, by
             show Zy C 0 (_ :: _) _ = _
             refine (Zf rfl rfl (by simp [i16, r0, hc]; rfl)).trans ?_
             refine (Zf rfl rfl (by simp [i16, r0, hc]; rfl)).trans ?_
             refine (Zf rfl rfl (by simp [i16, r0, hc]; rfl)).trans ?_
             refine (Zf rfl rfl (by simp [i16, r0, hc]; rfl)).trans ?_
             refine (Zf rfl rfl (by simp [i16, r0, hc]; rfl)).trans ?_
             refine (Zf rfl rfl (by simp [i16, r0, hc]; rfl)).trans ?_
             refine (Zf rfl rfl (by simp [i16, r0, hc]; rfl)).trans ?_
             refine (Zf rfl rfl (by simp [i16, r0, hc]; rfl)).trans ?_
             refine (B8 rfl rfl (by simp [Zo, Jk, i16, r0, hc]; rfl) (by simp; rfl) (by simp [i16, r0, hc]; rfl)).trans ?_
             refine (Zf rfl rfl (by simp [i16, r0, hc]; rfl)).trans ?_
             exact rfl, by kernel_rfl, by rfl, by rfl, by simp⟩
         simp only [seqN e9] at fin
         exact fin q w ⟨_, by simp [T8, g22, ho]; rfl, by simp, by simp⟩
end
end Go.Ab.Keep
namespace Go.Ab.Keep
open Go Go.Ab Go.Ab.Plan Go.Ab.Key Go.Ab.Cnt Go.Ab.Turn Go.Proofs
def Sat (r : List V) (c : Cl) : Prop := ∃ x, r[c.col]? = some x /\ Qau c.op x (litV c.v) = (.t, Zi)
def Qap (r : List V) (t : T) : Prop := ∀ c ∈ L5 (Jo t), Sat r c
structure Spec (r : List V) (t : T) (v : V) : Prop where
 truth : v = .bool true -> Qap r t
 slot : t.op = Oh -> ∀ i : Nat, i < 3 -> t.n = i -> r[i]? = some v
 lit : ∀ x, lit t = some x -> v = litV x
theorem Qba : ∀ a b : List UInt8, cmpL b a = (cmpL a b).swap
 | [], [] => rfl
 | [], _ :: _ => rfl
 | _ :: _, [] => rfl
 | x :: a, y :: b => by
   have ih := Qba a b
   simp only [Ny]
   rcases Nat.lt_trichotomy x.toNat y.toNat with h | h | h
   · have h1 : x < y := h
     have h2 : ¬ y < x := fun q => by have : y.toNat < x.toNat := q; omega
     simp [h1, h2]
   · have h1 : ¬ x < y := fun q => by have : x.toNat < y.toNat := q; omega
     have h2 : ¬ y < x := fun q => by have : y.toNat < x.toNat := q; omega
     simp [h1, h2, ih]
   · have h1 : ¬ x < y := fun q => by have : x.toNat < y.toNat := q; omega
     have h2 : y < x := h
     simp [h1, h2]
theorem Qhw (a b : V) : ordV b a = (ordV a b).swap := by
 cases a with
 | null => cases b <;> rfl
 | num x => cases b with
   | num y => simp only [ordV]; exact (Int.compare_swap x y).symm
   | _ => rfl
 | text s => cases b with
   | text t => exact Qba _ _
   | _ => rfl
 | bool x => cases b with
   | bool y => cases x <;> cases y <;> rfl
   | _ => rfl
theorem Qpb {op : Word} (h : Hc op = true) (o : Ordering) : Vd (flip op) o.swap = Vd op o := by
 simp [Hc] at h
 rcases h with (((rfl | rfl) | rfl) | rfl) | rfl <;> cases o <;> decide
theorem Qpj {op : Word} (h : Hc op = true) (a b : V) : Qau (flip op) b a = Qau op a b := by
 unfold Qau
 rw [Qhw a b, Qpb h]
 cases Vd op (ordV a b) with
 | none => rfl
 | some r =>
   have e1 : (Ul b || Ul a) = (Ul a || Ul b) := Bool.or_comm _ _
   simp only [e1]
   by_cases hn : (Ul a || Ul b) = true
   · rw [if_pos hn, if_pos hn]
   · rw [if_neg hn, if_neg hn]
     by_cases hr : rank a = rank b
     · rw [if_pos hr, if_pos hr.symm]
     · rw [if_neg hr, if_neg (fun h => hr h.symm)]
theorem Qb5 {op s : Word} {n : Int} {l : List T} (h : ¬ (op = wAnd /\ l.length = 2)) : Jo (.mk op s n l) = [.mk op s n l] := by
 conv => lhs; unfold Jo
 rw [if_neg h]
theorem Yn {r : List V} {op s : Word} {n : Int} {l : List T} (h : op ≠ wAnd) (hc : Hc op = false) : Qap r (.mk op s n l) := by
 intro c hcm
 rw [Qb5 (fun q => h q.1)] at hcm
 have hr : Turn.read slT (.mk op s n l) = none := by
   unfold Turn.read
   split
   · simp_all
   · rfl
 simp [L5, hr] at hcm
theorem Qpz {r : List V} {s : Word} {n : Int} {a b : T} (ha : Qap r a) (hb : Qap r b) : Qap r (.mk wAnd s n [a, b]) := by
 intro c hcm
 have e : Jo (.mk wAnd s n [a, b]) = Jo a ++ Jo b := by
   conv => lhs; unfold Jo
   rw [if_pos ⟨rfl, rfl⟩]
   simp [N7]
 rw [e] at hcm
 simp only [L5, List.filterMap_append, List.mem_append] at hcm
 rcases hcm with h | h
 · exact ha c h
 · exact hb c h
theorem Qj1 {n : Int} {v : Turn.Lit} {c : Nat} (h : slT n v = some c) : c < 3 /\ n = (c : Int) := by
 unfold slT at h
 split at h
 · split at h
   · rename_i hn
     have := Option.some.inj h
     omega
   · cases h
 · split at h
   · rename_i hn
     have := Option.some.inj h
     omega
   · cases h
 · cases h
theorem Qre {r : List V} {op s : Word} {n : Int} {a b : T} {va vb : V} (hc : Hc op = true) (ha : Spec r a va) (hb : Spec r b vb) (ht : Qau op va vb = (.t, Zi)) : Qap r (.mk op s n [a, b]) := by
 intro c hcm
 have hne : op ≠ wAnd := by
   intro q
   subst q
   simp [Hc] at hc
 rw [Qb5 (fun q => hne q.1)] at hcm
 have hr : Turn.read slT (.mk op s n [a, b]) = some c := by
   cases hq : Turn.read slT (.mk op s n [a, b]) with
   | none => simp [L5, hq] at hcm
   | some d =>
     simp [L5, hq] at hcm
     rw [hcm]
 simp only [Turn.read, hc, if_true] at hr
 by_cases h1 : a.op = Oh
 · rw [if_pos h1] at hr
   cases hl : lit b with
   | none => rw [hl] at hr; cases hr
   | some v =>
     rw [hl] at hr
     obtain ⟨k, hk, rfl⟩ := Option.map_eq_some_iff.1 hr
     obtain ⟨q1, q2⟩ := Qj1 hk
     exact ⟨va, ha.slot h1 k q1 q2, by rw [<- hb.lit v hl]; exact ht⟩
 · rw [if_neg h1] at hr
   by_cases h2 : b.op = Oh
   · rw [if_pos h2] at hr
     cases hl : lit a with
     | none => rw [hl] at hr; cases hr
     | some v =>
       rw [hl] at hr
       obtain ⟨k, hk, rfl⟩ := Option.map_eq_some_iff.1 hr
       obtain ⟨q1, q2⟩ := Qj1 hk
       refine ⟨vb, hb.slot h2 k q1 q2, ?_⟩
       simp only
       rw [<- ha.lit v hl, Qpj hc]
       exact ht
   · rw [if_neg h2] at hr
     cases hr
end Go.Ab.Keep
namespace Go.Ab.Keep
open Go Go.Ab Go.Ab.Plan Go.Ab.Key Go.Ab.Cnt Go.Ab.Turn Go.Proofs
variable [Mx]
abbrev Y1 (r : List V) : PV := .vsl [.vsl (vcs r) r.length] 1
def PVal (L : Nat) (r : List V) (t : T) (m : Nat) : Prop := ∃ v w, okV v /\ VC (cAt TT L m).1 (Y1 r) t v w /\ (w = Zi -> Spec r t v)
theorem vc_inj {a b : V} (h : vc a = vc b) : a = b := by
 cases a <;> cases b <;> simp [vc] at h ⊢ <;> exact h
theorem Qq7 {C : Zj} {rP : PV} {t : T} {v v' : V} {w w' : Word} (h : VC C rP t v w) (h' : VC C rP t v' w') : v = v' /\ w = w' := by
 have e := (h []).symm.trans (h' [])
 simp only [Z3, val, Option.some.injEq, Prod.mk.injEq, CRes.ret.injEq, AV.p.injEq, PV.tup.injEq, List.cons.injEq, PV.agg.injEq, PV.str.injEq, and_true] at e
 exact ⟨vc_inj e.1, e.2⟩
theorem z4 {v : V} {w : Word} (h : Vz v w = (.t, Zi)) : w = Zi /\ v = .bool true := by
 unfold Vz at h
 by_cases hw : w = Zi
 · rw [if_pos hw] at h
   refine ⟨hw, ?_⟩
   rcases v with _ | z | s | b
   · cases h
   · cases h
   · cases h
   · cases b
     · cases h
     · rfl
 · rw [if_neg hw] at h
   cases h
theorem and_true {x y : Tr × Word} (h : andV x y = (.t, Zi)) : x = (.t, Zi) /\ y = (.t, Zi) := by
 obtain ⟨q, w⟩ := x
 obtain ⟨q', w'⟩ := y
 unfold andV at h
 simp only at h
 by_cases hw : w = Zi
 · subst hw
   rw [if_pos rfl] at h
   cases q
   · simp at h
   · cases q' <;> simp [Tr.min] at h
   · cases q' <;> simp [Tr.min] at h ⊢
     exact h
 · rw [if_neg hw] at h
   simp only [Prod.mk.injEq] at h
   exact absurd h.2 hw
theorem Qnd {t : T} (hf : FitOK t) (k : Nat) (e : Ek t.op t.s = ((k : Int), true)) : t.l.length = k := by
 have := hf.exact' (by rw [e]; simp)
 rw [e] at this
 simp only at this
 omega
def Oi : List Word := [[97, 110, 100], [111, 114], [110, 111, 116], [105, 115], [101, 120, 105, 115, 116, 115], [105, 110], [97, 110, 121], [97, 108, 108], [98, 101, 116, 119, 101, 101, 110], [108, 105, 107, 101], [61], [60, 62], [60], [60, 61], [62], [62, 61]]
theorem test41 (L n : Nat) (hL : 1048577 < L) (r : List V) (t : T) (hm : t.l.length <= 1048576) (hLl : t.l.length < L) (hf : FitOK t) (hop : t.op ∈ Oi) (hK : ∀ c ∈ t.l, PVal L r c (n + 3)) :
   ∃ q w, (∀ σ, (cAt TT L (n + 5)).1 41 [.p (node t), .p (Y1 r), .p src] σ = some (.ret (.p (truP (q, w))), σ)) /\ (w = Zi -> q = .t -> Qap r t) := by
 have key : ∃ q w, Ik (cAt TT L (n + 4)).1 (cAt TT L (n + 4)).2 L (Y1 r) t (q, w) /\ (w = Zi -> q = .t -> Qap r t) := by
   have hlen : ∀ (v : V), okV v -> ∀ s, v = .text s -> s.length < L /\ s.length <= 9223372036854775807 := by
     rintro v hv s rfl
     have : s.length <= 1048576 := hv
     omega
   have hT : ∀ c ∈ t.l, ∃ v w, okV v /\ VC (cAt TT L (n + 3)).1 (Y1 r) c v w /\ TC (cAt TT L (n + 4)).1 (Y1 r) c (Vz v w).1 (Vz v w).2 /\ (w = Zi -> Spec r c v) := by
     intro c hc
     obtain ⟨v, w, h1, h2, h3⟩ := hK c hc
     exact ⟨v, w, h1, h2, Qje L (n + 2) (Y1 r) c v w h2, h3⟩
   have hV : ∀ c ∈ t.l, ∃ v w, okV v /\ VC (cAt TT L (n + 3)).1 (Y1 r) c v w := by
     intro c hc
     obtain ⟨v, w, h1, h2, _⟩ := hK c hc
     exact ⟨v, w, h1, h2⟩
   obtain ⟨vs, wa, hA, hvs⟩ := all60 L (n + 3) (Y1 r) t.l hm hLl hV
   have e67 := fun op a b ha hb σ => Qoa L (n + 1) op a b (hlen a ha) (hlen b hb) σ
   have e68 := fun (q r : Tr) σ => and68 L (n + 2) q r σ
   have e69 := fun (q r : Tr) σ => or69 L (n + 2) q r σ
   have e70 := fun (q : Tr) σ => not70 L (n + 2) q σ
   have e24 := fun v σ => of24 L (n + 3) v σ
   have e74 := fun s p hs hp => like74 L (n + 3) s p hs hp hL
   have e38 := fun t r σ => Qfk L (n + 3) t r σ
   have e71 := fun c v w h1 h2 h3 => is71 L (n + 2) (Y1 r) t c h1 v w h2 h3
   have e72 := fun h1 => in72 L n hL (Y1 r) t h1 hm hLl hV
   have e73 := fun op0 c d v w h1 h2 => Qo6 L (n + 2) (by omega) (Y1 r) op0 t c d h1 v w h2
   obtain ⟨op, s, z, l⟩ := t
   simp only [T.op, T.l, T.s] at *
   have elem : ∀ i c, l[i]? = some c -> c ∈ l := fun i c h => List.mem_of_getElem? h
   simp only [Oi, List.mem_cons, List.not_mem_nil, or_false] at hop
   have two : ∀ k : Nat, Ek op s = ((k : Int), true) -> l.length = k := fun k e => Qnd hf k e
   have okA : wa = Zi -> ∀ v ∈ vs, okV v := by
     intro hw v hv
     obtain ⟨i, hi⟩ := List.getElem?_of_mem hv
     obtain ⟨k1, k2⟩ := hvs hw
     have hlt : i < l.length := by have := (List.getElem?_eq_some_iff.1 hi).1; omega
     obtain ⟨u, q1, q2, _⟩ := k2 i _ (List.getElem?_eq_getElem hlt)
     rw [hi] at q1
     cases q1
     exact q2
   rcases hop with rfl | rfl | rfl | rfl | rfl | rfl | rfl | rfl | rfl | rfl | rfl | rfl | rfl | rfl | rfl | rfl
   · -- and
     obtain ⟨a, b, rfl⟩ : ∃ a b, l = [a, b] := by
       match l, two 2 (by kernel_rfl) with
       | [a, b], _ => exact ⟨a, b, rfl⟩
     obtain ⟨va, w1, ha, _, ta, sa⟩ := hT a (by simp)
     obtain ⟨vb, w2, hb, _, tb, sb⟩ := hT b (by simp)
     refine ⟨(andV (Vz va w1) (Vz vb w2)).1, (andV (Vz va w1) (Vz vb w2)).2, and141 _ _ L _ s z a b _ _ ta tb e68, fun h1 h2 => ?_⟩
     obtain ⟨g1, g2⟩ := and_true (Prod.ext h2 h1)
     obtain ⟨k1, k2⟩ := z4 g1
     obtain ⟨k3, k4⟩ := z4 g2
     exact Qpz ((sa k1).truth k2) ((sb k3).truth k4)
   · -- or
     obtain ⟨a, b, rfl⟩ : ∃ a b, l = [a, b] := by
       match l, two 2 (by kernel_rfl) with
       | [a, b], _ => exact ⟨a, b, rfl⟩
     obtain ⟨va, w1, ha, _, ta, sa⟩ := hT a (by simp)
     obtain ⟨vb, w2, hb, _, tb, sb⟩ := hT b (by simp)
     exact ⟨_, _, or141 _ _ L _ s z a b _ _ ta tb e69, fun _ _ => Yn (by decide) (by decide)⟩
   · -- not
     obtain ⟨a, rfl⟩ : ∃ a, l = [a] := by
       match l, two 1 (by kernel_rfl) with
       | [a], _ => exact ⟨a, rfl⟩
     obtain ⟨va, w1, ha, _, ta, sa⟩ := hT a (by simp)
     exact ⟨_, _, not141 _ _ L _ s z a _ _ ta e70, fun _ _ => Yn (by decide) (by decide)⟩
   · -- is
     obtain ⟨a, rfl⟩ : ∃ a, l = [a] := by
       match l, two 1 (by kernel_rfl) with
       | [a], _ => exact ⟨a, rfl⟩
     obtain ⟨va, w1, ha, ca, _⟩ := hT a (by simp)
     obtain ⟨q, w', h⟩ := e71 a va w1 rfl ha ca
     exact ⟨q, w', isT141 _ _ L _ s z [a] _ h, fun _ _ => Yn (by decide) (by decide)⟩
   · -- exists
     obtain ⟨a, rfl⟩ : ∃ a, l = [a] := by
       match l, two 1 (by kernel_rfl) with
       | [a], _ => exact ⟨a, rfl⟩
     exact ⟨_, _, Qq9 _ _ L _ s z a e38, fun _ _ => Yn (by decide) (by decide)⟩
   · -- in
     by_cases hq : s = Qbn
     · subst hq
       obtain ⟨a, b, rfl⟩ : ∃ a b, l = [a, b] := by
         match l, two 2 (by kernel_rfl) with
         | [a, b], _ => exact ⟨a, b, rfl⟩
       obtain ⟨va, w1, ha, ca, _⟩ := hT a (by simp)
       obtain ⟨q, w', h⟩ := e73 wEq a b va w1 rfl ca
       exact ⟨q, w', inQ141 _ _ L _ z [a, b] _ h, fun _ _ => Yn (by decide) (by decide)⟩
     · have hl : 1 <= l.length := by
         have e : Ek wIn s = (-1, true) := by
           unfold Ek
           rw [if_neg (by decide), if_neg (by decide), if_neg (by decide), if_neg (by decide), if_pos rfl, if_neg hq]
         have h1 := hf.least
         simp only [T.op, T.s, T.l] at h1
         exact h1 (by rw [e]; decide)
       obtain ⟨q, w', h⟩ := e72 hl
       exact ⟨q, w', inL141 _ _ L _ s z l _ hq h, fun _ _ => Yn (by decide) (by decide)⟩
   · -- any
     obtain ⟨a, b, rfl⟩ : ∃ a b, l = [a, b] := by
       match l, two 2 (by kernel_rfl) with
       | [a, b], _ => exact ⟨a, b, rfl⟩
     obtain ⟨va, w1, ha, ca, _⟩ := hT a (by simp)
     obtain ⟨q, w', h⟩ := e73 s a b va w1 rfl ca
     exact ⟨q, w', any141 _ _ L _ s z [a, b] _ h, fun _ _ => Yn (by decide) (by decide)⟩
   · -- all
     obtain ⟨a, b, rfl⟩ : ∃ a b, l = [a, b] := by
       match l, two 2 (by kernel_rfl) with
       | [a, b], _ => exact ⟨a, b, rfl⟩
     obtain ⟨va, w1, ha, ca, _⟩ := hT a (by simp)
     obtain ⟨q, w', h⟩ := e73 s a b va w1 rfl ca
     exact ⟨q, w', all141 _ _ L _ s z [a, b] _ h, fun _ _ => Yn (by decide) (by decide)⟩
   · -- jj
     obtain ⟨a, b, c, rfl⟩ : ∃ a b c, l = [a, b, c] := by
       match l, two 3 (by kernel_rfl) with
       | [a, b, c], _ => exact ⟨a, b, c, rfl⟩
     by_cases hw : wa = Zi
     · subst hw
       have hok := okA rfl
       obtain ⟨k1, _⟩ := hvs rfl
       obtain ⟨va, vb, vc', rfl⟩ : ∃ a b c, vs = [a, b, c] := by
         match vs, k1 with
         | [a, b, c], _ => exact ⟨a, b, c, rfl⟩
       obtain ⟨⟨q, w'⟩, h⟩ := btw141 _ (cAt TT L (n + 4)).2 L (Y1 r) s z _ va vb vc' hA _ _ (fun σ => e67 wGe va vb (hok _ (by simp)) (hok _ (by simp)) σ) (fun σ => e67 wLe va vc' (hok _ (by simp)) (hok _ (by simp)) σ) e68
       exact ⟨q, w', h, fun _ _ => Yn (by decide) (by decide)⟩
     · exact ⟨.u, wa, Qri _ _ L _ _ s z _ vs wa (by simp [Wh]) hA hw, fun _ h => by cases h⟩
   · -- like
     obtain ⟨a, b, rfl⟩ : ∃ a b, l = [a, b] := by
       match l, two 2 (by kernel_rfl) with
       | [a, b], _ => exact ⟨a, b, rfl⟩
     by_cases hw : wa = Zi
     · subst hw
       have hok := okA rfl
       obtain ⟨k1, _⟩ := hvs rfl
       obtain ⟨va, vb, rfl⟩ : ∃ a b, vs = [a, b] := by
         match vs, k1 with
         | [a, b], _ => exact ⟨a, b, rfl⟩
       obtain ⟨⟨q, w'⟩, h⟩ := Qyz _ (cAt TT L (n + 4)).2 L (Y1 r) s z _ va vb (hok _ (by simp)) (hok _ (by simp)) hA e74 e24
       exact ⟨q, w', h, fun _ _ => Yn (by decide) (by decide)⟩
     · exact ⟨.u, wa, Qri _ _ L _ _ s z _ vs wa (by simp [Wh]) hA hw, fun _ h => by cases h⟩
   all_goals
     obtain ⟨a, b, rfl⟩ : ∃ a b, l = [a, b] := by
       match l, two 2 (by kernel_rfl) with
       | [a, b], _ => exact ⟨a, b, rfl⟩
     by_cases hw : wa = Zi
     · subst hw
       have hok := okA rfl
       obtain ⟨k1, k2⟩ := hvs rfl
       obtain ⟨va, vb, rfl⟩ : ∃ a b, vs = [a, b] := by
         match vs, k1 with
         | [a, b], _ => exact ⟨a, b, rfl⟩
       obtain ⟨u1, p1, _, c1⟩ := k2 0 a rfl
       obtain ⟨u2, p2, _, c2⟩ := k2 1 b rfl
       simp only [List.getElem?_cons_zero, List.getElem?_cons_succ, Option.some.injEq] at p1 p2
       subst p1 p2
       obtain ⟨v1, w1, _, d1, s1⟩ := hK a (by simp)
       obtain ⟨v2, w2, _, d2, s2⟩ := hK b (by simp)
       obtain ⟨rfl, rfl⟩ := Qq7 c1 d1
       obtain ⟨rfl, rfl⟩ := Qq7 c2 d2
       refine ⟨_, _, cmp141 _ (cAt TT L (n + 4)).2 L (Y1 r) _ s z _ (by simp [Ql8]) va vb hA (Qau _ va vb) (fun σ => e67 _ va vb (hok _ (by simp)) (hok _ (by simp)) σ), fun h1 h2 => ?_⟩
       first
         | exact Qre (by decide) (s1 rfl) (s2 rfl) (Prod.ext h2 h1)
         | exact Yn (by decide) (by decide)
     · exact ⟨.u, wa, Qri _ _ L _ _ s z _ vs wa (by simp [Wh]) hA hw, fun _ h => by cases h⟩
 obtain ⟨q, w, h1, h2⟩ := key
 exact ⟨q, w, fun σ => Z7 (ps := [node t, Y1 r, src]) (n := n + 4) q141 (by rfl) h1 σ, h2⟩
end Go.Ab.Keep
namespace Go.Ab.Keep
open Go Go.Ab Go.Ab.Plan Go.Ab.Key Go.Ab.Cnt Go.Ab.Turn Go.Proofs
variable [Mx]
section
variable (C : Zj) (D : Yo) (L : Nat) (rP : PV) (op s : Word) (z : Int) (l : List T) (M : Env)
def RunV (C : Zj) (D : Yo) (L : Nat) (rP : PV) (t : T) (r : V × Word) : Prop := ansV (Z8 C D L lit123 [.p (node t), .p rP, .p src] []) = some (Z3 r)
abbrev J0 (op s : Word) (z : Int) (l : List T) : Heap := [.arr (.pv [.str op, .str s, .int .i64 z, .vsl (Zs l) l.length]) 0 0 none, .arr (.pv Yl) 0 0 (some 54)]
structure At123 (M : Env) (rP : PV) : Prop where
 t1 : M.get 1 = some (.p rP)
 t2 : M.get 2 = some (.p src)
 t3 : M.get 3 = some (.ptr 0 0 0)
 t6 : M.get 6 = some (.ptr 1 0 0)
theorem Qr2 (h : ∀ σ, C 32 [.p (node (.mk op s z l))] σ = some (.ret (.p (.bool false)), σ)) : RunV C D L rP (.mk op s z l) (.null, Qia) := by
 unfold RunV
 simp only [node, cells, Z3, val, Ja, Jz, Jb, Z9] at h ⊢
 generalize PV.vsl (Zs l) l.length = lv at *
 generalize src = sr at *
 rw [Zp, lit123_tree]
 simp [n123, Ql3, Qj3, Qkd, Qfm, Qfe, params, lit123, h]
theorem Qps (h : ∀ σ, C 32 [.p (node (.mk op s z l))] σ = some (.ret (.p (.bool true)), σ)) : ∃ M1, (∀ X, exec C L (.seq Ql3 (.seq Qj3 (.seq Qkd X))) ⟨params 0 [.p (node (.mk op s z l)), .p rP, .p src], [], []⟩ = exec C L X ⟨M1, [], J0 op s z l⟩) /\ At123 M1 rP := by
 simp only [node, cells, J0, Yl] at h ⊢
 generalize PV.vsl (Zs l) l.length = lv at *
 generalize hsr : src = sr at *
 exact ⟨_, fun X => by
   rw [seqN (by simp [Ql3, params]; rfl), seqN (by simp [Qj3, h]; rfl), seqN (by simp [Qkd, Qfm, Qfe]; rfl)], ⟨by simp, by simp; exact hsr.symm, by simp, by simp⟩⟩
def Rest (C : Zj) (D : Yo) (L : Nat) (M : Env) (op s : Word) (z : Int) (l : List T) (r : V × Word) : Prop := ansV (finX D lit123 (exec C L (.seq Gq (.seq D5 (.seq D2 (.seq Oj .ret)))) ⟨M, [], J0 op s z l⟩)) = some (Z3 r)
theorem Qxf (h : ∀ σ, C 32 [.p (node (.mk op s z l))] σ = some (.ret (.p (.bool true)), σ)) (r : V × Word) (hr : ∀ M, At123 M rP -> Rest C D L M op s z l r) : RunV C D L rP (.mk op s z l) r := by
 obtain ⟨M1, e, h1⟩ := Qps C L rP op s z l h
 unfold RunV
 rw [Zp, lit123_tree]
 unfold n123
 rw [e]
 exact hr M1 h1
theorem num123 (h : At123 M rP) (hc : ∀ (z : Int) σ, C 33 [int z] σ = some (.ret (.p (val (.num z))), σ)) : Rest C D L M [110, 117, 109] s z l (.num z, Zi) := by
 obtain ⟨t1, t2, t3, t6⟩ := h
 unfold Rest
 simp only [Z3, val, Ja, Jz, Jb, Z9, J0] at hc ⊢
 generalize PV.vsl (Zs l) l.length = lv at *
 generalize src = sr at *
 simp [Gq, Jf, Jd, Z2, Zl, Zm, Zk, Zh, Zg, Wc, Ub, lit123, t1, t2, t3, t6, hc]
theorem Qzq (h : At123 M rP) (hc : ∀ (s : Word) σ, C 34 [.p (.str s)] σ = some (.ret (.p (val (.text s))), σ)) : Rest C D L M [116, 101, 120, 116] s z l (.text s, Zi) := by
 obtain ⟨t1, t2, t3, t6⟩ := h
 unfold Rest
 simp only [Z3, val, Ja, Jz, Jb, Z9, J0] at hc ⊢
 generalize PV.vsl (Zs l) l.length = lv at *
 generalize src = sr at *
 simp [Gq, Jf, Jd, Z2, Zl, Zm, Zk, Zh, Zg, Ze, Zc, Zd, Tg, Rr, lit123, t1, t2, t3, t6, hc]
theorem Qyb (h : At123 M rP) : Rest C D L M [98, 111, 111, 108] s z l (.bool (z != 0), Zi) := by
 obtain ⟨t1, t2, t3, t6⟩ := h
 unfold Rest
 simp only [Z3, val, Ja, Jz, Jb, Z9, J0]
 generalize PV.vsl (Zs l) l.length = lv at *
 generalize src = sr at *
 simp [Gq, Jf, Jd, Z2, Zl, Zm, Zk, Zh, Zg, Ze, Zc, Zd, Zb, Za, Q9, P7, Nv, lit123, t1, t2, t3, t6]
theorem Qx1 (h : At123 M rP) : Rest C D L M [110, 117, 108, 108] s z l (.null, Zi) := by
 obtain ⟨t1, t2, t3, t6⟩ := h
 unfold Rest
 simp only [Z3, val, Ja, Jz, Jb, Z9, J0]
 generalize PV.vsl (Zs l) l.length = lv at *
 generalize src = sr at *
 simp [Gq, Jf, Jd, Z2, Zl, Zm, Zk, Zh, Zg, Ze, Zc, Zd, Zb, Za, Q9, Q8, Q6, Q7, Nq, Mf, lit123, t1, t2, t3, t6]
theorem Qxw (h : At123 M rP) (v : V) (w : Word) (hc : ∀ σ, C 35 [.p (node (.mk [99, 97, 115, 101] s z l)), .p rP, .p src] σ = some (.ret (.p (Z3 (v, w))), σ)) : Rest C D L M [99, 97, 115, 101] s z l (v, w) := by
 obtain ⟨t1, t2, t3, t6⟩ := h
 obtain ⟨p, q, r, x, ev'⟩ := vc4 v
 unfold Rest
 simp only [node, cells, Z3, val, ev', J0] at hc ⊢
 generalize PV.vsl (Zs l) l.length = lv at *
 generalize src = sr at *
 simp [Gq, Jf, Jd, Z2, Zl, Zm, Zk, Zh, Zg, Ze, Zc, Zd, Zb, Za, Q9, Q8, Q6, Q7, Qz, Qy, Qx, Ll, I8, lit123, t1, t2, t3, t6, hc]
theorem Qtz (h : At123 M rP) (v : V) (w : Word) (hc : ∀ σ, C 40 [.p (node (.mk [43] s z l)), .p rP, .p src] σ = some (.ret (.p (Z3 (v, w))), σ)) : Rest C D L M [43] s z l (v, w) := by
 obtain ⟨t1, t2, t3, t6⟩ := h
 obtain ⟨p, q, r, x, ev'⟩ := vc4 v
 unfold Rest
 simp only [node, cells, Z3, val, ev', J0] at hc ⊢
 generalize PV.vsl (Zs l) l.length = lv at *
 generalize src = sr at *
 simp [Gq, Jf, Jd, Z2, Zl, Zm, Zk, Zh, Zg, Ze, Zc, Zd, Zb, Za, Q9, Q8, Q6, Q7, Qz, Qy, Qx, Qw, Qv, Qu, Qt, Qr, Qq, Qs, Qo, Qp, Qn, Ql, Qk, Qj, Qi, Qh, Qg, Qf, Qd, Qe, Qc, Qa, Qb, Qm, Z4, Z0, lit123, t1, t2, t3, t6, hc]
theorem Qth (h : At123 M rP) (v : V) (w : Word) (hc : ∀ σ, C 40 [.p (node (.mk [45] s z l)), .p rP, .p src] σ = some (.ret (.p (Z3 (v, w))), σ)) : Rest C D L M [45] s z l (v, w) := by
 obtain ⟨t1, t2, t3, t6⟩ := h
 obtain ⟨p, q, r, x, ev'⟩ := vc4 v
 unfold Rest
 simp only [node, cells, Z3, val, ev', J0] at hc ⊢
 generalize PV.vsl (Zs l) l.length = lv at *
 generalize src = sr at *
 simp [Gq, Jf, Jd, Z2, Zl, Zm, Zk, Zh, Zg, Ze, Zc, Zd, Zb, Za, Q9, Q8, Q6, Q7, Qz, Qy, Qx, Qw, Qv, Qu, Qt, Qr, Qq, Qs, Qo, Qp, Qn, Ql, Qk, Qj, Qi, Qh, Qg, Qf, Qd, Qe, Qc, Qa, Qb, Qm, Z4, Z0, lit123, t1, t2, t3, t6, hc]
theorem Qr0 (h : At123 M rP) (v : V) (w : Word) (hc : ∀ σ, C 40 [.p (node (.mk [42] s z l)), .p rP, .p src] σ = some (.ret (.p (Z3 (v, w))), σ)) : Rest C D L M [42] s z l (v, w) := by
 obtain ⟨t1, t2, t3, t6⟩ := h
 obtain ⟨p, q, r, x, ev'⟩ := vc4 v
 unfold Rest
 simp only [node, cells, Z3, val, ev', J0] at hc ⊢
 generalize PV.vsl (Zs l) l.length = lv at *
 generalize src = sr at *
 simp [Gq, Jf, Jd, Z2, Zl, Zm, Zk, Zh, Zg, Ze, Zc, Zd, Zb, Za, Q9, Q8, Q6, Q7, Qz, Qy, Qx, Qw, Qv, Qu, Qt, Qr, Qq, Qs, Qo, Qp, Qn, Ql, Qk, Qj, Qi, Qh, Qg, Qf, Qd, Qe, Qc, Qa, Qb, Qm, Z4, Z0, lit123, t1, t2, t3, t6, hc]
theorem Qrr (h : At123 M rP) (v : V) (w : Word) (hc : ∀ σ, C 40 [.p (node (.mk [47] s z l)), .p rP, .p src] σ = some (.ret (.p (Z3 (v, w))), σ)) : Rest C D L M [47] s z l (v, w) := by
 obtain ⟨t1, t2, t3, t6⟩ := h
 obtain ⟨p, q, r, x, ev'⟩ := vc4 v
 unfold Rest
 simp only [node, cells, Z3, val, ev', J0] at hc ⊢
 generalize PV.vsl (Zs l) l.length = lv at *
 generalize src = sr at *
 simp [Gq, Jf, Jd, Z2, Zl, Zm, Zk, Zh, Zg, Ze, Zc, Zd, Zb, Za, Q9, Q8, Q6, Q7, Qz, Qy, Qx, Qw, Qv, Qu, Qt, Qr, Qq, Qs, Qo, Qp, Qn, Ql, Qk, Qj, Qi, Qh, Qg, Qf, Qd, Qe, Qc, Qa, Qb, Qm, Z4, Z0, lit123, t1, t2, t3, t6, hc]
theorem Qrp (h : At123 M rP) (v : V) (w : Word) (hc : ∀ σ, C 40 [.p (node (.mk [124, 124] s z l)), .p rP, .p src] σ = some (.ret (.p (Z3 (v, w))), σ)) : Rest C D L M [124, 124] s z l (v, w) := by
 obtain ⟨t1, t2, t3, t6⟩ := h
 obtain ⟨p, q, r, x, ev'⟩ := vc4 v
 unfold Rest
 simp only [node, cells, Z3, val, ev', J0] at hc ⊢
 generalize PV.vsl (Zs l) l.length = lv at *
 generalize src = sr at *
 simp [Gq, Jf, Jd, Z2, Zl, Zm, Zk, Zh, Zg, Ze, Zc, Zd, Zb, Za, Q9, Q8, Q6, Q7, Qz, Qy, Qx, Qw, Qv, Qu, Qt, Qr, Qq, Qs, Qo, Qp, Qn, Ql, Qk, Qj, Qi, Qh, Qg, Qf, Qd, Qe, Qc, Qa, Qb, Qm, Z4, Z0, lit123, t1, t2, t3, t6, hc]
theorem Qsx (h : At123 M rP) (v : V) (w : Word) (hc : ∀ σ, C 40 [.p (node (.mk [110, 101, 103] s z l)), .p rP, .p src] σ = some (.ret (.p (Z3 (v, w))), σ)) : Rest C D L M [110, 101, 103] s z l (v, w) := by
 obtain ⟨t1, t2, t3, t6⟩ := h
 obtain ⟨p, q, r, x, ev'⟩ := vc4 v
 unfold Rest
 simp only [node, cells, Z3, val, ev', J0] at hc ⊢
 generalize PV.vsl (Zs l) l.length = lv at *
 generalize src = sr at *
 simp [Gq, Jf, Jd, Z2, Zl, Zm, Zk, Zh, Zg, Ze, Zc, Zd, Zb, Za, Q9, Q8, Q6, Q7, Qz, Qy, Qx, Qw, Qv, Qu, Qt, Qr, Qq, Qs, Qo, Qp, Qn, Ql, Qk, Qj, Qi, Qh, Qg, Qf, Qd, Qe, Qc, Qa, Qb, Qm, Z4, Z0, lit123, t1, t2, t3, t6, hc]
theorem Qtp (h : At123 M rP) (v : V) (w : Word) (hc : ∀ σ, C 40 [.p (node (.mk [110, 117, 108, 108, 105, 102] s z l)), .p rP, .p src] σ = some (.ret (.p (Z3 (v, w))), σ)) : Rest C D L M [110, 117, 108, 108, 105, 102] s z l (v, w) := by
 obtain ⟨t1, t2, t3, t6⟩ := h
 obtain ⟨p, q, r, x, ev'⟩ := vc4 v
 unfold Rest
 simp only [node, cells, Z3, val, ev', J0] at hc ⊢
 generalize PV.vsl (Zs l) l.length = lv at *
 generalize src = sr at *
 simp [Gq, Jf, Jd, Z2, Zl, Zm, Zk, Zh, Zg, Ze, Zc, Zd, Zb, Za, Q9, Q8, Q6, Q7, Qz, Qy, Qx, Qw, Qv, Qu, Qt, Qr, Qq, Qs, Qo, Qp, Qn, Ql, Qk, Qj, Qi, Qh, Qg, Qf, Qd, Qe, Qc, Qa, Qb, Qm, Z4, Z0, lit123, t1, t2, t3, t6, hc]
theorem Qg7 (h : At123 M rP) (q : Tr) (w : Word) (hc : ∀ σ, C 41 [.p (node (.mk [97, 110, 100] s z l)), .p rP, .p src] σ = some (.ret (.p (truP (q, w))), σ)) (hb : ∀ (q : Tr) σ, C 42 [.p q.p] σ = some (.ret (.p (val (Bc q))), σ)) : Rest C D L M [97, 110, 100] s z l (if w = Zi then (Bc q, Zi) else (.null, w)) := by
 obtain ⟨t1, t2, t3, t6⟩ := h
 have hb := hb q
 obtain ⟨p, q', r, x, ev'⟩ := vc4 (Bc q)
 unfold Rest
 by_cases hw : w = Zi
 · rw [if_pos hw]
   simp only [node, cells, Z3, truP, val, ev', J0] at hc hb ⊢
   generalize PV.vsl (Zs l) l.length = lv at *
   generalize src = sr at *
   simp [Gq, Jf, Jd, Z2, Zl, Zm, Zk, Zh, Zg, Ze, Zc, Zd, Zb, Za, Q9, Q8, Q6, Q7, Qz, Qy, Qx, Qw, Qv, Qu, Qt, Qr, Qq, Qs, Qo, Qp, Qn, Ql, Qk, Qj, Qi, Qh, Qg, Qf, Qd, Qe, Qc, Qa, Qb, Qm, D5, D2, Gz, G0, Oj, lit123, t1, t2, t3, t6, hc, hb, hw]
 · rw [if_neg hw]
   have hw' : (w == Zi) = false := beq_eq_false_iff_ne.2 hw
   simp only [node, cells, Z3, truP, val, Ja, Jz, Jb, Z9, J0] at hc ⊢
   generalize PV.vsl (Zs l) l.length = lv at *
   generalize src = sr at *
   simp [Gq, Jf, Jd, Z2, Zl, Zm, Zk, Zh, Zg, Ze, Zc, Zd, Zb, Za, Q9, Q8, Q6, Q7, Qz, Qy, Qx, Qw, Qv, Qu, Qt, Qr, Qq, Qs, Qo, Qp, Qn, Ql, Qk, Qj, Qi, Qh, Qg, Qf, Qd, Qe, Qc, Qa, Qb, Qm, D5, D2, Gz, G0, lit123, t1, t2, t3, t6, hc, hw', bne]
theorem Qhv (h : At123 M rP) (q : Tr) (w : Word) (hc : ∀ σ, C 41 [.p (node (.mk [111, 114] s z l)), .p rP, .p src] σ = some (.ret (.p (truP (q, w))), σ)) (hb : ∀ (q : Tr) σ, C 42 [.p q.p] σ = some (.ret (.p (val (Bc q))), σ)) : Rest C D L M [111, 114] s z l (if w = Zi then (Bc q, Zi) else (.null, w)) := by
 obtain ⟨t1, t2, t3, t6⟩ := h
 have hb := hb q
 obtain ⟨p, q', r, x, ev'⟩ := vc4 (Bc q)
 unfold Rest
 by_cases hw : w = Zi
 · rw [if_pos hw]
   simp only [node, cells, Z3, truP, val, ev', J0] at hc hb ⊢
   generalize PV.vsl (Zs l) l.length = lv at *
   generalize src = sr at *
   simp [Gq, Jf, Jd, Z2, Zl, Zm, Zk, Zh, Zg, Ze, Zc, Zd, Zb, Za, Q9, Q8, Q6, Q7, Qz, Qy, Qx, Qw, Qv, Qu, Qt, Qr, Qq, Qs, Qo, Qp, Qn, Ql, Qk, Qj, Qi, Qh, Qg, Qf, Qd, Qe, Qc, Qa, Qb, Qm, D5, D2, Gz, G0, Oj, lit123, t1, t2, t3, t6, hc, hb, hw]
 · rw [if_neg hw]
   have hw' : (w == Zi) = false := beq_eq_false_iff_ne.2 hw
   simp only [node, cells, Z3, truP, val, Ja, Jz, Jb, Z9, J0] at hc ⊢
   generalize PV.vsl (Zs l) l.length = lv at *
   generalize src = sr at *
   simp [Gq, Jf, Jd, Z2, Zl, Zm, Zk, Zh, Zg, Ze, Zc, Zd, Zb, Za, Q9, Q8, Q6, Q7, Qz, Qy, Qx, Qw, Qv, Qu, Qt, Qr, Qq, Qs, Qo, Qp, Qn, Ql, Qk, Qj, Qi, Qh, Qg, Qf, Qd, Qe, Qc, Qa, Qb, Qm, D5, D2, Gz, G0, lit123, t1, t2, t3, t6, hc, hw', bne]
theorem Qgp (h : At123 M rP) (q : Tr) (w : Word) (hc : ∀ σ, C 41 [.p (node (.mk [110, 111, 116] s z l)), .p rP, .p src] σ = some (.ret (.p (truP (q, w))), σ)) (hb : ∀ (q : Tr) σ, C 42 [.p q.p] σ = some (.ret (.p (val (Bc q))), σ)) : Rest C D L M [110, 111, 116] s z l (if w = Zi then (Bc q, Zi) else (.null, w)) := by
 obtain ⟨t1, t2, t3, t6⟩ := h
 have hb := hb q
 obtain ⟨p, q', r, x, ev'⟩ := vc4 (Bc q)
 unfold Rest
 by_cases hw : w = Zi
 · rw [if_pos hw]
   simp only [node, cells, Z3, truP, val, ev', J0] at hc hb ⊢
   generalize PV.vsl (Zs l) l.length = lv at *
   generalize src = sr at *
   simp [Gq, Jf, Jd, Z2, Zl, Zm, Zk, Zh, Zg, Ze, Zc, Zd, Zb, Za, Q9, Q8, Q6, Q7, Qz, Qy, Qx, Qw, Qv, Qu, Qt, Qr, Qq, Qs, Qo, Qp, Qn, Ql, Qk, Qj, Qi, Qh, Qg, Qf, Qd, Qe, Qc, Qa, Qb, Qm, D5, D2, Gz, G0, Oj, lit123, t1, t2, t3, t6, hc, hb, hw]
 · rw [if_neg hw]
   have hw' : (w == Zi) = false := beq_eq_false_iff_ne.2 hw
   simp only [node, cells, Z3, truP, val, Ja, Jz, Jb, Z9, J0] at hc ⊢
   generalize PV.vsl (Zs l) l.length = lv at *
   generalize src = sr at *
   simp [Gq, Jf, Jd, Z2, Zl, Zm, Zk, Zh, Zg, Ze, Zc, Zd, Zb, Za, Q9, Q8, Q6, Q7, Qz, Qy, Qx, Qw, Qv, Qu, Qt, Qr, Qq, Qs, Qo, Qp, Qn, Ql, Qk, Qj, Qi, Qh, Qg, Qf, Qd, Qe, Qc, Qa, Qb, Qm, D5, D2, Gz, G0, lit123, t1, t2, t3, t6, hc, hw', bne]
theorem Qg5 (h : At123 M rP) (q : Tr) (w : Word) (hc : ∀ σ, C 41 [.p (node (.mk [105, 115] s z l)), .p rP, .p src] σ = some (.ret (.p (truP (q, w))), σ)) (hb : ∀ (q : Tr) σ, C 42 [.p q.p] σ = some (.ret (.p (val (Bc q))), σ)) : Rest C D L M [105, 115] s z l (if w = Zi then (Bc q, Zi) else (.null, w)) := by
 obtain ⟨t1, t2, t3, t6⟩ := h
 have hb := hb q
 obtain ⟨p, q', r, x, ev'⟩ := vc4 (Bc q)
 unfold Rest
 by_cases hw : w = Zi
 · rw [if_pos hw]
   simp only [node, cells, Z3, truP, val, ev', J0] at hc hb ⊢
   generalize PV.vsl (Zs l) l.length = lv at *
   generalize src = sr at *
   simp [Gq, Jf, Jd, Z2, Zl, Zm, Zk, Zh, Zg, Ze, Zc, Zd, Zb, Za, Q9, Q8, Q6, Q7, Qz, Qy, Qx, Qw, Qv, Qu, Qt, Qr, Qq, Qs, Qo, Qp, Qn, Ql, Qk, Qj, Qi, Qh, Qg, Qf, Qd, Qe, Qc, Qa, Qb, Qm, D5, D2, Gz, G0, Oj, lit123, t1, t2, t3, t6, hc, hb, hw]
 · rw [if_neg hw]
   have hw' : (w == Zi) = false := beq_eq_false_iff_ne.2 hw
   simp only [node, cells, Z3, truP, val, Ja, Jz, Jb, Z9, J0] at hc ⊢
   generalize PV.vsl (Zs l) l.length = lv at *
   generalize src = sr at *
   simp [Gq, Jf, Jd, Z2, Zl, Zm, Zk, Zh, Zg, Ze, Zc, Zd, Zb, Za, Q9, Q8, Q6, Q7, Qz, Qy, Qx, Qw, Qv, Qu, Qt, Qr, Qq, Qs, Qo, Qp, Qn, Ql, Qk, Qj, Qi, Qh, Qg, Qf, Qd, Qe, Qc, Qa, Qb, Qm, D5, D2, Gz, G0, lit123, t1, t2, t3, t6, hc, hw', bne]
theorem Qg2 (h : At123 M rP) (q : Tr) (w : Word) (hc : ∀ σ, C 41 [.p (node (.mk [101, 120, 105, 115, 116, 115] s z l)), .p rP, .p src] σ = some (.ret (.p (truP (q, w))), σ)) (hb : ∀ (q : Tr) σ, C 42 [.p q.p] σ = some (.ret (.p (val (Bc q))), σ)) : Rest C D L M [101, 120, 105, 115, 116, 115] s z l (if w = Zi then (Bc q, Zi) else (.null, w)) := by
 obtain ⟨t1, t2, t3, t6⟩ := h
 have hb := hb q
 obtain ⟨p, q', r, x, ev'⟩ := vc4 (Bc q)
 unfold Rest
 by_cases hw : w = Zi
 · rw [if_pos hw]
   simp only [node, cells, Z3, truP, val, ev', J0] at hc hb ⊢
   generalize PV.vsl (Zs l) l.length = lv at *
   generalize src = sr at *
   simp [Gq, Jf, Jd, Z2, Zl, Zm, Zk, Zh, Zg, Ze, Zc, Zd, Zb, Za, Q9, Q8, Q6, Q7, Qz, Qy, Qx, Qw, Qv, Qu, Qt, Qr, Qq, Qs, Qo, Qp, Qn, Ql, Qk, Qj, Qi, Qh, Qg, Qf, Qd, Qe, Qc, Qa, Qb, Qm, D5, D2, Gz, G0, Oj, lit123, t1, t2, t3, t6, hc, hb, hw]
 · rw [if_neg hw]
   have hw' : (w == Zi) = false := beq_eq_false_iff_ne.2 hw
   simp only [node, cells, Z3, truP, val, Ja, Jz, Jb, Z9, J0] at hc ⊢
   generalize PV.vsl (Zs l) l.length = lv at *
   generalize src = sr at *
   simp [Gq, Jf, Jd, Z2, Zl, Zm, Zk, Zh, Zg, Ze, Zc, Zd, Zb, Za, Q9, Q8, Q6, Q7, Qz, Qy, Qx, Qw, Qv, Qu, Qt, Qr, Qq, Qs, Qo, Qp, Qn, Ql, Qk, Qj, Qi, Qh, Qg, Qf, Qd, Qe, Qc, Qa, Qb, Qm, D5, D2, Gz, G0, lit123, t1, t2, t3, t6, hc, hw', bne]
theorem Qhm (h : At123 M rP) (q : Tr) (w : Word) (hc : ∀ σ, C 41 [.p (node (.mk [105, 110] s z l)), .p rP, .p src] σ = some (.ret (.p (truP (q, w))), σ)) (hb : ∀ (q : Tr) σ, C 42 [.p q.p] σ = some (.ret (.p (val (Bc q))), σ)) : Rest C D L M [105, 110] s z l (if w = Zi then (Bc q, Zi) else (.null, w)) := by
 obtain ⟨t1, t2, t3, t6⟩ := h
 have hb := hb q
 obtain ⟨p, q', r, x, ev'⟩ := vc4 (Bc q)
 unfold Rest
 by_cases hw : w = Zi
 · rw [if_pos hw]
   simp only [node, cells, Z3, truP, val, ev', J0] at hc hb ⊢
   generalize PV.vsl (Zs l) l.length = lv at *
   generalize src = sr at *
   simp [Gq, Jf, Jd, Z2, Zl, Zm, Zk, Zh, Zg, Ze, Zc, Zd, Zb, Za, Q9, Q8, Q6, Q7, Qz, Qy, Qx, Qw, Qv, Qu, Qt, Qr, Qq, Qs, Qo, Qp, Qn, Ql, Qk, Qj, Qi, Qh, Qg, Qf, Qd, Qe, Qc, Qa, Qb, Qm, D5, D2, Gz, G0, Oj, lit123, t1, t2, t3, t6, hc, hb, hw]
 · rw [if_neg hw]
   have hw' : (w == Zi) = false := beq_eq_false_iff_ne.2 hw
   simp only [node, cells, Z3, truP, val, Ja, Jz, Jb, Z9, J0] at hc ⊢
   generalize PV.vsl (Zs l) l.length = lv at *
   generalize src = sr at *
   simp [Gq, Jf, Jd, Z2, Zl, Zm, Zk, Zh, Zg, Ze, Zc, Zd, Zb, Za, Q9, Q8, Q6, Q7, Qz, Qy, Qx, Qw, Qv, Qu, Qt, Qr, Qq, Qs, Qo, Qp, Qn, Ql, Qk, Qj, Qi, Qh, Qg, Qf, Qd, Qe, Qc, Qa, Qb, Qm, D5, D2, Gz, G0, lit123, t1, t2, t3, t6, hc, hw', bne]
theorem Qgk (h : At123 M rP) (q : Tr) (w : Word) (hc : ∀ σ, C 41 [.p (node (.mk [97, 110, 121] s z l)), .p rP, .p src] σ = some (.ret (.p (truP (q, w))), σ)) (hb : ∀ (q : Tr) σ, C 42 [.p q.p] σ = some (.ret (.p (val (Bc q))), σ)) : Rest C D L M [97, 110, 121] s z l (if w = Zi then (Bc q, Zi) else (.null, w)) := by
 obtain ⟨t1, t2, t3, t6⟩ := h
 have hb := hb q
 obtain ⟨p, q', r, x, ev'⟩ := vc4 (Bc q)
 unfold Rest
 by_cases hw : w = Zi
 · rw [if_pos hw]
   simp only [node, cells, Z3, truP, val, ev', J0] at hc hb ⊢
   generalize PV.vsl (Zs l) l.length = lv at *
   generalize src = sr at *
   simp [Gq, Jf, Jd, Z2, Zl, Zm, Zk, Zh, Zg, Ze, Zc, Zd, Zb, Za, Q9, Q8, Q6, Q7, Qz, Qy, Qx, Qw, Qv, Qu, Qt, Qr, Qq, Qs, Qo, Qp, Qn, Ql, Qk, Qj, Qi, Qh, Qg, Qf, Qd, Qe, Qc, Qa, Qb, Qm, D5, D2, Gz, G0, Oj, lit123, t1, t2, t3, t6, hc, hb, hw]
 · rw [if_neg hw]
   have hw' : (w == Zi) = false := beq_eq_false_iff_ne.2 hw
   simp only [node, cells, Z3, truP, val, Ja, Jz, Jb, Z9, J0] at hc ⊢
   generalize PV.vsl (Zs l) l.length = lv at *
   generalize src = sr at *
   simp [Gq, Jf, Jd, Z2, Zl, Zm, Zk, Zh, Zg, Ze, Zc, Zd, Zb, Za, Q9, Q8, Q6, Q7, Qz, Qy, Qx, Qw, Qv, Qu, Qt, Qr, Qq, Qs, Qo, Qp, Qn, Ql, Qk, Qj, Qi, Qh, Qg, Qf, Qd, Qe, Qc, Qa, Qb, Qm, D5, D2, Gz, G0, lit123, t1, t2, t3, t6, hc, hw', bne]
theorem Qf9 (h : At123 M rP) (q : Tr) (w : Word) (hc : ∀ σ, C 41 [.p (node (.mk [97, 108, 108] s z l)), .p rP, .p src] σ = some (.ret (.p (truP (q, w))), σ)) (hb : ∀ (q : Tr) σ, C 42 [.p q.p] σ = some (.ret (.p (val (Bc q))), σ)) : Rest C D L M [97, 108, 108] s z l (if w = Zi then (Bc q, Zi) else (.null, w)) := by
 obtain ⟨t1, t2, t3, t6⟩ := h
 have hb := hb q
 obtain ⟨p, q', r, x, ev'⟩ := vc4 (Bc q)
 unfold Rest
 by_cases hw : w = Zi
 · rw [if_pos hw]
   simp only [node, cells, Z3, truP, val, ev', J0] at hc hb ⊢
   generalize PV.vsl (Zs l) l.length = lv at *
   generalize src = sr at *
   simp [Gq, Jf, Jd, Z2, Zl, Zm, Zk, Zh, Zg, Ze, Zc, Zd, Zb, Za, Q9, Q8, Q6, Q7, Qz, Qy, Qx, Qw, Qv, Qu, Qt, Qr, Qq, Qs, Qo, Qp, Qn, Ql, Qk, Qj, Qi, Qh, Qg, Qf, Qd, Qe, Qc, Qa, Qb, Qm, D5, D2, Gz, G0, Oj, lit123, t1, t2, t3, t6, hc, hb, hw]
 · rw [if_neg hw]
   have hw' : (w == Zi) = false := beq_eq_false_iff_ne.2 hw
   simp only [node, cells, Z3, truP, val, Ja, Jz, Jb, Z9, J0] at hc ⊢
   generalize PV.vsl (Zs l) l.length = lv at *
   generalize src = sr at *
   simp [Gq, Jf, Jd, Z2, Zl, Zm, Zk, Zh, Zg, Ze, Zc, Zd, Zb, Za, Q9, Q8, Q6, Q7, Qz, Qy, Qx, Qw, Qv, Qu, Qt, Qr, Qq, Qs, Qo, Qp, Qn, Ql, Qk, Qj, Qi, Qh, Qg, Qf, Qd, Qe, Qc, Qa, Qb, Qm, D5, D2, Gz, G0, lit123, t1, t2, t3, t6, hc, hw', bne]
theorem Qg1 (h : At123 M rP) (q : Tr) (w : Word) (hc : ∀ σ, C 41 [.p (node (.mk [98, 101, 116, 119, 101, 101, 110] s z l)), .p rP, .p src] σ = some (.ret (.p (truP (q, w))), σ)) (hb : ∀ (q : Tr) σ, C 42 [.p q.p] σ = some (.ret (.p (val (Bc q))), σ)) : Rest C D L M [98, 101, 116, 119, 101, 101, 110] s z l (if w = Zi then (Bc q, Zi) else (.null, w)) := by
 obtain ⟨t1, t2, t3, t6⟩ := h
 have hb := hb q
 obtain ⟨p, q', r, x, ev'⟩ := vc4 (Bc q)
 unfold Rest
 by_cases hw : w = Zi
 · rw [if_pos hw]
   simp only [node, cells, Z3, truP, val, ev', J0] at hc hb ⊢
   generalize PV.vsl (Zs l) l.length = lv at *
   generalize src = sr at *
   simp [Gq, Jf, Jd, Z2, Zl, Zm, Zk, Zh, Zg, Ze, Zc, Zd, Zb, Za, Q9, Q8, Q6, Q7, Qz, Qy, Qx, Qw, Qv, Qu, Qt, Qr, Qq, Qs, Qo, Qp, Qn, Ql, Qk, Qj, Qi, Qh, Qg, Qf, Qd, Qe, Qc, Qa, Qb, Qm, D5, D2, Gz, G0, Oj, lit123, t1, t2, t3, t6, hc, hb, hw]
 · rw [if_neg hw]
   have hw' : (w == Zi) = false := beq_eq_false_iff_ne.2 hw
   simp only [node, cells, Z3, truP, val, Ja, Jz, Jb, Z9, J0] at hc ⊢
   generalize PV.vsl (Zs l) l.length = lv at *
   generalize src = sr at *
   simp [Gq, Jf, Jd, Z2, Zl, Zm, Zk, Zh, Zg, Ze, Zc, Zd, Zb, Za, Q9, Q8, Q6, Q7, Qz, Qy, Qx, Qw, Qv, Qu, Qt, Qr, Qq, Qs, Qo, Qp, Qn, Ql, Qk, Qj, Qi, Qh, Qg, Qf, Qd, Qe, Qc, Qa, Qb, Qm, D5, D2, Gz, G0, lit123, t1, t2, t3, t6, hc, hw', bne]
theorem Qg3 (h : At123 M rP) (q : Tr) (w : Word) (hc : ∀ σ, C 41 [.p (node (.mk [108, 105, 107, 101] s z l)), .p rP, .p src] σ = some (.ret (.p (truP (q, w))), σ)) (hb : ∀ (q : Tr) σ, C 42 [.p q.p] σ = some (.ret (.p (val (Bc q))), σ)) : Rest C D L M [108, 105, 107, 101] s z l (if w = Zi then (Bc q, Zi) else (.null, w)) := by
 obtain ⟨t1, t2, t3, t6⟩ := h
 have hb := hb q
 obtain ⟨p, q', r, x, ev'⟩ := vc4 (Bc q)
 unfold Rest
 by_cases hw : w = Zi
 · rw [if_pos hw]
   simp only [node, cells, Z3, truP, val, ev', J0] at hc hb ⊢
   generalize PV.vsl (Zs l) l.length = lv at *
   generalize src = sr at *
   simp [Gq, Jf, Jd, Z2, Zl, Zm, Zk, Zh, Zg, Ze, Zc, Zd, Zb, Za, Q9, Q8, Q6, Q7, Qz, Qy, Qx, Qw, Qv, Qu, Qt, Qr, Qq, Qs, Qo, Qp, Qn, Ql, Qk, Qj, Qi, Qh, Qg, Qf, Qd, Qe, Qc, Qa, Qb, Qm, D5, D2, Gz, G0, Oj, lit123, t1, t2, t3, t6, hc, hb, hw]
 · rw [if_neg hw]
   have hw' : (w == Zi) = false := beq_eq_false_iff_ne.2 hw
   simp only [node, cells, Z3, truP, val, Ja, Jz, Jb, Z9, J0] at hc ⊢
   generalize PV.vsl (Zs l) l.length = lv at *
   generalize src = sr at *
   simp [Gq, Jf, Jd, Z2, Zl, Zm, Zk, Zh, Zg, Ze, Zc, Zd, Zb, Za, Q9, Q8, Q6, Q7, Qz, Qy, Qx, Qw, Qv, Qu, Qt, Qr, Qq, Qs, Qo, Qp, Qn, Ql, Qk, Qj, Qi, Qh, Qg, Qf, Qd, Qe, Qc, Qa, Qb, Qm, D5, D2, Gz, G0, lit123, t1, t2, t3, t6, hc, hw', bne]
theorem Qdb (h : At123 M rP) (q : Tr) (w : Word) (hc : ∀ σ, C 41 [.p (node (.mk [61] s z l)), .p rP, .p src] σ = some (.ret (.p (truP (q, w))), σ)) (hb : ∀ (q : Tr) σ, C 42 [.p q.p] σ = some (.ret (.p (val (Bc q))), σ)) : Rest C D L M [61] s z l (if w = Zi then (Bc q, Zi) else (.null, w)) := by
 obtain ⟨t1, t2, t3, t6⟩ := h
 have hb := hb q
 obtain ⟨p, q', r, x, ev'⟩ := vc4 (Bc q)
 unfold Rest
 by_cases hw : w = Zi
 · rw [if_pos hw]
   simp only [node, cells, Z3, truP, val, ev', J0] at hc hb ⊢
   generalize PV.vsl (Zs l) l.length = lv at *
   generalize src = sr at *
   simp [Gq, Jf, Jd, Z2, Zl, Zm, Zk, Zh, Zg, Ze, Zc, Zd, Zb, Za, Q9, Q8, Q6, Q7, Qz, Qy, Qx, Qw, Qv, Qu, Qt, Qr, Qq, Qs, Qo, Qp, Qn, Ql, Qk, Qj, Qi, Qh, Qg, Qf, Qd, Qe, Qc, Qa, Qb, Qm, D5, D2, Gz, G0, Oj, lit123, t1, t2, t3, t6, hc, hb, hw]
 · rw [if_neg hw]
   have hw' : (w == Zi) = false := beq_eq_false_iff_ne.2 hw
   simp only [node, cells, Z3, truP, val, Ja, Jz, Jb, Z9, J0] at hc ⊢
   generalize PV.vsl (Zs l) l.length = lv at *
   generalize src = sr at *
   simp [Gq, Jf, Jd, Z2, Zl, Zm, Zk, Zh, Zg, Ze, Zc, Zd, Zb, Za, Q9, Q8, Q6, Q7, Qz, Qy, Qx, Qw, Qv, Qu, Qt, Qr, Qq, Qs, Qo, Qp, Qn, Ql, Qk, Qj, Qi, Qh, Qg, Qf, Qd, Qe, Qc, Qa, Qb, Qm, D5, D2, Gz, G0, lit123, t1, t2, t3, t6, hc, hw', bne]
theorem Qc5 (h : At123 M rP) (q : Tr) (w : Word) (hc : ∀ σ, C 41 [.p (node (.mk [60, 62] s z l)), .p rP, .p src] σ = some (.ret (.p (truP (q, w))), σ)) (hb : ∀ (q : Tr) σ, C 42 [.p q.p] σ = some (.ret (.p (val (Bc q))), σ)) : Rest C D L M [60, 62] s z l (if w = Zi then (Bc q, Zi) else (.null, w)) := by
 obtain ⟨t1, t2, t3, t6⟩ := h
 have hb := hb q
 obtain ⟨p, q', r, x, ev'⟩ := vc4 (Bc q)
 unfold Rest
 by_cases hw : w = Zi
 · rw [if_pos hw]
   simp only [node, cells, Z3, truP, val, ev', J0] at hc hb ⊢
   generalize PV.vsl (Zs l) l.length = lv at *
   generalize src = sr at *
   simp [Gq, Jf, Jd, Z2, Zl, Zm, Zk, Zh, Zg, Ze, Zc, Zd, Zb, Za, Q9, Q8, Q6, Q7, Qz, Qy, Qx, Qw, Qv, Qu, Qt, Qr, Qq, Qs, Qo, Qp, Qn, Ql, Qk, Qj, Qi, Qh, Qg, Qf, Qd, Qe, Qc, Qa, Qb, Qm, D5, D2, Gz, G0, Oj, lit123, t1, t2, t3, t6, hc, hb, hw]
 · rw [if_neg hw]
   have hw' : (w == Zi) = false := beq_eq_false_iff_ne.2 hw
   simp only [node, cells, Z3, truP, val, Ja, Jz, Jb, Z9, J0] at hc ⊢
   generalize PV.vsl (Zs l) l.length = lv at *
   generalize src = sr at *
   simp [Gq, Jf, Jd, Z2, Zl, Zm, Zk, Zh, Zg, Ze, Zc, Zd, Zb, Za, Q9, Q8, Q6, Q7, Qz, Qy, Qx, Qw, Qv, Qu, Qt, Qr, Qq, Qs, Qo, Qp, Qn, Ql, Qk, Qj, Qi, Qh, Qg, Qf, Qd, Qe, Qc, Qa, Qb, Qm, D5, D2, Gz, G0, lit123, t1, t2, t3, t6, hc, hw', bne]
theorem Qcz (h : At123 M rP) (q : Tr) (w : Word) (hc : ∀ σ, C 41 [.p (node (.mk [60] s z l)), .p rP, .p src] σ = some (.ret (.p (truP (q, w))), σ)) (hb : ∀ (q : Tr) σ, C 42 [.p q.p] σ = some (.ret (.p (val (Bc q))), σ)) : Rest C D L M [60] s z l (if w = Zi then (Bc q, Zi) else (.null, w)) := by
 obtain ⟨t1, t2, t3, t6⟩ := h
 have hb := hb q
 obtain ⟨p, q', r, x, ev'⟩ := vc4 (Bc q)
 unfold Rest
 by_cases hw : w = Zi
 · rw [if_pos hw]
   simp only [node, cells, Z3, truP, val, ev', J0] at hc hb ⊢
   generalize PV.vsl (Zs l) l.length = lv at *
   generalize src = sr at *
   simp [Gq, Jf, Jd, Z2, Zl, Zm, Zk, Zh, Zg, Ze, Zc, Zd, Zb, Za, Q9, Q8, Q6, Q7, Qz, Qy, Qx, Qw, Qv, Qu, Qt, Qr, Qq, Qs, Qo, Qp, Qn, Ql, Qk, Qj, Qi, Qh, Qg, Qf, Qd, Qe, Qc, Qa, Qb, Qm, D5, D2, Gz, G0, Oj, lit123, t1, t2, t3, t6, hc, hb, hw]
 · rw [if_neg hw]
   have hw' : (w == Zi) = false := beq_eq_false_iff_ne.2 hw
   simp only [node, cells, Z3, truP, val, Ja, Jz, Jb, Z9, J0] at hc ⊢
   generalize PV.vsl (Zs l) l.length = lv at *
   generalize src = sr at *
   simp [Gq, Jf, Jd, Z2, Zl, Zm, Zk, Zh, Zg, Ze, Zc, Zd, Zb, Za, Q9, Q8, Q6, Q7, Qz, Qy, Qx, Qw, Qv, Qu, Qt, Qr, Qq, Qs, Qo, Qp, Qn, Ql, Qk, Qj, Qi, Qh, Qg, Qf, Qd, Qe, Qc, Qa, Qb, Qm, D5, D2, Gz, G0, lit123, t1, t2, t3, t6, hc, hw', bne]
theorem Qds (h : At123 M rP) (q : Tr) (w : Word) (hc : ∀ σ, C 41 [.p (node (.mk [60, 61] s z l)), .p rP, .p src] σ = some (.ret (.p (truP (q, w))), σ)) (hb : ∀ (q : Tr) σ, C 42 [.p q.p] σ = some (.ret (.p (val (Bc q))), σ)) : Rest C D L M [60, 61] s z l (if w = Zi then (Bc q, Zi) else (.null, w)) := by
 obtain ⟨t1, t2, t3, t6⟩ := h
 have hb := hb q
 obtain ⟨p, q', r, x, ev'⟩ := vc4 (Bc q)
 unfold Rest
 by_cases hw : w = Zi
 · rw [if_pos hw]
   simp only [node, cells, Z3, truP, val, ev', J0] at hc hb ⊢
   generalize PV.vsl (Zs l) l.length = lv at *
   generalize src = sr at *
   simp [Gq, Jf, Jd, Z2, Zl, Zm, Zk, Zh, Zg, Ze, Zc, Zd, Zb, Za, Q9, Q8, Q6, Q7, Qz, Qy, Qx, Qw, Qv, Qu, Qt, Qr, Qq, Qs, Qo, Qp, Qn, Ql, Qk, Qj, Qi, Qh, Qg, Qf, Qd, Qe, Qc, Qa, Qb, Qm, D5, D2, Gz, G0, Oj, lit123, t1, t2, t3, t6, hc, hb, hw]
 · rw [if_neg hw]
   have hw' : (w == Zi) = false := beq_eq_false_iff_ne.2 hw
   simp only [node, cells, Z3, truP, val, Ja, Jz, Jb, Z9, J0] at hc ⊢
   generalize PV.vsl (Zs l) l.length = lv at *
   generalize src = sr at *
   simp [Gq, Jf, Jd, Z2, Zl, Zm, Zk, Zh, Zg, Ze, Zc, Zd, Zb, Za, Q9, Q8, Q6, Q7, Qz, Qy, Qx, Qw, Qv, Qu, Qt, Qr, Qq, Qs, Qo, Qp, Qn, Ql, Qk, Qj, Qi, Qh, Qg, Qf, Qd, Qe, Qc, Qa, Qb, Qm, D5, D2, Gz, G0, lit123, t1, t2, t3, t6, hc, hw', bne]
theorem Qc7 (h : At123 M rP) (q : Tr) (w : Word) (hc : ∀ σ, C 41 [.p (node (.mk [62] s z l)), .p rP, .p src] σ = some (.ret (.p (truP (q, w))), σ)) (hb : ∀ (q : Tr) σ, C 42 [.p q.p] σ = some (.ret (.p (val (Bc q))), σ)) : Rest C D L M [62] s z l (if w = Zi then (Bc q, Zi) else (.null, w)) := by
 obtain ⟨t1, t2, t3, t6⟩ := h
 have hb := hb q
 obtain ⟨p, q', r, x, ev'⟩ := vc4 (Bc q)
 unfold Rest
 by_cases hw : w = Zi
 · rw [if_pos hw]
   simp only [node, cells, Z3, truP, val, ev', J0] at hc hb ⊢
   generalize PV.vsl (Zs l) l.length = lv at *
   generalize src = sr at *
   simp [Gq, Jf, Jd, Z2, Zl, Zm, Zk, Zh, Zg, Ze, Zc, Zd, Zb, Za, Q9, Q8, Q6, Q7, Qz, Qy, Qx, Qw, Qv, Qu, Qt, Qr, Qq, Qs, Qo, Qp, Qn, Ql, Qk, Qj, Qi, Qh, Qg, Qf, Qd, Qe, Qc, Qa, Qb, Qm, D5, D2, Gz, G0, Oj, lit123, t1, t2, t3, t6, hc, hb, hw]
 · rw [if_neg hw]
   have hw' : (w == Zi) = false := beq_eq_false_iff_ne.2 hw
   simp only [node, cells, Z3, truP, val, Ja, Jz, Jb, Z9, J0] at hc ⊢
   generalize PV.vsl (Zs l) l.length = lv at *
   generalize src = sr at *
   simp [Gq, Jf, Jd, Z2, Zl, Zm, Zk, Zh, Zg, Ze, Zc, Zd, Zb, Za, Q9, Q8, Q6, Q7, Qz, Qy, Qx, Qw, Qv, Qu, Qt, Qr, Qq, Qs, Qo, Qp, Qn, Ql, Qk, Qj, Qi, Qh, Qg, Qf, Qd, Qe, Qc, Qa, Qb, Qm, D5, D2, Gz, G0, lit123, t1, t2, t3, t6, hc, hw', bne]
theorem Qdk (h : At123 M rP) (q : Tr) (w : Word) (hc : ∀ σ, C 41 [.p (node (.mk [62, 61] s z l)), .p rP, .p src] σ = some (.ret (.p (truP (q, w))), σ)) (hb : ∀ (q : Tr) σ, C 42 [.p q.p] σ = some (.ret (.p (val (Bc q))), σ)) : Rest C D L M [62, 61] s z l (if w = Zi then (Bc q, Zi) else (.null, w)) := by
 obtain ⟨t1, t2, t3, t6⟩ := h
 have hb := hb q
 obtain ⟨p, q', r, x, ev'⟩ := vc4 (Bc q)
 unfold Rest
 by_cases hw : w = Zi
 · rw [if_pos hw]
   simp only [node, cells, Z3, truP, val, ev', J0] at hc hb ⊢
   generalize PV.vsl (Zs l) l.length = lv at *
   generalize src = sr at *
   simp [Gq, Jf, Jd, Z2, Zl, Zm, Zk, Zh, Zg, Ze, Zc, Zd, Zb, Za, Q9, Q8, Q6, Q7, Qz, Qy, Qx, Qw, Qv, Qu, Qt, Qr, Qq, Qs, Qo, Qp, Qn, Ql, Qk, Qj, Qi, Qh, Qg, Qf, Qd, Qe, Qc, Qa, Qb, Qm, D5, D2, Gz, G0, Oj, lit123, t1, t2, t3, t6, hc, hb, hw]
 · rw [if_neg hw]
   have hw' : (w == Zi) = false := beq_eq_false_iff_ne.2 hw
   simp only [node, cells, Z3, truP, val, Ja, Jz, Jb, Z9, J0] at hc ⊢
   generalize PV.vsl (Zs l) l.length = lv at *
   generalize src = sr at *
   simp [Gq, Jf, Jd, Z2, Zl, Zm, Zk, Zh, Zg, Ze, Zc, Zd, Zb, Za, Q9, Q8, Q6, Q7, Qz, Qy, Qx, Qw, Qv, Qu, Qt, Qr, Qq, Qs, Qo, Qp, Qn, Ql, Qk, Qj, Qi, Qh, Qg, Qf, Qd, Qe, Qc, Qa, Qb, Qm, D5, D2, Gz, G0, lit123, t1, t2, t3, t6, hc, hw', bne]
end
end Go.Ab.Keep
