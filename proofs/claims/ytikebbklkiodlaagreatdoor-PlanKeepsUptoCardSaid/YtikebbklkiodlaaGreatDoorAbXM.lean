/- XM -/
import Derived.Test.YtikebbklkiodlaaGreatDoorAbXG
set_option maxRecDepth 1000000
set_option linter.all false
namespace Go.Ab.Keep
open Go Go.Ab Go.Ab.Plan Go.Ab.Key Go.Ab.Cnt Go.Ab.Turn Go.Proofs
abbrev Qn2 : Word := [50, 50, 48, 49, 56]
section
variable [Mx] (C : Zj) (L : Nat) (b k : Int) (s : Word) (m : Bool) (i : Nat) (v : V) (w : Word) (M : Env)
theorem Qxq (h : At157 M s m i w) (hi : s.length <= i) : ∃ M', exec C L Nm ⟨M, [], Gh b k v⟩ = some (.exit 0, ⟨M', [], Gh b k v⟩) /\ At157 M' s m i w := by
 have hl : ((i : Int) < (s.length : Int)) = False := eq_false (by omega)
 have hl' : (i < s.length) = False := eq_false (by omega)
 refine ⟨[(45, .p (.bool false)), (44, int s.length), (43, .p (.str s)), (42, int i)] ++ M, by simp [Nm, Ti, Tu, Tq, F7, L4, Lf, Ic, Ly, Lk, Mc, Lz, H7, H0, N6, Fv, Te, h.t0, h.t9, hl, hl'], h.app _ (fun t ht => ?_)⟩
 have : ∀ j, 10 <= j -> ¬ j = t := fun j hj he => by omega
 simp [this, Env.get]
theorem Qh7 (h : At157 M s m i w) (hi : i < 9223372036854775807) (H : Heap) : ∃ M', exec C L Te ⟨M, [], H⟩ = some (.normal, ⟨M', [], H⟩) /\ At157 M' s m (i + 1) w := by
 have e1 : IntKind.i64.wrap ((i : Int) + 1) = (i : Int) + 1 := J5 _ (by omega) (by omega)
 exact ⟨_, by simp [Te, h.t9, e1]; rfl, ⟨by simp [h.t0], by simp [h.t3], by simp [h.t4], by simp [h.t6], by simp [h.t7], by simp [h.t8], by simp⟩⟩
theorem Qx3 (h : At157 M s m i w) (c : UInt8) (hc : s[i]? = some c) (H : Heap) : ∃ (M' : Env) (bad : Bool), exec C L Ic ⟨M, [], H⟩ = some (.normal, ⟨M', [], H⟩) /\ M'.get 57 = some (.p (.bool bad)) /\ At157 M' s m i w := by
 have hi0 : (0 : Int) <= (i : Int) := by omega
 have f1 : (((c.toNat : Int) < 48) = True) ∨ (((c.toNat : Int) < 48) = False) := by by_cases q : (c.toNat : Int) < 48 <;> simp [q]
 rcases f1 with f1 | f1
 · exact ⟨_, true, by simp [Ic, Zt, h.t0, h.t9, hc, f1]; rfl, by simp, ⟨by simp [h.t0], by simp [h.t3], by simp [h.t4], by simp [h.t6], by simp [h.t7], by simp [h.t8], by simp [h.t9]⟩⟩
 · exact ⟨_, decide ((57 : Int) < (c.toNat : Int)), by simp [Ic, Zt, h.t0, h.t9, hc, f1]; rfl, by simp, ⟨by simp [h.t0], by simp [h.t3], by simp [h.t4], by simp [h.t6], by simp [h.t7], by simp [h.t8], by simp [h.t9]⟩⟩
theorem go157 (hE : E157 C) (hv : okV v) (h : At157 M s m i w) (c : UInt8) (hc : s[i]? = some c) (hm : s.length <= 1048576) :
   (∃ M', exec C L Nm ⟨M, [], Gh b k v⟩ = some (.ret, ⟨M', [], Gh b k v⟩) /\ M'.get 4 = some (.ptr 1 0 0) /\ M'.get 5 = some (.p (.str Qn2))) ∨
   (∃ v' w', okV v' /\ ∃ M', exec C L Nm ⟨M, [], Gh b k v⟩ = some (.normal, ⟨M', [], Gh b k v'⟩) /\ At157 M' s m (i + 1) w') := by
 obtain ⟨hi, _⟩ := List.getElem?_eq_some_iff.1 hc
 have hl1 : ((i : Int) < (s.length : Int)) = True := eq_true (by omega)
 have hl2 : (i < s.length) = True := eq_true hi
 have ha : At157 ([(45, .p (.bool true)), (44, int s.length), (43, .p (.str s)), (42, int i)] ++ M) s m i w := h.app _ (fun t ht => by
   have : ∀ j, 10 <= j -> ¬ j = t := fun j hj he => by omega
   simp [this, Env.get])
 have e0 : exec C L Ti ⟨M, [], Gh b k v⟩ = some (.normal, ⟨[(45, .p (.bool true)), (44, int s.length), (43, .p (.str s)), (42, int i)] ++ M, [], Gh b k v⟩) := by
   simp [Ti, Tu, Tq, h.t0, h.t9, hl1, hl2]
 obtain ⟨M1, bad, e1, g57, h1⟩ := Qx3 C L s m i w _ ha c hc (Gh b k v)
 unfold Nm
 rw [seqN e0]
 cases bad with
 | true =>
   have h0 : vc .null = [.int .i64 0, .int .i64 0, .str [], .bool false] := rfl
   refine .inl ⟨_, by
     refine seqR ?_
     unfold F7 L4 Lf
     refine E5 ?_
     rw [<- Zn, seqN e1]
     simp [Ly, g57, h1.t4, Gh, h0]
     rfl, by simp [h1.t4], by simp⟩
 | false =>
   refine .inr ?_
   have e2 : ∀ X, exec C L (.seq Lf X) ⟨[(45, .p (.bool true)), (44, int s.length), (43, .p (.str s)), (42, int i)] ++ M, [], Gh b k v⟩ = exec C L X ⟨M1, [], Gh b k v⟩ := by
     intro X
     unfold Lf
     rw [<- Zn, seqN e1, seqN (by simp [Ly, g57]; rfl)]
   by_cases hw : w = Zi
   · have h2 : At157 ([(60, .p (.bool false)), (59, .p (.str w))] ++ M1) s m i w := h1.app _ (fun t ht => by
       have : ∀ j, 10 <= j -> ¬ j = t := fun j hj he => by omega
       simp [this, Env.get])
     have e3 : exec C L Lk ⟨M1, [], Gh b k v⟩ = some (.normal, ⟨[(60, .p (.bool false)), (59, .p (.str w))] ++ M1, [], Gh b k v⟩) := by
       simp [Lk, Mc, Lz, h1.t8, hw]
     obtain ⟨v1, w1, hv1, M3, e4, h3⟩ := mul157 C L b k s m i v w _ hE h2
     by_cases hw1 : w1 = Zi
     · have h4 : At157 ([(68, .p (.bool true)), (67, .p (.str w1))] ++ M3) s m i w1 := h3.app _ (fun t ht => by
         have : ∀ j, 10 <= j -> ¬ j = t := fun j hj he => by omega
         simp [this, Env.get])
       have e5 : exec C L H0 ⟨M3, [], Gh b k v1⟩ = some (.normal, ⟨[(68, .p (.bool true)), (67, .p (.str w1))] ++ M3, [], Gh b k v1⟩) := by
         simp [H0, h3.t8, hw1]
       obtain ⟨v2, w2, hv2, M5, e6, h5⟩ := sub157 C L b k s m i v1 w1 _ hE h4 c hc
       obtain ⟨M6, e7, h6⟩ := Qh7 C L s m i w2 M5 h5 (by omega) (Gh b k v2)
       refine ⟨v2, w2, hv2, M6, ?_, h6⟩
       have e8 : exec C L F7 ⟨[(45, .p (.bool true)), (44, int s.length), (43, .p (.str s)), (42, int i)] ++ M, [], Gh b k v⟩ = some (.normal, ⟨M5, [], Gh b k v2⟩) := by
         unfold F7 L4
         refine Lp ?_
         rw [e2, seqN e3, seqN e4, seqN e5]
         unfold N6
         rw [y5 (by rfl)]
         exact e6
       rw [seqN e8]
       exact e7
     · have hw1' : (w1 == Zi) = false := beq_eq_false_iff_ne.2 hw1
       have h4 : At157 ([(68, .p (.bool false)), (67, .p (.str w1))] ++ M3) s m i w1 := h3.app _ (fun t ht => by
         have : ∀ j, 10 <= j -> ¬ j = t := fun j hj he => by omega
         simp [this, Env.get])
       have e5 : exec C L H0 ⟨M3, [], Gh b k v1⟩ = some (.normal, ⟨[(68, .p (.bool false)), (67, .p (.str w1))] ++ M3, [], Gh b k v1⟩) := by
         simp [H0, h3.t8, hw1']
       obtain ⟨M6, e7, h6⟩ := Qh7 C L s m i w1 _ h4 (by omega) (Gh b k v1)
       refine ⟨v1, w1, hv1, M6, ?_, h6⟩
       have e8 : exec C L F7 ⟨[(45, .p (.bool true)), (44, int s.length), (43, .p (.str s)), (42, int i)] ++ M, [], Gh b k v⟩ = some (.normal, ⟨[(68, .p (.bool false)), (67, .p (.str w1))] ++ M3, [], Gh b k v1⟩) := by
         unfold F7 L4
         refine Lp ?_
         rw [e2, seqN e3, seqN e4, seqN e5]
         unfold N6
         rw [Tv (by rfl)]
         rfl
       rw [seqN e8]
       exact e7
   · have hw' : (w == Zi) = false := beq_eq_false_iff_ne.2 hw
     have h2 : At157 ([(60, .p (.bool true)), (59, .p (.str w))] ++ M1) s m i w := h1.app _ (fun t ht => by
       have : ∀ j, 10 <= j -> ¬ j = t := fun j hj he => by omega
       simp [this, Env.get])
     obtain ⟨M6, e7, h6⟩ := Qh7 C L s m i w _ h2 (by omega) (Gh b k v)
     refine ⟨v, w, hv, M6, ?_, h6⟩
     have e8 : exec C L F7 ⟨[(45, .p (.bool true)), (44, int s.length), (43, .p (.str s)), (42, int i)] ++ M, [], Gh b k v⟩ = some (.normal, ⟨[(60, .p (.bool true)), (59, .p (.str w))] ++ M1, [], Gh b k v⟩) := by
       unfold F7 L4
       refine F0 (id := 1) ?_
       rw [e2]
       exact seqX (by simp [Lk, Mc, Lz, h1.t8, hw'])
     rw [seqN e8]
     exact e7
end
theorem Qp2 [Mx] (C : Zj) (L : Nat) (b k : Int) (s : Word) (m : Bool) (hE : E157 C) (hm : s.length <= 1048576) : ∀ (d f i : Nat) (v : V) (w : Word) (M : Env), okV v -> At157 M s m i w -> s.length - i <= d -> d < f ->
   (∃ M' v', iter (exec C L Nm) none f ⟨M, [], Gh b k v⟩ = some (.ret, ⟨M', [], Gh b k v'⟩) /\ M'.get 4 = some (.ptr 1 0 0) /\ M'.get 5 = some (.p (.str Qn2))) ∨
   (∃ M' v' w' i', okV v' /\ iter (exec C L Nm) none f ⟨M, [], Gh b k v⟩ = some (.exit 0, ⟨M', [], Gh b k v'⟩) /\ At157 M' s m i' w')
 | d, f, i, v, w, M, hv, h, hd, hf => by
   obtain ⟨f, rfl⟩ : ∃ m, f = m + 1 := ⟨f - 1, by omega⟩
   by_cases hi : s.length <= i
   · obtain ⟨M', e, g⟩ := Qxq C L b k s m i v w M h hi
     exact .inr ⟨M', v, w, i, hv, by simp only [iter, St.keep, e], g⟩
   · have hi : i < s.length := by omega
     obtain ⟨d, rfl⟩ : ∃ m, d = m + 1 := ⟨d - 1, by omega⟩
     rcases go157 C L b k s m i v w M hE hv h s[i] (List.getElem?_eq_getElem hi) hm with ⟨M', e, g4, g5⟩ | ⟨v1, w1, hv1, M1, e, h1⟩
     · exact .inl ⟨M', v, by simp only [iter, St.keep, e], g4, g5⟩
     · rcases Qp2 C L b k s m hE hm d f (i + 1) v1 w1 M1 hv1 h1 (by omega) (by omega) with ⟨M', v', e2, g4, g5⟩ | ⟨M', v', w', i', hv', e2, g⟩
       · exact .inl ⟨M', v', by simp only [iter, St.keep, e]; exact e2, g4, g5⟩
       · exact .inr ⟨M', v', w', i', hv', by simp only [iter, St.keep, e]; exact e2, g⟩
end Go.Ab.Keep
namespace Go.Ab.Keep
open Go Go.Ab Go.Ab.Plan Go.Ab.Key Go.Ab.Cnt Go.Ab.Turn Go.Proofs
section
variable [Mx] (C : Zj) (L : Nat) (b k : Int) (s : Word) (M : Env)
abbrev wu (b k : Int) : Heap := [.arr (.pv [.int .i64 b, .int .i64 k]) 0 0 none, .arr (.pv [.int .i64 0, .int .i64 0, .str [], .bool false]) 0 0 (some 54)]
structure Bt157 (M : Env) (s : Word) : Prop where
 t0 : M.get 0 = some (.p (.str s))
 t3 : M.get 3 = some (.ptr 0 0 0)
 t4 : M.get 4 = some (.ptr 1 0 0)
theorem Qtv (h : Bt157 M s) (H : Heap) : ∃ (M' : Env) (m : Bool), exec C L Qjk ⟨M, [], H⟩ = some (.normal, ⟨M', [], H⟩) /\ Bt157 M' s /\ M'.get 6 = some (.p (.bool m)) /\ (m = true -> s ≠ []) := by
 cases s with
 | nil => exact ⟨_, false, by simp [Qjk, Zt, h.t0]; rfl, ⟨by simp [h.t0], by simp [h.t3], by simp [h.t4]⟩, by simp, by simp⟩
 | cons c r =>
   have hp : (0 : Int) < (r.length : Int) + 1 := by omega
   exact ⟨_, ((c.toNat : Int) == 45), by simp [Qjk, Zt, h.t0, hp]; rfl, ⟨by simp [h.t0], by simp [h.t3], by simp [h.t4]⟩, by simp, by simp⟩
theorem Qr4 (m : Bool) (h : Bt157 M s) (h6 : M.get 6 = some (.p (.bool m))) (hm : m = true -> s ≠ []) (H : Heap) : ∃ (M' : Env) (s' : Word), exec C L Qc3 ⟨M, [], H⟩ = some (.normal, ⟨M', [], H⟩) /\ Bt157 M' s' /\ M'.get 6 = some (.p (.bool m)) /\ s'.length <= s.length := by
 cases s with
 | nil =>
   cases m with
   | true => exact absurd rfl (hm rfl)
   | false => exact ⟨_, [], by simp [Qc3, zt, ze, Zt, h.t0, h6]; rfl, ⟨by simp [h.t0], by simp [h.t3], by simp [h.t4]⟩, by simp [h6], by simp⟩
 | cons c r =>
   have hp : (0 : Int) < (r.length : Int) + 1 := by omega
   have hq : (1 : Int) <= (r.length : Int) + 1 := by omega
   cases m with
   | true => exact ⟨_, r, by simp [Qc3, zt, ze, Zt, Ks, Iz, Th, h.t0, h6, hp, hq]; rfl, ⟨by simp, by simp [h.t3], by simp [h.t4]⟩, by simp [h6], by simp⟩
   | false =>
     cases hc : ((c.toNat : Int) == 43) with
     | true => exact ⟨_, r, by simp [Qc3, zt, ze, Zt, Ks, Iz, Th, h.t0, h6, hp, hq, hc]; rfl, ⟨by simp, by simp [h.t3], by simp [h.t4]⟩, by simp [h6], by simp⟩
     | false => exact ⟨_, c :: r, by simp [Qc3, zt, ze, Zt, Ks, Iz, Th, h.t0, h6, hp, hq, hc]; rfl, ⟨by simp [h.t0], by simp [h.t3], by simp [h.t4]⟩, by simp [h6], by simp⟩
def nOf : V -> Int
 | .num n => n
 | _ => 0
theorem end157 (D : Yo) (m : Bool) (i : Nat) (v : V) (w : Word) (hv : okV v) (hE : ∀ u, C 66 [.p (val u)] = fun σ => some (.ret (.p (Z3 (subV (.num 0) u))), σ)) (hF : ∀ z, ∃ c : Bool, ∀ σ, C 85 [int z, .p (tyP b k)] σ = some (.ret (.p (.bool c)), σ)) (h : At157 M s m i w) :
   ∃ v' w', okV v' /\ ansV (finX D lit157 (exec C L (.seq Qcs (.seq Qf6 (.seq Qbr (.seq Qi9 .ret)))) ⟨M, [], Gh b k v⟩)) = some (Z3 (v', w')) := by
 have neg : ∃ (M' : Env) (v1 : V) (w1 : Word), okV v1 /\ exec C L Qcs ⟨M, [], Gh b k v⟩ = some (.normal, ⟨M', [], Gh b k v1⟩) /\ At157 M' s m i w1 := by
   cases hw : (w == Zi) with
   | false => exact ⟨_, v, w, hv, by simp [Qcs, x5, xd, zh, h.t8, hw]; rfl, ⟨by simp [h.t0], by simp [h.t3], by simp [h.t4], by simp [h.t6], by simp [h.t7], by simp [h.t8], by simp [h.t9]⟩⟩
   | true =>
     have h6 := h.t6
     cases m with
     | true => exact ⟨_, v, w, hv, by simp [Qcs, x5, xd, zh, h.t8, hw, h6]; rfl, ⟨by simp [h.t0], by simp [h.t3], by simp [h.t4], by simp [h.t6], by simp [h.t7], by simp [h.t8], by simp [h.t9]⟩⟩
     | false =>
       have e1 := hE v
       have hv1 := Qo5 (a := .num 0) (b := v)
       generalize subV (.num 0) v = o at e1 hv1
       obtain ⟨v1, w1⟩ := o
       obtain ⟨p, q, r, x, ev'⟩ := vc4 v
       obtain ⟨p', q', r', x', ew'⟩ := vc4 v1
       have h0 : vc .null = [.int .i64 0, .int .i64 0, .str [], .bool false] := rfl
       refine ⟨_, v1, w1, hv1, by
         simp only [val, Z3, ev', ew', h0, Gh] at e1 ⊢
         simp [Qcs, x5, xd, zh, h.t8, hw, h6, h.t7, e1]
         rfl, ⟨by simp [h.t0], by simp [h.t3], by simp [h.t4], by simp [h.t6], by simp [h.t7], by simp, by simp [h.t9]⟩⟩
 obtain ⟨M1, v1, w1, hv1, e1, h1⟩ := neg
 rw [seqN e1]
 have hn : ∃ p r x, vc v1 = [p, .int .i64 (nOf v1), r, x] := by cases v1 <;> exact ⟨_, _, _, rfl⟩
 obtain ⟨p, r, x, ev'⟩ := hn
 obtain ⟨c, hc⟩ := hF (nOf v1)
 have h0 : vc .null = [.int .i64 0, .int .i64 0, .str [], .bool false] := rfl
 cases hw : (w1 == Zi) with
 | false => exact ⟨.null, ws, trivial, by
     simp only [Gh, ev', h0]
     simp [Qf6, Qbr, wz, zm, lit157, h1.t3, h1.t4, h1.t7, h1.t8, hc, hw, Z3, vc, bne]⟩
 | true =>
   cases c with
   | false => exact ⟨.null, ws, trivial, by
       simp only [Gh, ev', h0]
       simp [Qf6, Qbr, wz, zm, lit157, h1.t3, h1.t4, h1.t7, h1.t8, hc, hw, Z3, vc, bne]⟩
   | true => exact ⟨v1, Zi, hv1, by
       simp only [Gh, ev', h0]
       simp [Qf6, Qbr, wz, zm, Qi9, lit157, h1.t3, h1.t4, h1.t7, h1.t8, hc, hw, Z3, bne, ev']⟩
end
theorem Qsp [Mx] (L n : Nat) (s : Word) (b k : Int) (ht : TyOK b k) (hs : s.length < L) (hm : s.length <= 1048576) : ∃ v w, okV v /\ ∀ σ, (cAt TT L (n + 5)).1 57 [.p (.str s), .p (tyP b k)] σ = some (.ret (.p (Z3 (v, w))), σ) := by
 have key : ∃ v w, okV v /\ ansV (Z8 (cAt TT L (n + 4)).1 (cAt TT L (n + 4)).2 L lit157 [.p (.str s), .p (tyP b k)] []) = some (Z3 (v, w)) := by
   have hE : E157 (cAt TT L (n + 4)).1 := ⟨fun z σ => Qjg L (n + 3) z σ, fun v u => mul63 L n v u, fun v u σ => Qy6 L (n + 2) v u σ⟩
   have hN : ∀ u, (cAt TT L (n + 4)).1 66 [.p (val u)] = fun σ => some (.ret (.p (Z3 (subV (.num 0) u))), σ) := fun u => funext fun σ => Qxh L (n + 1) u σ
   have hF : ∀ z, ∃ c : Bool, ∀ σ, (cAt TT L (n + 4)).1 85 [int z, .p (tyP b k)] σ = some (.ret (.p (.bool c)), σ) := fun z => Qvr L (n + 3) z b k ht
   generalize (cAt TT L (n + 4)).1 = C at *
   generalize (cAt TT L (n + 4)).2 = D
   have h0 : vc .null = [.int .i64 0, .int .i64 0, .str [], .bool false] := rfl
   have st : Bt157 [(5, .p (.str [])), (4, .ptr 1 0 0), (3, .ptr 0 0 0), (0, .p (.str s)), (1, .p (tyP b k))] s := ⟨rfl, rfl, rfl⟩
   obtain ⟨M2, m, e2, h2, g2, hne⟩ := Qtv C L s _ st (wu b k)
   obtain ⟨M3, s3, e3, h3, g3, hl3⟩ := Qr4 C L s M2 m h2 g2 hne (wu b k)
   rw [Zp, lit157_tree]
   unfold n157
   rw [seqN (by simp [Qwc, params]; rfl)]
   rw [seqN e2, seqN e3]
   have small : s3.length = 0 ∨ 400 < s3.length ∨ (s3.length ≠ 0 /\ ¬ 400 < s3.length) := by omega
   rcases small with h4 | h4 | ⟨h4, h5⟩
   · have f1 : ((s3.length : Int) == 0) = true := by simp [h4]
     exact ⟨.null, Qn2, trivial, by simp [Qgo, x6, Qag, lit157, h3.t0, h3.t4, f1, wu, h0, Z3, vc]⟩
   · have f1 : ((s3.length : Int) == 0) = false := beq_eq_false_iff_ne.2 (by omega)
     have f2 : ((400 : Int) < (s3.length : Int)) = True := eq_true (by omega)
     exact ⟨.null, Qn2, trivial, by simp [Qgo, x6, Qag, lit157, h3.t0, h3.t4, f1, f2, wu, h0, Z3, vc]⟩
   · have f1 : ((s3.length : Int) == 0) = false := beq_eq_false_iff_ne.2 (by omega)
     have f2 : ((400 : Int) < (s3.length : Int)) = False := eq_false (by omega)
     have e4 : ∃ M4, (∀ X, exec C L (.seq Qgo (.seq Qnf (.seq Qq8 (.seq Qn7 X)))) ⟨M3, [], wu b k⟩ = exec C L (.seq xr X) ⟨M4, [], Gh b k (.num 0)⟩) /\ At157 M4 s3 m 0 Zi :=
       ⟨_, fun X => by
         unfold Qn7
         rw [seqN (by simp [Qgo, x6, Qag, h3.t0, h3.t4, f1, f2]; rfl), seqN (by simp [Qnf]; rfl), seqN (by simp [Qq8]; rfl), <- Zn, seqN (by simp [Ql1]; rfl)]
         rfl, ⟨by simp [h3.t0], by simp [h3.t3], by simp [h3.t4], by simp [g3], by simp, by simp, by simp⟩⟩
     obtain ⟨M4, e5, h6⟩ := e4
     rw [e5]
     have hz : okV (.num 0) := by show inR 0; unfold inR; omega
     rcases Qp2 C L b k s3 m hE (by omega) s3.length L 0 (.num 0) Zi M4 hz h6 (by omega) (by omega) with ⟨M', v', e6, g4, g5⟩ | ⟨M', v', w', i', hv', e6, g⟩
     · rw [seqR (a := xr) (by exact E5 (id := 0) (b := Qa4) e6)]
       exact ⟨.null, Qn2, trivial, by simp [lit157, g4, g5, Gh, h0, Z3, vc]⟩
     · rw [seqN (a := xr) (by exact F0 (id := 0) (b := Qa4) e6)]
       exact end157 C L b k s3 M' D m i' v' w' hv' hN hF g
 obtain ⟨v, w, h1, h2⟩ := key
 exact ⟨v, w, h1, fun σ => Z7 (ps := [.str s, tyP b k]) (n := n + 4) q157 (by rfl) h2 σ⟩
end Go.Ab.Keep
namespace Go.Ab.Keep
open Go Go.Ab Go.Ab.Plan Go.Ab.Key Go.Ab.Cnt Go.Ab.Turn Go.Proofs
theorem lit154_tree : lit154.body = n154 := rfl
theorem lit136_tree : lit136.body = n136 := rfl
section
variable [Mx] (L n : Nat)
theorem Qy8 (b k : Int) : Vl b k = 0 ∨ Vl b k = 1 ∨ Vl b k = 2 ∨ Vl b k = 3 := by
 unfold Vl
 repeat' split
 all_goals simp
theorem Qsq (v : V) (b k : Int) (ht : TyOK b k) (hv : okV v) (h0 : Vl b k ≠ 0) (h : v = .null ∨ ((∃ z, v = .num z) /\ Vl b k = 1) ∨ ((∃ c, v = .bool c) /\ Vl b k = 3)) :
   ∃ v' w, okV v' /\ ∀ σ, (cAt TT L (n + 3)).1 54 [.p (val v), .p (tyP b k)] σ = some (.ret (.p (Z3 (v', w))), σ) := by
 have key : ∃ v' w, okV v' /\ ansV (Z8 (cAt TT L (n + 2)).1 (cAt TT L (n + 2)).2 L lit154 [.p (val v), .p (tyP b k)] []) = some (Z3 (v', w)) := by
   have e1 := Qvt L n b k ht
   have hF : ∀ z, ∃ c : Bool, ∀ σ, (cAt TT L (n + 2)).1 85 [int z, .p (tyP b k)] σ = some (.ret (.p (.bool c)), σ) := fun z => Qvr L (n + 1) z b k ht
   generalize (cAt TT L (n + 2)).1 = C at *
   generalize (cAt TT L (n + 2)).2 = D
   rw [Zp, lit154_tree]
   rcases h with rfl | ⟨⟨z, rfl⟩, hK⟩ | ⟨⟨c, rfl⟩, hK⟩
   · have f0 : (Vl b k == 0) = false := beq_eq_false_iff_ne.2 h0
     generalize Vl b k = K at *
     exact ⟨.null, Zi, trivial, by simp [n154, Qga, Qhc, Qgu, Qbq, Wa, Wt, Uo, Pu, Pw, Oa, Lb, K9, I9, F6, Fy, Fm, Ds, Du, Fk, Dx, Dt, B1, B0, Dq, Ka, F2, N8, Lv, T6, P4, params, lit154, e1, f0, Z3, vc]⟩
   · rw [hK] at e1
     obtain ⟨c, hc⟩ := hF z
     cases c with
     | false => exact ⟨.null, ws, trivial, by simp [n154, Qga, Qhc, Qgu, Qbq, Wa, Wt, Uo, Pu, Pw, Oa, Lb, K9, I9, F6, Fy, Fm, Ds, Du, Fk, Dx, Dt, B1, B0, Dq, Ka, F2, N8, Lv, T6, P4, params, lit154, e1, hc, Z3, vc]⟩
     | true => exact ⟨.num z, Zi, hv, by simp [n154, Qga, Qhc, Qgu, Qbq, Wa, Wt, Uo, Pu, Pw, Oa, Lb, K9, I9, F6, Fy, Fm, Ds, Du, Fk, Dx, Dt, B1, B0, Dq, Ka, F2, N8, Lv, T6, P4, params, lit154, e1, hc, Z3, vc]⟩
   · rw [hK] at e1
     exact ⟨.bool c, Zi, trivial, by simp [n154, Qga, Qhc, Qgu, Qbq, Wa, Wt, Uo, Pu, Pw, Oa, Lb, K9, I9, F6, Fy, Fm, Ds, Du, Fk, Dx, Dt, B1, B0, Dq, Ka, F2, N8, Lv, T6, P4, params, lit154, e1, Z3, vc]⟩
 obtain ⟨v', w, h1, h2⟩ := key
 exact ⟨v', w, h1, fun σ => Z7 (ps := [val v, tyP b k]) (n := n + 2) q154 (by rfl) h2 σ⟩
end
end Go.Ab.Keep
namespace Go.Ab.Keep
open Go Go.Ab Go.Ab.Plan Go.Ab.Key Go.Ab.Cnt Go.Ab.Turn Go.Proofs
attribute [local simp] Fj Ms V3 refV oneH Nz Oe Eo D9 idsL idsV idsO Sp
abbrev Ym (v : V) (b k : Int) (r : List PV) : Heap := [.arr (.pv (vc v)) 0 0 none, .arr (.pv [.int .i64 b, .int .i64 k]) 0 0 none, .arr (.pv r) 0 0 (some 54)]
abbrev Yl : List PV := [.int .i64 0, .int .i64 0, .str [], .bool false]
theorem Ja : vc .null = [.int .i64 0, .int .i64 0, .str [], .bool false] := rfl
theorem Jz (z : Int) : vc (.num z) = [.int .i64 1, .int .i64 z, .str [], .bool false] := rfl
theorem Jb (s : Word) : vc (.text s) = [.int .i64 2, .int .i64 0, .str s, .bool false] := rfl
theorem Z9 (c : Bool) : vc (.bool c) = [.int .i64 3, .int .i64 0, .str [], .bool c] := rfl
theorem Qmb [Q4] {C : Zj} {L : Nat} {a b Y : Q0} {st : St} : exec C L (.seq (.seq a (.seq b .ret)) Y) st = exec C L (.seq a (.seq b .ret)) st := by
 simp only [exec]
 rcases exec C L a st with _ | ⟨x, st1⟩
 · rfl
 · cases x
   · simp only []
     rcases exec C L b st1 with _ | ⟨y, st2⟩
     · rfl
     · cases y <;> rfl
   all_goals rfl
theorem Qdp [Q4] {C : Zj} {L : Nat} {a a' Y : Q0} {st st' : St} (h : exec C L a st = exec C L a' st') : exec C L (.seq a Y) st = exec C L (.seq a' Y) st' := by simp only [exec, h]
structure At136 (M : Env) (K : Int) : Prop where
 t2 : M.get 2 = some (.ptr 0 0 0)
 t3 : M.get 3 = some (.ptr 1 0 0)
 t4 : M.get 4 = some (.ptr 2 0 0)
 t6 : M.get 6 = some (int K)
section
variable [Mx] (C : Zj) (L : Nat) (D : Yo) (b k : Int) (M : Env)
theorem Qxl (s : Word) (h : At136 M 2) (hk : 0 <= k /\ k <= 1000) (hs : s.length <= 1048576) (hP : ∀ s : Word, ∃ s' : Word, (s'.length <= s.length ∨ s'.length <= 1000) /\ ∀ σ, C 55 [.p (.str s), .p (tyP b k)] σ = some (.ret (.p (val (.text s'))), σ)) :
   ∃ s' : Word, s'.length <= 1048576 /\ ∃ M', exec C L Fi ⟨M, [], Ym (.text s) b k Yl⟩ = some (.normal, ⟨M', [], Ym (.text s) b k (vc (.text s'))⟩) /\ M'.get 4 = some (.ptr 2 0 0) /\ M'.get 5 = some (.p (.str Zi)) := by
 obtain ⟨t2, t3, t4, t6⟩ := h
 obtain ⟨j, hj, hmx⟩ : ∃ j : Nat, j <= s.length /\ maxA false (int s.length) [int k] = some (int (j : Int)) := by
   by_cases q : k < (s.length : Int)
   · refine ⟨k.toNat, by omega, ?_⟩
     simp [maxA, q]
     omega
   · exact ⟨s.length, Nat.le_refl _, by simp [maxA, q]⟩
 have hsl : Ks 1 (.p (.str s)) none (some (int (j : Int))) = some (.p (.str (s.take j))) := by
   have g1 : (0 : Int) <= (j : Int) /\ (j : Int) <= ((s.length : Nat) : Int) := by omega
   simp [Ks, Iz, Th, g1]
 obtain ⟨s', hl, e1⟩ := hP (s.take j)
 have r55 : Q4.raw 55 = false := by rfl
 refine ⟨s', by simp at hl; omega, ?_⟩
 have hz : ∀ s, vc (.text s) = [.int .i64 2, .int .i64 0, .str s, .bool false] := fun _ => rfl
 simp only [val, hz, Ym, Yl] at e1 ⊢
 have fin : ∀ (H H' : Heap), (∃ s1 : Go.Ab.Tr, Zy C 0 (opsD Fi) ⟨⟨M, [], H⟩, [], []⟩ = some (none, s1) /\ okRW [0, 1, 0, 4, 12, 0, 32, 124, 255, 0, 1023, 2047, 4095] (opsD Fi) s1 = true /\ s1.st.defers = [] /\ s1.st.heap = H' /\ s1.st.env.get 4 = some (.ptr 2 0 0) /\ s1.st.env.get 5 = some (.p (.str Zi))) ->
     ∃ M', exec C L Fi ⟨M, [], H⟩ = some (.normal, ⟨M', [], H'⟩) /\ M'.get 4 = some (.ptr 2 0 0) /\ M'.get 5 = some (.p (.str Zi)) := by
   rintro H H' ⟨⟨⟨M', d, σ'⟩, rds, wrs⟩, hr, hok, hd, hh, hA⟩
   simp only at hd hh
   subst hd hh
   exact ⟨M', L9 hr hok, hA⟩
 exact fin _ _ ⟨_, by
     show Zy C 0 (_ :: _) _ = _
     refine (Zf rfl rfl (by simp [t2, t3, t4, hmx, hsl, r55, e1]; rfl)).trans ?_
     refine (Eu rfl rfl (by simp [t2, t3, t4, hmx, hsl, r55, e1]; exact ⟨rfl, rfl⟩)).trans ?_
     refine (Zf rfl rfl (by simp [t2, t3, t4, hmx, hsl, r55, e1]; rfl)).trans ?_
     refine (Eu rfl rfl (by simp [t2, t3, t4, hmx, hsl, r55, e1]; exact ⟨rfl, rfl⟩)).trans ?_
     refine (Zf rfl rfl (by simp [t2, t3, t4, hmx, hsl, r55, e1]; rfl)).trans ?_
     refine (Zf rfl rfl (by simp [t2, t3, t4, hmx, hsl, r55, e1]; rfl)).trans ?_
     refine (Eu rfl rfl (by simp [t2, t3, t4, hmx, hsl, r55, e1]; exact ⟨rfl, rfl⟩)).trans ?_
     refine (Zf rfl rfl (by simp [t2, t3, t4, hmx, hsl, r55, e1]; rfl)).trans ?_
     refine (Zf rfl rfl (by simp [t2, t3, t4, hmx, hsl, r55, e1]; rfl)).trans ?_
     refine (Eu rfl rfl (by simp [t2, t3, t4, hmx, hsl, r55, e1]; exact ⟨rfl, rfl⟩)).trans ?_
     refine (B8 rfl rfl (by simp [Zo, Jk, t2, t3, t4, hmx, hsl, r55, e1]; rfl) (by simp; rfl) (by simp [t2, t3, t4, hmx, hsl, r55, e1]; rfl)).trans ?_
     refine (B8 rfl rfl (by simp [Zo, Jk, t2, t3, t4, hmx, hsl, r55, e1]; rfl) (by simp; rfl) (by simp [t2, t3, t4, hmx, hsl, r55, e1]; rfl)).trans ?_
     refine (Zf rfl rfl (by simp [t2, t3, t4, hmx, hsl, r55, e1]; rfl)).trans ?_
     exact rfl, by kernel_rfl, by rfl, by rfl, by simp [t4], by simp⟩
theorem num136 (s : Word) (h : At136 M 1) (s' : Word) (v' : V) (w' : Word) (e1 : ∀ σ, C 58 [.p (.str s)] σ = some (.ret (.p (.str s')), σ)) (e2 : ∀ σ, C 57 [.p (.str s'), .p (tyP b k)] σ = some (.ret (.p (Z3 (v', w'))), σ)) :
   ∃ M', exec C L Oo ⟨M, [], Ym (.text s) b k Yl⟩ = some (.normal, ⟨M', [], Ym (.text s) b k (vc v')⟩) /\ M'.get 4 = some (.ptr 2 0 0) /\ M'.get 5 = some (.p (.str w')) := by
 obtain ⟨t2, t3, t4, t6⟩ := h
 have r58 : Q4.raw 58 = false := by rfl
 have r57 : Q4.raw 57 = false := by rfl
 obtain ⟨p', q', r', x', ew'⟩ := vc4 v'
 have hz : ∀ s, vc (.text s) = [.int .i64 2, .int .i64 0, .str s, .bool false] := fun _ => rfl
 simp only [val, Z3, ew', hz, Ym, Yl] at e2 ⊢
 have fin : ∀ (H H' : Heap), (∃ s1 : Go.Ab.Tr, Zy C 0 (opsD Oo) ⟨⟨M, [], H⟩, [], []⟩ = some (none, s1) /\ okRW [0, 1, 3, 0, 15, 31, 31, 127, 255] (opsD Oo) s1 = true /\ s1.st.defers = [] /\ s1.st.heap = H' /\ s1.st.env.get 4 = some (.ptr 2 0 0) /\ s1.st.env.get 5 = some (.p (.str w'))) ->
     ∃ M', exec C L Oo ⟨M, [], H⟩ = some (.normal, ⟨M', [], H'⟩) /\ M'.get 4 = some (.ptr 2 0 0) /\ M'.get 5 = some (.p (.str w')) := by
   rintro H H' ⟨⟨⟨M', d, σ'⟩, rds, wrs⟩, hr, hok, hd, hh, hA⟩
   simp only at hd hh
   subst hd hh
   exact ⟨M', L9 hr hok, hA⟩
 exact fin _ _ ⟨_, by
     show Zy C 0 (_ :: _) _ = _
     refine (Zf rfl rfl (by simp [t2, t3, t4, r58, r57, e1, e2]; rfl)).trans ?_
     refine (Eu rfl rfl (by simp [t2, t3, t4, r58, r57, e1, e2]; exact ⟨rfl, rfl⟩)).trans ?_
     refine (B8 rfl rfl (by simp [Zo, Jk, t2, t3, t4, r58, r57, e1, e2]; rfl) (by simp; rfl) (by simp [t2, t3, t4, r58, r57, e1, e2]; rfl)).trans ?_
     refine (Eu rfl rfl (by simp [t2, t3, t4, r58, r57, e1, e2]; exact ⟨rfl, rfl⟩)).trans ?_
     refine (B8 rfl rfl (by simp [Zo, Jk, t2, t3, t4, r58, r57, e1, e2]; rfl) (by simp; rfl) (by simp [t2, t3, t4, r58, r57, e1, e2]; rfl)).trans ?_
     refine (Zf rfl rfl (by simp [t2, t3, t4, r58, r57, e1, e2]; rfl)).trans ?_
     refine (Zf rfl rfl (by simp [t2, t3, t4, r58, r57, e1, e2]; rfl)).trans ?_
     refine (B8 rfl rfl (by simp [Zo, Jk, t2, t3, t4, r58, r57, e1, e2]; rfl) (by simp; rfl) (by simp [t2, t3, t4, r58, r57, e1, e2]; rfl)).trans ?_
     refine (Zf rfl rfl (by simp [t2, t3, t4, r58, r57, e1, e2]; rfl)).trans ?_
     exact rfl, by kernel_rfl, by rfl, by rfl, by simp [t4], by simp⟩
end
section
variable [Mx] (L n : Nat)
theorem cast36 (hL : 1048576 < L) (v : V) (b k : Int) (ht : TyOK b k) (hv : okV v) :
   ∃ v' w, okV v' /\ ∀ σ, (cAt TT L (n + 6)).1 36 [.p (val v), .p (tyP b k)] σ = some (.ret (.p (Z3 (v', w))), σ) := by
 have hk : 0 <= k /\ k <= 1000 := by rcases ht with ⟨_, rfl⟩ | ⟨_, h1, h2⟩ <;> omega
 have key : ∃ v' w, okV v' /\ ansV (Z8 (cAt TT L (n + 5)).1 (cAt TT L (n + 5)).2 L lit136 [.p (val v), .p (tyP b k)] []) = some (Z3 (v', w)) := by
   have eK := Qvt L (n + 3) b k ht
   have eA := Qsq L (n + 2) v b k ht hv
   have eP : ∀ s : Word, ∃ s' : Word, (s'.length <= s.length ∨ s'.length <= 1000) /\ ∀ σ, (cAt TT L (n + 5)).1 55 [.p (.str s), .p (tyP b k)] σ = some (.ret (.p (val (.text s'))), σ) := fun s => Qr3 L (n + 3) s b k hk.2 (by omega)
   have eD := fun z hz => Qtw L (n + 3) (by omega) z hz
   have eT := fun (s : Word) (hs : s.length <= 1048576) => Qra L (n + 3) s (by omega) (by omega)
   have eN := fun (s : Word) (hs : s.length <= 1048576) => Qsp L n s b k ht (by omega) hs
   have eU := fun (s : Word) (hs : s.length <= 1048576) => Qw4 L (n + 4) s (by omega) hs
   generalize (cAt TT L (n + 5)).1 = C at *
   generalize (cAt TT L (n + 5)).2 = D
   obtain ⟨p, q, r, x, ev'⟩ := vc4 v
   rw [Zp, lit136_tree]
   have Qod : ∃ M, (∀ X, exec C L (.seq Qou (.seq Qp8 X)) ⟨params 0 [.p (val v), .p (tyP b k)], [], []⟩ = exec C L X ⟨M, [], Ym v b k Yl⟩) /\ At136 M (Vl b k) :=
     ⟨_, fun X => by
       simp only [val, ev', Ym, Yl]
       rw [seqN (by simp [Qou, params]; rfl), seqN (by simp [Qp8, eK]; rfl)], ⟨by simp, by simp, by simp, by simp⟩⟩
   obtain ⟨M, e0, h0⟩ := Qod
   unfold n136
   rw [e0]
   clear e0 eK ev' p q r x
   rcases Qy8 b k with hK | hK | hK | hK <;> rw [hK] at h0 eA <;> obtain ⟨t2, t3, t4, t6⟩ := h0
   · exact ⟨.null, wBad, trivial, by simp [Py, Kv, Ku, lit136, t2, t3, t4, t6, Z3, vc, Ym]⟩
   · -- numbers
     rcases v with _ | z | s | c
     · obtain ⟨v', w, hv', e1⟩ := eA (by decide) (.inl rfl)
       obtain ⟨p, q, r, x, ev'⟩ := vc4 v'
       refine ⟨v', w, hv', ?_⟩
       simp only [val, Z3, ev', Ja, Jz, Jb, Z9] at e1 ⊢
       simp [Py, Kv, Ku, Rp, L6, Mb, Ib, Db, lit136, t2, t3, t4, t6, e1, Ym, Ja, Jz, Jb, Z9]
     · obtain ⟨v', w, hv', e1⟩ := eA (by decide) (.inr (.inl ⟨⟨z, rfl⟩, rfl⟩))
       obtain ⟨p, q, r, x, ev'⟩ := vc4 v'
       refine ⟨v', w, hv', ?_⟩
       simp only [val, Z3, ev', Ja, Jz, Jb, Z9] at e1 ⊢
       simp [Py, Kv, Ku, Rp, L6, Mb, Ib, Db, lit136, t2, t3, t4, t6, e1, Ym, Ja, Jz, Jb, Z9]
     · obtain ⟨s', hl, e1⟩ := eT s hv
       obtain ⟨v', w, hv', e2⟩ := eN s' (by have : s.length <= 1048576 := hv; omega)
       refine ⟨v', w, hv', ?_⟩
       have e3 : ∃ M1, (∀ X, exec C L (.seq Py (.seq Rp (.seq Wz (.seq zq (.seq yg (.seq Qdm X)))))) ⟨M, [], Ym (.text s) b k Yl⟩ = exec C L (.seq w8 X) ⟨M1, [], Ym (.text s) b k Yl⟩) /\ At136 M1 1 :=
         ⟨_, fun X => by
           unfold Qdm
           rw [seqN (by simp [Py, Kv, Ku, t6]; rfl), seqN (by simp [Rp, L6, Mb, Ib, Db, t2, t6, Ja, Jz, Jb, Z9]; rfl), seqN (by simp [Wz, Sz, Vs, Nx, Fi, t2, t6, Ja, Jz, Jb, Z9]; rfl), seqN (by simp [zq, Vi, w7, Mq, Hm, Hq, F8, F1, Hr, I2, I1, Iw, t6]; rfl), seqN (by simp [yg, zb, wl, t2, Ja, Jz, Jb, Z9]; rfl), <- Zn, seqN (by simp [Qe9, t6]; rfl)]
           rfl, ⟨by simp [t2], by simp [t3], by simp [t4], by simp [t6]⟩⟩
       obtain ⟨M1, e3, h1⟩ := e3
       rw [e3]
       obtain ⟨M2, e4, g4, g5⟩ := num136 C L b k M1 s h1 s' v' w e1 e2
       unfold w8
       rw [<- Zn, seqN e4]
       obtain ⟨p, q, r, x, ev'⟩ := vc4 v'
       simp [lit136, g4, g5, Ym, Z3, ev']
     · exact ⟨.null, wBad, trivial, by simp [Py, Kv, Ku, Rp, L6, Mb, Ib, Db, Wz, Sz, Vs, Nx, Fi, zq, Vi, w7, Mq, Hm, Hq, F8, F1, Hr, I2, I1, Iw, yg, zb, wl, lit136, t2, t3, t4, t6, Ym, Z3, Ja, Jz, Jb, Z9]⟩
   · -- texts
     have fin : ∀ (u : Word) (M1 : Env), u.length <= 1048576 -> At136 M1 2 -> M1.get 7 = some (.p (.str u)) -> ∃ v' w, okV v' /\ ansV (finX D lit136 (exec C L (.seq Hr (.seq Iw .ret)) ⟨M1, [], Ym v b k Yl⟩)) = some (Z3 (v', w)) := by
       intro u M1 hu h1 g7
       obtain ⟨t2, t3, t4, t6⟩ := h1
       by_cases q : k < (u.length : Int)
       · have q1 : (k < (u.length : Int)) = True := eq_true q
         exact ⟨.null, Qyq, trivial, by simp [Hr, I2, I1, lit136, t2, t3, t4, t6, g7, q1, Ym, Z3, Ja, Jz, Jb, Z9]⟩
       · have q1 : (k < (u.length : Int)) = False := eq_false q
         obtain ⟨s', hl, e1⟩ := eP u
         exact ⟨.text s', Zi, by show s'.length <= 1048576; omega, by
           simp only [val, Ja, Jz, Jb, Z9] at e1
           simp [Hr, I2, I1, Iw, lit136, t2, t3, t4, t6, g7, q1, e1, Ym, Z3, Ja, Jz, Jb, Z9]⟩
     have pre : ∀ (X : Q0), v ≠ .null -> (∀ s, v ≠ .text s) -> ∃ M1, exec C L (.seq Py (.seq Rp (.seq Wz (.seq zq X)))) ⟨M, [], Ym v b k Yl⟩ = exec C L (.seq Mq X) ⟨M1, [], Ym v b k Yl⟩ /\ At136 M1 2 := by
       intro X hn hx
       rcases v with _ | z | s | c
       · exact absurd rfl hn
       · exact ⟨_, by
           unfold zq
           rw [seqN (by simp [Py, Kv, Ku, t6]; rfl), seqN (by simp [Rp, L6, Mb, Ib, Db, t2, t6, Ja, Jz, Jb, Z9]; rfl), seqN (by simp [Wz, Sz, Vs, Nx, Fi, t2, t6, Ja, Jz, Jb, Z9]; rfl), <- Zn, seqN (by simp [Vi, t6]; rfl)]
           rfl, ⟨by simp [t2], by simp [t3], by simp [t4], by simp [t6]⟩⟩
       · exact absurd rfl (hx s)
       · exact ⟨_, by
           unfold zq
           rw [seqN (by simp [Py, Kv, Ku, t6]; rfl), seqN (by simp [Rp, L6, Mb, Ib, Db, t2, t6, Ja, Jz, Jb, Z9]; rfl), seqN (by simp [Wz, Sz, Vs, Nx, Fi, t2, t6, Ja, Jz, Jb, Z9]; rfl), <- Zn, seqN (by simp [Vi, t6]; rfl)]
           rfl, ⟨by simp [t2], by simp [t3], by simp [t4], by simp [t6]⟩⟩
     rcases v with _ | z | s | c
     · obtain ⟨v', w, hv', e1⟩ := eA (by decide) (.inl rfl)
       obtain ⟨p, q, r, x, ev'⟩ := vc4 v'
       refine ⟨v', w, hv', ?_⟩
       simp only [val, Z3, ev', Ja, Jz, Jb, Z9] at e1 ⊢
       simp [Py, Kv, Ku, Rp, L6, Mb, Ib, Db, lit136, t2, t3, t4, t6, e1, Ym, Ja, Jz, Jb, Z9]
     · obtain ⟨s', hl, e1⟩ := eD z hv
       obtain ⟨M1, e2, t2, t3, t4, t6⟩ := pre (.seq yg (.seq Qdm (.seq Qlp .ret))) (by simp) (by simp)
       have e3 : ∃ M2, exec C L (.seq Hm Hq) ⟨M1, [], Ym (.num z) b k Yl⟩ = some (.normal, ⟨M2, [], Ym (.num z) b k Yl⟩) /\ At136 M2 2 /\ M2.get 7 = some (.p (.str s')) :=
         ⟨_, by
           rw [seqN (by simp [Hm, t2, e1, Ja, Jz, Jb, Z9]; rfl)]
           simp [Hq, F8, F1, t2, Ja, Jz, Jb, Z9]
           rfl, ⟨by simp [t2], by simp [t3], by simp [t4], by simp [t6]⟩, by simp⟩
       obtain ⟨M2, e3, h3, g7⟩ := e3
       obtain ⟨v', w, hv', e4⟩ := fin s' M2 (by omega) h3 g7
       refine ⟨v', w, hv', ?_⟩
       rw [e2, <- e4]
       have e5 : exec C L Mq ⟨M1, [], Ym (.num z) b k Yl⟩ = exec C L (.seq Hr (.seq Iw .ret)) ⟨M2, [], Ym (.num z) b k Yl⟩ := by
         unfold Mq
         rw [Zn, seqN e3]
       rw [Qdp e5, Qmb]
     · have e3 : ∃ M1, (∀ X, exec C L (.seq Py (.seq Rp (.seq Wz X))) ⟨M, [], Ym (.text s) b k Yl⟩ = exec C L (.seq Nx X) ⟨M1, [], Ym (.text s) b k Yl⟩) /\ At136 M1 2 :=
         ⟨_, fun X => by
           unfold Wz
           rw [seqN (by simp [Py, Kv, Ku, t6]; rfl), seqN (by simp [Rp, L6, Mb, Ib, Db, t2, t6, Ja, Jz, Jb, Z9]; rfl), <- Zn, seqN (by simp [Sz, t2, t6, Ja, Jz, Jb, Z9]; rfl)]
           rfl, ⟨by simp [t2], by simp [t3], by simp [t4], by simp [t6]⟩⟩
       obtain ⟨M1, e3, h1⟩ := e3
       obtain ⟨s', hl, M2, e4, g4, g5⟩ := Qxl C L b k M1 s h1 hk hv eP
       refine ⟨.text s', Zi, hl, ?_⟩
       rw [e3]
       unfold Nx
       rw [<- Zn, seqN e4]
       simp [lit136, g4, g5, Ym, Z3, Ja, Jz, Jb, Z9]
     · obtain ⟨s', hl, e1⟩ := eD 0 (by unfold inR; omega)
       obtain ⟨M1, e2, t2, t3, t4, t6⟩ := pre (.seq yg (.seq Qdm (.seq Qlp .ret))) (by simp) (by simp)
       have e3 : ∃ M2, exec C L (.seq Hm Hq) ⟨M1, [], Ym (.bool c) b k Yl⟩ = some (.normal, ⟨M2, [], Ym (.bool c) b k Yl⟩) /\ At136 M2 2 /\ M2.get 7 = some (.p (.str (if c then [84, 82, 85, 69] else [70, 65, 76, 83, 69]))) := by
         cases c
         · exact ⟨_, by
             rw [seqN (by simp [Hm, t2, e1, Ja, Jz, Jb, Z9]; rfl)]
             simp [Hq, F8, F1, t2, Ja, Jz, Jb, Z9]
             rfl, ⟨by simp [t2], by simp [t3], by simp [t4], by simp [t6]⟩, by simp⟩
         · exact ⟨_, by
             rw [seqN (by simp [Hm, t2, e1, Ja, Jz, Jb, Z9]; rfl)]
             simp [Hq, F8, F1, t2, Ja, Jz, Jb, Z9]
             rfl, ⟨by simp [t2], by simp [t3], by simp [t4], by simp [t6]⟩, by simp⟩
       obtain ⟨M2, e3, h3, g7⟩ := e3
       obtain ⟨v', w, hv', e4⟩ := fin _ M2 (by cases c <;> decide) h3 g7
       refine ⟨v', w, hv', ?_⟩
       rw [e2, <- e4]
       have e5 : exec C L Mq ⟨M1, [], Ym (.bool c) b k Yl⟩ = exec C L (.seq Hr (.seq Iw .ret)) ⟨M2, [], Ym (.bool c) b k Yl⟩ := by
         unfold Mq
         rw [Zn, seqN e3]
       rw [Qdp e5, Qmb]
   · -- truths
     rcases v with _ | z | s | c
     · obtain ⟨v', w, hv', e1⟩ := eA (by decide) (.inl rfl)
       obtain ⟨p, q, r, x, ev'⟩ := vc4 v'
       refine ⟨v', w, hv', ?_⟩
       simp only [val, Z3, ev', Ja, Jz, Jb, Z9] at e1 ⊢
       simp [Py, Kv, Ku, Rp, L6, Mb, Ib, Db, lit136, t2, t3, t4, t6, e1, Ym, Ja, Jz, Jb, Z9]
     · exact ⟨.null, wBad, trivial, by simp [Py, Kv, Ku, Rp, L6, Mb, Ib, Db, Wz, Sz, Vs, Nx, Fi, zq, Vi, w7, Mq, Hm, Hq, F8, F1, Hr, I2, I1, Iw, yg, zb, wl, lit136, t2, t3, t4, t6, Ym, Z3, Ja, Jz, Jb, Z9]⟩
     · obtain ⟨s', hl, e1⟩ := eT s hv
       obtain ⟨v', w, hv', e2⟩ := eU s' (by have : s.length <= 1048576 := hv; omega)
       refine ⟨v', w, hv', ?_⟩
       obtain ⟨p, q, r, x, ev'⟩ := vc4 v'
       simp only [val, Z3, ev', Ja, Jz, Jb, Z9] at e2 ⊢
       rw [seqN (by simp [Py, Kv, Ku, t6]; rfl), seqN (by simp [Rp, L6, Mb, Ib, Db, t2, t6, Ja, Jz, Jb, Z9]; rfl), seqN (by simp [Wz, Sz, Vs, Nx, Fi, t2, t6, Ja, Jz, Jb, Z9]; rfl), seqN (by simp [zq, Vi, w7, Mq, Hm, Hq, F8, F1, Hr, I2, I1, Iw, t6]; rfl), seqN (by simp [yg, zb, wl, t2, Ja, Jz, Jb, Z9]; rfl), seqN (by simp [Qdm, Qe9, Qk9, w8, Oo, t6]; rfl)]
       simp [Qlp, lit136, t2, t4, e1, e2, Ja, Jz, Jb, Z9]
     · obtain ⟨v', w, hv', e1⟩ := eA (by decide) (.inr (.inr ⟨⟨c, rfl⟩, rfl⟩))
       obtain ⟨p, q, r, x, ev'⟩ := vc4 v'
       refine ⟨v', w, hv', ?_⟩
       simp only [val, Z3, ev', Ja, Jz, Jb, Z9] at e1 ⊢
       simp [Py, Kv, Ku, Rp, L6, Mb, Ib, Db, lit136, t2, t3, t4, t6, e1, Ym, Ja, Jz, Jb, Z9]
 obtain ⟨v', w, h1, h2⟩ := key
 exact ⟨v', w, h1, fun σ => Z7 (ps := [val v, tyP b k]) (n := n + 5) q136 (by rfl) h2 σ⟩
end
end Go.Ab.Keep
namespace Go.Ab.Keep
open Go Go.Ab Go.Ab.Plan Go.Ab.Key Go.Ab.Cnt Go.Ab.Turn Go.Proofs
attribute [local simp] Fj Ms V3 refV oneH Nz Oe Eo D9 idsL idsV idsO Sp
theorem lit174_tree : lit174.body = n174 := rfl
structure At174 (M : Env) (s pt : Word) (i j i1 i2 : Nat) (k : Int) : Prop where
 t0 : M.get 0 = some (.p (.str s))
 t1 : M.get 1 = some (.p (.str pt))
 t5 : M.get 5 = some (int s.length)
 t6 : M.get 6 = some (.sl i1 0 0 (s.length + 1) 1)
 t7 : M.get 7 = some (int i)
 t8 : M.get 8 = some (.sl i2 0 0 (s.length + 1) 1)
 t9 : M.get 9 = some (int k)
def Bs (σ : Heap) (id n : Nat) : Prop := ∃ bs : List Bool, bs.length = n + 1 /\ σ[id]? = some (.arr (.pv (bs.map .bool)) 0 0 none)
theorem Bs.set {σ : Heap} {id n k : Nat} {bs : List Bool} (h : bs.length = n + 1) (ho : σ[id]? = some (.arr (.pv (bs.map .bool)) 0 0 none)) (hk : k <= n) (v : Bool) :
   Bs (σ.set id (.arr (.pv ((bs.map PV.bool).take k ++ ([.bool v] ++ (bs.map PV.bool).drop (k + 1)))) 0 0 none)) id n := by
 refine ⟨bs.take k ++ ([v] ++ bs.drop (k + 1)), by simp; omega, ?_⟩
 rw [List.getElem?_set_self (List.getElem?_eq_some_iff.1 ho).1]
 simp [List.map_take, List.map_drop]
theorem Bs.other {σ : Heap} {id id' n : Nat} {o : Obj} (h : Bs σ id n) (hne : id' ≠ id) : Bs (σ.set id' o) id n := by
 obtain ⟨bs, h1, h2⟩ := h
 exact ⟨bs, h1, by rw [List.getElem?_set_ne hne]; exact h2⟩
section
variable [Mx] (C : Zj) (L : Nat) (s pt : Word) (i j i1 i2 k : Nat) (M : Env) (σ : Heap)
theorem At174.put {s pt : Word} {i j i1 i2 : Nat} {k : Int} {M : Env} (h : At174 M s pt i j i1 i2 k) (r : Env) (hr : ∀ t, t < 10 -> Env.get r t = none) : At174 (r ++ M) s pt i j i1 i2 k := by
 have e : ∀ t, t < 10 -> Env.get (r ++ M) t = M.get t := by
   intro t ht
   have h1 := hr t ht
   clear hr
   induction r with
   | nil => rfl
   | cons x r ih =>
     obtain ⟨y, z⟩ := x
     rw [List.cons_append]
     rw [Env.get_cons] at h1 ⊢
     split at h1
     · cases h1
     · rename_i hne
       rw [if_neg hne]
       exact ih h1
 exact ⟨(e 0 (by omega)).trans h.t0, (e 1 (by omega)).trans h.t1, (e 5 (by omega)).trans h.t5, (e 6 (by omega)).trans h.t6, (e 7 (by omega)).trans h.t7, (e 8 (by omega)).trans h.t8, (e 9 (by omega)).trans h.t9⟩
def Way (C : Zj) (L : Nat) (c : Q0) (s pt : Word) (i j i1 i2 : Nat) (k : Nat) (M : Env) (σ : Heap) : Prop := ∃ M' σ', exec C L c ⟨M, [], σ⟩ = some (.normal, ⟨M', [], σ'⟩) /\ At174 M' s pt i j i1 i2 k /\ Bs σ' i1 s.length /\ Bs σ' i2 s.length /\ σ'.length = σ.length
theorem Qw9 (h : At174 M s pt i j i1 i2 (k : Int)) (hne : i1 ≠ i2) (hs : s.length <= 1048576) (hk : k <= s.length) (h1 : Bs σ i1 s.length) (h2 : Bs σ i2 s.length) : Way C L Jq s pt i j i1 i2 k M σ := by
 obtain ⟨t0, t1, t5, t6, t7, t8, t9⟩ := h
 obtain ⟨b1, l1, o1⟩ := h1
 obtain ⟨b2, l2, o2⟩ := h2
 have hk1 : (k : Int) < (s.length : Int) + 1 := by omega
 have hk2 : k < s.length + 1 := by omega
 have g1 : (b1.map PV.bool)[k]? = some (.bool b1[k]) := by rw [List.getElem?_map, List.getElem?_eq_getElem (by omega)]; rfl
 generalize b1[k] = x at g1
 have hbl : (b2.map PV.bool).length = s.length + 1 := by simpa using l2
 have hh1 : Bs σ i1 s.length := ⟨b1, l1, o1⟩
 by_cases hn : k < s.length
 · have hn1 : ((k : Int) < (s.length : Int)) = True := eq_true (by omega)
   have hn2 : ((k : Int) + 1 < (s.length : Int) + 1) := by omega
   have e1 : IntKind.i64.wrap ((k : Int) + 1) = (k : Int) + 1 := J5 _ (by omega) (by omega)
   have g2 : (b2.map PV.bool)[k + 1]? = some (.bool b2[k + 1]) := by rw [List.getElem?_map, List.getElem?_eq_getElem (by omega)]; rfl
   generalize b2[k + 1] = y at g2
   have ht : ((k : Int) + 1).toNat = k + 1 := by omega
   have hp : (0 : Int) <= (k : Int) + 1 := by omega
   cases x with
   | true => exact ⟨_, _, by simp [Jq, t0, t1, t5, t6, t7, t8, t9, o1, o2, g1, hk1, hk2, hbl, hk]; exact ⟨rfl, rfl⟩, ⟨by simp [t0], by simp [t1], by simp [t5], by simp [t6], by simp [t7], by simp [t8], by simp [t9]⟩, hh1.other (Ne.symm hne), Bs.set l2 o2 hk _, by simp⟩
   | false => exact ⟨_, _, by simp [Jq, t0, t1, t5, t6, t7, t8, t9, o1, o2, g1, g2, hn1, hn2, e1, ht, hp, hn, hk1, hk2, hbl, hk]; exact ⟨rfl, rfl⟩, ⟨by simp [t0], by simp [t1], by simp [t5], by simp [t6], by simp [t7], by simp [t8], by simp [t9]⟩, hh1.other (Ne.symm hne), Bs.set l2 o2 hk _, by simp⟩
 · have hn1 : ((k : Int) < (s.length : Int)) = False := eq_false (by omega)
   cases x with
   | true => exact ⟨_, _, by simp [Jq, t0, t1, t5, t6, t7, t8, t9, o1, o2, g1, hk1, hk2, hbl, hk]; exact ⟨rfl, rfl⟩, ⟨by simp [t0], by simp [t1], by simp [t5], by simp [t6], by simp [t7], by simp [t8], by simp [t9]⟩, hh1.other (Ne.symm hne), Bs.set l2 o2 hk _, by simp⟩
   | false => exact ⟨_, _, by simp [Jq, t0, t1, t5, t6, t7, t8, t9, o1, o2, g1, hn1, hn, hk1, hk2, hbl, hk]; exact ⟨rfl, rfl⟩, ⟨by simp [t0], by simp [t1], by simp [t5], by simp [t6], by simp [t7], by simp [t8], by simp [t9]⟩, hh1.other (Ne.symm hne), Bs.set l2 o2 hk _, by simp⟩
theorem any174 (h : At174 M s pt i j i1 i2 (k : Int)) (hne : i1 ≠ i2) (hs : s.length <= 1048576) (hk : k <= s.length) (h1 : Bs σ i1 s.length) (h2 : Bs σ i2 s.length) : Way C L J7 s pt i j i1 i2 k M σ := by
 obtain ⟨t0, t1, t5, t6, t7, t8, t9⟩ := h
 obtain ⟨b1, l1, o1⟩ := h1
 obtain ⟨b2, l2, o2⟩ := h2
 have hk1 : (k : Int) < (s.length : Int) + 1 := by omega
 have hk2 : k < s.length + 1 := by omega
 have hbl : (b2.map PV.bool).length = s.length + 1 := by simpa using l2
 have hh1 : Bs σ i1 s.length := ⟨b1, l1, o1⟩
 by_cases hn : k < s.length
 · have hn1 : ((k : Int) < (s.length : Int)) = True := eq_true (by omega)
   have hn2 : ((k : Int) + 1 < (s.length : Int) + 1) := by omega
   have e1 : IntKind.i64.wrap ((k : Int) + 1) = (k : Int) + 1 := J5 _ (by omega) (by omega)
   have ht : ((k : Int) + 1).toNat = k + 1 := by omega
   have hp : (0 : Int) <= (k : Int) + 1 := by omega
   have g2 : (b1.map PV.bool)[k + 1]? = some (.bool b1[k + 1]) := by rw [List.getElem?_map, List.getElem?_eq_getElem (by omega)]; rfl
   generalize b1[k + 1] = y at g2
   exact ⟨_, _, by simp [J7, t0, t1, t5, t6, t7, t8, t9, o1, o2, g2, hn1, hn2, e1, ht, hp, hn, hk1, hk2, hbl, hk]; exact ⟨rfl, rfl⟩, ⟨by simp [t0], by simp [t1], by simp [t5], by simp [t6], by simp [t7], by simp [t8], by simp [t9]⟩, hh1.other (Ne.symm hne), Bs.set l2 o2 hk _, by simp⟩
 · have hn1 : ((k : Int) < (s.length : Int)) = False := eq_false (by omega)
   exact ⟨_, _, by simp [J7, t0, t1, t5, t6, t7, t8, t9, o1, o2, hn1, hn, hk1, hk2, hbl, hk]; exact ⟨rfl, rfl⟩, ⟨by simp [t0], by simp [t1], by simp [t5], by simp [t6], by simp [t7], by simp [t8], by simp [t9]⟩, hh1.other (Ne.symm hne), Bs.set l2 o2 hk _, by simp⟩
theorem one174 (h : At174 M s pt i j i1 i2 (k : Int)) (hne : i1 ≠ i2) (hs : s.length <= 1048576) (hk : k <= s.length) (c : UInt8) (hc : pt[i]? = some c) (h1 : Bs σ i1 s.length) (h2 : Bs σ i2 s.length) : Way C L Js s pt i j i1 i2 k M σ := by
 obtain ⟨t0, t1, t5, t6, t7, t8, t9⟩ := h
 obtain ⟨b1, l1, o1⟩ := h1
 obtain ⟨b2, l2, o2⟩ := h2
 have hk1 : (k : Int) < (s.length : Int) + 1 := by omega
 have hk2 : k < s.length + 1 := by omega
 have hbl : (b2.map PV.bool).length = s.length + 1 := by simpa using l2
 have hh1 : Bs σ i1 s.length := ⟨b1, l1, o1⟩
 have fin : ∀ v : Bool, (∃ s1 : Go.Ab.Tr, Zy C 0 (opsD Js) ⟨⟨M, [], σ⟩, [], []⟩ = some (none, s1) /\ okRW [0, 0, 0, 0, 12, 28, 60, 60, 252, 60, 60, 1596, 4092, 8188, 16380, 32764, 32764, 98300, 262140, 524284, 1048572, 2097151, 4194303] (opsD Js) s1 = true /\ s1.st.defers = [] /\ s1.st.heap = σ.set i2 (.arr (.pv ((b2.map PV.bool).take k ++ ([.bool v] ++ (b2.map PV.bool).drop (k + 1)))) 0 0 none) /\ At174 s1.st.env s pt i j i1 i2 k) ->
     Way C L Js s pt i j i1 i2 k M σ := by
   rintro v ⟨⟨⟨M', d, σ'⟩, rds, wrs⟩, hr, hok, hd, hh, hA⟩
   simp only at hd hh
   subst hd hh
   exact ⟨M', _, L9 hr hok, hA, hh1.other (Ne.symm hne), Bs.set l2 o2 hk v, by simp⟩
 by_cases hn : k < s.length
 · have hn1 : ((k : Int) < (s.length : Int)) = True := eq_true (by omega)
   have hn2 : ((k : Int) + 1 < (s.length : Int) + 1) := by omega
   have e1 : IntKind.i64.wrap ((k : Int) + 1) = (k : Int) + 1 := J5 _ (by omega) (by omega)
   have ht : ((k : Int) + 1).toNat = k + 1 := by omega
   have hp : (0 : Int) <= (k : Int) + 1 := by omega
   have g2 : (b1.map PV.bool)[k + 1]? = some (.bool b1[k + 1]) := by rw [List.getElem?_map, List.getElem?_eq_getElem (by omega)]; rfl
   generalize b1[k + 1] = y at g2
   by_cases hq : s[k].toNat = c.toNat
   · have hq1 : ((s[k].toNat : Int) == (c.toNat : Int)) = true := by rw [hq]; exact beq_self_eq_true _
     refine fin _ ⟨_, by
         show Zy C 0 (_ :: _) _ = _
         refine (Zf rfl rfl (by simp [t0, t1, t5, t6, t7, t8, t9, o1, o2, Zt, hc, g2, hq, hq1, hn1, hn2, e1, ht, hp, hn, hk1, hk2, hbl, hk]; rfl)).trans ?_
         refine (Zf rfl rfl (by simp [t0, t1, t5, t6, t7, t8, t9, o1, o2, Zt, hc, g2, hq, hq1, hn1, hn2, e1, ht, hp, hn, hk1, hk2, hbl, hk]; rfl)).trans ?_
         refine (Zf rfl rfl (by simp [t0, t1, t5, t6, t7, t8, t9, o1, o2, Zt, hc, g2, hq, hq1, hn1, hn2, e1, ht, hp, hn, hk1, hk2, hbl, hk]; rfl)).trans ?_
         refine (Zf rfl rfl (by simp [t0, t1, t5, t6, t7, t8, t9, o1, o2, Zt, hc, g2, hq, hq1, hn1, hn2, e1, ht, hp, hn, hk1, hk2, hbl, hk]; rfl)).trans ?_
         refine (Zf rfl rfl (by simp [t0, t1, t5, t6, t7, t8, t9, o1, o2, Zt, hc, g2, hq, hq1, hn1, hn2, e1, ht, hp, hn, hk1, hk2, hbl, hk]; rfl)).trans ?_
         refine (Zf rfl rfl (by simp [t0, t1, t5, t6, t7, t8, t9, o1, o2, Zt, hc, g2, hq, hq1, hn1, hn2, e1, ht, hp, hn, hk1, hk2, hbl, hk]; rfl)).trans ?_
         refine (Zf (by simp [t0, t1, t5, t6, t7, t8, t9, o1, o2, Zt, hc, g2, hq, hq1, hn1, hn2, e1, ht, hp, hn, hk1, hk2, hbl, hk]) rfl (by simp [t0, t1, t5, t6, t7, t8, t9, o1, o2, Zt, hc, g2, hq, hq1, hn1, hn2, e1, ht, hp, hn, hk1, hk2, hbl, hk]; rfl)).trans ?_
         refine (Zf (by simp [t0, t1, t5, t6, t7, t8, t9, o1, o2, Zt, hc, g2, hq, hq1, hn1, hn2, e1, ht, hp, hn, hk1, hk2, hbl, hk]) rfl (by simp [t0, t1, t5, t6, t7, t8, t9, o1, o2, Zt, hc, g2, hq, hq1, hn1, hn2, e1, ht, hp, hn, hk1, hk2, hbl, hk]; rfl)).trans ?_
         refine (Zf (by simp [t0, t1, t5, t6, t7, t8, t9, o1, o2, Zt, hc, g2, hq, hq1, hn1, hn2, e1, ht, hp, hn, hk1, hk2, hbl, hk]) rfl (by simp [t0, t1, t5, t6, t7, t8, t9, o1, o2, Zt, hc, g2, hq, hq1, hn1, hn2, e1, ht, hp, hn, hk1, hk2, hbl, hk]; rfl)).trans ?_
         refine (Zf (by simp [t0, t1, t5, t6, t7, t8, t9, o1, o2, Zt, hc, g2, hq, hq1, hn1, hn2, e1, ht, hp, hn, hk1, hk2, hbl, hk]) rfl (by simp [t0, t1, t5, t6, t7, t8, t9, o1, o2, Zt, hc, g2, hq, hq1, hn1, hn2, e1, ht, hp, hn, hk1, hk2, hbl, hk]; rfl)).trans ?_
         refine (Zf (by simp [t0, t1, t5, t6, t7, t8, t9, o1, o2, Zt, hc, g2, hq, hq1, hn1, hn2, e1, ht, hp, hn, hk1, hk2, hbl, hk]) rfl (by simp [t0, t1, t5, t6, t7, t8, t9, o1, o2, Zt, hc, g2, hq, hq1, hn1, hn2, e1, ht, hp, hn, hk1, hk2, hbl, hk]; rfl)).trans ?_
         refine (Zf (by simp [t0, t1, t5, t6, t7, t8, t9, o1, o2, Zt, hc, g2, hq, hq1, hn1, hn2, e1, ht, hp, hn, hk1, hk2, hbl, hk]) rfl (by simp [t0, t1, t5, t6, t7, t8, t9, o1, o2, Zt, hc, g2, hq, hq1, hn1, hn2, e1, ht, hp, hn, hk1, hk2, hbl, hk]; rfl)).trans ?_
         refine (Zf (by simp [t0, t1, t5, t6, t7, t8, t9, o1, o2, Zt, hc, g2, hq, hq1, hn1, hn2, e1, ht, hp, hn, hk1, hk2, hbl, hk]) rfl (by simp [t0, t1, t5, t6, t7, t8, t9, o1, o2, Zt, hc, g2, hq, hq1, hn1, hn2, e1, ht, hp, hn, hk1, hk2, hbl, hk]; rfl)).trans ?_
         refine (Zf rfl rfl (by simp [t0, t1, t5, t6, t7, t8, t9, o1, o2, Zt, hc, g2, hq, hq1, hn1, hn2, e1, ht, hp, hn, hk1, hk2, hbl, hk]; rfl)).trans ?_
         refine (Zf rfl rfl (by simp [t0, t1, t5, t6, t7, t8, t9, o1, o2, Zt, hc, g2, hq, hq1, hn1, hn2, e1, ht, hp, hn, hk1, hk2, hbl, hk]; rfl)).trans ?_
         refine (Zf (by simp [t0, t1, t5, t6, t7, t8, t9, o1, o2, Zt, hc, g2, hq, hq1, hn1, hn2, e1, ht, hp, hn, hk1, hk2, hbl, hk]) rfl (by simp [t0, t1, t5, t6, t7, t8, t9, o1, o2, Zt, hc, g2, hq, hq1, hn1, hn2, e1, ht, hp, hn, hk1, hk2, hbl, hk]; rfl)).trans ?_
         refine (Zf (by simp [t0, t1, t5, t6, t7, t8, t9, o1, o2, Zt, hc, g2, hq, hq1, hn1, hn2, e1, ht, hp, hn, hk1, hk2, hbl, hk]) rfl (by simp [t0, t1, t5, t6, t7, t8, t9, o1, o2, Zt, hc, g2, hq, hq1, hn1, hn2, e1, ht, hp, hn, hk1, hk2, hbl, hk]; rfl)).trans ?_
         refine (Zf (by simp [t0, t1, t5, t6, t7, t8, t9, o1, o2, Zt, hc, g2, hq, hq1, hn1, hn2, e1, ht, hp, hn, hk1, hk2, hbl, hk]) rfl (by simp [t0, t1, t5, t6, t7, t8, t9, o1, o2, Zt, hc, g2, hq, hq1, hn1, hn2, e1, ht, hp, hn, hk1, hk2, hbl, hk]; rfl)).trans ?_
         refine (Zf (by simp [t0, t1, t5, t6, t7, t8, t9, o1, o2, Zt, hc, g2, hq, hq1, hn1, hn2, e1, ht, hp, hn, hk1, hk2, hbl, hk]) rfl (by simp [t0, t1, t5, t6, t7, t8, t9, o1, o2, Zt, hc, g2, hq, hq1, hn1, hn2, e1, ht, hp, hn, hk1, hk2, hbl, hk]; rfl)).trans ?_
         refine (Eu (by simp [t0, t1, t5, t6, t7, t8, t9, o1, o2, Zt, hc, g2, hq, hq1, hn1, hn2, e1, ht, hp, hn, hk1, hk2, hbl, hk]) rfl (by simp [t0, t1, t5, t6, t7, t8, t9, o1, o2, Zt, hc, g2, hq, hq1, hn1, hn2, e1, ht, hp, hn, hk1, hk2, hbl, hk]; exact ⟨rfl, rfl⟩)).trans ?_
         refine (Zf rfl rfl (by simp [t0, t1, t5, t6, t7, t8, t9, o1, o2, Zt, hc, g2, hq, hq1, hn1, hn2, e1, ht, hp, hn, hk1, hk2, hbl, hk]; rfl)).trans ?_
         refine (Zf rfl rfl (by simp [t0, t1, t5, t6, t7, t8, t9, o1, o2, Zt, hc, g2, hq, hq1, hn1, hn2, e1, ht, hp, hn, hk1, hk2, hbl, hk]; rfl)).trans ?_
         refine (B8 rfl rfl (by simp [Zo, Jk, t0, t1, t5, t6, t7, t8, t9, o1, o2, Zt, hc, g2, hq, hq1, hn1, hn2, e1, ht, hp, hn, hk1, hk2, hbl, hk]; rfl) (by simp; rfl) (by simp [t0, t1, t5, t6, t7, t8, t9, o1, o2, Zt, hc, g2, hq, hq1, hn1, hn2, e1, ht, hp, hn, hk1, hk2, hbl, hk]; rfl)).trans ?_
         exact rfl, by kernel_rfl, by rfl, by rfl, ⟨by simp [t0], by simp [t1], by simp [t5], by simp [t6], by simp [t7], by simp [t8], by simp [t9]⟩⟩
   · have hq1 : ((s[k].toNat : Int) == (c.toNat : Int)) = false := beq_eq_false_iff_ne.2 (by omega)
     refine fin _ ⟨_, by
         show Zy C 0 (_ :: _) _ = _
         refine (Zf rfl rfl (by simp [t0, t1, t5, t6, t7, t8, t9, o1, o2, Zt, hc, hq, hq1, hn1, hn, hk1, hk2, hbl, hk]; rfl)).trans ?_
         refine (Zf rfl rfl (by simp [t0, t1, t5, t6, t7, t8, t9, o1, o2, Zt, hc, hq, hq1, hn1, hn, hk1, hk2, hbl, hk]; rfl)).trans ?_
         refine (Zf rfl rfl (by simp [t0, t1, t5, t6, t7, t8, t9, o1, o2, Zt, hc, hq, hq1, hn1, hn, hk1, hk2, hbl, hk]; rfl)).trans ?_
         refine (Zf rfl rfl (by simp [t0, t1, t5, t6, t7, t8, t9, o1, o2, Zt, hc, hq, hq1, hn1, hn, hk1, hk2, hbl, hk]; rfl)).trans ?_
         refine (Zf rfl rfl (by simp [t0, t1, t5, t6, t7, t8, t9, o1, o2, Zt, hc, hq, hq1, hn1, hn, hk1, hk2, hbl, hk]; rfl)).trans ?_
         refine (Zf rfl rfl (by simp [t0, t1, t5, t6, t7, t8, t9, o1, o2, Zt, hc, hq, hq1, hn1, hn, hk1, hk2, hbl, hk]; rfl)).trans ?_
         refine (Zf (by simp [t0, t1, t5, t6, t7, t8, t9, o1, o2, Zt, hc, hq, hq1, hn1, hn, hk1, hk2, hbl, hk]) rfl (by simp [t0, t1, t5, t6, t7, t8, t9, o1, o2, Zt, hc, hq, hq1, hn1, hn, hk1, hk2, hbl, hk]; rfl)).trans ?_
         refine (Zf (by simp [t0, t1, t5, t6, t7, t8, t9, o1, o2, Zt, hc, hq, hq1, hn1, hn, hk1, hk2, hbl, hk]) rfl (by simp [t0, t1, t5, t6, t7, t8, t9, o1, o2, Zt, hc, hq, hq1, hn1, hn, hk1, hk2, hbl, hk]; rfl)).trans ?_
         refine (Zf (by simp [t0, t1, t5, t6, t7, t8, t9, o1, o2, Zt, hc, hq, hq1, hn1, hn, hk1, hk2, hbl, hk]) rfl (by simp [t0, t1, t5, t6, t7, t8, t9, o1, o2, Zt, hc, hq, hq1, hn1, hn, hk1, hk2, hbl, hk]; rfl)).trans ?_
         refine (Zf (by simp [t0, t1, t5, t6, t7, t8, t9, o1, o2, Zt, hc, hq, hq1, hn1, hn, hk1, hk2, hbl, hk]) rfl (by simp [t0, t1, t5, t6, t7, t8, t9, o1, o2, Zt, hc, hq, hq1, hn1, hn, hk1, hk2, hbl, hk]; rfl)).trans ?_
         refine (Zf (by simp [t0, t1, t5, t6, t7, t8, t9, o1, o2, Zt, hc, hq, hq1, hn1, hn, hk1, hk2, hbl, hk]) rfl (by simp [t0, t1, t5, t6, t7, t8, t9, o1, o2, Zt, hc, hq, hq1, hn1, hn, hk1, hk2, hbl, hk]; rfl)).trans ?_
         refine (Zf (by simp [t0, t1, t5, t6, t7, t8, t9, o1, o2, Zt, hc, hq, hq1, hn1, hn, hk1, hk2, hbl, hk]) rfl (by simp [t0, t1, t5, t6, t7, t8, t9, o1, o2, Zt, hc, hq, hq1, hn1, hn, hk1, hk2, hbl, hk]; rfl)).trans ?_
         refine (Zf (by simp [t0, t1, t5, t6, t7, t8, t9, o1, o2, Zt, hc, hq, hq1, hn1, hn, hk1, hk2, hbl, hk]) rfl (by simp [t0, t1, t5, t6, t7, t8, t9, o1, o2, Zt, hc, hq, hq1, hn1, hn, hk1, hk2, hbl, hk]; rfl)).trans ?_
         refine (Zf rfl rfl (by simp [t0, t1, t5, t6, t7, t8, t9, o1, o2, Zt, hc, hq, hq1, hn1, hn, hk1, hk2, hbl, hk]; rfl)).trans ?_
         refine (Zf rfl rfl (by simp [t0, t1, t5, t6, t7, t8, t9, o1, o2, Zt, hc, hq, hq1, hn1, hn, hk1, hk2, hbl, hk]; rfl)).trans ?_
         refine (Xb (by simp [t0, t1, t5, t6, t7, t8, t9, o1, o2, Zt, hc, hq, hq1, hn1, hn, hk1, hk2, hbl, hk])).trans ?_
         refine (Xb (by simp [t0, t1, t5, t6, t7, t8, t9, o1, o2, Zt, hc, hq, hq1, hn1, hn, hk1, hk2, hbl, hk])).trans ?_
         refine (Xb (by simp [t0, t1, t5, t6, t7, t8, t9, o1, o2, Zt, hc, hq, hq1, hn1, hn, hk1, hk2, hbl, hk])).trans ?_
         refine (Xb (by simp [t0, t1, t5, t6, t7, t8, t9, o1, o2, Zt, hc, hq, hq1, hn1, hn, hk1, hk2, hbl, hk])).trans ?_
         refine (Xb (by simp [t0, t1, t5, t6, t7, t8, t9, o1, o2, Zt, hc, hq, hq1, hn1, hn, hk1, hk2, hbl, hk])).trans ?_
         refine (Zf rfl rfl (by simp [t0, t1, t5, t6, t7, t8, t9, o1, o2, Zt, hc, hq, hq1, hn1, hn, hk1, hk2, hbl, hk]; rfl)).trans ?_
         refine (Zf rfl rfl (by simp [t0, t1, t5, t6, t7, t8, t9, o1, o2, Zt, hc, hq, hq1, hn1, hn, hk1, hk2, hbl, hk]; rfl)).trans ?_
         refine (B8 rfl rfl (by simp [Zo, Jk, t0, t1, t5, t6, t7, t8, t9, o1, o2, Zt, hc, hq, hq1, hn1, hn, hk1, hk2, hbl, hk]; rfl) (by simp; rfl) (by simp [t0, t1, t5, t6, t7, t8, t9, o1, o2, Zt, hc, hq, hq1, hn1, hn, hk1, hk2, hbl, hk]; rfl)).trans ?_
         exact rfl, by kernel_rfl, by rfl, by rfl, ⟨by simp [t0], by simp [t1], by simp [t5], by simp [t6], by simp [t7], by simp [t8], by simp [t9]⟩⟩
 · have hn1 : ((k : Int) < (s.length : Int)) = False := eq_false (by omega)
   refine fin _ ⟨_, by
       show Zy C 0 (_ :: _) _ = _
       refine (Zf rfl rfl (by simp [t0, t1, t5, t6, t7, t8, t9, o1, o2, Zt, hc, hn1, hn, hk1, hk2, hbl, hk]; rfl)).trans ?_
       refine (Zf rfl rfl (by simp [t0, t1, t5, t6, t7, t8, t9, o1, o2, Zt, hc, hn1, hn, hk1, hk2, hbl, hk]; rfl)).trans ?_
       refine (Zf rfl rfl (by simp [t0, t1, t5, t6, t7, t8, t9, o1, o2, Zt, hc, hn1, hn, hk1, hk2, hbl, hk]; rfl)).trans ?_
       refine (Zf rfl rfl (by simp [t0, t1, t5, t6, t7, t8, t9, o1, o2, Zt, hc, hn1, hn, hk1, hk2, hbl, hk]; rfl)).trans ?_
       refine (Zf rfl rfl (by simp [t0, t1, t5, t6, t7, t8, t9, o1, o2, Zt, hc, hn1, hn, hk1, hk2, hbl, hk]; rfl)).trans ?_
       refine (Zf rfl rfl (by simp [t0, t1, t5, t6, t7, t8, t9, o1, o2, Zt, hc, hn1, hn, hk1, hk2, hbl, hk]; rfl)).trans ?_
       refine (Xb (by simp [t0, t1, t5, t6, t7, t8, t9, o1, o2, Zt, hc, hn1, hn, hk1, hk2, hbl, hk])).trans ?_
       refine (Xb (by simp [t0, t1, t5, t6, t7, t8, t9, o1, o2, Zt, hc, hn1, hn, hk1, hk2, hbl, hk])).trans ?_
       refine (Xb (by simp [t0, t1, t5, t6, t7, t8, t9, o1, o2, Zt, hc, hn1, hn, hk1, hk2, hbl, hk])).trans ?_
       refine (Xb (by simp [t0, t1, t5, t6, t7, t8, t9, o1, o2, Zt, hc, hn1, hn, hk1, hk2, hbl, hk])).trans ?_
       refine (Xb (by simp [t0, t1, t5, t6, t7, t8, t9, o1, o2, Zt, hc, hn1, hn, hk1, hk2, hbl, hk])).trans ?_
       refine (Xb (by simp [t0, t1, t5, t6, t7, t8, t9, o1, o2, Zt, hc, hn1, hn, hk1, hk2, hbl, hk])).trans ?_
       refine (Xb (by simp [t0, t1, t5, t6, t7, t8, t9, o1, o2, Zt, hc, hn1, hn, hk1, hk2, hbl, hk])).trans ?_
       refine (Zf rfl rfl (by simp [t0, t1, t5, t6, t7, t8, t9, o1, o2, Zt, hc, hn1, hn, hk1, hk2, hbl, hk]; rfl)).trans ?_
       refine (Zf rfl rfl (by simp [t0, t1, t5, t6, t7, t8, t9, o1, o2, Zt, hc, hn1, hn, hk1, hk2, hbl, hk]; rfl)).trans ?_
       refine (Xb (by simp [t0, t1, t5, t6, t7, t8, t9, o1, o2, Zt, hc, hn1, hn, hk1, hk2, hbl, hk])).trans ?_
       refine (Xb (by simp [t0, t1, t5, t6, t7, t8, t9, o1, o2, Zt, hc, hn1, hn, hk1, hk2, hbl, hk])).trans ?_
       refine (Xb (by simp [t0, t1, t5, t6, t7, t8, t9, o1, o2, Zt, hc, hn1, hn, hk1, hk2, hbl, hk])).trans ?_
       refine (Xb (by simp [t0, t1, t5, t6, t7, t8, t9, o1, o2, Zt, hc, hn1, hn, hk1, hk2, hbl, hk])).trans ?_
       refine (Xb (by simp [t0, t1, t5, t6, t7, t8, t9, o1, o2, Zt, hc, hn1, hn, hk1, hk2, hbl, hk])).trans ?_
       refine (Zf rfl rfl (by simp [t0, t1, t5, t6, t7, t8, t9, o1, o2, Zt, hc, hn1, hn, hk1, hk2, hbl, hk]; rfl)).trans ?_
       refine (Zf rfl rfl (by simp [t0, t1, t5, t6, t7, t8, t9, o1, o2, Zt, hc, hn1, hn, hk1, hk2, hbl, hk]; rfl)).trans ?_
       refine (B8 rfl rfl (by simp [Zo, Jk, t0, t1, t5, t6, t7, t8, t9, o1, o2, Zt, hc, hn1, hn, hk1, hk2, hbl, hk]; rfl) (by simp; rfl) (by simp [t0, t1, t5, t6, t7, t8, t9, o1, o2, Zt, hc, hn1, hn, hk1, hk2, hbl, hk]; rfl)).trans ?_
       exact rfl, by kernel_rfl, by rfl, by rfl, ⟨by simp [t0], by simp [t1], by simp [t5], by simp [t6], by simp [t7], by simp [t8], by simp [t9]⟩⟩
end
end Go.Ab.Keep
