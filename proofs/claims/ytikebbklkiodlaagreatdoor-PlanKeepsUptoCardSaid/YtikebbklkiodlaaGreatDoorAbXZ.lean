/- XZ -/
import Derived.Test.YtikebbklkiodlaaGreatDoorAbXR
set_option maxRecDepth 1000000
set_option linter.all false
namespace Go.Ab.Keep
open Go Go.Ab Go.Ab.Plan Go.Ab.Key Go.Ab.Cnt Go.Ab.Turn Go.Proofs
variable [Mx]
abbrev wNeg : Word := [110, 101, 103]
abbrev Qyi : Word := [110, 117, 108, 108, 105, 102]
def wy : List Word := [[43], [45], [42], [47], [124, 124], [110, 101, 103], [110, 117, 108, 108, 105, 102]]
section
variable (C : Zj) (L : Nat) (s : Word) (z : Int) (lv : PV) (vs : List V) (M : Env) (v : V) (w : Word)
theorem At140.up {M : Env} {vs : List V} (h : At140 M vs) (r : Env) (hr : ∀ t, t < 10 -> Env.get r t = none) : At140 (r ++ M) vs := by
 have e : ∀ t, t < 10 -> Env.get (r ++ M) t = M.get t := by
   intro t ht
   have h1 := hr t ht
   clear hr
   induction r with
   | nil => rfl
   | cons x r ih =>
     obtain ⟨y, z⟩ := x
     rw [List.cons_append]
     rw [Env.get_cons] at h1 ⊢
     split at h1
     · cases h1
     · rename_i hne
       rw [if_neg hne]
       exact ih h1
 exact ⟨(e 3 (by omega)).trans h.t3, (e 6 (by omega)).trans h.t6, (e 8 (by omega)).trans h.t8⟩
theorem Qt3 (h : At140 M vs) (hs : ∀ M, At140 M vs -> Sum C L Hg [.str [43], .str s, .int .i64 z, lv] M v w) :
   ∃ M', exec C L Pv ⟨M, [], Yk [.str [43], .str s, .int .i64 z, lv] Yl⟩ = some (.ret, ⟨M', [], Yk [.str [43], .str s, .int .i64 z, lv] (vc v)⟩) /\ M'.get 6 = some (.ptr 1 0 0) /\ M'.get 7 = some (.p (.str w)) := by
 obtain ⟨M', e, g⟩ := hs ((26, .p (.bool true)) :: (27, .p (.bool true)) :: (25, .p (.str [43])) :: (24, .ptr 0 0 0) :: M) ⟨by simp [h.t3], by simp [h.t6], by simp [h.t8]⟩
 refine ⟨M', ?_, g⟩
 unfold Pv Sv Px K4 yh
 rw [seqN (by simp [Sx, h.t3]; rfl)]
 refine E5 ?_
 rw [seqN (by simp [K5]; rfl), y5 (by rfl)]
 rw [seqN (show exec C L Hg _ = _ from e)]
 rfl
theorem Qrl (h : At140 M vs) (hs : ∀ M, At140 M vs -> Sum C L De [.str [45], .str s, .int .i64 z, lv] M v w) :
   ∃ M', exec C L Pv ⟨M, [], Yk [.str [45], .str s, .int .i64 z, lv] Yl⟩ = some (.ret, ⟨M', [], Yk [.str [45], .str s, .int .i64 z, lv] (vc v)⟩) /\ M'.get 6 = some (.ptr 1 0 0) /\ M'.get 7 = some (.p (.str w)) := by
 obtain ⟨M', e, g⟩ := hs ((37, .p (.bool true)) :: (38, .p (.bool true)) :: (26, .p (.bool false)) :: (27, .p (.bool false)) :: (25, .p (.str [45])) :: (24, .ptr 0 0 0) :: M) ⟨by simp [h.t3], by simp [h.t6], by simp [h.t8]⟩
 refine ⟨M', ?_, g⟩
 unfold Pv Sv Px K4 Le Hh Wg
 rw [seqN (by simp [Sx, h.t3]; rfl)]
 refine E5 ?_
 rw [seqN (by simp [K5]; rfl), Tv (by rfl), seqN (by simp [Hl]; rfl), y5 (by rfl)]
 rw [seqN (show exec C L De _ = _ from e)]
 rfl
theorem Qsj (h : At140 M vs) (hs : ∀ M, At140 M vs -> Sum C L Yz [.str [42], .str s, .int .i64 z, lv] M v w) :
   ∃ M', exec C L Pv ⟨M, [], Yk [.str [42], .str s, .int .i64 z, lv] Yl⟩ = some (.ret, ⟨M', [], Yk [.str [42], .str s, .int .i64 z, lv] (vc v)⟩) /\ M'.get 6 = some (.ptr 1 0 0) /\ M'.get 7 = some (.p (.str w)) := by
 obtain ⟨M', e, g⟩ := hs ((48, .p (.bool true)) :: (49, .p (.bool true)) :: (37, .p (.bool false)) :: (38, .p (.bool false)) :: (26, .p (.bool false)) :: (27, .p (.bool false)) :: (25, .p (.str [42])) :: (24, .ptr 0 0 0) :: M) ⟨by simp [h.t3], by simp [h.t6], by simp [h.t8]⟩
 refine ⟨M', ?_, g⟩
 unfold Pv Sv Px K4 Le Hh Ig Ff Ta
 rw [seqN (by simp [Sx, h.t3]; rfl)]
 refine E5 ?_
 rw [seqN (by simp [K5]; rfl), Tv (by rfl), seqN (by simp [Hl]; rfl), Tv (by rfl), seqN (by simp [Fc]; rfl), y5 (by rfl)]
 rw [seqN (show exec C L Yz _ = _ from e)]
 rfl
theorem Qsl (h : At140 M vs) (hs : ∀ M, At140 M vs -> Sum C L G8 [.str [47], .str s, .int .i64 z, lv] M v w) :
   ∃ M', exec C L Pv ⟨M, [], Yk [.str [47], .str s, .int .i64 z, lv] Yl⟩ = some (.ret, ⟨M', [], Yk [.str [47], .str s, .int .i64 z, lv] (vc v)⟩) /\ M'.get 6 = some (.ptr 1 0 0) /\ M'.get 7 = some (.p (.str w)) := by
 obtain ⟨M', e, g⟩ := hs ((59, .p (.bool true)) :: (60, .p (.bool true)) :: (48, .p (.bool false)) :: (49, .p (.bool false)) :: (37, .p (.bool false)) :: (38, .p (.bool false)) :: (26, .p (.bool false)) :: (27, .p (.bool false)) :: (25, .p (.str [47])) :: (24, .ptr 0 0 0) :: M) ⟨by simp [h.t3], by simp [h.t6], by simp [h.t8]⟩
 refine ⟨M', ?_, g⟩
 unfold Pv Sv Px K4 Le Hh Ig Ff F3 Ei Ra
 rw [seqN (by simp [Sx, h.t3]; rfl)]
 refine E5 ?_
 rw [seqN (by simp [K5]; rfl), Tv (by rfl), seqN (by simp [Hl]; rfl), Tv (by rfl), seqN (by simp [Fc]; rfl), Tv (by rfl), seqN (by simp [Ej]; rfl), y5 (by rfl)]
 rw [seqN (show exec C L G8 _ = _ from e)]
 rfl
theorem Qsu (h : At140 M vs) (hs : ∀ M, At140 M vs -> Sum C L Gj [.str [124, 124], .str s, .int .i64 z, lv] M v w) :
   ∃ M', exec C L Pv ⟨M, [], Yk [.str [124, 124], .str s, .int .i64 z, lv] Yl⟩ = some (.ret, ⟨M', [], Yk [.str [124, 124], .str s, .int .i64 z, lv] (vc v)⟩) /\ M'.get 6 = some (.ptr 1 0 0) /\ M'.get 7 = some (.p (.str w)) := by
 obtain ⟨M', e, g⟩ := hs ((70, .p (.bool true)) :: (71, .p (.bool true)) :: (59, .p (.bool false)) :: (60, .p (.bool false)) :: (48, .p (.bool false)) :: (49, .p (.bool false)) :: (37, .p (.bool false)) :: (38, .p (.bool false)) :: (26, .p (.bool false)) :: (27, .p (.bool false)) :: (25, .p (.str [124, 124])) :: (24, .ptr 0 0 0) :: M) ⟨by simp [h.t3], by simp [h.t6], by simp [h.t8]⟩
 refine ⟨M', ?_, g⟩
 unfold Pv Sv Px K4 Le Hh Ig Ff F3 Ei Fx Ew Nh
 rw [seqN (by simp [Sx, h.t3]; rfl)]
 refine E5 ?_
 rw [seqN (by simp [K5]; rfl), Tv (by rfl), seqN (by simp [Hl]; rfl), Tv (by rfl), seqN (by simp [Fc]; rfl), Tv (by rfl), seqN (by simp [Ej]; rfl), Tv (by rfl), seqN (by simp [El]; rfl), y5 (by rfl)]
 rw [seqN (show exec C L Gj _ = _ from e)]
 rfl
theorem Qsf (h : At140 M vs) (hs : ∀ M, At140 M vs -> Sum C L Yf [.str [110, 101, 103], .str s, .int .i64 z, lv] M v w) :
   ∃ M', exec C L Pv ⟨M, [], Yk [.str [110, 101, 103], .str s, .int .i64 z, lv] Yl⟩ = some (.ret, ⟨M', [], Yk [.str [110, 101, 103], .str s, .int .i64 z, lv] (vc v)⟩) /\ M'.get 6 = some (.ptr 1 0 0) /\ M'.get 7 = some (.p (.str w)) := by
 obtain ⟨M', e, g⟩ := hs ((81, .p (.bool true)) :: (82, .p (.bool true)) :: (70, .p (.bool false)) :: (71, .p (.bool false)) :: (59, .p (.bool false)) :: (60, .p (.bool false)) :: (48, .p (.bool false)) :: (49, .p (.bool false)) :: (37, .p (.bool false)) :: (38, .p (.bool false)) :: (26, .p (.bool false)) :: (27, .p (.bool false)) :: (25, .p (.str [110, 101, 103])) :: (24, .ptr 0 0 0) :: M) ⟨by simp [h.t3], by simp [h.t6], by simp [h.t8]⟩
 refine ⟨M', ?_, g⟩
 unfold Pv Sv Px K4 Le Hh Ig Ff F3 Ei Fx Ew Hy Ft K0
 rw [seqN (by simp [Sx, h.t3]; rfl)]
 refine E5 ?_
 rw [seqN (by simp [K5]; rfl), Tv (by rfl), seqN (by simp [Hl]; rfl), Tv (by rfl), seqN (by simp [Fc]; rfl), Tv (by rfl), seqN (by simp [Ej]; rfl), Tv (by rfl), seqN (by simp [El]; rfl), Tv (by rfl), seqN (by simp [Fu]; rfl), y5 (by rfl)]
 rw [seqN (show exec C L Yf _ = _ from e)]
 rfl
theorem Qt0 (h : At140 M vs) : ∃ M', exec C L Pv ⟨M, [], Yk [.str [110, 117, 108, 108, 105, 102], .str s, .int .i64 z, lv] Yl⟩ = some (.normal, ⟨M', [], Yk [.str [110, 117, 108, 108, 105, 102], .str s, .int .i64 z, lv] Yl⟩) /\ At140 M' vs :=
 ⟨_, by simp [Sx, Pv, Sv, Px, K5, K4, Le, Hl, Hh, Ig, Fc, Ff, F3, Ej, Ei, Fx, El, Ew, Hy, Fu, Ft, h.t3]; rfl, ⟨by simp [h.t3], by simp [h.t6], by simp [h.t8]⟩⟩
end
theorem sums40 (L n : Nat) (hL : 1048577 < L) (rP : PV) (t : T) (hop : t.op ∈ wy) (vs : List V) (w : Word) (hA : AC (cAt TT L (n + 4)).1 rP t.l vs w)
   (hl : w = Zi -> t.op = wNeg -> vs.length = 1) (hl2 : w = Zi -> t.op ≠ wNeg -> vs.length = 2) (hok : w = Zi -> ∀ v ∈ vs, okV v) :
   ∃ v' w', okV v' /\ (∀ σ, (cAt TT L (n + 5)).1 40 [.p (node t), .p rP, .p src] σ = some (.ret (.p (Z3 (v', w'))), σ)) /\ (w' = Zi -> t.op = wNeg -> w = Zi /\ ∃ a, vs = [a] /\ (v', w') = subV (.num 0) a) := by
 have key : ∃ v' w', okV v' /\ ansV (Z8 (cAt TT L (n + 4)).1 (cAt TT L (n + 4)).2 L lit140 [.p (node t), .p rP, .p src] []) = some (Z3 (v', w')) /\ (w' = Zi -> t.op = wNeg -> w = Zi /\ ∃ a, vs = [a] /\ (v', w') = subV (.num 0) a) := by
   have eAdd := fun a b σ => sub61 L (n + 2) a b σ
   have eSub := fun a b σ => Qy6 L (n + 2) a b σ
   have eMul := fun a b => mul63 L n a b
   have eDiv := fun a b => div64 L n a b
   have eCat := fun a b ha hb σ => cat65 L (n + 2) a b ha hb σ
   have eNeg := fun a σ => Qxh L (n + 1) a σ
   have eTest := fun a b ha hb σ => Qoa L (n + 1) wEq a b ha hb σ
   unfold AC at hA
   generalize (cAt TT L (n + 4)).1 = C at *
   generalize (cAt TT L (n + 4)).2 = D
   obtain ⟨op, s, z, l⟩ := t
   simp only [T.op, T.l, node, cells] at hop hA hl hl2 ⊢
   generalize PV.vsl (Zs l) l.length = lv at *
   rw [Zp, lit140_tree]
   have st : ∃ M1, (∀ X, exec C L (.seq Qpf (.seq Qpo X)) ⟨params 0 [.p (.agg [.str op, .str s, .int .i64 z, lv]), .p rP, .p src], [], []⟩ = exec C L X ⟨M1, [], Yk [.str op, .str s, .int .i64 z, lv] Yl⟩) /\ At140 M1 vs /\ M1.get 9 = some (.p (.str w)) :=
     ⟨_, fun X => by
       rw [seqN (by simp [Qpf, params]; rfl), seqN (by simp [Qpo, hA]; rfl)], ⟨by simp, by simp, by simp⟩, by simp⟩
   obtain ⟨M1, e0, h1, g9⟩ := st
   unfold n140
   rw [e0]
   by_cases hw : w = Zi
   · have hl := hl hw
     have hl2 := hl2 hw
     have hok := hok hw
     have e3 : exec C L Qle ⟨M1, [], Yk [.str op, .str s, .int .i64 z, lv] Yl⟩ = some (.normal, ⟨[(21, .p (.bool false)), (20, .p (.str w))] ++ M1, [], Yk [.str op, .str s, .int .i64 z, lv] Yl⟩) := by
       simp [Qle, Qfz, Qdx, g9, hw]
     have h2 := h1.up [(21, .p (.bool false)), (20, .p (.str w))] (fun t ht => by
       have : ∀ j, 10 <= j -> ¬ j = t := fun j hj he => by omega
       simp [this, Env.get])
     rw [seqN e3]
     generalize [(21, AV.p (.bool false)), (20, .p (.str w))] ++ M1 = M2 at *
     have fin : ∀ (v' : V) (w' : Word), (∃ M', exec C L Pv ⟨M2, [], Yk [.str op, .str s, .int .i64 z, lv] Yl⟩ = some (.ret, ⟨M', [], Yk [.str op, .str s, .int .i64 z, lv] (vc v')⟩) /\ M'.get 6 = some (.ptr 1 0 0) /\ M'.get 7 = some (.p (.str w'))) -> ∀ X, ansV (finX D lit140 (exec C L (.seq Pv X) ⟨M2, [], Yk [.str op, .str s, .int .i64 z, lv] Yl⟩)) = some (Z3 (v', w')) := by
       rintro v' w' ⟨M', e, g6, g7⟩ X
       rw [seqR e]
       obtain ⟨p, q, r, x, ev'⟩ := vc4 v'
       simp [lit140, g6, g7, Yk, Z3, ev']
     by_cases hn : op = wNeg
     · subst hn
       obtain ⟨a, rfl⟩ : ∃ a, vs = [a] := List.length_eq_one_iff.1 (hl rfl)
       refine ⟨(subV (.num 0) a).1, (subV (.num 0) a).2, Qo5, fin _ _ (Qsf C L s z lv [a] M2 _ _ h2 fun M h => neg140 C L _ a M _ _ h (eNeg a)) _, fun _ _ => ⟨hw, a, rfl, rfl⟩⟩
     · obtain ⟨a, b, rfl⟩ : ∃ a b, vs = [a, b] := by
         have h2 := hl2 hn
         match vs, h2 with
         | [a, b], _ => exact ⟨a, b, rfl⟩
       have ha := hok a (by simp)
       have hb := hok b (by simp)
       simp only [wy, List.mem_cons, List.not_mem_nil, or_false] at hop
       rcases hop with rfl | rfl | rfl | rfl | rfl | hop | rfl
       · exact ⟨_, _, okAdd, fin _ _ (Qt3 C L s z lv [a, b] M2 _ _ h2 fun M h => add140 C L _ a b M _ _ h (eAdd a b)) _, fun _ h => absurd h hn⟩
       · exact ⟨_, _, Qo5, fin _ _ (Qrl C L s z lv [a, b] M2 _ _ h2 fun M h => sub140 C L _ a b M _ _ h (eSub a b)) _, fun _ h => absurd h hn⟩
       · obtain ⟨v', w', hv', e⟩ := eMul a b
         exact ⟨v', w', hv', fin _ _ (Qsj C L s z lv [a, b] M2 _ _ h2 fun M h => mul140 C L _ a b M _ _ h e) _, fun _ h => absurd h hn⟩
       · obtain ⟨v', w', hv', e⟩ := eDiv a b
         exact ⟨v', w', hv', fin _ _ (Qsl C L s z lv [a, b] M2 _ _ h2 fun M h => div140 C L _ a b M _ _ h e) _, fun _ h => absurd h hn⟩
       · exact ⟨_, _, okCat, fin _ _ (Qsu C L s z lv [a, b] M2 _ _ h2 fun M h => cat140 C L _ a b M _ _ h (eCat a b ha hb)) _, fun _ h => absurd h hn⟩
       · exact absurd hop hn
       · have hlen : ∀ (v : V), okV v -> ∀ s, v = .text s -> s.length < L /\ s.length <= 9223372036854775807 := by
           rintro v hv s rfl
           have : s.length <= 1048576 := hv
           omega
         obtain ⟨M3, e4, h3⟩ := Qt0 C L s z lv [a, b] M2 h2
         rw [seqN e4]
         have eT := eTest a b (hlen a ha) (hlen b hb)
         generalize Qau wEq a b = o at eT
         obtain ⟨q, w1⟩ := o
         obtain ⟨M4, e5, h4, g10, g11⟩ := Qxb C L [.str Qyi, .str s, .int .i64 z, lv] a b M3 w1 q h3 eT
         rw [seqN e5]
         obtain ⟨p, q', r, x, ea⟩ := vc4 a
         obtain ⟨p1, q1, r1, x1, eb⟩ := vc4 b
         have t8 := h4.t8
         rw [vcs2, ea, eb] at t8
         simp only [List.cons_append, List.nil_append, List.length_cons, List.length_nil] at t8
         by_cases hw1 : w1 = Zi
         · subst hw1
           cases q with
           | t => exact ⟨.null, Zi, trivial, by simp [Qgw, zd, ww, Qkj, xp, x8, lit140, Yk, h4.t3, h4.t6, g10, g11, Tr.n, Z3, Ja, Jz, Jb, Z9, bne], fun _ h => absurd h hn⟩
           | f => exact ⟨a, Zi, ha, by simp [Qgw, zd, ww, Qkj, xp, x8, Qnx, lit140, Yk, h4.t3, h4.t6, t8, g10, g11, Tr.n, Z3, ea, bne], fun _ h => absurd h hn⟩
           | u => exact ⟨a, Zi, ha, by simp [Qgw, zd, ww, Qkj, xp, x8, Qnx, lit140, Yk, h4.t3, h4.t6, t8, g10, g11, Tr.n, Z3, ea, bne], fun _ h => absurd h hn⟩
         · have hw1' : (w1 == Zi) = false := beq_eq_false_iff_ne.2 hw1
           exact ⟨.null, w1, trivial, by simp [Qgw, zd, ww, lit140, Yk, h4.t3, h4.t6, g10, g11, hw1', Z3, Ja, Jz, Jb, Z9, bne], fun _ h => absurd h hn⟩
   · have hw' : (w == Zi) = false := beq_eq_false_iff_ne.2 hw
     exact ⟨.null, w, trivial, by simp [Qle, Qfz, Qdx, lit140, Yk, h1.t6, g9, hw', Z3, Ja, Jz, Jb, Z9, bne], fun h => absurd h hw⟩
 obtain ⟨v', w', h1, h2, h3⟩ := key
 exact ⟨v', w', h1, fun σ => Z7 (ps := [node t, rP, src]) (n := n + 4) q140 (by rfl) h2 σ, h3⟩
end Go.Ab.Keep
namespace Go.Ab.Keep
open Go Go.Ab Go.Ab.Plan Go.Ab.Key Go.Ab.Cnt Go.Ab.Turn Go.Proofs
variable [Mx]
theorem M5 (t : T) : ∃ a b c d, cells t = [a, b, c, d] := by obtain ⟨op, s, z, l⟩ := t; exact ⟨_, _, _, _, rfl⟩
theorem Qak (a b : T) : Zs [a, b] = cells a ++ cells b := by simp [Zs]
section
variable (C : Zj) (L : Nat) (rP : PV) (op s : Word) (z : Int) (l : List T) (i : Nat) (M : Env)
abbrev Ov (op s : Word) (z : Int) (l : List T) (r : List PV) : Heap := [.arr (.pv [.str op, .str s, .int .i64 z, .vsl (Zs l) l.length]) 0 0 none, .arr (.pv r) 0 0 (some 54)]
structure At135 (M : Env) (rP : PV) (k : Int) (i : Nat) : Prop where
 t1 : M.get 1 = some (.p rP)
 t2 : M.get 2 = some (.p src)
 t3 : M.get 3 = some (.ptr 0 0 0)
 t6 : M.get 6 = some (.ptr 1 0 0)
 t8 : M.get 8 = some (int k)
 t9 : M.get 9 = some (int i)
theorem Qyt (h : At135 M rP ((l.length : Int) - 1) i) (hi : l.length <= i + 1) (hl : 1 <= l.length) : ∃ M', exec C L If ⟨M, [], Ov op s z l Yl⟩ = some (.exit 0, ⟨M', [], Ov op s z l Yl⟩) /\ At135 M' rP ((l.length : Int) - 1) i := by
 have f : ((i : Int) < (l.length : Int) - 1) = False := eq_false (by omega)
 exact ⟨_, by simp [Nn, Kf, Kh, If, h.t8, h.t9, f]; rfl, ⟨by simp [h.t1], by simp [h.t2], by simp [h.t3], by simp [h.t6], by simp [h.t8], by simp [h.t9]⟩⟩
theorem go135 (h : At135 M rP ((l.length : Int) - 1) i) (hi : i + 1 < l.length) (hm : l.length <= 1048576) (c a b : T) (hc : l[i]? = some c) (hcl : c.l = [a, b]) (q : Tr) (w : Word) (hT : TC C rP a q w) (v : V) (w' : Word) (hV : VC C rP b v w') (hv : okV v) :
   (∃ M' v1 w1, okV v1 /\ exec C L If ⟨M, [], Ov op s z l Yl⟩ = some (.ret, ⟨M', [], Ov op s z l (vc v1)⟩) /\ M'.get 6 = some (.ptr 1 0 0) /\ M'.get 7 = some (.p (.str w1))) ∨
   (∃ M', exec C L If ⟨M, [], Ov op s z l Yl⟩ = some (.normal, ⟨M', [], Ov op s z l Yl⟩) /\ At135 M' rP ((l.length : Int) - 1) (i + 1)) := by
 obtain ⟨t1, t2, t3, t6, t8, t9⟩ := h
 have f : ((i : Int) < (l.length : Int) - 1) = True := eq_true (by omega)
 have f2 : (i : Int) < (l.length : Int) := by omega
 have f3 : i < l.length := by omega
 have e1 : IntKind.i64.wrap ((i : Int) + 1) = (i : Int) + 1 := J5 _ (by omega) (by omega)
 have hd := Nb l i c hc
 obtain ⟨o', s', z', l'⟩ := c
 simp only [T.l] at hcl
 subst hcl
 have hd' : (Zs l).drop (i * 4) = .str o' :: .str s' :: .int .i64 z' :: .vsl (cells a ++ cells b) 2 :: Zs (l.drop (i + 1)) := by rw [hd, <- Qak]; rfl
 clear hd hc
 obtain ⟨a1, a2, a3, a4, ea⟩ := M5 a
 obtain ⟨b1, b2, b3, b4, eb⟩ := M5 b
 obtain ⟨p, q', r, x, ev'⟩ := vc4 v
 unfold TC at hT
 unfold VC at hV
 simp only [node, ea, eb, truP, Z3, val, ev', List.cons_append, List.nil_append] at hT hV hd'
 generalize hsr : src = sr at *
 by_cases hw : w = Zi
 · subst hw
   cases q with
   | t => exact .inl ⟨_, v, w', hv, by
       simp only [ev']
       simp [Nn, Kf, Kh, Rd, N3, B2, Lm, H8, Io, Kx, K8, Kb, F4, B2, If, t1, t2, t3, t6, t8, t9, f, f2, f3, hd', hT, hV, Tr.n, bne]
       rfl, by simp [t6], by simp⟩
   | f => exact .inr ⟨_, by
       simp [Nn, Kf, Kh, Rd, N3, B2, Lm, H8, Io, Kx, K8, Kb, F4, B2, Wv, If, t1, t2, t3, t6, t8, t9, f, f2, f3, hd', hT, Tr.n, bne, e1]
       rfl, ⟨by simp [t1], by simp [t2]; exact hsr.symm, by simp [t3], by simp [t6], by simp [t8], by simp⟩⟩
   | u => exact .inr ⟨_, by
       simp [Nn, Kf, Kh, Rd, N3, B2, Lm, H8, Io, Kx, K8, Kb, F4, B2, Wv, If, t1, t2, t3, t6, t8, t9, f, f2, f3, hd', hT, Tr.n, bne, e1]
       rfl, ⟨by simp [t1], by simp [t2]; exact hsr.symm, by simp [t3], by simp [t6], by simp [t8], by simp⟩⟩
 · have hw' : (w == Zi) = false := beq_eq_false_iff_ne.2 hw
   exact .inl ⟨_, .null, w, trivial, by
     simp only [Ja, Jz, Jb, Z9]
     simp [Nn, Kf, Kh, Rd, N3, B2, Lm, H8, Io, Kx, K8, Kb, F4, B2, If, t1, t2, t3, t6, t8, t9, f, f2, f3, hd', hT, hw', bne]
     rfl, by simp [t6], by simp⟩
end
end Go.Ab.Keep
namespace Go.Ab.Keep
open Go Go.Ab Go.Ab.Plan Go.Ab.Key Go.Ab.Cnt Go.Ab.Turn Go.Proofs
variable [Mx]
def Arms (C : Zj) (rP : PV) (l : List T) : Prop := ∀ (i : Nat) (c : T), l[i]? = some c -> i + 1 < l.length -> ∃ a b, c.l = [a, b] /\ (∃ q w, TC C rP a q w) /\ (∃ v w, okV v /\ VC C rP b v w)
theorem Qpw (C : Zj) (L : Nat) (rP : PV) (op s : Word) (z : Int) (l : List T) (hl : 1 <= l.length) (hm : l.length <= 1048576) (hA : Arms C rP l) : ∀ (d f i : Nat) (M : Env), l.length - i <= d -> d < f -> i + 1 <= l.length -> At135 M rP ((l.length : Int) - 1) i ->
   (∃ M' v1 w1, okV v1 /\ iter (exec C L If) none f ⟨M, [], Ov op s z l Yl⟩ = some (.ret, ⟨M', [], Ov op s z l (vc v1)⟩) /\ M'.get 6 = some (.ptr 1 0 0) /\ M'.get 7 = some (.p (.str w1))) ∨
   (∃ M' i', iter (exec C L If) none f ⟨M, [], Ov op s z l Yl⟩ = some (.exit 0, ⟨M', [], Ov op s z l Yl⟩) /\ At135 M' rP ((l.length : Int) - 1) i')
 | d, f, i, M, hd, hf, hi, h => by
   obtain ⟨f, rfl⟩ : ∃ m, f = m + 1 := ⟨f - 1, by omega⟩
   by_cases hs : l.length <= i + 1
   · obtain ⟨M', e, g⟩ := Qyt C L rP op s z l i M h hs hl
     exact .inr ⟨M', i, by simp only [iter, St.keep, e], g⟩
   · have hc : l[i]? = some (l[i]'(by omega)) := List.getElem?_eq_getElem (by omega)
     obtain ⟨a, b, hcl, ⟨q, w, hT⟩, v, w', hv, hV⟩ := hA i _ hc (by omega)
     obtain ⟨d, rfl⟩ : ∃ m, d = m + 1 := ⟨d - 1, by omega⟩
     rcases go135 C L rP op s z l i M h (by omega) hm _ a b hc hcl q w hT v w' hV hv with ⟨M1, v1, w1, hv1, e, g⟩ | ⟨M1, e, g⟩
     · exact .inl ⟨M1, v1, w1, hv1, by simp only [iter, St.keep, e], g⟩
     · rcases Qpw C L rP op s z l hl hm hA d f (i + 1) M1 (by omega) (by omega) (by omega) g with ⟨M', v1, w1, hv1, e2, q⟩ | ⟨M', i', e2, q⟩
       · exact .inl ⟨M', v1, w1, hv1, by simp only [iter, St.keep, e]; exact e2, q⟩
       · exact .inr ⟨M', i', by simp only [iter, St.keep, e]; exact e2, q⟩
theorem Qyu (L n : Nat) (rP : PV) (t : T) (hl : 1 <= t.l.length) (hm : t.l.length <= 1048576) (hL : t.l.length < L) (hA : Arms (cAt TT L n).1 rP t.l) (hlast : ∃ c v w, t.l[t.l.length - 1]? = some c /\ okV v /\ VC (cAt TT L n).1 rP c v w) :
   ∃ v w, okV v /\ ∀ σ, (cAt TT L (n + 1)).1 35 [.p (node t), .p rP, .p src] σ = some (.ret (.p (Z3 (v, w))), σ) := by
 have key : ∃ v w, okV v /\ ansV (Z8 (cAt TT L n).1 (cAt TT L n).2 L lit135 [.p (node t), .p rP, .p src] []) = some (Z3 (v, w)) := by
   generalize (cAt TT L n).1 = C at *
   generalize (cAt TT L n).2 = D
   obtain ⟨op, s, z, l⟩ := t
   simp only [T.l, node, cells] at hl hm hL hA hlast ⊢
   have e1 : IntKind.i64.wrap ((l.length : Int) - 1) = (l.length : Int) - 1 := J5 _ (by omega) (by omega)
   rw [Zp, lit135_tree]
   have st : ∃ M1, (∀ X, exec C L (.seq Qrd (.seq Qnu (.seq Qor X))) ⟨params 0 [.p (.agg [.str op, .str s, .int .i64 z, .vsl (Zs l) l.length]), .p rP, .p src], [], []⟩ = exec C L (.seq xx X) ⟨M1, [], Ov op s z l Yl⟩) /\ At135 M1 rP ((l.length : Int) - 1) 0 :=
     ⟨_, fun X => by
       unfold Qor
       rw [seqN (by simp [Qrd, params]; rfl), seqN (by simp [Qnu, e1]; rfl), <- Zn, seqN (by simp [Qj6]; rfl)], ⟨by simp, by simp, by simp, by simp, by simp, by simp⟩⟩
   obtain ⟨M1, e0, h1⟩ := st
   unfold n135
   rw [e0]
   rcases Qpw C L rP op s z l hl hm hA l.length L 0 M1 (by omega) hL (by omega) h1 with ⟨M', v1, w1, hv1, e2, g6, g7⟩ | ⟨M', i', e2, g⟩
   · rw [seqR (a := xx) (by exact E5 (id := 0) (b := Qal) e2)]
     obtain ⟨p, q, r, x, ev'⟩ := vc4 v1
     exact ⟨v1, w1, hv1, by simp [lit135, g6, g7, Ov, Z3, ev']⟩
   · rw [seqN (a := xx) (by exact F0 (id := 0) (b := Qal) e2)]
     obtain ⟨c, v, w, hc, hv, hV⟩ := hlast
     have hd := Nb l (l.length - 1) c hc
     obtain ⟨a1, a2, a3, a4, ea⟩ := M5 c
     obtain ⟨p, q, r, x, ev'⟩ := vc4 v
     rw [ea] at hd
     unfold VC at hV
     simp only [node, ea, Z3, val, ev', List.cons_append, List.nil_append] at hV hd
     have f1 : (0 : Int) <= (l.length : Int) - 1 := by omega
     have f2 : (l.length : Int) - 1 < (l.length : Int) := by omega
     have f3 : ((l.length : Int) - 1).toNat = l.length - 1 := by omega
     have f4 : (1 : Int) <= (l.length : Int) := by omega
     have g2 := g.t2
     generalize src = sr at *
     exact ⟨v, w, hv, by
       simp only [Z3, val, ev']
       simp [Qww, lit135, Ov, g.t1, g2, g.t3, g.t6, g.t8, f1, f2, f3, f4, hd, hV, hl]⟩
 obtain ⟨v, w, h1, h2⟩ := key
 exact ⟨v, w, h1, fun σ => Z7 (ps := [node t, rP, src]) (n := n) q135 (by rfl) h2 σ⟩
end Go.Ab.Keep
namespace Go.Ab.Keep
open Go Go.Ab Go.Ab.Plan Go.Ab.Key Go.Ab.Cnt Go.Ab.Turn Go.Proofs
variable [Mx]
theorem is71 (L n : Nat) (rP : PV) (t c : T) (hc : t.l = [c]) (v : V) (w : Word) (hv : okV v) (hV : VC (cAt TT L (n + 1)).1 rP c v w) :
   ∃ q w', ∀ σ, (cAt TT L (n + 2)).1 71 [.p (node t), .p rP, .p src] σ = some (.ret (.p (truP (q, w'))), σ) := by
 have key : ∃ q w', ansV (Z8 (cAt TT L (n + 1)).1 (cAt TT L (n + 1)).2 L lit171 [.p (node t), .p rP, .p src] []) = some (truP (q, w')) := by
   have e2 := of24 L n v
   have eb := fun b => of24 L n (.bool b)
   generalize (cAt TT L (n + 1)).1 = C at *
   generalize (cAt TT L (n + 1)).2 = D
   obtain ⟨op, s, z, l⟩ := t
   simp only [T.l] at hc
   subst hc
   have hcl : Zs [c] = cells c := by simp [Zs]
   obtain ⟨a1, a2, a3, a4, ea⟩ := M5 c
   have hk : ∃ q r x k, vc v = [.int .i64 k, q, r, x] := by cases v <;> exact ⟨_, _, _, _, rfl⟩
   obtain ⟨q1, r, x, k, ev'⟩ := hk
   unfold VC at hV
   simp only [node, cells, hcl, ea, Z3, truP, val, ev', Ja, Jz, Jb, Z9, List.length_cons, List.length_nil] at hV e2 eb ⊢
   generalize src = sr at *
   rw [Zp, lit171_tree]
   by_cases hw : w = Zi
   · subst hw
     have st : ∃ M1, (∀ X, exec C L (.seq Ql2 (.seq Qk7 (.seq Qkg X))) ⟨params 0 [.p (.agg [.str op, .str s, .int .i64 z, .vsl [a1, a2, a3, a4] 1]), .p rP, .p sr], [], []⟩ = exec C L X ⟨M1, [], [.arr (.pv [.str op, .str s, .int .i64 z, .vsl [a1, a2, a3, a4] 1]) 0 0 none, .arr (.pv [.int .i64 k, q1, r, x]) 0 0 (some 54)]⟩) /\ M1.get 3 = some (.ptr 0 0 0) /\ M1.get 8 = some (.ptr 1 0 0) :=
       ⟨_, fun X => by
         rw [seqN (by simp [Ql2, params]; rfl), seqN (by simp [Qk7, hV]; rfl), seqN (by simp [Qkg, Qd1, Qfv]; rfl)], by simp, by simp⟩
     obtain ⟨M1, e0, g3, g8⟩ := st
     unfold n171
     rw [e0]
     by_cases hs : s = [110, 117, 108, 108]
     · have hs' : (s == [110, 117, 108, 108]) = true := by rw [hs]; decide
       have e3 := eb (k == 0)
       generalize ofV (.bool (k == 0)) = o at e3
       obtain ⟨q, w'⟩ := o
       refine ⟨q, w', ?_⟩
       subst hs
       cases hk : (k == 0) <;> rw [hk] at e3 <;> simp [Qls, Qd5, Qdw, Qbd, qj, lit171, g3, g8, hk, e3]
     · have hs' := J8 hs
       generalize ofV v = o at e2
       obtain ⟨q, w'⟩ := o
       have st2 : ∃ M2, (∀ X, exec C L (.seq Qls (.seq Qph X)) ⟨M1, [], [.arr (.pv [.str op, .str s, .int .i64 z, .vsl [a1, a2, a3, a4] 1]) 0 0 none, .arr (.pv [.int .i64 k, q1, r, x]) 0 0 (some 54)]⟩ = exec C L X ⟨M2, [], [.arr (.pv [.str op, .str s, .int .i64 z, .vsl [a1, a2, a3, a4] 1]) 0 0 none, .arr (.pv [.int .i64 k, q1, r, x]) 0 0 (some 54)]⟩) /\ M2.get 3 = some (.ptr 0 0 0) /\ M2.get 10 = some (.p q.p) /\ M2.get 11 = some (.p (.str w')) :=
         ⟨_, fun X => by
           rw [seqN (by simp [Qls, Qd5, Qdw, Qbd, qj, g3, hs']; rfl), seqN (by simp [Qph, g8, e2]; rfl)], by simp [g3], by simp, by simp⟩
       obtain ⟨M2, e4, k3, k10, k11⟩ := st2
       rw [e4]
       have six : ∃ (M3 : Env) (b : Bool), exec C L Vw ⟨M2, [], [.arr (.pv [.str op, .str s, .int .i64 z, .vsl [a1, a2, a3, a4] 1]) 0 0 none, .arr (.pv [.int .i64 k, q1, r, x]) 0 0 (some 54)]⟩ = some (.normal, ⟨M3, [], [.arr (.pv [.str op, .str s, .int .i64 z, .vsl [a1, a2, a3, a4] 1]) 0 0 none, .arr (.pv [.int .i64 k, q1, r, x]) 0 0 (some 54)]⟩) /\ M3.get 12 = some (.p (.bool b)) /\ M3.get 11 = some (.p (.str w')) := by
         by_cases s1 : s = [116, 114, 117, 101]
         · subst s1
           cases q with
           | t => exact ⟨_, true, by simp [Vw, k3, k10, Tr.n]; rfl, by simp, by simp [k11]⟩
           | f => exact ⟨_, false, by simp [Vw, k3, k10, Tr.n]; rfl, by simp, by simp [k11]⟩
           | u => exact ⟨_, false, by simp [Vw, k3, k10, Tr.n]; rfl, by simp, by simp [k11]⟩
         · have s1' := J8 s1
           by_cases s2 : s = [102, 97, 108, 115, 101]
           · subst s2
             cases q with
             | t => exact ⟨_, false, by simp [Vw, k3, k10, Tr.n]; rfl, by simp, by simp [k11]⟩
             | f => exact ⟨_, true, by simp [Vw, k3, k10, Tr.n]; rfl, by simp, by simp [k11]⟩
             | u => exact ⟨_, false, by simp [Vw, k3, k10, Tr.n]; rfl, by simp, by simp [k11]⟩
           · have s2' := J8 s2
             by_cases s3 : s = [117, 110, 107, 110, 111, 119, 110]
             · subst s3
               cases q with
               | t => exact ⟨_, false, by simp [Vw, k3, k10, Tr.n]; rfl, by simp, by simp [k11]⟩
               | f => exact ⟨_, false, by simp [Vw, k3, k10, Tr.n]; rfl, by simp, by simp [k11]⟩
               | u => exact ⟨_, true, by simp [Vw, k3, k10, Tr.n]; rfl, by simp, by simp [k11]⟩
             · have s3' := J8 s3
               exact ⟨_, false, by simp [Vw, k3, k10, s1', s2', s3']; rfl, by simp, by simp [k11]⟩
       obtain ⟨M3, b, e5, m12, m11⟩ := six
       rw [seqN e5]
       by_cases hw' : w' = Zi
       · subst hw'
         have e3 := eb b
         generalize ofV (.bool b) = o at e3
         obtain ⟨q2, w2⟩ := o
         exact ⟨q2, w2, by simp [Qn8, Qec, Qfd, Qwn, lit171, m11, m12, e3, bne]⟩
       · have hw2 : (w' == Zi) = false := beq_eq_false_iff_ne.2 hw'
         exact ⟨.u, w', by simp [Qn8, Qec, Qfd, lit171, m11, hw2, bne, Tr.n]⟩
   · have hw' : (w == Zi) = false := beq_eq_false_iff_ne.2 hw
     exact ⟨.u, w, by simp [n171, Ql2, Qk7, Qkg, Qd1, Qfv, params, lit171, hV, hw', bne, Tr.n]⟩
 obtain ⟨q, w', h⟩ := key
 exact ⟨q, w', fun σ => Z7 (ps := [node t, rP, src]) (n := n + 1) q171 (by rfl) h σ⟩
end Go.Ab.Keep
namespace Go.Ab.Keep
open Go Go.Ab Go.Ab.Plan Go.Ab.Key Go.Ab.Cnt Go.Ab.Turn Go.Proofs
variable [Mx]
theorem Qo6 (L n : Nat) (hL : 1 < L) (rP : PV) (op0 : Word) (t c d : T) (hc : t.l = [c, d]) (v : V) (w : Word) (hV : VC (cAt TT L (n + 1)).1 rP c v w) :
   ∃ q w', ∀ σ, (cAt TT L (n + 2)).1 73 [.p (node t), .p (.str op0), .p rP, .p src] σ = some (.ret (.p (truP (q, w'))), σ) := by
 have key : ∃ q w', ansV (Z8 (cAt TT L (n + 1)).1 (cAt TT L (n + 1)).2 L lit173 [.p (node t), .p (.str op0), .p rP, .p src] []) = some (truP (q, w')) := by
   have e2 := Qfk L n d rP
   generalize (cAt TT L (n + 1)).1 = C at *
   generalize (cAt TT L (n + 1)).2 = D
   obtain ⟨op, s, z, l⟩ := t
   simp only [T.l] at hc
   subst hc
   obtain ⟨a1, a2, a3, a4, ea⟩ := M5 c
   obtain ⟨b1, b2, b3, b4, eb⟩ := M5 d
   obtain ⟨p, q1, r, x, ev'⟩ := vc4 v
   unfold VC at hV
   have hcl : Zs [c, d] = [a1, a2, a3, a4, b1, b2, b3, b4] := by rw [Qak, ea, eb]; rfl
   simp only [node, cells, hcl, ea, eb, Z3, truP, val, ev', List.length_cons, List.length_nil] at hV e2 ⊢
   generalize src = sr at *
   rw [Zp, lit173_tree]
   by_cases hw : w = Zi
   · subst hw
     obtain ⟨L, rfl⟩ : ∃ m, L = m + 1 := ⟨L - 1, by omega⟩
     have stop : ∀ (M : Env) (σ : Heap), M.get 12 = some (.p (.vsl [] 0)) -> M.get 15 = some (int 0) -> ∃ M', exec C (L + 1) Qey ⟨M, [], σ⟩ = some (.normal, ⟨M', [], σ⟩) /\ M'.get 14 = M.get 14 := by
       intro M σ g12 g15
       have e : ∃ M', exec C (L + 1) Xo ⟨M, [], σ⟩ = some (.exit 0, ⟨M', [], σ⟩) /\ M'.get 14 = M.get 14 := ⟨_, by simp [Xo, jx, X6, qe, g12, g15]; rfl, by simp⟩
       obtain ⟨M', e, g⟩ := e
       refine ⟨M', F0 (id := 0) (b := Qhy) ?_, g⟩
       show iter (exec C (L + 1) Xo) none (L + 1) _ = _
       simp only [iter, St.keep, e]
     have st : ∃ (M1 : Env) (H : Heap) (q : Tr), (∀ X, exec C (L + 1) (.seq Qht (.seq Qgi (.seq Qh2 (.seq Qky (.seq Qly (.seq Qkp (.seq Qlq (.seq Qk0 X)))))))) ⟨params 0 [.p (.agg [.str op, .str s, .int .i64 z, .vsl [a1, a2, a3, a4, b1, b2, b3, b4] 2]), .p (.str op0), .p rP, .p sr], [], []⟩ = exec C (L + 1) (.seq Qey X) ⟨M1, [], H⟩) /\ M1.get 12 = some (.p (.vsl [] 0)) /\ M1.get 15 = some (int 0) /\ M1.get 14 = some (.p q.p) := by
       by_cases ho : op = [97, 108, 108]
       · subst ho
         exact ⟨_, _, .t, fun X => by
           unfold Qk0
           rw [seqN (by simp [Qht, params]; rfl), seqN (by simp [Qgi, hV]; rfl), seqN (by simp [Qh2, xe, Qad]; rfl), seqN (by simp [Qky, e2]; rfl), seqN (by simp [Qly, Qfp, Qew]; rfl), seqN (by simp [Qkp]; rfl), seqN (by simp [Qlq, Qej, Qed]; rfl), <- Zn, seqN (by simp [Qfu]; rfl)], by simp, by simp, by simp [Tr.n]⟩
       · have ho' := J8 ho
         exact ⟨_, _, .f, fun X => by
           unfold Qk0
           rw [seqN (by simp [Qht, params]; rfl), seqN (by simp [Qgi, hV]; rfl), seqN (by simp [Qh2, xe, Qad]; rfl), seqN (by simp [Qky, e2]; rfl), seqN (by simp [Qly, Qfp, Qew]; rfl), seqN (by simp [Qkp]; rfl), seqN (by simp [Qlq, Qej, Qed, ho']; rfl), <- Zn, seqN (by simp [Qfu]; rfl)], by simp, by simp, by simp [Tr.n]⟩
     obtain ⟨M1, H, q, e0, g12, g15, g14⟩ := st
     obtain ⟨M2, e3, g⟩ := stop M1 H g12 g15
     unfold n173
     rw [e0, seqN e3]
     rw [g14] at g
     exact ⟨q, Zi, by simp [Qvc, lit173, g]⟩
   · have hw' : (w == Zi) = false := beq_eq_false_iff_ne.2 hw
     exact ⟨.u, w, by simp [n173, Qht, Qgi, Qh2, xe, Qad, params, lit173, hV, hw', bne, Tr.n]⟩
 obtain ⟨q, w', h⟩ := key
 exact ⟨q, w', fun σ => Z7 (ps := [node t, .str op0, rP, src]) (n := n + 1) q173 (by rfl) h σ⟩
section
variable (C : Zj) (L : Nat) (rP : PV) (op s : Word) (z : Int) (l : List T) (i : Nat) (M : Env) (τ : Heap) (x : V) (q : Tr)
abbrev Oy (op s : Word) (z : Int) (l : List T) (x : V) (τ : Heap) : Heap := .arr (.pv [.str op, .str s, .int .i64 z, .vsl (Zs l) l.length]) 0 0 none :: .arr (.pv (vc x)) 0 0 (some 54) :: τ
structure At172 (M : Env) (rP : PV) (q : Tr) (i : Nat) : Prop where
 t1 : M.get 1 = some (.p rP)
 t2 : M.get 2 = some (.p src)
 t3 : M.get 3 = some (.ptr 0 0 0)
 t8 : M.get 8 = some (.ptr 1 0 0)
 t10 : M.get 10 = some (.p q.p)
 t11 : M.get 11 = some (int i)
theorem Qxp (h : At172 M rP q i) (hi : l.length <= i) : ∃ M', exec C L Hz ⟨M, [], Oy op s z l x τ⟩ = some (.exit 0, ⟨M', [], Oy op s z l x τ⟩) /\ At172 M' rP q i := by
 have f1 : ((i : Int) < (l.length : Int)) = False := eq_false (by omega)
 have f2 : (i < l.length) = False := eq_false (by omega)
 exact ⟨_, by simp [Np, Kj, Ki, Hz, h.t3, h.t11, f1, f2]; rfl, ⟨by simp [h.t1], by simp [h.t2], by simp [h.t3], by simp [h.t8], by simp [h.t10], by simp [h.t11]⟩⟩
theorem go172 (h : At172 M rP q i) (hm : l.length <= 1048576) (c : T) (hc : l[i]? = some c) (v : V) (w : Word) (hV : VC C rP c v w) (q1 : Tr) (w1 : Word) (hT : ∀ σ, C 67 [.p (.str wEq), .p (val x), .p (val v)] σ = some (.ret (.p (truP (q1, w1))), σ)) (hO : ∀ σ, C 69 [.p q.p, .p q1.p] σ = some (.ret (.p (q.max q1).p), σ)) :
   (∃ M' τ' q' w', exec C L Hz ⟨M, [], Oy op s z l x τ⟩ = some (.ret, ⟨M', [], Oy op s z l x τ'⟩) /\ M'.get 6 = some (.p (Tr.p q')) /\ M'.get 7 = some (.p (.str w'))) ∨
   (∃ M' τ' q', exec C L Hz ⟨M, [], Oy op s z l x τ⟩ = some (.normal, ⟨M', [], Oy op s z l x τ'⟩) /\ At172 M' rP q' (i + 1)) := by
 obtain ⟨t1, t2, t3, t8, t10, t11⟩ := h
 obtain ⟨hi, _⟩ := List.getElem?_eq_some_iff.1 hc
 have f1 : ((i : Int) < (l.length : Int)) := by omega
 have e1 : IntKind.i64.wrap ((i : Int) + 1) = (i : Int) + 1 := J5 _ (by omega) (by omega)
 have hd := Nb l i c hc
 obtain ⟨a1, a2, a3, a4, ea⟩ := M5 c
 obtain ⟨p, q', r, y, ev'⟩ := vc4 v
 obtain ⟨p1, q1', r1, y1, ex⟩ := vc4 x
 rw [ea] at hd
 unfold VC at hV
 clear hc
 simp only [node, ea, Z3, truP, val, ev', ex, List.cons_append, List.nil_append, Oy] at hV hT hd ⊢
 generalize hsr : src = sr at *
 generalize hcl : Zs l = cl at *
 by_cases hw : w = Zi
 · subst hw
   by_cases hw1 : w1 = Zi
   · subst hw1
     by_cases hq : q1 = .t
     · subst hq
       exact .inl ⟨_, τ ++ [.arr (.pv [p, q', r, y]) 0 0 (some 54)], .t, Zi, by
         simp [Hz, Np, Kj, Ki, Ps, Nt, Ky, Ln, H9, Im, Kz, Lo, Ii, Ht, K3, P1, t1, t2, t3, t8, t10, t11, f1, hi, hd, hV, hT, Tr.n, bne]
         rfl, by simp [Tr.n], by simp⟩
     · have hq' : (q1.n == 2) = false := by cases q1 <;> first | rfl | exact absurd rfl hq
       have hq2 : ¬ q1.n = 2 := by cases q1 <;> first | decide | exact absurd rfl hq
       refine .inr ⟨_, τ ++ [.arr (.pv [p, q', r, y]) 0 0 (some 54)], q.max q1, by
         simp [Hz, Np, Kj, Ki, Ps, Nt, Ky, Ln, H9, Im, Kz, Lo, Ii, Ht, K3, P1, t1, t2, t3, t8, t10, t11, f1, hi, hd, hV, hT, hO, hq', hq2, bne, e1]
         rfl, ⟨by simp [t1], by simp [t2]; exact hsr.symm, by simp [t3], by simp [t8], by simp, by simp⟩⟩
   · have hw1' : (w1 == Zi) = false := beq_eq_false_iff_ne.2 hw1
     exact .inl ⟨_, τ ++ [.arr (.pv [p, q', r, y]) 0 0 (some 54)], q1, w1, by
       simp [Hz, Np, Kj, Ki, Ps, Nt, Ky, Ln, H9, Im, Kz, Lo, Ii, Ht, K3, P1, t1, t2, t3, t8, t10, t11, f1, hi, hd, hV, hT, hw1', bne]
       rfl, by simp, by simp⟩
 · have hw' : (w == Zi) = false := beq_eq_false_iff_ne.2 hw
   exact .inl ⟨_, τ ++ [.arr (.pv [p, q', r, y]) 0 0 (some 54)], .u, w, by
     simp [Hz, Np, Kj, Ki, Ps, Nt, Ky, Ln, H9, Im, Kz, Lo, Ii, Ht, K3, P1, t1, t2, t3, t8, t10, t11, f1, hi, hd, hV, hw', bne]
     rfl, by simp [Tr.n], by simp⟩
end
end Go.Ab.Keep
namespace Go.Ab.Keep
open Go Go.Ab Go.Ab.Plan Go.Ab.Key Go.Ab.Cnt Go.Ab.Turn Go.Proofs
variable [Mx]
theorem Qrj (C : Zj) (L : Nat) (rP : PV) (op s : Word) (z : Int) (l : List T) (x : V) (hm : l.length <= 1048576) (hV : ∀ c ∈ l, ∃ v w, okV v /\ VC C rP c v w) (hT : ∀ v, okV v -> ∃ q1 w1, ∀ σ, C 67 [.p (.str wEq), .p (val x), .p (val v)] σ = some (.ret (.p (truP (q1, w1))), σ)) (hO : ∀ (q q1 : Tr) σ, C 69 [.p q.p, .p q1.p] σ = some (.ret (.p (q.max q1).p), σ)) :
   ∀ (d f i : Nat) (M : Env) (τ : Heap) (q : Tr), l.length - i <= d -> d < f -> At172 M rP q i ->
   (∃ M' τ' q' w', iter (exec C L Hz) none f ⟨M, [], Oy op s z l x τ⟩ = some (.ret, ⟨M', [], Oy op s z l x τ'⟩) /\ M'.get 6 = some (.p (Tr.p q')) /\ M'.get 7 = some (.p (.str w'))) ∨
   (∃ M' τ' q' i', iter (exec C L Hz) none f ⟨M, [], Oy op s z l x τ⟩ = some (.exit 0, ⟨M', [], Oy op s z l x τ'⟩) /\ At172 M' rP q' i')
 | d, f, i, M, τ, q, hd, hf, h => by
   obtain ⟨f, rfl⟩ : ∃ m, f = m + 1 := ⟨f - 1, by omega⟩
   by_cases hs : l.length <= i
   · obtain ⟨M', e, g⟩ := Qxp C L rP op s z l i M τ x q h hs
     exact .inr ⟨M', τ, q, i, by simp only [iter, St.keep, e], g⟩
   · have hi : i < l.length := by omega
     obtain ⟨d, rfl⟩ : ∃ m, d = m + 1 := ⟨d - 1, by omega⟩
     obtain ⟨v, w, hv, hvc⟩ := hV l[i] (List.getElem_mem hi)
     obtain ⟨q1, w1, ht⟩ := hT v hv
     rcases go172 C L rP op s z l i M τ x q h hm l[i] (List.getElem?_eq_getElem hi) v w hvc q1 w1 ht (hO q q1) with ⟨M1, τ1, q', w', e, g⟩ | ⟨M1, τ1, q', e, g⟩
     · exact .inl ⟨M1, τ1, q', w', by simp only [iter, St.keep, e], g⟩
     · rcases Qrj C L rP op s z l x hm hV hT hO d f (i + 1) M1 τ1 q' (by omega) (by omega) g with ⟨M', τ', q2, w', e2, k⟩ | ⟨M', τ', q2, i', e2, k⟩
       · exact .inl ⟨M', τ', q2, w', by simp only [iter, St.keep, e]; exact e2, k⟩
       · exact .inr ⟨M', τ', q2, i', by simp only [iter, St.keep, e]; exact e2, k⟩
theorem in72 (L n : Nat) (hL : 1048577 < L) (rP : PV) (t : T) (hl : 1 <= t.l.length) (hm : t.l.length <= 1048576) (hLl : t.l.length < L) (hV : ∀ c ∈ t.l, ∃ v w, okV v /\ VC (cAt TT L (n + 3)).1 rP c v w) :
   ∃ q w', ∀ σ, (cAt TT L (n + 4)).1 72 [.p (node t), .p rP, .p src] σ = some (.ret (.p (truP (q, w'))), σ) := by
 have key : ∃ q w', ansV (Z8 (cAt TT L (n + 3)).1 (cAt TT L (n + 3)).2 L lit172 [.p (node t), .p rP, .p src] []) = some (truP (q, w')) := by
   have hlen : ∀ (v : V), okV v -> ∀ s, v = .text s -> s.length < L /\ s.length <= 9223372036854775807 := by
     rintro v hv s rfl
     have : s.length <= 1048576 := hv
     omega
   have eT := fun x v (hx : okV x) (hv : okV v) σ => Qoa L n wEq x v (hlen x hx) (hlen v hv) σ
   have eO := fun (q q1 : Tr) σ => or69 L (n + 1) q q1 σ
   generalize (cAt TT L (n + 3)).1 = C at *
   generalize (cAt TT L (n + 3)).2 = D
   obtain ⟨op, s, z, l⟩ := t
   simp only [T.l] at hl hm hLl hV
   obtain ⟨c, r, rfl⟩ : ∃ c r, l = c :: r := by
     cases l with
     | nil => simp at hl
     | cons c r => exact ⟨c, r, rfl⟩
   obtain ⟨x, w, hx, hxc⟩ := hV c (by simp)
   have hd : Zs (c :: r) = cells c ++ Zs r := rfl
   obtain ⟨a1, a2, a3, a4, ea⟩ := M5 c
   obtain ⟨p, q1, r1, y, ev'⟩ := vc4 x
   have hxc' := hxc
   unfold VC at hxc'
   have hd' : Zs (c :: r) = a1 :: a2 :: a3 :: a4 :: Zs r := by rw [hd, ea]; rfl
   simp only [node, cells, ea, Z3, truP, val, ev'] at hxc' ⊢
   rw [Zp, lit172_tree]
   have f1 : (0 : Int) < (r.length : Int) + 1 := by omega
   by_cases hw : w = Zi
   · subst hw
     have st : ∃ M1, (∀ X, exec C L (.seq Qlu (.seq Qjj (.seq Qkq (.seq Qoh (.seq Qnc X))))) ⟨params 0 [.p (.agg [.str op, .str s, .int .i64 z, .vsl (Zs (c :: r)) (c :: r).length]), .p rP, .p src], [], []⟩ = exec C L (.seq xv X) ⟨M1, [], Oy op s z (c :: r) x []⟩) /\ At172 M1 rP .f 1 := by
       simp only [Oy, ev', List.length_cons]
       generalize hsr : src = sr at *
       exact ⟨_, fun X => by
         unfold Qnc
         rw [seqN (by simp [Qlu, params]; rfl), seqN (by simp [Qjj, hd', hxc', f1]; rfl), seqN (by simp [Qkq, Qe0, Qez]; rfl), seqN (by simp [Qoh]; rfl), <- Zn, seqN (by simp [Qlb]; rfl)]
         rw [hd'], ⟨by simp, by simp; exact hsr.symm, by simp, by simp, by simp [Tr.n], by simp⟩⟩
     obtain ⟨M1, e0, g⟩ := st
     unfold n172
     rw [e0]
     rcases Qrj C L rP op s z (c :: r) x hm hV (fun v hv => ⟨_, _, fun σ => eT x v hx hv σ⟩) eO (c :: r).length L 1 M1 [] .f (by omega) hLl g with ⟨M', τ', q', w', e2, g6, g7⟩ | ⟨M', τ', q', i', e2, k⟩
     · rw [seqR (a := xv) (by exact E5 (id := 0) (b := Qar) e2)]
       exact ⟨q', w', by simp [lit172, g6, g7]⟩
     · rw [seqN (a := xv) (by exact F0 (id := 0) (b := Qar) e2)]
       exact ⟨q', Zi, by simp [Qut, lit172, k.t10]⟩
   · have hw' : (w == Zi) = false := beq_eq_false_iff_ne.2 hw
     generalize src = sr at *
     exact ⟨.u, w, by simp [n172, Qlu, Qjj, Qkq, Qe0, Qez, params, lit172, hd', hxc', f1, hw', bne, Tr.n]⟩
 obtain ⟨q, w', h⟩ := key
 exact ⟨q, w', fun σ => Z7 (ps := [node t, rP, src]) (n := n + 3) q172 (by rfl) h σ⟩
end Go.Ab.Keep
namespace Go.Ab.Keep
open Go Go.Ab Go.Ab.Plan Go.Ab.Key Go.Ab.Cnt Go.Ab.Turn Go.Proofs
variable [Mx]
def andV (a b : Tr × Word) : Tr × Word := if a.2 = Zi then (if a.1 = .f then a else (a.1.min b.1, b.2)) else a
def orV (a b : Tr × Word) : Tr × Word := if a.2 = Zi then (if a.1 = .t then a else (a.1.max b.1, b.2)) else a
section
variable (C : Zj) (D : Yo) (L : Nat) (rP : PV) (s : Word) (z : Int) (a b : T)
def Ik (C : Zj) (D : Yo) (L : Nat) (rP : PV) (t : T) (r : Tr × Word) : Prop := ansV (Z8 C D L lit141 [.p (node t), .p rP, .p src] []) = some (truP r)
theorem and141 (x y : Tr × Word) (ha : TC C rP a x.1 x.2) (hb : TC C rP b y.1 y.2) (hm : ∀ (q r : Tr) σ, C 68 [.p q.p, .p r.p] σ = some (.ret (.p (q.min r).p), σ)) : Ik C D L rP (.mk [97, 110, 100] s z [a, b]) (andV x y) := by
 obtain ⟨q, w⟩ := x
 obtain ⟨q', w'⟩ := y
 obtain ⟨a1, a2, a3, a4, ea⟩ := M5 a
 obtain ⟨b1, b2, b3, b4, eb⟩ := M5 b
 unfold TC at ha hb
 have hcl : Zs [a, b] = [a1, a2, a3, a4, b1, b2, b3, b4] := by rw [Qak, ea, eb]; rfl
 unfold Ik andV
 simp only [node, cells, hcl, ea, eb, truP, List.length_cons, List.length_nil] at ha hb ⊢
 generalize src = sr at *
 rw [Zp, lit141_tree]
 by_cases hw : w = Zi
 · subst hw
   by_cases hq : q = .f
   · subst hq
     simp [n141, P5, P8, Iv, I6, Fl, Bj, Ya, Yc, Bi, Yu, Gs, Gr, J9, Jr, Jt, Jm, Jh, Jg, Jc, Z5, Z6, Z1, Zu, Zr, Zq, Zv, Lu, F9, Ho, Eb, D8, Hj, Hi, D7, Ed, Hf, params, lit141, ha, Tr.n, bne]
   · have hq' : (q.n == 0) = false := by cases q <;> first | rfl | exact absurd rfl hq
     have hq2 : ¬ q.n = 0 := by cases q <;> first | decide | exact absurd rfl hq
     have hm' := hm q q'
     simp [n141, P5, P8, Iv, I6, Fl, Bj, Ya, Yc, Bi, Yu, Gs, Gr, J9, Jr, Jt, Jm, Jh, Jg, Jc, Z5, Z6, Z1, Zu, Zr, Zq, Zv, Lu, F9, Ho, Eb, D8, Hj, Hi, D7, Ed, Hf, params, lit141, ha, hb, hq, hq', hq2, hm', bne]
 · have hw' : (w == Zi) = false := beq_eq_false_iff_ne.2 hw
   simp [n141, P5, P8, Iv, I6, Fl, Bj, Ya, Yc, Bi, Yu, Gs, Gr, J9, Jr, Jt, Jm, Jh, Jg, Jc, Z5, Z6, Z1, Zu, Zr, Zq, Zv, Lu, F9, Ho, Eb, D8, Hj, Hi, D7, Ed, Hf, params, lit141, ha, hw, hw', bne]
theorem or141 (x y : Tr × Word) (ha : TC C rP a x.1 x.2) (hb : TC C rP b y.1 y.2) (hm : ∀ (q r : Tr) σ, C 69 [.p q.p, .p r.p] σ = some (.ret (.p (q.max r).p), σ)) : Ik C D L rP (.mk [111, 114] s z [a, b]) (orV x y) := by
 obtain ⟨q, w⟩ := x
 obtain ⟨q', w'⟩ := y
 obtain ⟨a1, a2, a3, a4, ea⟩ := M5 a
 obtain ⟨b1, b2, b3, b4, eb⟩ := M5 b
 unfold TC at ha hb
 have hcl : Zs [a, b] = [a1, a2, a3, a4, b1, b2, b3, b4] := by rw [Qak, ea, eb]; rfl
 unfold Ik orV
 simp only [node, cells, hcl, ea, eb, truP, List.length_cons, List.length_nil] at ha hb ⊢
 generalize src = sr at *
 rw [Zp, lit141_tree]
 by_cases hw : w = Zi
 · subst hw
   by_cases hq : q = .t
   · subst hq
     simp [n141, P5, P8, Iv, I6, Fl, Bj, Ya, Yc, Bi, Yu, Gs, Gr, J9, Jr, Jt, Jm, Jh, Jg, Jc, Z5, Z6, Z1, Zu, Zr, Zq, Zv, Lu, F9, Ho, Eb, D8, Hj, Hi, D7, Ed, Hf, params, lit141, ha, Tr.n, bne]
   · have hq' : (q.n == 2) = false := by cases q <;> first | rfl | exact absurd rfl hq
     have hq2 : ¬ q.n = 2 := by cases q <;> first | decide | exact absurd rfl hq
     have hm' := hm q q'
     simp [n141, P5, P8, Iv, I6, Fl, Bj, Ya, Yc, Bi, Yu, Gs, Gr, J9, Jr, Jt, Jm, Jh, Jg, Jc, Z5, Z6, Z1, Zu, Zr, Zq, Zv, Lu, F9, Ho, Eb, D8, Hj, Hi, D7, Ed, Hf, params, lit141, ha, hb, hq, hq', hq2, hm', bne]
 · have hw' : (w == Zi) = false := beq_eq_false_iff_ne.2 hw
   simp [n141, P5, P8, Iv, I6, Fl, Bj, Ya, Yc, Bi, Yu, Gs, Gr, J9, Jr, Jt, Jm, Jh, Jg, Jc, Z5, Z6, Z1, Zu, Zr, Zq, Zv, Lu, F9, Ho, Eb, D8, Hj, Hi, D7, Ed, Hf, params, lit141, ha, hw, hw', bne]
theorem not141 (q : Tr) (w : Word) (ha : TC C rP a q w) (hm : ∀ (q : Tr) σ, C 70 [.p q.p] σ = some (.ret (.p (notT q).p), σ)) : Ik C D L rP (.mk [110, 111, 116] s z [a]) (notT q, w) := by
 obtain ⟨a1, a2, a3, a4, ea⟩ := M5 a
 unfold TC at ha
 have hcl : Zs [a] = [a1, a2, a3, a4] := by simp [Zs, ea]
 unfold Ik
 have hm' := hm q
 simp only [node, cells, hcl, ea, truP, List.length_cons, List.length_nil] at ha ⊢
 generalize src = sr at *
 rw [Zp, lit141_tree]
 simp [n141, P5, P8, Iv, I6, Fl, Bj, Ya, Yc, Bi, Yu, Gs, Gr, J9, Jr, Jt, Jm, Jh, Jg, Jc, Z5, Z6, Z1, Zu, Zr, Zq, Zv, Wp, Up, Uk, params, lit141, ha, hm']
theorem isT141 (l : List T) (r : Tr × Word) (h : ∀ σ, C 71 [.p (node (.mk [105, 115] s z l)), .p rP, .p src] σ = some (.ret (.p (truP r)), σ)) : Ik C D L rP (.mk [105, 115] s z l) r := by
 unfold Ik
 simp only [node, cells, truP] at h ⊢
 generalize PV.vsl (Zs l) l.length = lv at *
 generalize src = sr at *
 rw [Zp, lit141_tree]
 simp [n141, P5, P8, Iv, I6, Fl, Bj, Ya, Yc, Bi, Yu, Gs, Gr, J9, Jr, Jt, Jm, Jh, Jg, Jc, Z5, Z6, Z1, Zu, Zr, Zq, Zv, Sw, Rn, params, lit141, h]
theorem Qq9 (h : ∀ (t : T) (r : PV) σ, C 38 [.p src, .p (node t), .p r] σ = some (.ret (.p (.tup [.vsl [] 0, .str Zi])), σ)) : Ik C D L rP (.mk [101, 120, 105, 115, 116, 115] s z [a]) (.f, Zi) := by
 obtain ⟨a1, a2, a3, a4, ea⟩ := M5 a
 have h := h a rP
 have hcl : Zs [a] = [a1, a2, a3, a4] := by simp [Zs, ea]
 unfold Ik
 simp only [node, cells, hcl, ea, truP, List.length_cons, List.length_nil] at h ⊢
 generalize src = sr at *
 rw [Zp, lit141_tree]
 simp [n141, P5, P8, Iv, I6, Fl, Bj, Ya, Yc, Bi, Yu, Gs, Gr, J9, Jr, Jt, Jm, Jh, Jg, Jc, Z5, Z6, Z1, Zu, Zr, Zq, Zv, P2, Ob, N4, Mz, My, Od, params, lit141, h, Tr.n]
theorem inQ141 (l : List T) (r : Tr × Word) (h : ∀ σ, C 73 [.p (node (.mk wIn Qbn z l)), .p (.str wEq), .p rP, .p src] σ = some (.ret (.p (truP r)), σ)) : Ik C D L rP (.mk wIn Qbn z l) r := by
 unfold Ik
 simp only [node, cells, truP] at h ⊢
 generalize PV.vsl (Zs l) l.length = lv at *
 generalize src = sr at *
 rw [Zp, lit141_tree]
 simp [n141, P5, P8, Iv, I6, Fl, Bj, Ya, Yc, Bi, Yu, Gs, Gr, J9, Jr, Jt, Jm, Jh, Jg, Jc, Z5, Z6, Z1, Zu, Zr, Zq, Zv, H4, Fs, En, Em, Ea, Dc, Fq, params, lit141, h]
theorem inL141 (l : List T) (r : Tr × Word) (hs : s ≠ Qbn) (h : ∀ σ, C 72 [.p (node (.mk wIn s z l)), .p rP, .p src] σ = some (.ret (.p (truP r)), σ)) : Ik C D L rP (.mk wIn s z l) r := by
 unfold Ik
 have hs' := J8 hs
 simp only [node, cells, truP] at h ⊢
 generalize PV.vsl (Zs l) l.length = lv at *
 generalize src = sr at *
 rw [Zp, lit141_tree]
 simp [n141, P5, P8, Iv, I6, Fl, Bj, Ya, Yc, Bi, Yu, Gs, Gr, J9, Jr, Jt, Jm, Jh, Jg, Jc, Z5, Z6, Z1, Zu, Zr, Zq, Zv, H4, Fs, En, Em, Ea, Dc, Fq, params, lit141, h, hs', bne]
theorem any141 (l : List T) (r : Tr × Word) (h : ∀ σ, C 73 [.p (node (.mk [97, 110, 121] s z l)), .p (.str s), .p rP, .p src] σ = some (.ret (.p (truP r)), σ)) : Ik C D L rP (.mk [97, 110, 121] s z l) r := by
 unfold Ik
 simp only [node, cells, truP] at h ⊢
 generalize PV.vsl (Zs l) l.length = lv at *
 generalize src = sr at *
 rw [Zp, lit141_tree]
 simp [n141, P5, P8, Iv, I6, Fl, Bj, Ya, Yc, Bi, Yu, Gs, Gr, J9, Jr, Jt, Jm, Jh, Jg, Jc, Z5, Z6, Z1, Zu, Zr, Zq, Zv, Fo, Ee, params, lit141, h]
theorem all141 (l : List T) (r : Tr × Word) (h : ∀ σ, C 73 [.p (node (.mk [97, 108, 108] s z l)), .p (.str s), .p rP, .p src] σ = some (.ret (.p (truP r)), σ)) : Ik C D L rP (.mk [97, 108, 108] s z l) r := by
 unfold Ik
 simp only [node, cells, truP] at h ⊢
 generalize PV.vsl (Zs l) l.length = lv at *
 generalize src = sr at *
 rw [Zp, lit141_tree]
 simp [n141, P5, P8, Iv, I6, Fl, Bj, Ya, Yc, Bi, Yu, Gs, Gr, J9, Jr, Jt, Jm, Jh, Jg, Jc, Z5, Z6, Z1, Zu, Zr, Zq, Zv, Fo, Ee, params, lit141, h]
end
end Go.Ab.Keep
namespace Go.Ab.Keep
open Go Go.Ab Go.Ab.Plan Go.Ab.Key Go.Ab.Cnt Go.Ab.Turn Go.Proofs
attribute [local simp] Fj Ms V3 refV oneH
variable [Mx]
theorem vcs3 (a b c : V) : vcs [a, b, c] = vc a ++ (vc b ++ vc c) := by simp [vcs]
section
variable (C : Zj) (D : Yo) (L : Nat) (rP : PV) (op s : Word) (z : Int) (l : List T) (vs : List V) (w : Word) (M : Env)
abbrev jd (op s : Word) (z : Int) (l : List T) : Heap := [.arr (.pv [.str op, .str s, .int .i64 z, .vsl (Zs l) l.length]) 0 0 none]
structure At141 (M : Env) (vs : List V) : Prop where
 t3 : M.get 3 = some (.ptr 0 0 0)
 t16 : M.get 16 = some (.p (.vsl (vcs vs) vs.length))
def Wh : List Word := [[98, 101, 116, 119, 101, 101, 110], [108, 105, 107, 101], [61], [60, 62], [60], [60, 61], [62], [62, 61]]
theorem Qvb (ho : op ∈ Wh) (hA : AC C rP l vs w) : ∃ M1, (∀ X, exec C L (.seq P5 (.seq P8 (.seq Qlr X))) ⟨params 0 [.p (node (.mk op s z l)), .p rP, .p src], [], []⟩ = exec C L X ⟨M1, [], jd op s z l⟩) /\ At141 M1 vs /\ M1.get 17 = some (.p (.str w)) := by
 unfold AC at hA
 simp only [node, cells, jd]
 generalize PV.vsl (Zs l) l.length = lv at *
 generalize src = sr at *
 simp only [Wh, List.mem_cons, List.not_mem_nil, or_false] at ho
 rcases ho with rfl | rfl | rfl | rfl | rfl | rfl | rfl | rfl <;> exact ⟨_, fun X => by
   rw [seqN (by simp [P5, params]; rfl), seqN (by simp [P8, Iv, I6, Fl, Bj, Ya, Yc, Bi, Yu, Gs, Gr, J9, Jr, Jt, Jm, Jh, Jg, Jc, Z5, Z6, Z1, Zu, Zr, Zq, Zv]; rfl), seqN (by simp [Qlr, hA]; rfl)], ⟨by simp, by simp⟩, by simp⟩
theorem Qri (ho : op ∈ Wh) (hA : AC C rP l vs w) (hw : w ≠ Zi) : Ik C D L rP (.mk op s z l) (.u, w) := by
 obtain ⟨M1, e, h, g⟩ := Qvb C L rP op s z l vs w ho hA
 have hw' : (w == Zi) = false := beq_eq_false_iff_ne.2 hw
 unfold Ik
 rw [Zp, lit141_tree]
 unfold n141
 rw [e]
 simp [Qk6, Qfi, Qdy, lit141, g, hw', bne, truP, Tr.n]
theorem Qiv (ho : op ∈ Wh) (hA : AC C rP l vs Zi) : ∃ M1, (∀ X, exec C L (.seq P5 (.seq P8 (.seq Qlr (.seq Qk6 X)))) ⟨params 0 [.p (node (.mk op s z l)), .p rP, .p src], [], []⟩ = exec C L X ⟨M1, [], jd op s z l⟩) /\ At141 M1 vs := by
 obtain ⟨M1, e, h, g⟩ := Qvb C L rP op s z l vs Zi ho hA
 exact ⟨_, fun X => by
   rw [e, seqN (by simp [Qk6, Qfi, Qdy, g]; rfl)], ⟨by simp [h.t3], by simp [h.t16]⟩⟩
def Ql8 : List Word := [[61], [60, 62], [60], [60, 61], [62], [62, 61]]
theorem cmp141 (ho : op ∈ Ql8) (a b : V) (hA : AC C rP l [a, b] Zi) (r : Tr × Word) (hT : ∀ σ, C 67 [.p (.str op), .p (val a), .p (val b)] σ = some (.ret (.p (truP r)), σ)) : Ik C D L rP (.mk op s z l) r := by
 have ho' : op ∈ Wh := by
   simp only [Ql8, List.mem_cons, List.not_mem_nil, or_false] at ho
   simp only [Wh, List.mem_cons, List.not_mem_nil, or_false]
   exact .inr (.inr ho)
 obtain ⟨M1, e, h⟩ := Qiv C L rP op s z l [a, b] ho' hA
 obtain ⟨q, w⟩ := r
 obtain ⟨t3, t16⟩ := h
 have r0 : Q4.raw 67 = false := by rfl
 obtain ⟨p, q', r, x, ea⟩ := vc4 a
 obtain ⟨p1, q1, r1, x1, eb⟩ := vc4 b
 rw [vcs2] at t16
 unfold Ik
 rw [Zp, lit141_tree]
 unfold n141
 rw [e]
 clear e hA
 simp only [val, truP, ea, eb, List.cons_append, List.nil_append, List.length_cons, List.length_nil, jd] at hT t16 ⊢
 generalize PV.vsl (Zs l) l.length = lv at *
 have e5 : ∃ M2, exec C L Qaz ⟨M1, [], [.arr (.pv [.str op, .str s, .int .i64 z, lv]) 0 0 none]⟩ = some (.normal, ⟨M2, [], [.arr (.pv [.str op, .str s, .int .i64 z, lv]) 0 0 none]⟩) /\ M2.get 3 = some (.ptr 0 0 0) /\ M2.get 16 = some (.p (.vsl [p, q', r, x, p1, q1, r1, x1] 2)) := by
   simp only [Ql8, List.mem_cons, List.not_mem_nil, or_false] at ho
   rcases ho with rfl | rfl | rfl | rfl | rfl | rfl <;> exact ⟨_, by simp [Qaz, Qaa, xk, w9, Vk, Vv, Wl, Tx, Tp, t3]; rfl, by simp [t3], by simpa [Env.get_cons] using t16⟩
 obtain ⟨M2, e6, k3, k16⟩ := e5
 rw [seqN e6]
 have fin : ∀ (H : Heap), (∃ s1 : Go.Ab.Tr, Zy C 0 (opsD Qgn) ⟨⟨M2, [], H⟩, [], []⟩ = some (none, s1) /\ okRW [0, 1, 0, 4, 12, 0, 32, 96, 255, 511, 511, 2047, 4095] (opsD Qgn) s1 = true /\ s1.st.defers = [] /\ s1.st.heap = H /\ s1.st.env.get 6 = some (.p q.p) /\ s1.st.env.get 7 = some (.p (.str w))) ->
     ∃ M', exec C L Qgn ⟨M2, [], H⟩ = some (.normal, ⟨M', [], H⟩) /\ M'.get 6 = some (.p q.p) /\ M'.get 7 = some (.p (.str w)) := by
   rintro H ⟨⟨⟨M', d, σ'⟩, rds, wrs⟩, hr, hok, hd, hh, hA⟩
   simp only at hd hh
   subst hd hh
   exact ⟨M', L9 hr hok, hA⟩
 obtain ⟨M3, e7, g6, g7⟩ := fin [.arr (.pv [.str op, .str s, .int .i64 z, lv]) 0 0 none] ⟨_, by
     show Zy C 0 (_ :: _) _ = _
     refine (Zf rfl rfl (by simp [k3, k16, r0, hT]; rfl)).trans ?_
     refine (Eu rfl rfl (by simp [k3, k16, r0, hT]; exact ⟨rfl, rfl⟩)).trans ?_
     refine (Zf rfl rfl (by simp [k3, k16, r0, hT]; rfl)).trans ?_
     refine (Zf rfl rfl (by simp [k3, k16, r0, hT]; rfl)).trans ?_
     refine (Zf rfl rfl (by simp [k3, k16, r0, hT]; rfl)).trans ?_
     refine (Zf rfl rfl (by simp [k3, k16, r0, hT]; rfl)).trans ?_
     refine (Zf rfl rfl (by simp [k3, k16, r0, hT]; rfl)).trans ?_
     refine (Zf rfl rfl (by simp [k3, k16, r0, hT]; rfl)).trans ?_
     refine (B8 rfl rfl (by simp [Zo, Jk, k3, k16, r0, hT]; rfl) (by simp [Sp]; rfl) (by simp [Nz, Oe, Eo, D9, idsL, idsV, idsO, k3, k16, r0, hT]; rfl)).trans ?_
     refine (Zf rfl rfl (by simp [k3, k16, r0, hT]; rfl)).trans ?_
     refine (Zf rfl rfl (by simp [k3, k16, r0, hT]; rfl)).trans ?_
     refine (Zf rfl rfl (by simp [k3, k16, r0, hT]; rfl)).trans ?_
     refine (Zf rfl rfl (by simp [k3, k16, r0, hT]; rfl)).trans ?_
     exact rfl, by kernel_rfl, by rfl, by rfl, by simp, by simp⟩
 rw [seqN e7]
 simp [lit141, g6, g7]
end
end Go.Ab.Keep
