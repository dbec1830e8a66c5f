/- ZQ -/
import Derived.Test.YtikebbklkiodlaaGreatDoorAbZL
set_option maxRecDepth 1000000
set_option linter.all false
namespace Go.Ab.Keep
open Go Go.Ab Go.Ab.Plan Go.Ab.Key Go.Ab.Cnt Go.Ab.Turn Go.Ab.Turn.Enc Go.Proofs
theorem lit125_tree : lit125.body = n125 := rfl
theorem lit111_tree : lit111.body = n111 := rfl
section
variable [Mx] (C : Zj) (L : Nat) (M : Env) (σ : Heap)
structure At125n (M : Env) (u : Nat) (j : Nat) (l : List UInt8) : Prop where
 t3 : M.get 3 = some (.p (.int .u64 (u : Int)))
 t4 : M.get 4 = some (.p (.str l))
 t5 : M.get 5 = some (.p (.int .i64 ((j : Int) - 1)))
theorem Qsm (u : Nat) (l : List UInt8) (h : At125n M u 0 l) : ∃ M', exec C L Bb ⟨M, [], σ⟩ = some (.exit 1, ⟨M', [], σ⟩) /\ M'.get 4 = some (.p (.str l)) :=
 ⟨_, by simp [Bb, Mi, Km, Ko, Mh, K7, Mj, h.t5]; rfl, by simp [h.t4]⟩
theorem go125n (u j : Nat) (l : List UInt8) (h : At125n M u (j + 1) l) (hj : j < 8) (hl : l.length + 1 <= LIM) :
   ∃ M' τ, exec C L Bb ⟨M, [], σ⟩ = some (.normal, ⟨M', [], σ ++ τ⟩) /\ At125n M' u j (l ++ [UInt8.ofNat (u / 256 ^ j % 256)]) := by
 have h5 := h.t5
 rw [show ((j + 1 : Nat) : Int) - 1 = (j : Int) from by omega] at h5
 have hge : (0 : Int) <= (j : Int) := by omega
 have e0 : IntKind.u64.wrap (j : Int) = (j : Int) := Va _ (by omega) (by omega)
 have e1 : IntKind.u64.wrap (8 * (j : Int)) = 8 * (j : Int) := Va _ (by omega) (by omega)
 have e5 : IntKind.i64.wrap ((j : Int) - 1) = (j : Int) - 1 := J5 _ (by omega) (by omega)
 have hp : ¬ (8 * (j : Int)) < 0 := by omega
 have hmin : min (8 * (j : Int)).toNat 64 = 8 * j := by omega
 have hb8 : (UInt8.ofNat (u / 256 ^ j % 256)).toNat = u / 256 ^ j % 256 := UInt8.toNat_ofNat_of_lt' (Nat.mod_lt _ (by decide))
 have hx : Xj .shr .u64 (u : Int) (8 * (j : Int)) = some (.int .u64 ((u / 256 ^ j : Nat) : Int)) := by
   have e2 : (u : Int).fdiv (2 ^ (8 * j)) = ((u / 256 ^ j : Nat) : Int) := by
     rw [show ((2 : Int) ^ (8 * j)) = (((256 ^ j : Nat)) : Int) from by rw [<- Qkb]; simp]
     rw [Int.fdiv_eq_ediv_of_nonneg _ (Int.natCast_nonneg _)]
     rfl
   simp only [Xj, hp, if_false, IntKind.bits, hmin, e2]
 have e3 : IntKind.u8.wrap ((u / 256 ^ j : Nat) : Int) = (((UInt8.ofNat (u / 256 ^ j % 256)).toNat : Nat) : Int) := by
   rw [Qo9 _ (Int.natCast_nonneg _), hb8, Int.natCast_emod]
   rfl
 generalize u / 256 ^ j = q at *
 generalize UInt8.ofNat (q % 256) = c at *
 have hby := Qeo [c]
 simp only [bp, List.map_cons, List.map_nil] at hby
 exact ⟨_, _, by simp [Bb, Mi, Km, Ko, Mh, K7, Mj, Zo, Jk, Bu, Fd, Y9, h.t3, h.t4, h5, hge, e0, e1, ↓hx, e3, e5, hby, hl]; exact ⟨rfl, rfl⟩, ⟨by simp [h.t3], by simp, by simp⟩⟩
theorem Qml (u : Nat) : ∀ (j f : Nat) (M : Env) (σ : Heap) (l : List UInt8), j < f -> j <= 8 -> At125n M u j l -> l.length + j <= LIM ->
   ∃ M' σ', iter (exec C L Bb) none f ⟨M, [], σ⟩ = some (.exit 1, ⟨M', [], σ'⟩) /\ M'.get 4 = some (.p (.str (l ++ be j (u % 256 ^ j))))
 | 0, f, M, σ, l, hf, _, h, hl => by
   obtain ⟨f, rfl⟩ : ∃ m, f = m + 1 := ⟨f - 1, by omega⟩
   obtain ⟨M', e, g4⟩ := Qsm C L M σ u l h
   exact ⟨M', σ, by simp only [iter, St.keep, e], by simpa [be] using g4⟩
 | j + 1, f, M, σ, l, hf, hj, h, hl => by
   obtain ⟨f, rfl⟩ : ∃ m, f = m + 1 := ⟨f - 1, by omega⟩
   obtain ⟨M1, τ, e, h1⟩ := go125n C L M σ u j l h (by omega) (by omega)
   obtain ⟨M', σ', e', g4⟩ := Qml u j f M1 _ _ (by omega) (by omega) h1 (by simp; omega)
   refine ⟨M', σ', by simp only [iter, St.keep, e]; exact e', ?_⟩
   rw [g4, Qn4]
   simp
structure At125t (M : Env) (w : List UInt8) (i : Nat) (l : List UInt8) : Prop where
 t6 : M.get 6 = some (.p (.str w))
 t7 : M.get 7 = some (.p (.str l))
 t8 : M.get 8 = some (.p (.int .i64 (i : Int)))
theorem Quc (w l : List UInt8) (h : At125t M w w.length l) : ∃ M', exec C L Gm ⟨M, [], σ⟩ = some (.exit 3, ⟨M', [], σ⟩) /\ M'.get 7 = some (.p (.str l)) :=
 ⟨_, by simp [Gm, Ep, Dp, Do, wJ7, D6, B7, B5, B6, Er, lenA, h.t6, h.t8]; rfl, by simp [h.t7]⟩
theorem go125t (w l : List UInt8) (i : Nat) (c : UInt8) (hc : w[i]? = some c) (h : At125t M w i l) (hm : w.length <= 16777216) (hl : l.length + 2 <= LIM) :
   ∃ M', exec C L Gm ⟨M, [], σ⟩ = some (.normal, ⟨M', [], σ⟩) /\ At125t M' w (i + 1) (l ++ esc [c]) := by
 have hi : i < w.length := (List.getElem?_eq_some_iff.1 hc).1
 have hcg : w[i] = c := by rw [List.getElem?_eq_getElem hi] at hc; exact Option.some.inj hc
 have hi' : (i : Int) < (w.length : Int) := by omega
 have e1 : IntKind.i64.wrap ((i : Int) + 1) = (i : Int) + 1 := J5 _ (by omega) (by omega)
 have h1 : (0 : Int) <= (i : Int) + 1 := by omega
 have h2 : (i : Int) <= (i : Int) + 1 := by omega
 have h3 : (i : Int) + 1 <= (w.length : Int) := by omega
 have h4 : ((i : Int) + 1).toNat = i + 1 := by omega
 have h5 : (w.drop i).take 1 = [c] := by
   rw [List.drop_eq_getElem_cons hi]
   simp [hcg]
 have h6 : i + 1 - i = 1 := by omega
 have hl1 : l.length + 1 <= LIM := by omega
 by_cases h0 : c = 0
 · subst h0
   refine ⟨_, by simp [Gm, Ep, Dp, Do, wJ7, D6, B7, B5, B6, Er, lenA, Zt, Y9, Ks, Iz, Th, h.t6, h.t7, h.t8, hi, hi', e1, h1, h2, h3, h4, h5, h6, hcg, hl, hl1]; rfl, ⟨by simp [h.t6], by simp [esc], by simp⟩⟩
 · have d0 : ((c.toNat : Int) == 0) = false := Qex (k := 0) h0
   refine ⟨_, by simp [Gm, Ep, Dp, Do, wJ7, D6, B7, B5, B6, Er, lenA, Zt, Y9, Ks, Iz, Th, h.t6, h.t7, h.t8, hi, hi', e1, h1, h2, h3, h4, h5, h6, hcg, hl, hl1, d0]; rfl, ⟨by simp [h.t6], by simp [esc, h0], by simp⟩⟩
theorem Qqo : ∀ s t : List UInt8, esc (s ++ t) = esc s ++ esc t
 | [], t => rfl
 | c :: s, t => by
   have ih := Qqo s t
   by_cases h : c = 0 <;> simp [esc, h, ih]
theorem Ql6 (w : List UInt8) (hm : w.length <= 16777216) : ∀ (d i f : Nat) (M : Env) (l : List UInt8), i + d = w.length -> d < f -> At125t M w i l -> l.length + 2 * d <= LIM ->
   ∃ M', iter (exec C L Gm) none f ⟨M, [], σ⟩ = some (.exit 3, ⟨M', [], σ⟩) /\ M'.get 7 = some (.p (.str (l ++ esc (w.drop i))))
 | 0, i, f, M, l, hd, hf, h, hl => by
   obtain ⟨f, rfl⟩ : ∃ m, f = m + 1 := ⟨f - 1, by omega⟩
   obtain rfl : i = w.length := by omega
   obtain ⟨M', e, g7⟩ := Quc C L M σ w l h
   exact ⟨M', by simp only [iter, St.keep, e], by simpa [esc] using g7⟩
 | d + 1, i, f, M, l, hd, hf, h, hl => by
   obtain ⟨f, rfl⟩ : ∃ m, f = m + 1 := ⟨f - 1, by omega⟩
   have hi : i < w.length := by omega
   obtain ⟨M1, e, h1⟩ := go125t C L M σ w l i w[i] (List.getElem?_eq_getElem hi) h hm (by omega)
   have hel : (esc [w[i]]).length <= 2 := Qbl [w[i]]
   obtain ⟨M', e', g7⟩ := Ql6 w hm d (i + 1) f M1 _ (by omega) (by omega) h1 (by rw [List.length_append]; omega)
   refine ⟨M', by simp only [iter, St.keep, e]; exact e', ?_⟩
   rw [g7, List.drop_eq_getElem_cons hi, List.append_assoc, <- Qqo]
   rfl
end
theorem Qzi (n : Int) (h : inR n) : IntKind.u64.wrap (IntKind.u64.wrap n + 9223372036854775808) = (off n : Int) := by
 unfold inR at h
 have ho : (off n : Int) = n + 9223372036854775808 := by unfold off; omega
 rw [ho]
 by_cases hn : 0 <= n
 · rw [Va n hn (by omega), Va _ (by omega) (by omega)]
 · rw [ym n (by omega) (by omega)]
   simp only [IntKind.wrap, IntKind.bits, IntKind.signed]
   simp
   omega
section
variable [Mx]
theorem Qm7 (C : Zj) (D : Yo) (L : Nat) (n : Int) (hn : inR n) (hL : 8 < L) : ansV (Z8 C D L lit125 [.p (.agg (vc (.num n)))] []) = some (.str (enc1 (.num n))) := by
 have hLm : LIM = 4294967296 := rfl
 have e1 := Qzi n hn
 obtain ⟨F, H, hF⟩ : ∃ (F : Env -> Heap -> Env) (H : Env -> Heap -> Heap), ∀ M σ, At125n M (off n) 8 [2] -> iter (exec C L Bb) none L ⟨M, [], σ⟩ = some (.exit 1, ⟨F M σ, [], H M σ⟩) /\ (F M σ).get 4 = some (.p (.str (2 :: be 8 (off n)))) := by
   have hl : ∀ M σ, At125n M (off n) 8 [2] -> ∃ x : Env × Heap, iter (exec C L Bb) none L ⟨M, [], σ⟩ = some (.exit 1, ⟨x.1, [], x.2⟩) /\ x.1.get 4 = some (.p (.str (2 :: be 8 (off n)))) := fun M σ h => by
     obtain ⟨M', σ', e, g⟩ := Qml C L (off n) 8 L M σ [2] hL (Nat.le_refl _) h (by decide)
     rw [Nat.mod_eq_of_lt (Qkz hn)] at g
     exact ⟨(M', σ'), e, g⟩
   refine ⟨fun M σ => open Classical in if h : At125n M (off n) 8 [2] then (hl M σ h).choose.1 else M, fun M σ => open Classical in if h : At125n M (off n) 8 [2] then (hl M σ h).choose.2 else σ, fun M σ h => ?_⟩
   simp only [dif_pos h]
   exact (hl M σ h).choose_spec
 have hF1 := fun M σ t3 t4 (t5 : M.get 5 = some (.p (.int .i64 7))) => (hF M σ ⟨t3, t4, t5⟩).1
 have hF2 := fun M σ t3 t4 (t5 : M.get 5 = some (.p (.int .i64 7))) => (hF M σ ⟨t3, t4, t5⟩).2
 rw [Zp, lit125_tree]
 simp [lit125, n125, Qrc, Qn5, Qfa, Qeu, Qan, qp, q8, yr, X4, X2, qd, Vy, Vx, Uj, X7, params, vc, finX, Hp, e1, hF1, hF2, enc1]
theorem Qih (C : Zj) (D : Yo) (L : Nat) (s : List UInt8) (hs : s.length <= 16777216) (hL : s.length < L) (hC : ∀ σ, C 43 [.p (.str s)] σ = some (.ret (.p (.str (Fg s))), σ)) : ansV (Z8 C D L lit125 [.p (.agg (vc (.text s)))] []) = some (.str (enc1 (.text s))) := by
 have hLm : LIM = 4294967296 := rfl
 have htl := trim_len s
 have hel := Qbl (Fg s)
 obtain ⟨F, hF⟩ : ∃ F : Env -> Heap -> Env, ∀ M σ, At125t M (Fg s) 0 [3] -> iter (exec C L Gm) none L ⟨M, [], σ⟩ = some (.exit 3, ⟨F M σ, [], σ⟩) /\ (F M σ).get 7 = some (.p (.str (3 :: esc (Fg s)))) := by
   have hl : ∀ M σ, At125t M (Fg s) 0 [3] -> ∃ x : Env, iter (exec C L Gm) none L ⟨M, [], σ⟩ = some (.exit 3, ⟨x, [], σ⟩) /\ x.get 7 = some (.p (.str (3 :: esc (Fg s)))) := fun M σ h => by
     obtain ⟨M', e, g⟩ := Ql6 C L σ (Fg s) (by omega) (Fg s).length 0 L M [3] (by omega) (by omega) h (by simp; omega)
     exact ⟨M', e, g⟩
   refine ⟨fun M σ => open Classical in if h : At125t M (Fg s) 0 [3] then (hl M σ h).choose else M, fun M σ h => ?_⟩
   simp only [dif_pos h]
   exact (hl M σ h).choose_spec
 have hF1 := fun M σ t6 t7 (t8 : M.get 8 = some (.p (.int .i64 0))) => (hF M σ ⟨t6, t7, t8⟩).1
 have hF2 := fun M σ t6 t7 (t8 : M.get 8 = some (.p (.int .i64 0))) => (hF M σ ⟨t6, t7, t8⟩).2
 have hl2 : (esc (Fg s)).length + 1 + 2 <= LIM := by omega
 rw [Zp, lit125_tree]
 simp [lit125, n125, Qrc, Qn5, Qfa, Qeu, Qan, qp, q8, ye, X5, X9, V8, Uf, T7, Ug, So, Sl, Rm, Ud, params, vc, finX, Hp, Y9, hC, hF1, hF2, hl2, enc1]
end
section
variable [Mx] (L n : Nat)
theorem one25 (v : V) (hok : v.ok) (hw : wt v <= 16777216) (hL : wt v < L) (hL8 : 8 < L) (σ : Heap) : (cAt TT L (n + 2)).1 25 [.p (.agg (vc v))] σ = some (.ret (.p (.str (enc1 v))), σ) := by
 refine Z7 (ps := [.agg (vc v)]) (n := n + 1) q125 rfl ?_ σ
 cases v with
 | null => kernel_rfl
 | num k => exact Qm7 _ _ L k hok hL8
 | text s =>
   simp only [wt] at hw hL
   exact Qih _ _ L s (by omega) (by omega) fun σ => Qgc L n s (by omega) (by omega) σ
 | bool b => cases b <;> kernel_rfl
end
section
variable [Mx] (C : Zj) (L : Nat) (x : List V) (M : Env) (σ : Heap)
structure At111 (M : Env) (i : Nat) (l : List UInt8) : Prop where
 t0 : M.get 0 = some (.p (.vsl (vcs x) x.length))
 t3 : M.get 3 = some (.p (.str l))
 t4 : M.get 4 = some (.p (.int .i64 (i : Int)))
theorem Qys (l : List UInt8) (h : At111 x M x.length l) : ∃ M', exec C L R2 ⟨M, [], σ⟩ = some (.exit 0, ⟨M', [], σ⟩) /\ M'.get 3 = some (.p (.str l)) :=
 ⟨_, by simp [R2, Wy, To, T2, Wu, Vh, W0, lenA, h.t0, h.t4]; rfl, by simp [h.t3]⟩
theorem go111 (l : List UInt8) (i : Nat) (v : V) (hv : x[i]? = some v) (hm : x.length <= 9223372036854775807) (h : At111 x M i l) (hl : l.length + (enc1 v).length <= LIM) (hC : ∀ σ, C 25 [.p (.agg (vc v))] σ = some (.ret (.p (.str (enc1 v))), σ)) :
   ∃ M', exec C L R2 ⟨M, [], σ⟩ = some (.normal, ⟨M', [], σ⟩) /\ At111 x M' (i + 1) (l ++ enc1 v) := by
 have hi : i < x.length := (List.getElem?_eq_some_iff.1 hv).1
 have hi' : (i : Int) < (x.length : Int) := by omega
 have d1 := Qct x i _ hv
 have d3 : 4 <= (vcs x).length - i * 4 := by rw [Lw]; omega
 have e1 : IntKind.i64.wrap ((i : Int) + 1) = (i : Int) + 1 := J5 _ (by omega) (by omega)
 exact ⟨_, by simp [R2, Wy, To, T2, Wu, Vh, W0, lenA, idxA, Y9, h.t0, h.t3, h.t4, hi, hi', d1, d3, e1, hC, hl]; rfl, ⟨by simp [h.t0], by simp, by simp⟩⟩
theorem Qqb (hm : x.length <= 9223372036854775807) (hw : wts x <= LIM) (hC : ∀ v ∈ x, ∀ σ, C 25 [.p (.agg (vc v))] σ = some (.ret (.p (.str (enc1 v))), σ)) : ∀ (d i f : Nat) (M : Env), i + d = x.length -> d < f -> At111 x M i (encL (x.take i)) ->
   ∃ M', iter (exec C L R2) none f ⟨M, [], σ⟩ = some (.exit 0, ⟨M', [], σ⟩) /\ M'.get 3 = some (.p (.str (encL x)))
 | 0, i, f, M, hd, hf, h => by
   obtain ⟨f, rfl⟩ : ∃ m, f = m + 1 := ⟨f - 1, by omega⟩
   obtain rfl : i = x.length := by omega
   rw [List.take_length] at h
   obtain ⟨M', e, g⟩ := Qys C L x M σ _ h
   exact ⟨M', by simp only [iter, St.keep, e], g⟩
 | d + 1, i, f, M, hd, hf, h => by
   obtain ⟨f, rfl⟩ : ∃ m, f = m + 1 := ⟨f - 1, by omega⟩
   have hi : i < x.length := by omega
   have ex : x[i]? = some x[i] := List.getElem?_eq_getElem hi
   have hsn : x.take (i + 1) = x.take i ++ [x[i]] := by rw [List.take_add_one, ex]; rfl
   have hlen : (encL (x.take i)).length + (enc1 x[i]).length <= LIM := by
     have h1 := encL_len (x.take i)
     have h2 := xf x (i + 1)
     have h3 := Qj8 x[i]
     rw [hsn, xj] at h2
     omega
   obtain ⟨M1, e, h1⟩ := go111 C L x M σ _ i x[i] ex hm h hlen (hC _ (List.getElem_mem hi))
   rw [<- Qhd, <- hsn] at h1
   obtain ⟨M', e', g⟩ := Qqb hm hw hC d (i + 1) f M1 (by omega) (by omega) h1
   exact ⟨M', by simp only [iter, St.keep, e]; exact e', g⟩
end
section
variable [Mx] (L n : Nat)
theorem Qmf (x : List V) (hL : x.length + 8 < L) (hm : x.length <= 9223372036854775807) (hok : ∀ v ∈ x, v.ok) (hw : wts x <= 16777216) (hwL : wts x < L) (σ : Heap) :
   (cAt TT L (n + 3)).1 11 [.p (.vsl (vcs x) x.length)] σ = some (.ret (.p (.str (encL x))), σ) := by
 refine Z7 (ps := [.vsl (vcs x) x.length]) (n := n + 2) q111 rfl ?_ σ
 have hwv : ∀ v ∈ x, wt v <= wts x := fun v hv => by
   obtain ⟨i, hi⟩ := List.mem_iff_getElem?.1 hv
   have h2 := xf x (i + 1)
   rw [List.take_add_one, hi] at h2
   simp only [Option.toList_some, xj] at h2
   omega
 have hLm : LIM = 4294967296 := rfl
 have hC : ∀ v ∈ x, ∀ σ, (cAt TT L (n + 2)).1 25 [.p (.agg (vc v))] σ = some (.ret (.p (.str (enc1 v))), σ) := fun v hv σ => one25 L n v (hok v hv) (by have := hwv v hv; omega) (by have := hwv v hv; omega) (by omega) σ
 generalize (cAt TT L (n + 2)).1 = C at hC ⊢
 generalize (cAt TT L (n + 2)).2 = D
 obtain ⟨M', e, g3⟩ := Qqb C L x [] hm (by omega) hC x.length 0 L [(4, .p (.int .i64 0)), (3, .p (.str [])), (2, .p (.str [])), (0, .p (.vsl (vcs x) x.length))] (by omega) (by omega) ⟨rfl, rfl, rfl⟩
 rw [Zp, lit111_tree]
 unfold n111 Qwi
 rw [seqN (a := Qnw) (by simp [Qnw, params]; rfl), seqN (a := Qn9) (by simp [Qn9]; rfl), <- Zn, seqN (a := Qf0) (by simp [Qf0]; rfl)]
 rw [seqN (a := Qk4) (by exact F0 (id := 0) (b := Qf7) e)]
 simp [lit111, Qvx, finX, Hp, g3]
end
end Go.Ab.Keep
namespace Go.Ab.Keep
open Go Go.Ab Go.Ab.Plan Go.Ab.Key Go.Ab.Cnt Go.Ab.Turn Go.Proofs
attribute [local simp] Fj Ms V3 refV oneH
theorem lit109_tree : lit109.body = n109 := rfl
structure Raw where
 k : Int
 n : Int
 s : Word
 b : Bool
def rawC (r : Raw) : List PV := [.int .i64 r.k, .int .i64 r.n, .str r.s, .bool r.b]
def raws (l : List Raw) : List PV := (l.map rawC).flatten
theorem Qzh (l : List Raw) (i : Nat) (r : Raw) (h : l[i]? = some r) : ((raws l).drop (i * 4)).take 4 = rawC r := Qis rawC (fun _ => rfl) l i r h
theorem Xn (l : List Raw) (i : Nat) (r : Raw) (h : l[i]? = some r) : (raws l)[i * 4]? = some (.int .i64 r.k) /\ (raws l)[i * 4 + 1]? = some (.int .i64 r.n) /\ (raws l)[i * 4 + 2]? = some (.str r.s) := by
 have d := Qzh l i r h
 have g : ∀ j, j < 4 -> (raws l)[i * 4 + j]? = (rawC r)[j]? := fun j hj => by
   rw [<- d, List.getElem?_take, if_pos hj, List.getElem?_drop]
 exact ⟨g 0 (by decide), g 1 (by decide), g 2 (by decide)⟩
def Mg (l : List Raw) (i : Nat) : V := match l[i]? with
 | none => .null
 | some r => if i < 2 then (if r.k = 1 then .num r.n else .null) else if r.k = 2 then .text r.s else .null
def rowV (l : List Raw) : List V := [Mg l 0, Mg l 1, Mg l 2]
section
variable [Mx] (C : Zj) (L : Nat) (l : List Raw) (M : Env)
structure At109 (l : List Raw) (M : Env) (i : Nat) : Prop where
 t0 : M.get 0 = some (.p (.vsl (raws l) l.length))
 t3 : M.get 3 = some (.sl 0 0 0 3 1)
 t4 : M.get 4 = some (.sl 1 0 0 3 4)
 t5 : M.get 5 = some (int i)
abbrev B3 (o : List PV) : Heap := [.arr (.pv [.int .i64 1, .int .i64 1, .int .i64 2]) 0 0 none, .arr (.pv o) 0 0 none]
theorem Qe4 (i : Nat) (o : List PV) (h : At109 l M i) (hi : 3 <= i ∨ l.length <= i) : ∃ M', exec C L Ih ⟨M, [], B3 o⟩ = some (.exit 0, ⟨M', [], B3 o⟩) /\ M'.get 4 = some (.sl 1 0 0 3 4) := by
 obtain ⟨t0, t3, t4, t5⟩ := h
 by_cases h3 : (i : Int) < 3
 · have hi' : ¬ (i : Int) < (l.length : Int) := by omega
   exact ⟨_, by simp [Fw, Ke, Kc, Ih, t0, t5, h3, hi']; rfl, by simp [t4]⟩
 · exact ⟨_, by simp [Fw, Ke, Kc, Ih, t0, t5, h3]; rfl, by simp [t4]⟩
theorem Qof (h : At109 l M 0) (r : Raw) (hr : l[0]? = some r) (o : List PV) : ∃ M', exec C L Na ⟨M, [], B3 o⟩ = some (.normal, ⟨M', [], B3 o⟩) /\ M'.get 27 = some (.p (.bool (r.k != 1))) /\ At109 l M' 0 := by
 obtain ⟨t0, t3, t4, t5⟩ := h
 have hi : 0 < l.length := (List.getElem?_eq_some_iff.1 hr).1
 have hi' : (0 : Int) < (l.length : Int) := by omega
 obtain ⟨d0, d1, d2⟩ := Xn l 0 r hr
 simp only [Nat.zero_mul, Nat.reduceMul, Nat.zero_add, Nat.reduceAdd] at d0 d1 d2
 refine ⟨_, L9 (s := _) (by
   show Zy C 0 (_ :: _) _ = _
   refine (Zf rfl rfl (by simp [t0, t3, t5, hi, hi', d0, d1, d2]; rfl)).trans ?_
   refine (Zf rfl rfl (by simp [t0, t3, t5, hi, hi', d0, d1, d2]; rfl)).trans ?_
   refine (Zf rfl rfl (by simp [t0, t3, t5, hi, hi', d0, d1, d2]; rfl)).trans ?_
   refine (Zf rfl rfl (by simp [t0, t3, t5, hi, hi', d0, d1, d2]; rfl)).trans ?_
   refine (Zf rfl rfl (by simp [t0, t3, t5, hi, hi', d0, d1, d2]; rfl)).trans ?_
   refine (Zf rfl rfl (by simp [t0, t3, t5, hi, hi', d0, d1, d2]; rfl)).trans ?_
   refine (Zf rfl rfl (by simp [t0, t3, t5, hi, hi', d0, d1, d2]; rfl)).trans ?_
   refine (Zf rfl rfl (by simp [t0, t3, t5, hi, hi', d0, d1, d2]; rfl)).trans ?_
   refine (Eu rfl rfl (by simp [t0, t3, t5, hi, hi', d0, d1, d2]; exact ⟨rfl, rfl⟩)).trans ?_
   refine (Zf rfl rfl (by simp [t0, t3, t5, hi, hi', d0, d1, d2]; rfl)).trans ?_
   refine (Zf rfl rfl (by simp [t0, t3, t5, hi, hi', d0, d1, d2]; rfl)).trans ?_
   exact rfl) Ru, ?_, ⟨?_, ?_, ?_, ?_⟩⟩
 · simp [bne]
 · simp [t0]
 · simp [t3]
 · simp [t4]
 · simp [t5]
theorem Qyo (h : At109 l M 0) (r : Raw) (hr : l[0]? = some r) : ∃ M', exec C L Ih ⟨M, [], B3 (vcs [.null, .null, .null])⟩ = some (.normal, ⟨M', [], B3 (vcs [Mg l 0, .null, .null])⟩) /\ At109 l M' 1 := by
 have hi : 0 < l.length := (List.getElem?_eq_some_iff.1 hr).1
 have ew : IntKind.i64.wrap 1 = 1 := rfl
 have hi' : (0 : Int) < (l.length : Int) := by omega
 obtain ⟨d0, d1, d2⟩ := Xn l 0 r hr
 simp only [Nat.zero_mul, Nat.reduceMul, Nat.zero_add, Nat.reduceAdd] at d0 d1 d2
 have st : ∃ M1, exec C L Fw ⟨M, [], B3 (vcs [.null, .null, .null])⟩ = some (.normal, ⟨M1, [], B3 (vcs [.null, .null, .null])⟩) /\ At109 l M1 0 := by
   obtain ⟨t0, t3, t4, t5⟩ := h
   exact ⟨_, by simp [Fw, Ke, Kc, t0, t5, hi, hi']; rfl, by simp [t0], by simp [t3], by simp [t4], by simp [t5]⟩
 obtain ⟨M1, e1, h1⟩ := st
 obtain ⟨M2, e2, g27, t0, t3, t4, t5⟩ := Qof C L l M1 h1 r hr (vcs [.null, .null, .null])
 have mid : ∃ M3, exec C L Lr ⟨M1, [], B3 (vcs [.null, .null, .null])⟩ = some (.normal, ⟨M3, [], B3 (vcs [Mg l 0, .null, .null])⟩) /\ At109 l M3 0 := by
   have hv : Mg l 0 = if r.k = 1 then .num r.n else .null := by
     unfold Mg
     rw [hr]
     rfl
   rw [hv]
   unfold Lr Rs Pn
   by_cases hk : r.k = 1
   · have hk' : (r.k != 1) = false := by rw [hk]; rfl
     rw [if_pos hk]
     rw [hk'] at g27
     refine ⟨_, Lp (Lp (by rw [seqN e2]; simp [Ef, Dd, Bm, Bn, Y0, Y3, vcs, Ja, Jz, Jb, Z9, g27, t0, t3, t4, t5, hi, hi', d0, d1, d2]; rfl)), by simp [t0], by simp [t3], by simp [t4], by simp [t5]⟩
   · have hk' : (r.k != 1) = true := by simp [hk]
     rw [if_neg hk]
     rw [hk'] at g27
     exact ⟨_, Lp (Lp (by rw [seqN e2]; simp [Ef, Dd, Bm, Bn, Y0, Y3, g27])), t0, t3, t4, t5⟩
 obtain ⟨M3, e3, t0', t3', t4', t5'⟩ := mid
 refine ⟨_, by unfold Ih; rw [seqN e1, seqN e3]; simp [Sr, t5', ew]; rfl, by simp [t0'], by simp [t3'], by simp [t4'], by simp [ew]⟩
theorem Qov (h : At109 l M 1) (r : Raw) (hr : l[1]? = some r) (o : List PV) : ∃ M', exec C L Na ⟨M, [], B3 o⟩ = some (.normal, ⟨M', [], B3 o⟩) /\ M'.get 27 = some (.p (.bool (r.k != 1))) /\ At109 l M' 1 := by
 obtain ⟨t0, t3, t4, t5⟩ := h
 have hi : 1 < l.length := (List.getElem?_eq_some_iff.1 hr).1
 have hi' : (1 : Int) < (l.length : Int) := by omega
 obtain ⟨d0, d1, d2⟩ := Xn l 1 r hr
 simp only [Nat.zero_mul, Nat.reduceMul, Nat.zero_add, Nat.reduceAdd] at d0 d1 d2
 refine ⟨_, L9 (s := _) (by
   show Zy C 0 (_ :: _) _ = _
   refine (Zf rfl rfl (by simp [t0, t3, t5, hi, hi', d0, d1, d2]; rfl)).trans ?_
   refine (Zf rfl rfl (by simp [t0, t3, t5, hi, hi', d0, d1, d2]; rfl)).trans ?_
   refine (Zf rfl rfl (by simp [t0, t3, t5, hi, hi', d0, d1, d2]; rfl)).trans ?_
   refine (Zf rfl rfl (by simp [t0, t3, t5, hi, hi', d0, d1, d2]; rfl)).trans ?_
   refine (Zf rfl rfl (by simp [t0, t3, t5, hi, hi', d0, d1, d2]; rfl)).trans ?_
   refine (Zf rfl rfl (by simp [t0, t3, t5, hi, hi', d0, d1, d2]; rfl)).trans ?_
   refine (Zf rfl rfl (by simp [t0, t3, t5, hi, hi', d0, d1, d2]; rfl)).trans ?_
   refine (Zf rfl rfl (by simp [t0, t3, t5, hi, hi', d0, d1, d2]; rfl)).trans ?_
   refine (Eu rfl rfl (by simp [t0, t3, t5, hi, hi', d0, d1, d2]; exact ⟨rfl, rfl⟩)).trans ?_
   refine (Zf rfl rfl (by simp [t0, t3, t5, hi, hi', d0, d1, d2]; rfl)).trans ?_
   refine (Zf rfl rfl (by simp [t0, t3, t5, hi, hi', d0, d1, d2]; rfl)).trans ?_
   exact rfl) Ru, ?_, ⟨?_, ?_, ?_, ?_⟩⟩
 · simp [bne]
 · simp [t0]
 · simp [t3]
 · simp [t4]
 · simp [t5]
theorem Qx6 (v0 : V) (h : At109 l M 1) (r : Raw) (hr : l[1]? = some r) : ∃ M', exec C L Ih ⟨M, [], B3 (vcs [v0, .null, .null])⟩ = some (.normal, ⟨M', [], B3 (vcs [v0, Mg l 1, .null])⟩) /\ At109 l M' 2 := by
 have hi : 1 < l.length := (List.getElem?_eq_some_iff.1 hr).1
 have ew : IntKind.i64.wrap 2 = 2 := rfl
 have hi' : (1 : Int) < (l.length : Int) := by omega
 obtain ⟨d0, d1, d2⟩ := Xn l 1 r hr
 simp only [Nat.zero_mul, Nat.reduceMul, Nat.zero_add, Nat.reduceAdd] at d0 d1 d2
 have st : ∃ M1, exec C L Fw ⟨M, [], B3 (vcs [v0, .null, .null])⟩ = some (.normal, ⟨M1, [], B3 (vcs [v0, .null, .null])⟩) /\ At109 l M1 1 := by
   obtain ⟨t0, t3, t4, t5⟩ := h
   exact ⟨_, by simp [Fw, Ke, Kc, t0, t5, hi, hi']; rfl, by simp [t0], by simp [t3], by simp [t4], by simp [t5]⟩
 obtain ⟨M1, e1, h1⟩ := st
 obtain ⟨M2, e2, g27, t0, t3, t4, t5⟩ := Qov C L l M1 h1 r hr (vcs [v0, .null, .null])
 have mid : ∃ M3, exec C L Lr ⟨M1, [], B3 (vcs [v0, .null, .null])⟩ = some (.normal, ⟨M3, [], B3 (vcs [v0, Mg l 1, .null])⟩) /\ At109 l M3 1 := by
   have hv : Mg l 1 = if r.k = 1 then .num r.n else .null := by
     unfold Mg
     rw [hr]
     rfl
   rw [hv]
   unfold Lr Rs Pn
   obtain ⟨a1, a2, a3, a4, ea⟩ := vc4 v0
   by_cases hk : r.k = 1
   · have hk' : (r.k != 1) = false := by rw [hk]; rfl
     rw [if_pos hk]
     rw [hk'] at g27
     refine ⟨_, Lp (Lp (by rw [seqN e2]; simp [Ef, Dd, Bm, Bn, Y0, Y3, vcs, Ja, Jz, Jb, Z9, g27, t0, t3, t4, t5, hi, hi', d0, d1, d2, ea]; rfl)), by simp [t0], by simp [t3], by simp [t4], by simp [t5]⟩
   · have hk' : (r.k != 1) = true := by simp [hk]
     rw [if_neg hk]
     rw [hk'] at g27
     exact ⟨_, Lp (Lp (by rw [seqN e2]; simp [Ef, Dd, Bm, Bn, Y0, Y3, g27])), t0, t3, t4, t5⟩
 obtain ⟨M3, e3, t0', t3', t4', t5'⟩ := mid
 refine ⟨_, by unfold Ih; rw [seqN e1, seqN e3]; simp [Sr, t5', ew]; rfl, by simp [t0'], by simp [t3'], by simp [t4'], by simp [ew]⟩
theorem Qqs (h : At109 l M 2) (r : Raw) (hr : l[2]? = some r) (o : List PV) : ∃ M', exec C L Na ⟨M, [], B3 o⟩ = some (.normal, ⟨M', [], B3 o⟩) /\ M'.get 27 = some (.p (.bool (r.k != 2))) /\ At109 l M' 2 := by
 obtain ⟨t0, t3, t4, t5⟩ := h
 have hi : 2 < l.length := (List.getElem?_eq_some_iff.1 hr).1
 have hi' : (2 : Int) < (l.length : Int) := by omega
 obtain ⟨d0, d1, d2⟩ := Xn l 2 r hr
 simp only [Nat.zero_mul, Nat.reduceMul, Nat.zero_add, Nat.reduceAdd] at d0 d1 d2
 refine ⟨_, L9 (s := _) (by
   show Zy C 0 (_ :: _) _ = _
   refine (Zf rfl rfl (by simp [t0, t3, t5, hi, hi', d0, d1, d2]; rfl)).trans ?_
   refine (Zf rfl rfl (by simp [t0, t3, t5, hi, hi', d0, d1, d2]; rfl)).trans ?_
   refine (Zf rfl rfl (by simp [t0, t3, t5, hi, hi', d0, d1, d2]; rfl)).trans ?_
   refine (Zf rfl rfl (by simp [t0, t3, t5, hi, hi', d0, d1, d2]; rfl)).trans ?_
   refine (Zf rfl rfl (by simp [t0, t3, t5, hi, hi', d0, d1, d2]; rfl)).trans ?_
   refine (Zf rfl rfl (by simp [t0, t3, t5, hi, hi', d0, d1, d2]; rfl)).trans ?_
   refine (Zf rfl rfl (by simp [t0, t3, t5, hi, hi', d0, d1, d2]; rfl)).trans ?_
   refine (Zf rfl rfl (by simp [t0, t3, t5, hi, hi', d0, d1, d2]; rfl)).trans ?_
   refine (Eu rfl rfl (by simp [t0, t3, t5, hi, hi', d0, d1, d2]; exact ⟨rfl, rfl⟩)).trans ?_
   refine (Zf rfl rfl (by simp [t0, t3, t5, hi, hi', d0, d1, d2]; rfl)).trans ?_
   refine (Zf rfl rfl (by simp [t0, t3, t5, hi, hi', d0, d1, d2]; rfl)).trans ?_
   exact rfl) Ru, ?_, ⟨?_, ?_, ?_, ?_⟩⟩
 · simp [bne]
 · simp [t0]
 · simp [t3]
 · simp [t4]
 · simp [t5]
theorem Qye (v0 v1 : V) (h : At109 l M 2) (r : Raw) (hr : l[2]? = some r) : ∃ M', exec C L Ih ⟨M, [], B3 (vcs [v0, v1, .null])⟩ = some (.normal, ⟨M', [], B3 (vcs [v0, v1, Mg l 2])⟩) /\ At109 l M' 3 := by
 have hi : 2 < l.length := (List.getElem?_eq_some_iff.1 hr).1
 have ew : IntKind.i64.wrap 3 = 3 := rfl
 have hi' : (2 : Int) < (l.length : Int) := by omega
 obtain ⟨d0, d1, d2⟩ := Xn l 2 r hr
 simp only [Nat.zero_mul, Nat.reduceMul, Nat.zero_add, Nat.reduceAdd] at d0 d1 d2
 have st : ∃ M1, exec C L Fw ⟨M, [], B3 (vcs [v0, v1, .null])⟩ = some (.normal, ⟨M1, [], B3 (vcs [v0, v1, .null])⟩) /\ At109 l M1 2 := by
   obtain ⟨t0, t3, t4, t5⟩ := h
   exact ⟨_, by simp [Fw, Ke, Kc, t0, t5, hi, hi']; rfl, by simp [t0], by simp [t3], by simp [t4], by simp [t5]⟩
 obtain ⟨M1, e1, h1⟩ := st
 obtain ⟨M2, e2, g27, t0, t3, t4, t5⟩ := Qqs C L l M1 h1 r hr (vcs [v0, v1, .null])
 have mid : ∃ M3, exec C L Lr ⟨M1, [], B3 (vcs [v0, v1, .null])⟩ = some (.normal, ⟨M3, [], B3 (vcs [v0, v1, Mg l 2])⟩) /\ At109 l M3 2 := by
   have hv : Mg l 2 = if r.k = 2 then .text r.s else .null := by
     unfold Mg
     rw [hr]
     rfl
   rw [hv]
   unfold Lr Rs Pn
   obtain ⟨a1, a2, a3, a4, ea⟩ := vc4 v0
   obtain ⟨b1, b2, b3, b4, eb⟩ := vc4 v1
   by_cases hk : r.k = 2
   · have hk' : (r.k != 2) = false := by rw [hk]; rfl
     rw [if_pos hk]
     rw [hk'] at g27
     refine ⟨_, Lp (Lp (by rw [seqN e2]; simp [Ef, Dd, Bm, Bn, Y0, Y3, vcs, Ja, Jz, Jb, Z9, g27, t0, t3, t4, t5, hi, hi', d0, d1, d2, ea, eb]; rfl)), by simp [t0], by simp [t3], by simp [t4], by simp [t5]⟩
   · have hk' : (r.k != 2) = true := by simp [hk]
     rw [if_neg hk]
     rw [hk'] at g27
     exact ⟨_, Lp (Lp (by rw [seqN e2]; simp [Ef, Dd, Bm, Bn, Y0, Y3, g27])), t0, t3, t4, t5⟩
 obtain ⟨M3, e3, t0', t3', t4', t5'⟩ := mid
 refine ⟨_, by unfold Ih; rw [seqN e1, seqN e3]; simp [Sr, t5', ew]; rfl, by simp [t0'], by simp [t3'], by simp [t4'], by simp [ew]⟩
theorem Uq {l : List Raw} {i : Nat} (h : l.length <= i) : Mg l i = .null := by
 unfold Mg
 rw [List.getElem?_eq_none h]
theorem run109 (h : At109 l M 0) (f : Nat) (hf : 4 <= f) : ∃ M', iter (exec C L Ih) none f ⟨M, [], B3 (vcs [.null, .null, .null])⟩ = some (.exit 0, ⟨M', [], B3 (vcs (rowV l))⟩) /\ M'.get 4 = some (.sl 1 0 0 3 4) := by
 obtain ⟨f, rfl⟩ : ∃ m, f = m + 4 := ⟨f - 4, by omega⟩
 unfold rowV
 by_cases h0 : 0 < l.length
 · obtain ⟨M1, e1, h1⟩ := Qyo C L l M h _ (List.getElem?_eq_getElem h0)
   by_cases h1l : 1 < l.length
   · obtain ⟨M2, e2, h2⟩ := Qx6 C L l M1 (Mg l 0) h1 _ (List.getElem?_eq_getElem h1l)
     by_cases h2l : 2 < l.length
     · obtain ⟨M3, e3, h3⟩ := Qye C L l M2 (Mg l 0) (Mg l 1) h2 _ (List.getElem?_eq_getElem h2l)
       obtain ⟨M', e, g⟩ := Qe4 C L l M3 3 (vcs [Mg l 0, Mg l 1, Mg l 2]) h3 (.inl (by decide))
       exact ⟨M', by simp only [iter, St.keep, e1, e2, e3, e], g⟩
     · rw [Uq (i := 2) (by omega)]
       obtain ⟨M', e, g⟩ := Qe4 C L l M2 2 (vcs [Mg l 0, Mg l 1, .null]) h2 (.inr (by omega))
       exact ⟨M', by simp only [iter, St.keep, e1, e2, e], g⟩
   · rw [Uq (i := 1) (by omega), Uq (i := 2) (by omega)]
     obtain ⟨M', e, g⟩ := Qe4 C L l M1 1 (vcs [Mg l 0, .null, .null]) h1 (.inr (by omega))
     exact ⟨M', by simp only [iter, St.keep, e1, e], g⟩
 · rw [Uq (i := 0) (by omega), Uq (i := 1) (by omega), Uq (i := 2) (by omega)]
   obtain ⟨M', e, g⟩ := Qe4 C L l M 0 (vcs [.null, .null, .null]) h (.inr (by omega))
   exact ⟨M', by simp only [iter, St.keep, e], g⟩
end
theorem row9 [Mx] (L n : Nat) (hL : 4 <= L) (l : List Raw) (σ : Heap) : (cAt TT L (n + 1)).1 9 [.p (.vsl (raws l) l.length)] σ = some (.ret (.p (.vsl (vcs (rowV l)) 3)), σ) := by
 have key : ∃ v σr σ2, Z8 (cAt TT L n).1 (cAt TT L n).2 L lit109 [.p (.vsl (raws l) l.length)] [] = some (.ret v, σr) /\ frz (List.range σr.length) 9 σr v = some (.vsl (vcs (rowV l)) 3, σ2) := by
   generalize (cAt TT L n).1 = C at *
   generalize (cAt TT L n).2 = D
   obtain ⟨M', e, g⟩ := run109 C L l [(5, int 0), (4, .sl 1 0 0 3 4), (7, .sl 1 0 0 3 4), (3, .sl 0 0 0 3 1), (6, .sl 0 0 0 3 1), (2, .nil0), (0, .p (.vsl (raws l) l.length))] ⟨rfl, rfl, rfl, rfl⟩ L hL
   refine ⟨.sl 1 0 0 3 4, B3 (vcs (rowV l)), _, ?_, by simp [frz, Lw, rowV, List.take_of_length_le]; rfl⟩
   rw [Zp, lit109_tree]
   unfold n109 Qv1
   rw [seqN (by simp [Qun, params]; rfl), seqN (by simp [Qv2, Zo]; rfl), seqN (by simp [Qvy, Zo]; rfl), <- Zn, seqN (by simp [Qji]; rfl)]
   rw [seqN (a := Qjt) (by exact F0 (id := 0) (b := Qgv) e)]
   simp [Quk, lit109, g]
 obtain ⟨v, σr, σ2, h1, h2⟩ := key
 exact xy (ps := [.vsl (raws l) l.length]) q109 (by rfl) h1 h2 σ
end Go.Ab.Keep
namespace Go.Ab.Keep
open Go Go.Ab Go.Ab.Plan Go.Ab.Key Go.Ab.Cnt Go.Ab.Turn Go.Proofs
theorem lit103_tree : lit103.body = n103 := rfl
variable [Mx]
def wi (l : List (List Raw)) : List PV := l.map fun r => .vsl (raws r) r.length
structure At103 (rows : List (List Raw)) (M : Env) (i : Nat) : Prop where
 t2 : M.get 2 = some (.p (.vsl (wi rows) rows.length))
 t4 : M.get 4 = some (.ptr 0 0 0)
 t7 : M.get 7 = some (.ptr 1 0 0)
 t8 : M.get 8 = some (.ptr 3 0 0)
 t9 : M.get 9 = some (int i)
structure Hp103 (t : T) (k : List Nat) (P : List PV) (σ : Heap) : Prop where
 o0 : σ[0]? = some (.arr (.pv (cells t)) 0 0 none)
 o1 : σ[1]? = some (.arr (.pv (tblC k)) 0 0 (some 33))
 o3 : σ[3]? = some (.arr (.pv P) 0 0 (some 37))
 len : 4 <= σ.length
section
variable (C : Zj) (L : Nat) (rows : List (List Raw)) (t : T) (k : List Nat) (P : List PV) (M : Env) (σ : Heap) (i : Nat)
theorem Qxr (h : At103 rows M i) (hi : 30 <= i ∨ rows.length <= i) : ∃ M', exec C L Ng ⟨M, [], σ⟩ = some (.exit 0, ⟨M', [], σ⟩) := by
 obtain ⟨t2, t4, t7, t8, t9⟩ := h
 by_cases h3 : (i : Int) < (rows.length : Int)
 · have hi' : ¬ (i : Int) < 30 := by omega
   exact ⟨_, by simp [P3, Po, Pq, Ng, t2, t9, h3, hi']; rfl⟩
 · exact ⟨_, by simp [P3, Po, Pq, Ng, t2, t9, h3]; rfl⟩
theorem Qxk (h : At103 rows M i) (hi : i < 30) (hr : i < rows.length) : ∃ M', exec C L P3 ⟨M, [], σ⟩ = some (.normal, ⟨M', [], σ⟩) /\ At103 rows M' i := by
 obtain ⟨t2, t4, t7, t8, t9⟩ := h
 have h3 : (i : Int) < (rows.length : Int) := by omega
 have hi' : (i : Int) < 30 := by omega
 exact ⟨_, by simp [P3, Po, Pq, t2, t9, h3, hi']; rfl, by simp [t2], by simp [t4], by simp [t7], by simp [t8], by simp [t9]⟩
theorem Qtr (r : List Raw) (hr : rows[i]? = some r) : (wi rows)[i]? = some (.vsl (raws r) r.length) := by
 unfold wi
 rw [List.getElem?_map, hr]
 rfl
end
abbrev oRow (vr : List PV) (m : Nat) : Obj := .arr (.pv [.vsl vr 3]) 0 m none
abbrev oSrc : Obj := .arr (.av [.p (.bool true), .nil0, .p (.str Zi), .nil0, .p (.bool false), .p (.str []), .p (.str []), .p (.int .i64 0), .nil0, .nil0, .p (.int .i64 0)]) 0 0 none
abbrev Qhz : Obj := .arr (.pv srcC) 0 11 none
theorem Qn3 (σ : Heap) (nt : PV) (vr : List PV) : frzA (Eo (σ ++ [oRow vr 0, oSrc]) [.p nt, .sl σ.length 0 0 1 1, .ptr (σ.length + 1) 0 0]) 9 (σ ++ [oRow vr 0, oSrc]) [.p nt, .sl σ.length 0 0 1 1, .ptr (σ.length + 1) 0 0] = ([nt, .vsl [.vsl vr 3] 1, src].map .p, σ ++ [oRow vr 1, Qhz]) := by
 have g0 : ∀ a b : Obj, (σ ++ [a, b])[σ.length]? = some a := fun a b => by simp
 have g1 : ∀ a b : Obj, (σ ++ [a, b])[σ.length + 1]? = some b := fun a b => by simp
 have s0 : ∀ a b c : Obj, (σ ++ [a, b]).set σ.length c = σ ++ [c, b] := fun a b c => by simp
 have s1 : ∀ a b c : Obj, (σ ++ [a, b]).set (σ.length + 1) c = σ ++ [a, c] := fun a b c => by simp [List.set_append]
 have hc0 : (Eo (σ ++ [oRow vr 0, oSrc]) [.p nt, .sl σ.length 0 0 1 1, .ptr (σ.length + 1) 0 0]).contains σ.length = true := by
   simp [Eo, idsL, idsV, D9, idsO, g0, g1]
 have hc1 : (Eo (σ ++ [oRow vr 0, oSrc]) [.p nt, .sl σ.length 0 0 1 1, .ptr (σ.length + 1) 0 0]).contains (σ.length + 1) = true := by
   simp [Eo, idsL, idsV, D9, idsO, g0, g1]
 generalize Eo (σ ++ [oRow vr 0, oSrc]) [.p nt, .sl σ.length 0 0 1 1, .ptr (σ.length + 1) 0 0] = tl at hc0 hc1 ⊢
 generalize σ.length = n at *
 have f1 : frz tl 9 (σ ++ [oRow vr 0, oSrc]) (.sl n 0 0 1 1) = some (.vsl [.vsl vr 3] 1, σ ++ [oRow vr 1, oSrc]) := by
   unfold frz
   simp only [g0, Q1.len]
   rw [if_pos ⟨trivial, by simp, hc0⟩, s0]
   rfl
 have f3 : frz tl 8 (σ ++ [oRow vr 1, oSrc]) (.sl (n + 1) 0 0 11 1) = some (.vsl srcC 11, σ ++ [oRow vr 1, Qhz]) := by
   unfold frz
   simp only [g1, Q1.len]
   rw [if_pos ⟨trivial, by simp, hc1⟩]
   have e : ∀ τ, frzs (frz tl 7) τ ((List.drop 0 [AV.p (.bool true), .nil0, .p (.str Zi), .nil0, .p (.bool false), .p (.str []), .p (.str []), .p (.int .i64 0), .nil0, .nil0, .p (.int .i64 0)]).take (11 * 1)) = some (srcC, τ) := fun τ => rfl
   rw [e]
   simp only [g1]
   rw [if_pos ⟨trivial, by simp⟩, s1]
   rfl
 have f2 : frz tl 9 (σ ++ [oRow vr 1, oSrc]) (.ptr (n + 1) 0 0) = some (src, σ ++ [oRow vr 1, Qhz]) := by
   unfold frz
   simp only [g1, Q1.len]
   rw [if_pos ⟨trivial, by simp⟩]
   have e : [AV.p (.bool true), .nil0, .p (.str Zi), .nil0, .p (.bool false), .p (.str []), .p (.str []), .p (.int .i64 0), .nil0, .nil0, .p (.int .i64 0)].length - 0 = 11 := rfl
   rw [e, f3]
 have f0 : ∀ τ, frz tl 9 τ (.p nt) = some (nt, τ) := fun _ => rfl
 simp only [frzA, f0, f1, f2, List.map_cons, List.map_nil]
theorem Qtx (L n : Nat) (t : T) (r : List V) (hr : r.length = 3) (q : Tr) (w : Word) (h : TC (cAt TT L (n + 1)).1 (Y1 r) t q w) (σ : Heap) :
   (cAt TT L (n + 1)).1 10 [.p (node t), .sl σ.length 0 0 1 1, .ptr (σ.length + 1) 0 0] (σ ++ [oRow (vcs r) 0, oSrc]) = some (.ret (.p (truP (q, w))), σ ++ [oRow (vcs r) 1, Qhz]) := by
 rw [jg (ps := [node t, .vsl [.vsl (vcs r) 3] 1, src]) q110 (Qn3 σ (node t) (vcs r))]
 have := h (σ ++ [oRow (vcs r) 1, Qhz])
 unfold Y1 at this
 rw [hr] at this
 exact this
section
variable (C : Zj) (L : Nat) (rows : List (List Raw)) (t : T) (k : List Nat) (P : List PV) (M : Env) (σ : Heap) (i : Nat)
theorem two103 (h : At103 rows M i) (hH : Hp103 t k P σ) (r : List Raw) (hr : rows[i]? = some r) (q : Tr) (w : Word)
   (hC9 : ∀ σ, C 9 [.p (.vsl (raws r) r.length)] σ = some (.ret (.p (.vsl (vcs (rowV r)) 3)), σ))
   (hC10 : ∀ σ, C 10 [.p (node t), .sl σ.length 0 0 1 1, .ptr (σ.length + 1) 0 0] (σ ++ [oRow (vcs (rowV r)) 0, oSrc]) = some (.ret (.p (truP (q, w))), σ ++ [oRow (vcs (rowV r)) 1, Qhz])) :
   ∃ M' σ', (∀ X, exec C L (.seq Ns (.seq Sd X)) ⟨M, [], σ⟩ = exec C L X ⟨M', [], σ'⟩) /\ At103 rows M' i /\ Hp103 t k P σ' /\ M'.get 10 = some (.p (.vsl (vcs (rowV r)) 3)) /\ M'.get 11 = some (.p q.p) /\ M'.get 12 = some (.p (.str w)) := by
 obtain ⟨t2, t4, t7, t8, t9⟩ := h
 obtain ⟨o0, o1, o3, len⟩ := hH
 obtain ⟨hi, _⟩ := List.getElem?_eq_some_iff.1 hr
 have hi' : (i : Int) < (rows.length : Int) := by omega
 have hd := Qtr rows i r hr
 generalize hrc : wi rows = rc at *
 obtain ⟨a1, a2, a3, a4, ec⟩ := M5 t
 have o0' := o0
 rw [ec] at o0
 have hC10' := hC10 σ
 generalize vcs (rowV r) = vr at *
 simp only [node, ec, truP, oRow, oSrc, Zi] at hC10'
 have e1 : ∃ M1, exec C L Ns ⟨M, [], σ⟩ = some (.normal, ⟨M1, [], σ⟩) /\ M1.get 2 = some (.p (.vsl rc rows.length)) /\ M1.get 4 = some (.ptr 0 0 0) /\ M1.get 7 = some (.ptr 1 0 0) /\ M1.get 8 = some (.ptr 3 0 0) /\ M1.get 9 = some (int i) /\ M1.get 10 = some (.p (.vsl vr 3)) :=
   ⟨_, by simp [Ns, t2, t9, hi, hi', hd, hC9]; rfl, by simp [t2], by simp [t4], by simp [t7], by simp [t8], by simp [t9], by simp⟩
 obtain ⟨M1, e1, u2, u4, u7, u8, u9, u10⟩ := e1
 refine ⟨_, σ ++ [oRow vr 1, Qhz], fun X => by
   rw [seqN e1, seqN (by simp [Sd, u2, u4, u9, u10, o0, Zo, hC10']; rfl)], ⟨by simp [u2, hrc], by simp [u4], by simp [u7], by simp [u8], by simp [u9]⟩, ⟨?_, ?_, ?_, by simp; omega⟩, by simp [u10], by simp, by simp⟩
 · rw [List.getElem?_append_left (by omega)]
   exact o0'
 · rw [List.getElem?_append_left (by omega)]
   exact o1
 · rw [List.getElem?_append_left (by omega)]
   exact o3
theorem Qrw (ds : List (Nat × List AV)) (q : Tr) (w : Word) (h11 : M.get 11 = some (.p q.p)) (h12 : M.get 12 = some (.p (.str w))) (h : At103 rows M i) (r : List V) (h10 : M.get 10 = some (.p (.vsl (vcs r) 3))) :
   ∃ M', ((q = .t /\ w = Zi /\ exec C L Fh ⟨M, ds, σ⟩ = some (.normal, ⟨M', ds, σ⟩) /\ M'.get 10 = some (.p (.vsl (vcs r) 3))) ∨ exec C L Fh ⟨M, ds, σ⟩ = some (.exit 1, ⟨M', ds, σ⟩)) /\ At103 rows M' i := by
 obtain ⟨t2, t4, t7, t8, t9⟩ := h
 by_cases hw : w = Zi
 · have hw1 : (w == [48, 48, 48, 48, 48]) = true := by rw [hw]; decide
   cases q with
   | t => exact ⟨_, .inl ⟨rfl, hw, by simp [Fh, H6, Ie, h11, h12, hw1, bne, Tr.n]; rfl, by simp [h10]⟩, ⟨by simp [t2], by simp [t4], by simp [t7], by simp [t8], by simp [t9]⟩⟩
   | f => exact ⟨_, .inr (by simp [Fh, H6, Ie, h11, h12, hw1, bne, Tr.n]; rfl), ⟨by simp [t2], by simp [t4], by simp [t7], by simp [t8], by simp [t9]⟩⟩
   | u => exact ⟨_, .inr (by simp [Fh, H6, Ie, h11, h12, hw1, bne, Tr.n]; rfl), ⟨by simp [t2], by simp [t4], by simp [t7], by simp [t8], by simp [t9]⟩⟩
 · have hw1 : (w == [48, 48, 48, 48, 48]) = false := beq_eq_false_iff_ne.2 hw
   exact ⟨_, .inr (by simp [Fh, H6, Ie, h11, h12, hw1, bne]; rfl), ⟨by simp [t2], by simp [t4], by simp [t7], by simp [t8], by simp [t9]⟩⟩
end
end Go.Ab.Keep
namespace Go.Ab.Keep
open Go Go.Ab Go.Ab.Plan Go.Ab.Key Go.Ab.Cnt Go.Ab.Turn Go.Ab.Turn.Enc Go.Proofs
variable [Mx]
structure In103 (rows : List (List Raw)) (M : Env) (i : Nat) (r : List V) (b : AV) (nl : Bool) (j : Nat) : Prop where
 al : At103 rows M i
 t10 : M.get 10 = some (.p (.vsl (vcs r) 3))
 t13 : M.get 13 = some b
 t14 : M.get 14 = some (.p (.bool nl))
 t15 : M.get 15 = some (int j)
section
variable (C : Zj) (L : Nat) (rows : List (List Raw)) (t : T) (k : List Nat) (P : List PV) (M : Env) (σ : Heap) (i : Nat) (r : List V) (b : AV) (nl : Bool) (j : Nat)
theorem Qzd (c : Nat) (h : k[j]? = some c) : (cols k)[j]? = some (.int .i64 (c : Int)) := by
 rw [List.getElem?_map, h]
 rfl
theorem Qt5 (h : In103 rows M i r b nl j) (hH : Hp103 t k P σ) (hj : k.length <= j) : ∃ M', exec C L Bo ⟨M, [], σ⟩ = some (.exit 2, ⟨M', [], σ⟩) /\ In103 rows M' i r b nl j := by
 obtain ⟨⟨t2, t4, t7, t8, t9⟩, t10, t13, t14, t15⟩ := h
 have o1 := hH.o1
 have hj' : ¬ (j : Int) < (k.length : Int) := by omega
 generalize hk : k.length = kl at *
 generalize hc : cols k = ks at *
 unfold tblC at o1
 rw [hc, hk] at o1
 exact ⟨_, by simp [Bo, Fz, E0, Es, t7, t15, o1, hj']; rfl, ⟨by simp [t2], by simp [t4], by simp [t7], by simp [t8], by simp [t9]⟩, by simp [t10], by simp [t13], by simp [t14], by simp [t15]⟩
theorem kgo103 (h : In103 rows M i r b nl j) (hH : Hp103 t k P σ) (c : Nat) (hc : k[j]? = some c) (hc3 : c < 3) (hk6 : k.length <= 6) (hr : r.length = 3) (v : V) (hv : r[c]? = some v) (kv : List V) (hb : Buf 54 4 σ b (vcs kv) j) (ho : ∀ x ∈ own b, 4 <= x) :
   ∃ M' σ' b' nl', exec C L Bo ⟨M, [], σ⟩ = some (.normal, ⟨M', [], σ'⟩) /\ In103 rows M' i r b' nl' (j + 1) /\ Hp103 t k P σ' /\ Buf 54 4 σ' b' (vcs (kv ++ [v])) (j + 1) /\ ∀ x ∈ own b', 4 <= x := by
 obtain ⟨⟨t2, t4, t7, t8, t9⟩, t10, t13, t14, t15⟩ := h
 have hj := (List.getElem?_eq_some_iff.1 hc).1
 have hj' : (j : Int) < (k.length : Int) := by omega
 have hc' : (c : Int) < 3 := by omega
 have e1 : IntKind.i64.wrap ((j : Int) + 1) = (j : Int) + 1 := J5 _ (by omega) (by omega)
 have hd := Qzd k j c hc
 have d4 := Qct r c v hv
 have d0 : (vcs r)[c * 4]? = (vc v)[0]? := by rw [<- d4, List.getElem?_take, if_pos (by decide), List.getElem?_drop]; rfl
 have dl : 4 <= (vcs r).length - c * 4 := by rw [Lw, hr]; omega
 have hk0 : ∃ q r x k, vc v = [.int .i64 k, q, r, x] := by cases v <;> exact ⟨_, _, _, _, rfl⟩
 obtain ⟨q1, q2, q3, kk, ev'⟩ := hk0
 rw [ev'] at d4 d0
 simp only [List.getElem?_cons_zero] at d0
 obtain ⟨b2, σ2, ha, hb2, hold, hlen, hown⟩ := (hb.push [.arr (.pv [.int .i64 kk, q1, q2, q3]) 0 0 none]).app [.int .i64 kk, q1, q2, q3] rfl (by have : LIM = 4294967296 := rfl; omega)
 have hvc : vcs (kv ++ [v]) = vcs kv ++ [.int .i64 kk, q1, q2, q3] := by rw [Qaf, ev']
 rw [hvc]
 obtain ⟨o0, o1, o3, len⟩ := hH
 have keep : ∀ x, x < 4 -> σ2[x]? = σ[x]? := fun x hx => by
   rw [hold x (by simp; omega) (fun hm => by have := ho x hm; omega), List.getElem?_append_left (by omega)]
 have hH2 : Hp103 t k P σ2 := ⟨by rw [keep 0 (by decide)]; exact o0, by rw [keep 1 (by decide)]; exact o1, by rw [keep 3 (by decide)]; exact o3, by simp at hlen; omega⟩
 have p1 := hH2.o1
 have p0 : (σ ++ [Obj.arr (.pv [.int .i64 kk, q1, q2, q3]) 0 0 none])[1]? = σ[1]? := List.getElem?_append_left (by omega)
 have h1len : 1 < σ.length := by omega
 generalize hk : k.length = kl at *
 generalize hcs : cols k = ks at *
 unfold tblC at o1 p1
 rw [hcs, hk] at o1 p1
 generalize hvr : vcs r = vr at *
 have hfin : ∀ x ∈ own b2, 4 <= x := fun x hx => by
   rcases hown x hx with h | h
   · exact ho x h
   · simp at h; omega
 cases nl with
 | true =>
   exact ⟨_, σ2, b2, true, by simp [Bo, Fz, E0, Es, Li, Kl, H2, Hu, La, Jk, Zo, t7, t10, t13, t14, t15, o1, p1, hj, hj', hd, hc', hc3, d4, d0, dl, e1, ha]; rfl, ⟨⟨by simp [t2], by simp [t4], by simp [t7], by simp [t8], by simp [t9]⟩, by simp [t10, hvr], by simp, by simp, by simp⟩, hH2, hb2, hfin⟩
 | false =>
   exact ⟨_, σ2, b2, kk == 0, by simp [Bo, Fz, E0, Es, Li, Kl, H2, Hu, La, Jk, Zo, t7, t10, t13, t14, t15, o1, p1, hj, hj', hd, hc', hc3, d4, d0, dl, e1, ha]; rfl, ⟨⟨by simp [t2], by simp [t4], by simp [t7], by simp [t8], by simp [t9]⟩, by simp [t10, hvr], by simp, by simp, by simp⟩, hH2, hb2, hfin⟩
end
theorem Qjv (C : Zj) (L : Nat) (rows : List (List Raw)) (t : T) (k : List Nat) (P : List PV) (i : Nat) (r : List V) (hk3 : ∀ c ∈ k, c < 3) (hk6 : k.length <= 6) (hr : r.length = 3) : ∀ (d f j : Nat) (M : Env) (σ : Heap) (b : AV) (nl : Bool), j + d = k.length -> d < f -> In103 rows M i r b nl j -> Hp103 t k P σ -> Buf 54 4 σ b (vcs (keyV r (k.take j))) j -> (∀ x ∈ own b, 4 <= x) ->
   ∃ M' σ' b' nl', iter (exec C L Bo) none f ⟨M, [], σ⟩ = some (.exit 2, ⟨M', [], σ'⟩) /\ In103 rows M' i r b' nl' k.length /\ Hp103 t k P σ' /\ Buf 54 4 σ' b' (vcs (keyV r k)) k.length /\ ∀ x ∈ own b', 4 <= x
 | 0, f, j, M, σ, b, nl, hd, hf, h, hH, hb, ho => by
   obtain ⟨f, rfl⟩ : ∃ m, f = m + 1 := ⟨f - 1, by omega⟩
   obtain rfl : j = k.length := by omega
   obtain ⟨M', e, g⟩ := Qt5 C L rows t k P M σ i r b nl _ h hH (Nat.le_refl _)
   rw [List.take_length] at hb
   exact ⟨M', σ, b, nl, by simp only [iter, St.keep, e], g, hH, hb, ho⟩
 | d + 1, f, j, M, σ, b, nl, hd, hf, h, hH, hb, ho => by
   obtain ⟨f, rfl⟩ : ∃ m, f = m + 1 := ⟨f - 1, by omega⟩
   have hj : j < k.length := by omega
   have hc : k[j]? = some k[j] := List.getElem?_eq_getElem hj
   have hc3 := hk3 _ (List.getElem_mem hj)
   have hv : r[k[j]]? = some (r[k[j]]'(by omega)) := List.getElem?_eq_getElem _
   obtain ⟨M1, σ1, b1, nl1, e, h1, hH1, hb1, ho1⟩ := kgo103 C L rows t k P M σ i r b nl j h hH _ hc hc3 hk6 hr _ hv _ hb ho
   have hs : keyV r (k.take (j + 1)) = keyV r (k.take j) ++ [r[k[j]]'(by omega)] := by
     have : k.take (j + 1) = k.take j ++ [k[j]] := by rw [List.take_add_one, hc]; rfl
     rw [this]
     unfold keyV
     rw [List.map_append, List.map_cons, List.map_nil, hv]
     rfl
   rw [<- hs] at hb1
   obtain ⟨M', σ', b', nl', e', q⟩ := Qjv C L rows t k P i r hk3 hk6 hr d f (j + 1) M1 σ1 b1 nl1 (by omega) (by omega) h1 hH1 hb1 ho1
   exact ⟨M', σ', b', nl', by simp only [iter, St.keep, e]; exact e', q⟩
theorem Qm9 (L n : Nat) (x : List V) (hL : x.length + 8 < L) (hm : x.length <= 9223372036854775807) (hok : ∀ v ∈ x, v.ok) (hw : wts x <= 16777216) (hwL : wts x < L) {b : AV} {σ : Heap} (hb : Buf 54 4 σ b (vcs x) x.length) :
   ∃ σ', (cAt TT L (n + 3)).1 11 [b] σ = some (.ret (.p (.str (encL x))), σ') /\ (∀ j, j ∉ own b -> σ'[j]? = σ[j]?) /\ σ'.length = σ.length := by
 rcases hb.2 with ⟨rfl, h0⟩ | ⟨_, id, ver, rfl, ho⟩
 · have hx : x = [] := List.eq_nil_of_length_eq_zero h0
   subst hx
   refine ⟨σ, ?_, fun _ _ => rfl, rfl⟩
   rw [jg (ps := [.vsl (vcs []) 0]) (σ1 := σ) q111 rfl]
   exact Qmf L n [] hL hm hok hw hwL σ
 · have hc : (Eo σ [.sl id ver 0 x.length 4]).contains id = true := by simp [Eo, idsL, idsV, D9, idsO, ho]
   have ht : (vcs x).take (x.length * 4) = vcs x := List.take_of_length_le (by rw [Lw]; omega)
   refine ⟨σ.set id (.arr (.pv (vcs x)) ver (Nat.max 0 (0 + x.length * 4)) (some 54)), ?_, fun j hj => ?_, by simp⟩
   · have hf : frzA (Eo σ [.sl id ver 0 x.length 4]) 9 σ [.sl id ver 0 x.length 4] = ([PV.vsl (vcs x) x.length].map .p, σ.set id (.arr (.pv (vcs x)) ver (Nat.max 0 (0 + x.length * 4)) (some 54))) := by
       generalize Eo σ [.sl id ver 0 x.length 4] = tl at hc ⊢
       have h1 : frz tl 9 σ (.sl id ver 0 x.length 4) = some (.vsl (vcs x) x.length, σ.set id (.arr (.pv (vcs x)) ver (Nat.max 0 (0 + x.length * 4)) (some 54))) := by
         unfold frz
         simp only [ho, Q1.len]
         rw [if_pos ⟨trivial, by rw [Lw]; omega, hc⟩, List.drop_zero, ht]
       simp only [frzA, h1, List.map_cons, List.map_nil]
     rw [jg q111 hf]
     exact Qmf L n x hL hm hok hw hwL _
   · have : id ≠ j := by
       intro he
       exact hj (by simp [own, he])
     rw [List.getElem?_set_ne this]
end Go.Ab.Keep
namespace Go.Ab.Keep
open Go Go.Ab Go.Ab.Plan Go.Ab.Key Go.Ab.Cnt Go.Ab.Turn Go.Ab.Turn.Enc Go.Proofs
variable [Mx]
theorem Qyg {x y : Word} (h : le x y = true) : Op.bytesLess y x = false := by
 rw [Qeb, Qba x y]
 have := (Qcu x y).1 h
 cases hq : cmpL x y with
 | lt => rfl
 | eq => rfl
 | gt => exact absurd hq this
theorem Qrt (C : Zj) (L : Nat) (rows : List (List Raw)) (t : T) (k : List Nat) (M : Env) (σ : Heap) (i : Nat) (r : List V) (b : AV) (nl : Bool) (j : Nat) (A N : Bool) (lo hi key : Word) (hk : A = true ∨ (N = false /\ le lo key = true /\ le key hi = true)) (h : In103 rows M i r b nl j) (g16 : M.get 16 = some (.p (.str key))) (hH : Hp103 t k [.bool A, .str lo, .str hi, .bool N] σ) :
   ∃ M', exec C L (.seq Lg K6) ⟨M, [], σ⟩ = some (.normal, ⟨M', [], σ⟩) /\ At103 rows M' i := by
 obtain ⟨⟨t2, t4, t7, t8, t9⟩, t10, t13, t14, t15⟩ := h
 have o3 := hH.o3
 cases nl with
 | true => exact ⟨_, by simp [Lg, K6, t14, t8, o3, g16]; rfl, ⟨by simp [t2], by simp [t4], by simp [t7], by simp [t8], by simp [t9]⟩⟩
 | false =>
   cases A with
   | true => exact ⟨_, by simp [Lg, K6, t14, t8, o3, g16]; rfl, ⟨by simp [t2], by simp [t4], by simp [t7], by simp [t8], by simp [t9]⟩⟩
   | false =>
     rcases hk with hk | ⟨rfl, k1, k2⟩
     · cases hk
     · have c1 := Qyg k1
       have c2 : (Op.bytesLess key hi || key == hi) = true := by rw [Qbf]; exact k2
       have s1 : Y9 .lss key lo = some (.bool false) := by unfold Y9; simp only [c1]
       have s2 : Y9 .gtr key hi = some (.bool false) := by unfold Y9; simp only [c2]; rfl
       exact ⟨_, by simp [Lg, K6, t14, t8, o3, g16, ↓s1, ↓s2]; rfl, ⟨by simp [t2], by simp [t4], by simp [t7], by simp [t8], by simp [t9]⟩⟩
structure R103 (C : Zj) (rows : List (List Raw)) (t : T) (k : List Nat) (P : List PV) : Prop where
 row : ∀ r ∈ rows, ∀ σ, C 9 [.p (.vsl (raws r) r.length)] σ = some (.ret (.p (.vsl (vcs (rowV r)) 3)), σ)
 truth : ∀ r ∈ rows, ∃ q w, (∀ σ, C 10 [.p (node t), .sl σ.length 0 0 1 1, .ptr (σ.length + 1) 0 0] (σ ++ [oRow (vcs (rowV r)) 0, oSrc]) = some (.ret (.p (truP (q, w))), σ ++ [oRow (vcs (rowV r)) 1, Qhz])) /\ (q = .t -> w = Zi -> Qap (rowV r) t)
 enc : ∀ r ∈ rows, ∀ b σ, Buf 54 4 σ b (vcs (keyV (rowV r) k)) k.length -> ∃ σ', C 11 [b] σ = some (.ret (.p (.str (encL (keyV (rowV r) k)))), σ') /\ (∀ j, j ∉ own b -> σ'[j]? = σ[j]?) /\ σ'.length = σ.length
 keep : ∀ r ∈ rows, Qap (rowV r) t -> ∃ A lo hi N, P = [.bool A, .str lo, .str hi, .bool N] /\ (A = true ∨ (N = false /\ le lo (encL (keyV (rowV r) k)) = true /\ le (encL (keyV (rowV r) k)) hi = true))
theorem Qya {C : Zj} (L : Nat) {rows : List (List Raw)} {t : T} {k : List Nat} {P : List PV} (hR : R103 C rows t k P) (hk3 : ∀ c ∈ k, c < 3) (hk6 : k.length <= 6) (hkL : k.length < L) (i : Nat) (hi : i < 30) (hr : i < rows.length) (M : Env) (σ : Heap) (h : At103 rows M i) (hH : Hp103 t k P σ) :
   ∃ M' σ', exec C L Ng ⟨M, [], σ⟩ = some (.normal, ⟨M', [], σ'⟩) /\ At103 rows M' (i + 1) /\ Hp103 t k P σ' := by
 obtain ⟨M1, e1, h1⟩ := Qxk C L rows M σ i h hi hr
 have hrow : rows[i]? = some rows[i] := List.getElem?_eq_getElem hr
 have hm : rows[i] ∈ rows := List.getElem_mem hr
 generalize rows[i] = r at hrow hm
 obtain ⟨q, w, hC10, hT⟩ := hR.truth _ hm
 obtain ⟨M2, σ2, e2, h2, hH2, g10, g11, g12⟩ := two103 C L rows t k P M1 σ i h1 hH r hrow q w (hR.row _ hm) hC10
 obtain ⟨M3, hx, h3⟩ := Qrw C L rows M2 σ2 i [] q w g11 g12 h2 _ g10
 have fin : ∀ M4 σ4, exec C L Tl ⟨M1, [], σ⟩ = some (.normal, ⟨M4, [], σ4⟩) -> At103 rows M4 i -> Hp103 t k P σ4 -> ∃ M' σ', exec C L Ng ⟨M, [], σ⟩ = some (.normal, ⟨M', [], σ'⟩) /\ At103 rows M' (i + 1) /\ Hp103 t k P σ' := by
   intro M4 σ4 e4 h4 hH4
   obtain ⟨t2, t4, t7, t8, t9⟩ := h4
   have ew : IntKind.i64.wrap ((i : Int) + 1) = (i : Int) + 1 := J5 _ (by omega) (by omega)
   exact ⟨_, σ4, by unfold Ng; rw [seqN e1, seqN e4]; simp [ya, t9, ew]; rfl, ⟨by simp [t2], by simp [t4], by simp [t7], by simp [t8], by simp [ew]⟩, hH4⟩
 rcases hx with ⟨hq, hw, e3, g10'⟩ | e3
 · obtain ⟨A, lo, hi', N, rfl, hkeep⟩ := hR.keep _ hm (hT hq hw)
   have s4 : ∃ Ma Mb M4, exec C L Sa ⟨M3, [], σ2⟩ = some (.normal, ⟨Ma, [], σ2⟩) /\ exec C L Sm ⟨Ma, [], σ2⟩ = some (.normal, ⟨Mb, [], σ2⟩) /\ exec C L Ox ⟨Mb, [], σ2⟩ = some (.normal, ⟨M4, [], σ2⟩) /\ In103 rows M4 i (rowV r) .nil0 false 0 := by
     obtain ⟨t2, t4, t7, t8, t9⟩ := h3
     exact ⟨_, _, _, by simp [Sa]; rfl, by simp [Sm]; rfl, by simp [Ox]; rfl, ⟨⟨by simp [t2], by simp [t4], by simp [t7], by simp [t8], by simp [t9]⟩, by simp [g10'], by simp, by simp, by simp⟩⟩
   obtain ⟨Ma, Mb, M4, ea, eb, e4, h4⟩ := s4
   have e0 : vcs (keyV (rowV r) (k.take 0)) = [] := by simp [keyV, vcs]
   obtain ⟨M5, σ5, b, nl, e5, h5, hH5, hb, ho⟩ := Qjv C L rows t k _ i (rowV r) hk3 hk6 rfl k.length L 0 M4 σ2 .nil0 false (by omega) hkL h4 hH2 (by rw [e0]; exact Buf.nil) (by simp [own])
   obtain ⟨σ6, e11, hold, hlen⟩ := hR.enc _ hm b σ5 hb
   have s6 : ∃ M6, exec C L Si ⟨M5, [], σ5⟩ = some (.normal, ⟨M6, [], σ6⟩) /\ In103 rows M6 i (rowV r) b nl k.length /\ M6.get 16 = some (.p (.str (encL (keyV (rowV r) k)))) := by
     obtain ⟨⟨t2, t4, t7, t8, t9⟩, t10, t13, t14, t15⟩ := h5
     exact ⟨_, by simp [Si, t13, e11]; rfl, ⟨⟨by simp [t2], by simp [t4], by simp [t7], by simp [t8], by simp [t9]⟩, by simp [t10], by simp [t13], by simp [t14], by simp [t15]⟩, by simp⟩
   obtain ⟨M6, e6, h6, g16⟩ := s6
   have hk : ∀ x, x < 4 -> σ6[x]? = σ5[x]? := fun x hx => hold x fun hm => by have := ho x hm; omega
   have hH6 : Hp103 t k [.bool A, .str lo, .str hi', .bool N] σ6 := ⟨by rw [hk 0 (by decide)]; exact hH5.o0, by rw [hk 1 (by decide)]; exact hH5.o1, by rw [hk 3 (by decide)]; exact hH5.o3, by have := hH5.len; omega⟩
   obtain ⟨M7, e7, h7⟩ := Qrt C L rows t k M6 σ6 i (rowV r) b nl k.length A N lo hi' _ hkeep h6 g16 hH6
   refine fin M7 σ6 ?_ h7 hH6
   unfold Tl Ut Ws
   refine Lp (id := 1) ?_
   rw [e2, seqN e3, seqN ea, seqN eb, <- Zn, seqN e4, seqN (a := T5) (by exact F0 (id := 2) (b := Tm) e5), seqN e6]
   exact e7
 · refine fin M3 σ2 ?_ h3 hH2
   unfold Tl Ut
   exact F0 (id := 1) (by rw [e2]; exact seqX e3)
theorem Qn0 {C : Zj} (L : Nat) {rows : List (List Raw)} {t : T} {k : List Nat} {P : List PV} (hR : R103 C rows t k P) (hk3 : ∀ c ∈ k, c < 3) (hk6 : k.length <= 6) (hkL : k.length < L) : ∀ (d f i : Nat) (M : Env) (σ : Heap), 30 - i <= d -> d < f -> At103 rows M i -> Hp103 t k P σ -> ∃ M' σ', iter (exec C L Ng) none f ⟨M, [], σ⟩ = some (.exit 0, ⟨M', [], σ'⟩)
 | d, f, i, M, σ, hd, hf, h, hH => by
   obtain ⟨f, rfl⟩ : ∃ m, f = m + 1 := ⟨f - 1, by omega⟩
   by_cases hi : 30 <= i ∨ rows.length <= i
   · obtain ⟨M', e⟩ := Qxr C L rows M σ i h hi
     exact ⟨M', σ, by simp only [iter, St.keep, e]⟩
   · obtain ⟨d, rfl⟩ : ∃ m, d = m + 1 := ⟨d - 1, by omega⟩
     obtain ⟨M1, σ1, e, h1, hH1⟩ := Qya L hR hk3 hk6 hkL i (by omega) (by omega) M σ h hH
     obtain ⟨M', σ', e'⟩ := Qn0 L hR hk3 hk6 hkL d f (i + 1) M1 σ1 (by omega) (by omega) h1 hH1
     exact ⟨M', σ', by simp only [iter, St.keep, e]; exact e'⟩
structure E3 (C : Zj) (x : List Int) (t : T) (k : List Nat) (K : Int) (P : List PV) : Prop where
 parts : ∀ σ, C 4 [.p (node t), int 400] σ = some (.ret (int K), σ)
 keys : ∀ σ, C 7 [.p (.vsl (ints x) x.length)] σ = some (.ret (.p (.vsl (cols k) k.length)), σ)
 table : ∀ σ, C 6 [.p (.vsl (cols k) k.length)] σ = some (.ret (.p (tbl k)), σ)
 path : ∀ σ id, σ[id]? = some (.arr (.pv (cells t)) 0 0 none) -> C 8 [.p (tbl k), .sl id 0 0 1 4, int 0] σ = some (.ret (.p (.agg P)), σ.set id (.arr (.pv (cells t)) 0 4 none))
 alive : ∀ σ, C 5 [] σ = some (.ret (.p (.bool true)), σ)
section
variable {C : Zj} {L : Nat} {x : List Int} {t : T} {k : List Nat} {K : Int} {P : List PV} {rows : List (List Raw)}
theorem small3 (D : Yo) (h : E3 C x t k K P) (hK : 400 < K) : ansV (Z8 C D L lit103 [.p (.vsl (ints x) x.length), .p (node t), .p (.vsl (wi rows) rows.length)] []) = some (.bool true) := by
 obtain ⟨p, q, r, s, ec⟩ := M5 t
 have h1 := h.parts
 simp only [node, ec] at h1 ⊢
 rw [Zp, lit103_tree]
 simp [n103, Qlc, Qkf, Qet, Qd7, params, lit103, h1, hK, h.alive]
theorem first3 (h : E3 C x t k K P) (hK : ¬ 400 < K) (a b c d : PV) (ep : P = [a, b, c, d]) :
   ∃ M, exec C L (.seq (.seq (.seq Qlc Qkf) Qnv) Qqu) ⟨params 0 [.p (.vsl (ints x) x.length), .p (node t), .p (.vsl (wi rows) rows.length)], [], []⟩ = some (.normal, ⟨M, [], [.arr (.pv (cells t)) 0 0 none, .arr (.pv (tblC k)) 0 0 (some 33), .arr (.pv (cells t)) 0 4 none, .arr (.pv P) 0 0 (some 37)]⟩) /\
     M.get 2 = some (.p (.vsl (wi rows) rows.length)) /\ M.get 4 = some (.ptr 0 0 0) /\ M.get 7 = some (.ptr 1 0 0) /\ M.get 8 = some (.ptr 3 0 0) := by
 subst ep
 obtain ⟨p, q, r, s, ec⟩ := M5 t
 have h1 := h.parts
 have h2 := h.keys
 have h3 := h.table
 have h4 := h.path [.arr (.pv (cells t)) 0 0 none, .arr (.pv (tblC k)) 0 0 (some 33), .arr (.pv (cells t)) 0 0 none] 2 rfl
 simp only [node, ec, tbl, tblC] at h1 h2 h3 h4 ⊢
 generalize ints x = xs at h2 ⊢
 generalize cols k = ks at h2 h3 h4 ⊢
 generalize wi rows = rc
 exact ⟨_, by simp [Qlc, Qkf, Qet, Qd7, Qnv, Qqu, params, Zo, h1, hK, h2, h3, h4]; rfl, rfl, rfl, rfl, rfl⟩
theorem run103 (D : Yo) (h : E3 C x t k K P) (hR : R103 C rows t k P) (hP : ∃ a b c d, P = [a, b, c, d]) (hk3 : ∀ c ∈ k, c < 3) (hk6 : k.length <= 6) (hL : 31 <= L) : ansV (Z8 C D L lit103 [.p (.vsl (ints x) x.length), .p (node t), .p (.vsl (wi rows) rows.length)] []) = some (.bool true) := by
 by_cases hK : 400 < K
 · exact small3 D h hK
 · obtain ⟨a, b, c, d, ep⟩ := hP
   obtain ⟨M1, e1, g2, g4, g7, g8⟩ := first3 (L := L) (rows := rows) h hK a b c d ep
   rw [Zp, lit103_tree]
   unfold n103 Qws
   rw [Zn, Zn, Zn, seqN e1, <- Zn]
   have s5 : ∃ M2, exec C L Qfn ⟨M1, [], [.arr (.pv (cells t)) 0 0 none, .arr (.pv (tblC k)) 0 0 (some 33), .arr (.pv (cells t)) 0 4 none, .arr (.pv P) 0 0 (some 37)]⟩ = some (.normal, ⟨M2, [], [.arr (.pv (cells t)) 0 0 none, .arr (.pv (tblC k)) 0 0 (some 33), .arr (.pv (cells t)) 0 4 none, .arr (.pv P) 0 0 (some 37)]⟩) /\ At103 rows M2 0 :=
     ⟨_, by simp [Qfn]; rfl, ⟨by simp [g2], by simp [g4], by simp [g7], by simp [g8], by simp⟩⟩
   obtain ⟨M2, e2, h2⟩ := s5
   obtain ⟨M3, σ3, e3⟩ := Qn0 L hR hk3 hk6 (by omega) 30 L 0 M2 [.arr (.pv (cells t)) 0 0 none, .arr (.pv (tblC k)) 0 0 (some 33), .arr (.pv (cells t)) 0 4 none, .arr (.pv P) 0 0 (some 37)] (by omega) (by omega) h2 ⟨rfl, rfl, rfl, by simp⟩
   rw [seqN e2, seqN (a := Qmd) (by exact F0 (id := 0) (b := Qgz) e3)]
   simp [Qu2, lit103, h.alive]
end
end Go.Ab.Keep
