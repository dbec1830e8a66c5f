/- UX -/
import Derived.Test.YtikebbklkiodlaaGreatDoorAbUM
set_option maxRecDepth 1000000
set_option linter.all false
namespace Go.Ab.Turn
open Go Go.Ab Go.Ab.Plan Go.Ab.Key Go.Ab.Cnt Go.Proofs
attribute [local simp] Uw Qe7 AV.cells N0 O5 finA qc resA resV ansV B4 Yw opds Qc0 optO Fj Ms V3 refV oneH idxA lenA Bu Fd Q1.get?
variable [Q4]
def drOf : Q0 -> Q0
 | .cond _ (.seq a _) _ => a
 | c => c
section
variable {C : Zj} {L : Nat} {k : List Nat} {ls : List Cl} {b f : AV} {M : Env} {σ : Heap} {ds : List (Nat × List AV)} {p : Nat}
theorem draw17 (h : G17 k ls b M σ f) (hk : k ≠ []) (hr : Q4.raw 21 = false) (hE : E17 C k ls b) :
   ∃ M' σ', exec C L (drOf L3) ⟨M, ds, σ⟩ = some (.normal, ⟨M', ds, σ'⟩) /\ M'.get 6 = some (.ptr 2 0 0) /\ σ'[2]? = some (.arr (.pv (zx (ls.foldl (Rq encV Pt (k.headD 0)) bd0))) 0 0 (some 37)) /\ σ'[5]? = some .mark := by
 obtain ⟨σ1, hC, hlen, hold⟩ := hE.btw σ h.sl
 obtain ⟨a, b', c, d, e4⟩ := Qdc (ls.foldl (Rq encV Pt (k.headD 0)) bd0)
 rw [e4] at hC ⊢
 have nb : ∀ j, j < 6 -> j ∉ own b := fun j hj hm => by have := h.ob j hm; omega
 have g2 : σ1[2]? = some (.arr (.pv yy) 0 0 (some 37)) := by rw [hold 2 (nb 2 (by decide))]; exact h.o2
 have g5 : σ1[5]? = some .mark := by rw [hold 5 (nb 5 (by decide))]; exact h.o5
 have h2l : 2 < σ1.length := (List.getElem?_eq_some_iff.1 g2).1
 obtain ⟨c0, ks, rfl⟩ : ∃ c0 ks, k = c0 :: ks := by
   cases k with
   | nil => exact absurd rfl hk
   | cons c0 ks => exact ⟨c0, ks, rfl⟩
 have t11 : M.get 11 = some (.p (.vsl (.int .i64 (c0 : Int) :: cols ks) (ks.length + 1))) := h.t11
 have hC' : C 21 [b, .p (.int .i64 (c0 : Int))] σ = some (.ret (.p (.agg [a, b', c, d])), σ1) := hC
 obtain ⟨t6, t7⟩ := And.intro h.t6 h.t7
 have o3 := h.o3
 have fin : (∃ s1 : Tr, Zy C 0 (opsD (drOf L3)) ⟨⟨M, ds, σ⟩, [], []⟩ = some (none, s1) /\ s1.rds = [(0, 3)] /\ (∃ k0 k1 W, s1.wrs = [(5, k1, [2]), (4, k0, W)]) /\ s1.st.defers = ds /\ s1.st.heap = σ1.set 2 (.arr (.pv [a, b', c, d]) 0 0 (some 37)) /\ s1.st.env.get 6 = some (.ptr 2 0 0)) ->
     ∃ M', exec C L (drOf L3) ⟨M, ds, σ⟩ = some (.normal, ⟨M', ds, σ1.set 2 (.arr (.pv [a, b', c, d]) 0 0 (some 37))⟩) /\ M'.get 6 = some (.ptr 2 0 0) := by
   rintro ⟨⟨⟨M', d, σ'⟩, rds, wrs⟩, hr, h1, ⟨k0, k1, W, h2⟩, h3, h4, hA⟩
   simp only at h1 h2 h3 h4
   subst h1 h2 h3 h4
   exact ⟨M', L9 hr (by kernel_rfl), hA⟩
 obtain ⟨M', e, g6⟩ := fin ⟨_, by
     show Zy C 0 (_ :: _) _ = _
     refine (Eu rfl rfl (by simp [t6, t7, t11, o3, hr, hC', g2]; exact ⟨rfl, rfl⟩)).trans ?_
     refine (Zf rfl rfl (by simp [t6, t7, t11, o3, hr, hC', g2]; rfl)).trans ?_
     refine (Zf rfl rfl (by simp [t6, t7, t11, o3, hr, hC', g2]; rfl)).trans ?_
     refine (Zf rfl rfl (by simp [t6, t7, t11, o3, hr, hC', g2]; rfl)).trans ?_
     refine (B8 rfl rfl (by simp [Zo, Jk, Q1.toList, t6, t7, t11, o3, hr, hC', g2]; rfl) (by simp [Sp]; rfl) (by simp [Nz, Oe, Eo, D9, idsL, idsV, idsO, t6, t7, t11, o3, hr, hC', g2]; rfl)).trans ?_
     refine (B8 rfl rfl (by simp [Zo, Jk, Q1.toList, t6, t7, t11, o3, hr, hC', g2]; rfl) (by simp [Sp]; rfl) (by simp [Nz, Oe, Eo, D9, idsL, idsV, idsO, t6, t7, t11, o3, hr, hC', g2]; rfl)).trans ?_
     exact rfl, by rfl, ⟨_, _, _, by rfl⟩, by rfl, by rfl, by simp [t6]⟩
 exact ⟨M', _, e, g6, List.getElem?_set_self h2l, by rw [List.getElem?_set_ne (by decide)]; exact g5⟩
theorem ends17 (h : G17 k ls b M σ f) (hE : E17 C k ls b) (hr : Q4.raw 21 = false) (h16 : M.get 16 = some (.ptr p 0 0)) (hp : σ[p]? = some (.arr (.pv [.bool false, .str (encF (Jj k ls)), .str (encF (Jj k ls)), .bool false]) 0 0 (some 37))) (hp6 : 6 <= p) :
   ∃ M' σ', exec C L (.seq Qpn (.seq Ql5 (.seq Qk2 .ret))) ⟨M, ds, σ⟩ = some (.ret, ⟨M', ds, σ'⟩) /\ M'.get 6 = some (.ptr 2 0 0) /\ σ'[2]? = some (.arr (.pv (V4 k ls)) 0 0 (some 37)) /\ σ'[5]? = some .mark := by
 have h2l : 2 < σ.length := (List.getElem?_eq_some_iff.1 h.o2).1
 have hpl : p < σ.length := (List.getElem?_eq_some_iff.1 hp).1
 have hA := hE.abv
 have e0 : ∃ M1, exec C L Qbp ⟨M, ds, σ⟩ = some (.normal, ⟨M1, ds, σ⟩) /\ M1.get 75 = some (int (Jj k ls).length) /\ (∀ t, t ≠ 74 -> t ≠ 75 -> M1.get t = M.get t) := by
   unfold Qbp
   refine ⟨(75, int (Jj k ls).length) :: (74, f) :: M, ?_, by simp, fun t h1 h2 => by simp [Ne.symm h1, Ne.symm h2]⟩
   have t12 := h.t12
   rcases h.fb with ⟨rfl, h0⟩ | ⟨id, ver, rfl⟩
   · rw [h0]
     simp [t12]
   · simp [t12]
 obtain ⟨M1, e0, q75, q⟩ := e0
 have h1 : G17 k ls b M1 σ f := ⟨(q 6 (by decide) (by decide)).trans h.t6, (q 7 (by decide) (by decide)).trans h.t7, (q 11 (by decide) (by decide)).trans h.t11, (q 12 (by decide) (by decide)).trans h.t12, h.fb, h.o2, h.o3, h.o5, h.sl, h.ob⟩
 have q16 := (q 16 (by decide) (by decide)).trans h16
 have hkl : lenA (.p (.vsl (cols k) k.length)) = some k.length := rfl
 by_cases c1 : (Jj k ls).length = k.length
 · have hpv : V4 k ls = [.bool false, .str (encF (Jj k ls)), .str (encF (Jj k ls)), .bool false] := if_pos c1
   rw [hpv]
   have cb : (((Jj k ls).length : Int) == (k.length : Int)) = true := by rw [c1]; exact beq_self_eq_true _
   generalize encF (Jj k ls) = e at hp ⊢
   obtain ⟨M2, e2, g6⟩ : ∃ M2, exec C L Us ⟨M1, ds, σ⟩ = some (.ret, ⟨M2, ds, σ.set 2 (.arr (.pv [.bool false, .str e, .str e, .bool false]) 0 0 (some 37))⟩) /\ M2.get 6 = M1.get 6 :=
     ⟨_, by simp [Us, Qah, Ow, Xr, Qb9, wh, Q1.toList, h1.t6, h1.t11, q75, q16, hp, h.o2, cb]; rfl, by simp⟩
   refine ⟨M2, _, by unfold Qpn; rw [seqR (a := .seq Qbp Us) (by rw [seqN e0]; exact e2)], g6.trans h1.t6, List.getElem?_set_self h2l, by rw [List.getElem?_set_ne (by decide)]; exact h.o5⟩
 · have cb : (((Jj k ls).length : Int) == (k.length : Int)) = false := beq_eq_false_iff_ne.2 (by omega)
   by_cases c2 : (Jj k ls).length = 0
   · have hpv : V4 k ls = zx (ls.foldl (Rq encV Pt (k.headD 0)) bd0) := by unfold V4; rw [if_neg c1, if_pos c2]
     rw [hpv]
     have hk : k ≠ [] := fun hk => c1 (by rw [hk] at c2 ⊢; exact c2)
     have cb2 : (((Jj k ls).length : Int) == 0) = true := by rw [c2]; rfl
     obtain ⟨M2, e2, g6, g7, g11, g12, g76, g81⟩ : ∃ M2, exec C L (.seq Ow Rx) ⟨M1, ds, σ⟩ = some (.normal, ⟨M2, ds, σ⟩) /\ M2.get 6 = M1.get 6 /\ M2.get 7 = M1.get 7 /\ M2.get 11 = M1.get 11 /\ M2.get 12 = M1.get 12 /\ M2.get 76 = some (.p (.bool false)) /\ M2.get 81 = some (.p (.bool true)) :=
       ⟨_, by simp [Ow, Rx, h1.t11, q75, cb, cb2]; rfl, by simp, by simp, by simp, by simp, by simp, by simp⟩
     have h2 : G17 k ls b M2 σ f := ⟨g6.trans h1.t6, g7.trans h1.t7, g11.trans h1.t11, g12.trans h1.t12, h.fb, h.o2, h.o3, h.o5, h.sl, h.ob⟩
     obtain ⟨M3, σ3, e3, q6, q2, q5⟩ := draw17 (L := L) (ds := ds) h2 hk hr hE
     refine ⟨M3, σ3, ?_, q6, q2, q5⟩
     have e9 : exec C L Us ⟨M1, ds, σ⟩ = some (.ret, ⟨M3, ds, σ3⟩) := by
       obtain ⟨Ma, ea, ga, ga75⟩ : ∃ Ma, exec C L Ow ⟨M1, ds, σ⟩ = some (.normal, ⟨Ma, ds, σ⟩) /\ Ma.get 76 = some (.p (.bool false)) /\ Ma.get 75 = some (int (Jj k ls).length) :=
         ⟨_, by simp [Ow, h1.t11, q75, cb]; rfl, by simp, by simp [q75]⟩
       rw [seqN ea] at e2
       unfold Us Qah
       refine E5 ?_
       rw [seqN ea]
       unfold Xr
       rw [Tv (c := .t 76) (st := ⟨Ma, ds, σ⟩) ga]
       unfold wc
       rw [seqN e2]
       show exec C L (.cond (.t 81) (.seq (drOf L3) .ret) .skip) _ = _
       rw [y5 (c := .t 81) (st := ⟨M2, ds, σ⟩) g81, seqN e3]
       rfl
     unfold Qpn
     rw [seqR (a := .seq Qbp Us) (by rw [seqN e0]; exact e9)]
   · have hpv : V4 k ls = [.bool false, .str (encF (Jj k ls)), .str (encF (Jj k ls) ++ [255]), .bool false] := by unfold V4; rw [if_neg c1, if_neg c2]
     rw [hpv]
     have cb2 : (((Jj k ls).length : Int) == 0) = false := beq_eq_false_iff_ne.2 (by omega)
     generalize encF (Jj k ls) = e at hp hA ⊢
     have hsp : ∀ x : Obj, (σ.set p x)[p]? = some x := fun x => List.getElem?_set_self hpl
     have hs2 : ∀ x : Obj, (σ.set p x)[2]? = some (.arr (.pv yy) 0 0 (some 37)) := fun x => by rw [List.getElem?_set_ne (by omega)]; exact h.o2
     have hbf : ((Jj k ls) = []) = False := by simpa using fun h => c2 (by rw [h]; rfl)
     obtain ⟨M2, e2, g6⟩ : ∃ M2, exec C L (.seq Us (.seq Ql5 (.seq Qk2 .ret))) ⟨M1, ds, σ⟩ = some (.ret, ⟨M2, ds, (σ.set p (.arr (.pv [.bool false, .str e, .str (e ++ [255]), .bool false]) 0 0 (some 37))).set 2 (.arr (.pv [.bool false, .str e, .str (e ++ [255]), .bool false]) 0 0 (some 37))⟩) /\ M2.get 6 = M1.get 6 :=
       ⟨_, by simp [Us, Qah, Ow, Xr, wc, Rx, L3, Ql5, Qk2, Q1.toList, h1.t6, h1.t11, q75, q16, hp, hsp, hs2, cb, cb2, hA]; rfl, by simp⟩
     refine ⟨M2, (σ.set p (.arr (.pv [.bool false, .str e, .str (e ++ [255]), .bool false]) 0 0 (some 37))).set 2 (.arr (.pv [.bool false, .str e, .str (e ++ [255]), .bool false]) 0 0 (some 37)), ?_, g6.trans h1.t6, List.getElem?_set_self (by simpa using h2l), by rw [List.getElem?_set_ne (by decide), List.getElem?_set_ne (by omega)]; exact h.o5⟩
     unfold Qpn
     rw [<- Zn, seqN e0]
     exact e2
end
end Go.Ab.Turn
namespace Go.Ab.Turn
open Go Go.Ab Go.Ab.Plan Go.Ab.Key Go.Ab.Cnt Go.Proofs
variable [Q4]
theorem seq4 {C : Zj} {L : Nat} {a b c d r : Q0} {st st1 : St} (h : exec C L (.seq a (.seq b (.seq c d))) st = some (.normal, st1)) : exec C L (.seq a (.seq b (.seq c (.seq d r)))) st = exec C L r st1 := by
 have h' : exec C L (.seq (.seq (.seq a b) c) d) st = some (.normal, st1) := by rw [<- Zn, <- Zn]; exact h
 rw [Zn, Zn, Zn, seqN h']
theorem Qjo (t : T) : (L5 (Jo t)).length <= (Jo t).length := List.length_filterMap_le _ _
theorem run17 {Tb : Ld} {L n m : Nat} (k : List Nat) (hk : k.length <= 6) (t : T) (hok : okT t) (h22 : Tb 16 = some (.raw lit22)) (h29 : Tb 26 = some (.raw lit29)) (h24 : Tb 18 = some (.raw lit24)) (h25 : Tb 19 = some (.raw lit25)) (hr : Tb 4294967295 = some .rnd)
   (hraw : Q4.raw 4294967295 = true) (hr27 : Q4.raw 21 = false) (hL : 7 <= L) (hcl : (Jo t).length <= LIM) (hclL : (Jo t).length < L)
   (h23 : ∀ n, m <= n -> ∀ t, okT t -> ∃ c b, (∀ σ, (cAt Tb L n).1 17 [.p (tbl k), .p (node t), int 0] σ = some (.ret (.p (.tup [.agg c, .bool b])), σ)) /\ Ok23 (read slT t) c b /\ c.length = 6) (hn : m + 1 + 2 * deep t <= n + 1)
   (hE : ∀ b, E17 (cAt Tb L (n + 1)).1 k (L5 (Jo t)) b) (h1 : 1 <= n) :
   ansV (Z8 (cAt Tb L (n + 1)).1 (cAt Tb L (n + 1)).2 L lit17 [.p (tbl k), .p (.vsl (cells t) 1), int 0] []) = some (.agg (V4 k (L5 (Jo t)))) := by
 obtain ⟨M1, σ1, b, e1, s1, hob⟩ := Qtf k t hok h22 h29 hr hraw (by omega) hcl h23 hn
 have hsl := Qjo t
 obtain ⟨n, rfl⟩ : ∃ j, n = j + 1 := ⟨n - 1, by omega⟩
 have hC : ∀ col σ c, Sl6 σ b (L5 (Jo t)) -> σ[c]? = some (.arr (.pv [.int .i64 ((col : Nat) : Int)]) 0 0 (some 3)) -> ∃ r τ, (cAt Tb L (n + 2)).1 18 [b, .clo 19 [] [.ptr c 0 0]] σ = some (.ret (int r), σ ++ τ) /\ Qs6 (L5 (Jo t)) col r := fun col σ c hs hc =>
   Qx0 h24 h25 (by omega) (by omega) σ hs hc
 generalize hls : L5 (Jo t) = ls at *
 obtain ⟨M2, e2, a2, s2⟩ : ∃ M2, exec (cAt Tb L (n + 2)).1 L Qft ⟨M1, [(4294967294, [.ptr 5 0 0])], σ1⟩ = some (.normal, ⟨M2, [(4294967294, [.ptr 5 0 0])], σ1⟩) /\ AtF k M2 0 /\ StF k ls b 5 M2 σ1 .nil0 [] := by
   have t11 := s1.t11
   obtain ⟨M2, e, a, q⟩ : ∃ M2, exec (cAt Tb L (n + 2)).1 L Qft ⟨M1, [(4294967294, [.ptr 5 0 0])], σ1⟩ = some (.normal, ⟨M2, [(4294967294, [.ptr 5 0 0])], σ1⟩) /\ AtF k M2 0 /\ StF k ls b 5 M2 (σ1 ++ []) .nil0 [] :=
     ⟨_, by simp [Qft, lenA, t11]; rfl, ⟨by simp, by simp, by simp⟩, s1.push [] (by simp) (by simp) (by simp) (by simp)⟩
   rw [List.append_nil] at q
   exact ⟨M2, e, a, q⟩
 obtain ⟨M3, σ3, f, e3, s3⟩ := loopF (C := (cAt Tb L (n + 2)).1) (L := L) (ds := [(4294967294, [.ptr 5 0 0])]) hk (by omega) hC k.length L 0 M2 σ1 .nil0 [] (by omega) (by omega) (by omega) (by simp) a2 s2 (by simp)
 have e37 : exec (cAt Tb L (n + 2)).1 L Qxu ⟨M1, [(4294967294, [.ptr 5 0 0])], σ1⟩ = some (.normal, ⟨M3, [(4294967294, [.ptr 5 0 0])], σ3⟩) := by
   unfold Qxu
   rw [seqN e2]
   unfold Qon Qkw
   exact F0 (by simp only [exec]; exact e3)
 obtain ⟨M4, σ4, p, e4, g4, q16, hp, hp6⟩ := pair17 (L := L) (ds := [(4294967294, [.ptr 5 0 0])]) s3 (hE b) hob
 obtain ⟨M5, σ5, e5, q6, q2, q5⟩ := ends17 (L := L) (ds := [(4294967294, [.ptr 5 0 0])]) g4 (hE b) hr27 q16 hp hp6
 have hfour : ∃ a b c d, V4 k ls = [a, b, c, d] := by
   unfold V4
   split
   · exact ⟨_, _, _, _, rfl⟩
   · split
     · exact Qdc _
     · exact ⟨_, _, _, _, rfl⟩
 obtain ⟨x1, x2, x3, x4, ep⟩ := hfour
 rw [Zp, lit17_tree]
 unfold n17
 rw [Zn, Zn, seq4 e1, seqN e37, seqN e4, e5]
 rw [ep] at q2 ⊢
 exact fin17 _ M5 σ5 x1 x2 x3 x4 q6 q2 q5
end Go.Ab.Turn
namespace Go.Ab.Turn
open Go Go.Ab Go.Ab.Plan Go.Ab.Key Go.Ab.Cnt Go.Proofs
attribute [local simp] Uw Qe7 AV.cells N0 O5 finA qc resA resV ansV
variable [Q4]
theorem enc_at {Tb : Ld} {L n : Nat} (h26 : Tb 20 = some (.code lit26 true)) (h33 : Tb 30 = some (.ext (extP Enc.replO) true)) (h34 : Tb 31 = some (.ext (extP Enc.trimO) true)) (x : List V) (hL : x.length + 8 < L) (hm : x.length <= 9223372036854775807) (hok : ∀ v ∈ x, v.ok) (hw : Enc.wts x <= 16777216)
   (σ : Heap) (f : AV) (h : SlAt σ f x) : ∃ σ', (cAt Tb L (n + 2)).1 20 [f] σ = some (.ret (.p (.str (encL x))), σ') /\ SlAt σ' f x /\ σ'.length = σ.length /\ ∀ j, j ∉ own f -> σ'[j]? = σ[j]? := by
 have key : ∃ σ1, frzA (Eo σ [f]) 9 σ [f] = ([PV.vsl (vcs x) x.length].map .p, σ1) /\ SlAt σ1 f x /\ σ1.length = σ.length /\ ∀ j, j ∉ own f -> σ1[j]? = σ[j]? := by
   rcases h with ⟨rfl, rfl⟩ | ⟨id, ver, wm, rest, ty, rfl, ho⟩
   · exact ⟨σ, rfl, .inl ⟨rfl, rfl⟩, rfl, fun _ _ => rfl⟩
   · have hid : id < σ.length := (List.getElem?_eq_some_iff.1 ho).1
     have hc := Qrb (.inr ⟨id, ver, wm, rest, ty, rfl, ho⟩ : SlAt σ (.sl id ver 0 x.length 4) x) id ver x.length rfl
     have hl' : x.length * 4 <= (vcs x).length + rest.length := by rw [Lw]; omega
     have hl : x.length * 4 <= (vcs x ++ rest).length := by rw [List.length_append]; exact hl'
     have htk : (vcs x ++ rest).take (x.length * 4) = vcs x := by rw [<- Lw, List.take_left]
     refine ⟨σ.set id (.arr (.pv (vcs x ++ rest)) ver (Nat.max wm (0 + x.length * 4)) ty), ?_, .inr ⟨id, ver, _, rest, ty, rfl, List.getElem?_set_self hid⟩, by simp, fun j hj => ?_⟩
     · simp only [frzA, frz, ho, Q1.len, hc, Nat.zero_add, List.drop_zero, htk, and_true, true_and]
       rw [if_pos hl]
       rfl
     · have : id ≠ j := fun he => hj (by simp [own, he])
       rw [List.getElem?_set_ne this]
 obtain ⟨σ1, hf, hs, hlen, hold⟩ := key
 refine ⟨σ1, ?_, hs, hlen, hold⟩
 rw [jg (ps := [.vsl (vcs x) x.length]) h26 hf]
 exact Enc.encode26 h26 h33 h34 x hL hm hok hw σ1
theorem Qnb {σ : Heap} {v : AV} {l : List Cl} {p : PV} (h : Sl6 σ v l) : ∀ id ver n, v = .sl id ver 0 n 6 -> (Eo σ [v, .p p]).contains id = true := by
 intro id ver n hv
 rcases h with ⟨rfl, _⟩ | ⟨id', ver', wm, ty, rfl, ho⟩
 · cases hv
 · cases hv
   simp [Eo, idsL, idsV, D9, idsO, ho]
theorem btw_at {Tb : Ld} {L n : Nat} (h27 : Tb 21 = some (.code lit27 true)) (l : List Cl) (col : Nat) (r : PV) (hrun : ∀ σ, (cAt Tb L (n + 1)).1 21 [.p (.vsl (clsC l) l.length), int col] σ = some (.ret (.p r), σ)) (σ : Heap) (b : AV) (h : Sl6 σ b l) :
   ∃ σ', (cAt Tb L (n + 1)).1 21 [b, int col] σ = some (.ret (.p r), σ') /\ σ'.length = σ.length /\ ∀ j, j ∉ own b -> σ'[j]? = σ[j]? := by
 have key : ∃ σ1, frzA (Eo σ [b, int col]) 9 σ [b, int col] = ([PV.vsl (clsC l) l.length, .int .i64 col].map .p, σ1) /\ σ1.length = σ.length /\ ∀ j, j ∉ own b -> σ1[j]? = σ[j]? := by
   rcases h with ⟨rfl, rfl⟩ | ⟨id, ver, wm, ty, rfl, ho⟩
   · exact ⟨σ, rfl, rfl, fun _ _ => rfl⟩
   · have hc := Qnb (p := .int .i64 col) (.inr ⟨id, ver, wm, ty, rfl, ho⟩ : Sl6 σ (.sl id ver 0 l.length 6) l) id ver l.length rfl
     have hl : l.length * 6 <= (clsC l).length := by rw [Ry]; omega
     have htk : (clsC l).take (l.length * 6) = clsC l := List.take_of_length_le (by rw [Ry]; omega)
     generalize clsC l = cl at ho hl htk ⊢
     refine ⟨σ.set id (.arr (.pv cl) ver (Nat.max wm (0 + l.length * 6)) ty), ?_, by simp, fun j hj => ?_⟩
     · simp only [frzA, frz, ho, Q1.len, hc, Nat.zero_add, List.drop_zero, htk, and_true, true_and]
       rw [if_pos hl]
       rfl
     · have : id ≠ j := fun he => hj (by simp [own, he])
       rw [List.getElem?_set_ne this]
 obtain ⟨σ1, hf, hlen, hold⟩ := key
 refine ⟨σ1, ?_, hlen, hold⟩
 rw [jg (ps := [.vsl (clsC l) l.length, .int .i64 col]) h27 hf]
 exact hrun σ1
theorem run28 (C : Zj) (D : Yo) (L : Nat) (s : Word) (h : s.length + 1 <= LIM) : ansV (Z8 C D L lit28 [.p (.str s)] []) = some (.str (s ++ [255])) := by
 simp [Z8, lit28, params, Y9, Hp, h]
end Go.Ab.Turn
