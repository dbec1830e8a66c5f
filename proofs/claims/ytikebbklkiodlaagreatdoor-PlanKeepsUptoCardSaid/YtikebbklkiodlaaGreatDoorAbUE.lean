/- UE -/
import Derived.Test.YtikebbklkiodlaaGreatDoorAbU5
set_option maxRecDepth 1000000
set_option linter.all false
namespace Go.Ab.Turn
open Go Go.Ab Go.Ab.Plan Go.Ab.Key Go.Ab.Cnt Go.Proofs
attribute [local simp] Uw Qe7 AV.cells N0 O5 finA qc resA resV ansV
variable [Q4]
abbrev boxT (t : T) : Obj := .arr (.pv (cells t)) 0 0 none
theorem run22 {Tb : Ld} {L n : Nat} (hT : Tb 16 = some (.raw lit22)) (t : T) (σ : Heap) : (cAt Tb L (n + 1)).1 16 [.p (node t)] σ = some (.ret (.clo 26 [] [.ptr σ.length 0 0]), σ ++ [boxT t]) := by
 simp only [cAt, w6, hT, N2]
 have hf : fits lit22 [.p (node t)] = true := by rfl
 rw [hf]
 have hcell : ∃ p q r s, cells t = [p, q, r, s] := by cases t; exact ⟨_, _, _, _, rfl⟩
 obtain ⟨p, q, r, s, ec⟩ := hcell
 simp [Z8, lit22, params, node, ec, Hp]
def Qpq (Tb : Ld) (L n : Nat) (t : T) : Prop := ∀ (Y : YInv) (id m : Nat), YOK Tb L m id Y -> m + 2 * deep t <= n -> ∀ acc O σ p, acc.length + (Jo t).length <= LIM -> Y.I acc O σ -> σ[p]? = some (boxT t) -> p ∉ O ->
 ∃ σ' O', (cAt Tb L n).1 26 [.yld id, .ptr p 0 0] σ = some (.ret (.p (.tup [])), σ') /\ Y.I (acc ++ Jo t) O' σ' /\ Fr O O' σ σ'
structure At29 (l : List T) (a0 : Nat) (M : Env) (i : Nat) : Prop where
 t2 : M.get 2 = some (.ptr a0 0 0)
 t19 : M.get 19 = some (.p (.vsl (Zs l) 2))
 t20 : M.get 20 = some (int 2)
 t21 : M.get 21 = some (int i)
theorem go29 {Tb : Ld} {L n m id a0 : Nat} {Y : YInv} (h22 : Tb 16 = some (.raw lit22)) (hr : Tb 4294967295 = some .rnd) (hraw : Q4.raw 4294967295 = true) (hY : YOK Tb L m id Y) (l : List T) (hl : l.length = 2)
   (i : Nat) (c : T) (hc : l[i]? = some c) (hIH : Qpq Tb L (n + 1) c) (hn : m + 1 + 2 * deep c <= n + 1) (acc : List T) (hac : acc.length + (Jo c).length <= LIM) (O : List Nat) (σ : Heap) (M : Env) (ds : List (Nat × List AV)) (h : At29 l a0 M i)
   (hI : Y.I acc O σ) (ha : σ[a0]? = some (.arr (.av [.yld id]) 0 0 none)) (hao : a0 ∉ O) :
   ∃ M' σ' O' mk, exec (cAt Tb L (n + 1)).1 L Qb1 ⟨M, ds, σ⟩ = some (.normal, ⟨M', (4294967294, [.ptr mk 0 0]) :: ds, σ'⟩) /\ At29 l a0 M' (i + 1) /\ Y.I (acc ++ Jo c) O' σ' /\ Fr O O' σ σ' /\
     σ'[mk]? = some .mark /\ mk ∉ O' /\ σ.length <= mk := by
 have hi : i < 2 := by have := (List.getElem?_eq_some_iff.1 hc).1; omega
 have hi' : (i : Int) < 2 := by omega
 have d1 := Qca l i c hc
 have d3 : 4 <= (Zs l).length - i * 4 := by rw [z6]; omega
 have e1 : IntKind.i64.wrap ((i : Int) + 1) = (i : Int) + 1 := J5 _ (by omega) (by omega)
 have hal : a0 < σ.length := (List.getElem?_eq_some_iff.1 ha).1
 have hcell : ∃ p q r s, cells c = [p, q, r, s] := by cases c; exact ⟨_, _, _, _, rfl⟩
 obtain ⟨p, q, r, s, ec⟩ := hcell
 have hr22 := fun σ => run22 (L := L) (n := n) h22 c σ
 obtain ⟨M1, r1, g1⟩ : ∃ M1, exec (cAt Tb L (n + 1)).1 L (.seq wq zf) ⟨M, ds, σ⟩ = some (.normal, ⟨M1, ds, σ⟩) /\ At29 l a0 M1 i :=
   ⟨_, by simp [wq, zf, h.t20, h.t21, hi']; rfl, ⟨by simp [h.t2], by simp [h.t19], by simp [h.t20], by simp [h.t21]⟩⟩
 obtain ⟨M2, r2, g2, g26⟩ : ∃ M2, exec (cAt Tb L (n + 1)).1 L (.seq We Wr) ⟨M1, ds, σ⟩ = some (.normal, ⟨M2, ds, (σ ++ [.arr (.pv (cells c)) 0 0 (some 25)]) ++ [boxT c]⟩) /\ At29 l a0 M2 i /\ M2.get 26 = some (.clo 26 [] [.ptr (σ.length + 1) 0 0]) := by
   generalize (cAt Tb L (n + 1)).1 = C at hr22 ⊢
   simp only [node, boxT, ec] at hr22 ⊢
   rw [ec] at d1
   exact ⟨_, by simp [We, Wr, idxA, Bu, Fd, Q1.get?, Q1.toList, g1.t19, g1.t21, hi, hi', d1, d3, hr22]; rfl, ⟨by simp [g1.t2], by simp [g1.t19], by simp [g1.t20], by simp [g1.t21]⟩, by simp⟩
 obtain ⟨σ2, hσ2⟩ : ∃ σ2, σ2 = (σ ++ [.arr (.pv (cells c)) 0 0 (some 25)]) ++ [boxT c] := ⟨_, rfl⟩
 rw [<- hσ2] at r2
 have hlen2 : σ2.length = σ.length + 2 := by rw [hσ2]; simp
 have hold2 : ∀ j, j < σ.length -> σ2[j]? = σ[j]? := fun j hj => by
   rw [hσ2, List.getElem?_append_left (by simp; omega), List.getElem?_append_left hj]
 have hbox : σ2[σ.length + 1]? = some (boxT c) := by
   rw [hσ2, List.getElem?_append_right (by simp)]; simp
 obtain ⟨ts, hts⟩ : ∃ ts, ts = (B4 M2 [31, 30, 29, 28, 2, 27, 5]).map (·.1) := ⟨_, rfl⟩
 obtain ⟨cc, hcc⟩ : ∃ cc, cc = Kp ((B4 M2 [31, 30, 29, 28, 2, 27, 5]).map (·.2)) := ⟨_, rfl⟩
 have hz2 : (zipE ts cc.toList).get 2 = some (.ptr a0 0 0) := by
   rw [hts, hcc, Qab, Vn _ _ _ (by decide), g2.t2]
 obtain ⟨σ3, hσ3⟩ : ∃ σ3, σ3 = σ2 ++ [.mark, .loop K29 ts cc .ready] := ⟨_, rfl⟩
 have hlen3 : σ3.length = σ.length + 4 := by rw [hσ3]; simp [hlen2]
 have hold3 : ∀ j, j < σ.length + 2 -> σ3[j]? = σ2[j]? := fun j hj => by rw [hσ3, List.getElem?_append_left (by omega)]
 have hmk3 : σ3[σ.length + 2]? = some .mark := by rw [hσ3, List.getElem?_append_right (by omega), hlen2]; simp
 have hlp3 : σ3[σ.length + 3]? = some (.loop K29 ts cc .ready) := by rw [hσ3, List.getElem?_append_right (by omega), hlen2]; simp
 have hO : ∀ j, σ.length <= j -> j ∉ O := fun j hj hm => by have := Y.lt hI j hm; omega
 have hI3 : (inner Y id K29 (σ.length + 3) a0).I acc ((σ.length + 3) :: a0 :: O) σ3 :=
   ⟨O, ts, cc, rfl, Y.ext hI fun j hj => by have := Y.lt hI j hj; rw [hold3 j (by omega), hold2 j (by omega)], hlp3, hz2, by rw [hold3 a0 (by omega), hold2 a0 hal]; exact ha, hO _ (by omega), hao, by omega⟩
 obtain ⟨σ4, O4', e4, hI4, hF4⟩ := hIH _ (σ.length + 3) (m + 1) (Qs3 hr hraw hY (σ.length + 3) a0) hn acc _ σ3 (σ.length + 1) hac hI3 (by rw [hold3 _ (by omega)]; exact hbox) (by
   intro hm
   rcases List.mem_cons.1 hm with hm | hm
   · omega
   · rcases List.mem_cons.1 hm with hm | hm
     · omega
     · exact hO _ (by omega) hm)
 obtain ⟨O4, ts4, cc4, rfl, h1, h2, _, h3, h4, h5, h6⟩ := hI4
 have hl4 : σ.length + 3 < σ4.length := (List.getElem?_eq_some_iff.1 h2).1
 have hnew : ∀ j ∈ O4, j ∈ O ∨ σ.length + 4 <= j := fun j hj => by
   rcases hF4.new j (by simp [hj]) with hm | hm
   · rcases List.mem_cons.1 hm with rfl | hm
     · exact absurd hj h4
     · rcases List.mem_cons.1 hm with rfl | hm
       · exact absurd hj h5
       · exact .inl hm
   · exact .inr (by omega)
 have hold4 : ∀ j, j < σ.length + 3 -> j ≠ a0 -> j ∉ O -> σ4[j]? = σ3[j]? := fun j hj hja hjo => hF4.old j (by omega) (by
   intro hm
   rcases List.mem_cons.1 hm with hm | hm
   · omega
   · rcases List.mem_cons.1 hm with hm | hm
     · exact hja hm
     · exact hjo hm)
 have r3 : exec (cAt Tb L (n + 1)).1 L W5 ⟨M2, ds, σ2⟩ = some (.normal, ⟨M2, (4294967294, [.ptr (σ.length + 2) 0 0]) :: ds, σ4.set (σ.length + 3) (.loop K29 ts4 cc4 .over)⟩) := by
   unfold W5
   refine Lp ?_
   have := Qqn (C := (cAt Tb L (n + 1)).1) (L := L) (ps := [27]) (a := xaOf Et) (b := xbOf Et) (g := .t 26) (ts := [31, 30, 29, 28, 2, 27, 5]) (M := M2) (ds := ds) (σ := σ2) (σ2 := σ4) (gv := .clo 26 [] [.ptr (σ.length + 1) 0 0]) (v := .p (.tup [])) (f := 26) (xs := [.yld (σ.length + 3), .ptr (σ.length + 1) 0 0]) (k := K29) (ts' := ts4) (c := cc4)
     g26 (by rw [hlen2]; rfl) (by rw [<- hts, <- hcc, <- hσ3]; exact e4) (by rw [hlen2]; exact h2)
   rw [hlen2] at this
   exact this
 refine ⟨(21, int (i + 1)) :: (32, int (i + 1)) :: M2, σ4.set (σ.length + 3) (.loop K29 ts4 cc4 .over), O4, σ.length + 2, ?_, ⟨by simp [g2.t2], by simp [g2.t19], by simp [g2.t20], by simp⟩, Y.ext h1 fun j hj => ?_, ⟨?_, ?_, ?_⟩, ?_, ?_, by omega⟩
 · have r23 : exec (cAt Tb L (n + 1)).1 L Qcd ⟨M1, ds, σ⟩ = some (.normal, ⟨M2, (4294967294, [.ptr (σ.length + 2) 0 0]) :: ds, σ4.set (σ.length + 3) (.loop K29 ts4 cc4 .over)⟩) := by
     unfold Qcd Qc2
     refine Lp ?_
     rw [Zn, seqN r2, r3]
   unfold Qb1
   rw [Zn, seqN r1, seqN r23]
   simp [Qf3, g2.t21, e1]
 · have hne : σ.length + 3 ≠ j := fun he => h4 (he ▸ hj)
   rw [List.getElem?_set_ne hne]
 · simp; omega
 · intro j hj ho
   by_cases hja : j = a0
   · subst hja
     rw [List.getElem?_set_ne (by omega), h3, ha]
   · rw [List.getElem?_set_ne (by omega), hold4 j (by omega) hja ho, hold3 j (by omega), hold2 j hj]
 · intro j hj
   rcases hnew j hj with hm | hm
   · exact .inl hm
   · exact .inr (by omega)
 · rw [List.getElem?_set_ne (by omega), hold4 _ (by omega) (by omega) (hO _ (by omega))]; exact hmk3
 · intro hm
   rcases hnew _ hm with hm | hm
   · exact hO _ (by omega) hm
   · omega
end Go.Ab.Turn
namespace Go.Ab.Turn
open Go Go.Ab Go.Ab.Plan Go.Ab.Key Go.Ab.Cnt Go.Proofs
attribute [local simp] Uw Qe7 AV.cells N0 O5 finA qc resA resV ansV
variable [Q4]
theorem stop29 {C : Zj} {L : Nat} {l : List T} {a0 : Nat} {M : Env} (h : At29 l a0 M 2) (ds : List (Nat × List AV)) (σ : Heap) : ∃ M', exec C L Qb1 ⟨M, ds, σ⟩ = some (.exit 0, ⟨M', ds, σ⟩) :=
 ⟨_, by simp [Qb1, wq, zf, h.t20, h.t21]; rfl⟩
theorem leaf29 {C : Zj} {L : Nat} (op s : Word) (n : Int) (l : List T) (hleaf : ¬ (op = wAnd /\ l.length = 2)) (id p : Nat) (σ σ' : Heap) (hp : σ[p]? = some (boxT (.mk op s n l)))
   (hC : C 4294967295 [.yld id, .p (node (.mk op s n l))] (σ ++ [.arr (.av [.yld id]) 0 0 none]) = some (.ret (.p (.bool true)), σ')) :
   ∃ M', exec C L n29 ⟨[(0, .yld id), (1, .ptr p 0 0)], [], σ⟩ = some (.ret, ⟨M', [], σ'⟩) := by
 have hpl : p < σ.length := (List.getElem?_eq_some_iff.1 hp).1
 have hp' : (σ ++ [Obj.arr (.av [.yld id]) 0 0 none])[p]? = some (boxT (.mk op s n l)) := by rw [List.getElem?_append_left hpl]; exact hp
 have ha : (σ ++ [Obj.arr (.av [.yld id]) 0 0 none])[σ.length]? = some (.arr (.av [.yld id]) 0 0 none) := by simp
 have e1 : exec C L Qiw ⟨[(0, .yld id), (1, .ptr p 0 0)], [], σ⟩ = some (.normal, ⟨[(2, .ptr σ.length 0 0), (0, .yld id), (1, .ptr p 0 0)], [], σ ++ [.arr (.av [.yld id]) 0 0 none]⟩) := by
   simp [Qiw]
 generalize hσ1 : σ ++ [Obj.arr (.av [.yld id]) 0 0 none] = σ1 at *
 simp only [boxT, node, cells] at hp' hC
 obtain ⟨M2, e2⟩ : ∃ M2, exec C L Qhl ⟨[(2, .ptr σ.length 0 0), (0, .yld id), (1, .ptr p 0 0)], [], σ1⟩ = some (.ret, ⟨M2, [], σ'⟩) := by
   by_cases ho : op = [97, 110, 100]
   · have hl : ¬ l.length = 2 := fun h => hleaf ⟨ho, h⟩
     have hl' : ((l.length : Int) != 2) = true := bne_iff_ne.2 (by omega)
     subst ho
     exact ⟨_, by simp [Qhl, Qes, Qfg, Y9, lenA, Bu, Fd, Q1.get?, hp', ha, hl', hC]; rfl⟩
   · have hb := J8 ho
     exact ⟨_, by simp [Qhl, Qes, Qfg, Y9, lenA, Bu, Fd, Q1.get?, hp', ha, hb, hC]; rfl⟩
 refine ⟨M2, ?_⟩
 unfold n29
 rw [seqN e1, seqR e2]
theorem node29 {C : Zj} {L : Nat} (s : Word) (n : Int) (l : List T) (hl : l.length = 2) (id p : Nat) (σ : Heap) (hp : σ[p]? = some (boxT (.mk wAnd s n l))) :
   ∃ M', exec C L (.seq (.seq Qiw Qhl) Qo4) ⟨[(0, .yld id), (1, .ptr p 0 0)], [], σ⟩ = some (.normal, ⟨M', [], σ ++ [.arr (.av [.yld id]) 0 0 none]⟩) /\ At29 l σ.length M' 0 := by
 have hpl : p < σ.length := (List.getElem?_eq_some_iff.1 hp).1
 have hp' : (σ ++ [Obj.arr (.av [.yld id]) 0 0 none])[p]? = some (boxT (.mk wAnd s n l)) := by rw [List.getElem?_append_left hpl]; exact hp
 have e1 : exec C L Qiw ⟨[(0, .yld id), (1, .ptr p 0 0)], [], σ⟩ = some (.normal, ⟨[(2, .ptr σ.length 0 0), (0, .yld id), (1, .ptr p 0 0)], [], σ ++ [.arr (.av [.yld id]) 0 0 none]⟩) := by
   simp [Qiw]
 have hl' : ((l.length : Int) != 2) = false := by rw [hl]; rfl
 obtain ⟨M', e2, g⟩ : ∃ M', exec C L (.seq Qhl Qo4) ⟨[(2, .ptr σ.length 0 0), (0, .yld id), (1, .ptr p 0 0)], [], σ ++ [.arr (.av [.yld id]) 0 0 none]⟩ = some (.normal, ⟨M', [], σ ++ [.arr (.av [.yld id]) 0 0 none]⟩) /\ At29 l σ.length M' 0 := by
   generalize σ ++ [Obj.arr (.av [.yld id]) 0 0 none] = σ1 at *
   simp only [boxT, cells, hl] at hp'
   exact ⟨_, by simp [Qhl, Qes, Qfg, Qo4, Y9, lenA, Bu, Fd, Q1.get?, hp']; rfl, ⟨rfl, rfl, rfl, rfl⟩⟩
 refine ⟨M', ?_, g⟩
 rw [<- Zn, seqN e1]
 exact e2
theorem Qks {Tb : Ld} {L : Nat} (h22 : Tb 16 = some (.raw lit22)) (h29 : Tb 26 = some (.raw lit29)) (hr : Tb 4294967295 = some .rnd) (hraw : Q4.raw 4294967295 = true) (hL : 3 <= L) :
   ∀ (d : Nat) (t : T), deep t <= d -> okT t -> ∀ n, Qpq Tb L n t
 | 0, .mk _ _ _ _, h, _, _ => by simp [deep] at h
 | d + 1, .mk op s z l, h, hok, n => by
   intro Y id m hY hn acc O σ p hac hI hp hpo
   simp only [deep] at hn h
   obtain ⟨k, rfl⟩ : ∃ k, n = k + 2 := ⟨n - 2, by omega⟩
   have hrun : (cAt Tb L (k + 2)).1 26 [.yld id, .ptr p 0 0] σ = Z8 (cAt Tb L (k + 1)).1 (cAt Tb L (k + 1)).2 L lit29 [.yld id, .ptr p 0 0] σ := by
     have hf : fits lit29 [.yld id, .ptr p 0 0] = true := by rfl
     simp only [cAt, w6, h29, N2, hf]
   have hIa : Y.I acc O (σ ++ [.arr (.av [.yld id]) 0 0 none]) := Y.ext hI fun j hj => List.getElem?_append_left (Y.lt hI j hj)
   have hFa := Fr.push O σ [.arr (.av [.yld id]) 0 0 none]
   rw [hrun, Zp, lit29_tree]
   by_cases hc : op = wAnd /\ l.length = 2
   · obtain ⟨rfl, hl⟩ := hc
     obtain ⟨M1, e1, g1⟩ := node29 (C := (cAt Tb L (k + 1)).1) (L := L) s z l hl id p σ hp
     have e1' : exec (cAt Tb L (k + 1)).1 L (.seq (.seq Qiw Qhl) Qo4) ⟨params 0 [.yld id, .ptr p 0 0], [], σ⟩ = some (.normal, ⟨M1, [], σ ++ [.arr (.av [.yld id]) 0 0 none]⟩) := e1
     have hcl : ∀ i c, l[i]? = some c -> Qpq Tb L (k + 1) c /\ deep c <= Qsh l := fun i c hi =>
       ⟨Qks h22 h29 hr hraw hL d c (Nat.le_trans (Ua (List.mem_of_getElem? hi)) (by omega)) (R9 hok.2 (List.mem_of_getElem? hi)) _, Ua (List.mem_of_getElem? hi)⟩
     match l, hl, hcl, g1, hn with
     | [x, y], hl, hcl, g1, hn =>
       have haL : σ.length < (σ ++ [Obj.arr (.av [.yld id]) 0 0 none]).length := by simp
       have ha1 : (σ ++ [Obj.arr (.av [.yld id]) 0 0 none])[σ.length]? = some (.arr (.av [.yld id]) 0 0 none) := by simp
       have hao : σ.length ∉ O := fun hm => by have := Y.lt hI _ hm; omega
       have hcl2 : Jo (.mk wAnd s z [x, y]) = Jo x ++ Jo y := by
         conv => lhs; unfold Jo
         rw [if_pos ⟨rfl, rfl⟩]
         simp [N7]
       rw [hcl2, List.length_append] at hac
       obtain ⟨hx, hdx⟩ := hcl 0 x rfl
       obtain ⟨hy, hdy⟩ := hcl 1 y rfl
       obtain ⟨M2, σ2, O2, mk2, r2, g2, hI2, hF2, hm2, hmo2, hml2⟩ := go29 (n := k) h22 hr hraw hY [x, y] rfl 0 x rfl hx (by omega) acc (by omega) O _ M1 [] g1 hIa ha1 hao
       have hmk2 : mk2 < σ2.length := (List.getElem?_eq_some_iff.1 hm2).1
       have ha2 : σ2[σ.length]? = some (.arr (.av [.yld id]) 0 0 none) := by rw [hF2.old _ haL hao]; exact ha1
       have hao2 : σ.length ∉ O2 := fun hm => by
         rcases hF2.new _ hm with hm | hm
         · exact hao hm
         · simp at hm; omega
       obtain ⟨M3, σ3, O3, mk3, r3, g3, hI3, hF3, hm3, hmo3, hml3⟩ := go29 (n := k) h22 hr hraw hY [x, y] rfl 1 y rfl hy (by omega) _ (by rw [List.length_append]; omega) O2 σ2 M2 [(4294967294, [.ptr mk2 0 0])] g2 hI2 ha2 hao2
       obtain ⟨M4, r4⟩ := stop29 (C := (cAt Tb L (k + 1)).1) (L := L) g3 [(4294967294, [.ptr mk3 0 0]), (4294967294, [.ptr mk2 0 0])] σ3
       have hmk3 : mk3 < σ3.length := (List.getElem?_eq_some_iff.1 hm3).1
       have hm23 : σ3[mk2]? = some .mark := by rw [hF3.old _ hmk2 hmo2]; exact hm2
       have hmo23 : mk2 ∉ O3 := fun hm => by
         rcases hF3.new _ hm with hm | hm
         · exact hmo2 hm
         · omega
       obtain ⟨f, rfl⟩ : ∃ f, L = f + 3 := ⟨L - 3, by omega⟩
       have e4 : exec (cAt Tb (f + 3) (k + 1)).1 (f + 3) Qxn ⟨M1, [], σ ++ [.arr (.av [.yld id]) 0 0 none]⟩ = some (.normal, ⟨M4, [(4294967294, [.ptr mk3 0 0]), (4294967294, [.ptr mk2 0 0])], σ3⟩) := by
         unfold Qxn Qwh
         exact F0 (by simp only [exec, iter, St.keep, r2, r3, r4])
       have hF := (hFa.trans hF2).trans hF3
       have hne : mk3 ≠ mk2 := by omega
       refine ⟨(σ3.set mk3 .none).set mk2 .none, O3, ?_, ?_, ?_⟩
       · unfold n29
         rw [Zn, Zn, seqN e1', e4]
         have hg : (σ3.set mk3 .none)[mk2]? = some .mark := by rw [List.getElem?_set_ne hne]; exact hm23
         simp [finX, Hp, hm3, hg, lit29, Ur]
       · rw [hcl2, <- List.append_assoc]
         refine Y.ext hI3 fun j hj => ?_
         have h1 : mk2 ≠ j := fun he => hmo23 (he ▸ hj)
         have h2 : mk3 ≠ j := fun he => hmo3 (he ▸ hj)
         rw [List.getElem?_set_ne h1, List.getElem?_set_ne h2]
       · refine ⟨by simpa using hF.len, fun j hj ho => ?_, hF.new⟩
         have h1 : mk2 ≠ j := by simp at hml2; omega
         have h2 : mk3 ≠ j := by have := hF2.len; simp at this; omega
         rw [List.getElem?_set_ne h1, List.getElem?_set_ne h2]
         exact hF.old j hj ho
   · have hcl : Jo (.mk op s z l) = [.mk op s z l] := by
       conv => lhs; unfold Jo
       rw [if_neg hc]
     rw [hcl] at hac
     obtain ⟨σ', O', hC, hI', hF'⟩ := hY (k + 1) (by omega) acc O _ (.mk op s z l) hok hac hIa
     obtain ⟨M', e⟩ := leaf29 (C := (cAt Tb L (k + 1)).1) (L := L) op s z l hc id p σ σ' hp hC
     have e' : exec (cAt Tb L (k + 1)).1 L n29 ⟨params 0 [.yld id, .ptr p 0 0], [], σ⟩ = some (.ret, ⟨M', [], σ'⟩) := e
     refine ⟨σ', O', ?_, ?_, hFa.trans hF'⟩
     · rw [e']
       simp [finX, Hp, lit29, Ur]
     · rw [hcl]
       exact hI'
end Go.Ab.Turn
namespace Go.Ab.Turn
open Go Go.Ab Go.Ab.Plan Go.Ab.Key Go.Ab.Cnt Go.Proofs
attribute [local simp] Uw Qe7 AV.cells N0 O5 finA qc resA resV ansV
variable [Q4]
abbrev clsC (l : List Cl) : List PV := l.flatMap clC
abbrev L5 (acc : List T) : List Cl := acc.filterMap (read slT)
abbrev K17 : List Nat × Q0 × Q0 := ([31], xaOf Ph, xbOf Ph)
theorem Qer (v : V) : ∃ a b c d, vc v = [a, b, c, d] := by cases v <;> exact ⟨_, _, _, _, rfl⟩
theorem Qfb (c : Cl) : (clC c).length = 6 := by
 obtain ⟨a, b, c', d, e⟩ := Qer (litV c.v)
 simp [clC, e]
def gath (k : List Nat) (l : Nat) : YInv where
 I acc O σ := ∃ b ts c, O = l :: 0 :: 1 :: 3 :: own b /\ σ[l]? = some (.loop K17 ts c .ready) /\ (zipE ts c.toList).get 3 = some (.ptr 0 0 0) /\ (zipE ts c.toList).get 5 = some (.ptr 1 0 0) /\ (zipE ts c.toList).get 7 = some (.ptr 3 0 0) /\
   σ[0]? = some (.arr (.pv (tblC k)) 0 0 none) /\ σ[1]? = some (.arr (.pv [.int .i64 0]) 0 0 none) /\ σ[3]? = some (.arr (.av [b]) 0 0 (some 73)) /\ Buf 78 6 σ b (clsC (L5 acc)) (L5 acc).length /\ (∀ j ∈ own b, 4 <= j /\ j ≠ l) /\ 4 <= l
 lt := by
   rintro acc O σ ⟨b, ts, c, rfl, h1, _, _, _, h2, h3, h4, h5, _⟩ j hj
   simp only [List.mem_cons] at hj
   rcases hj with rfl | rfl | rfl | rfl | hj
   · exact (List.getElem?_eq_some_iff.1 h1).1
   · exact (List.getElem?_eq_some_iff.1 h2).1
   · exact (List.getElem?_eq_some_iff.1 h3).1
   · exact (List.getElem?_eq_some_iff.1 h4).1
   · exact h5.lt hj
 ext := by
   rintro acc O σ σ' ⟨b, ts, c, rfl, h1, a1, a2, a3, h2, h3, h4, h5, h6⟩ he
   exact ⟨b, ts, c, rfl, by rw [he l (by simp)]; exact h1, a1, a2, a3, by rw [he 0 (by simp)]; exact h2, by rw [he 1 (by simp)]; exact h3, by rw [he 3 (by simp)]; exact h4, h5.same fun j hj => he j (by simp [hj]), h6⟩
theorem Qw5 {Tb : Ld} {L m : Nat} (k : List Nat) (hr : Tb 4294967295 = some .rnd) (hraw : Q4.raw 4294967295 = true)
   (h23 : ∀ n, m <= n -> ∀ t, okT t -> ∃ c b, (∀ σ, (cAt Tb L n).1 17 [.p (tbl k), .p (node t), int 0] σ = some (.ret (.p (.tup [.agg c, .bool b])), σ)) /\ Ok23 (read slT t) c b /\ c.length = 6) (l : Nat) : YOK Tb L (m + 1) l (gath k l) := by
 intro n hn acc O σ t ht hac hI
 obtain ⟨n, rfl⟩ : ∃ k, n = k + 1 := ⟨n - 1, by omega⟩
 obtain ⟨b, ts, cc, rfl, h1, a3, a5, a7, o0, o1, o3, hb, hob, hl4⟩ := hI
 obtain ⟨c, q, hC, hO, hcl⟩ := h23 n (by omega) t ht
 have hl : l < σ.length := (List.getElem?_eq_some_iff.1 h1).1
 have h3l : 3 < σ.length := (List.getElem?_eq_some_iff.1 o3).1
 have hcell : ∃ p q r s, cells t = [p, q, r, s] := by cases t; exact ⟨_, _, _, _, rfl⟩
 obtain ⟨p1, p2, p3, p4, ec⟩ := hcell
 have hsz : (L5 acc).length <= acc.length := List.length_filterMap_le _ _
 have ra : exec (cAt Tb L n).1 L (xaOf Ph) ⟨Wk [31] [.p (node t)] (zipE ts cc.toList), [], σ⟩ = some (.normal, ⟨(8, .ptr σ.length 0 0) :: (31, .p (node t)) :: zipE ts cc.toList, [], σ ++ [.arr (.pv (cells t)) 0 0 (some 25)]⟩) := by
   simp [xaOf, Ph, Wk, Q1.toList, node, ec]
 obtain ⟨σb, hσb⟩ : ∃ σb, σb = (σ ++ [Obj.arr (.pv (cells t)) 0 0 (some 25)]).set l (.loop K17 ts cc .busy) := ⟨_, rfl⟩
 have hlen : σb.length = σ.length + 1 := by rw [hσb]; simp
 have hold : ∀ j, j < σ.length -> j ≠ l -> σb[j]? = σ[j]? := fun j hj hjl => by rw [hσb, List.getElem?_set_ne (Ne.symm hjl), List.getElem?_append_left hj]
 have hbusy : σb[l]? = some (.loop K17 ts cc .busy) := by rw [hσb]; exact List.getElem?_set_self (by simp; omega)
 have gt : σb[σ.length]? = some (.arr (.pv (cells t)) 0 0 (some 25)) := by rw [hσb, List.getElem?_set_ne (by omega)]; simp
 have g0 : σb[0]? = some (.arr (.pv (tblC k)) 0 0 none) := by rw [hold 0 (by omega) (by omega)]; exact o0
 have g1 : σb[1]? = some (.arr (.pv [.int .i64 0]) 0 0 none) := by rw [hold 1 (by omega) (by omega)]; exact o1
 have g3 : σb[3]? = some (.arr (.av [b]) 0 0 (some 73)) := by rw [hold 3 (by omega) (by omega)]; exact o3
 have hbb : Buf 78 6 σb b (clsC (L5 acc)) (L5 acc).length := hb.same fun j hj => hold j (hb.lt hj) (hob j hj).2
 have key : ∃ M2 σ2 b2, exec (cAt Tb L n).1 L (xbOf Ph) ⟨(8, .ptr σ.length 0 0) :: (31, .p (node t)) :: zipE ts cc.toList, [], σb⟩ = some (.normal, ⟨M2, [], σ2⟩) /\ σ2[3]? = some (.arr (.av [b2]) 0 0 (some 73)) /\ Buf 78 6 σ2 b2 (clsC (L5 (acc ++ [t]))) (L5 (acc ++ [t])).length /\
     σb.length <= σ2.length /\ (∀ j, j < σb.length -> j ≠ 3 -> j ∉ own b -> σ2[j]? = σb[j]?) /\ (∀ j ∈ own b2, j ∈ own b ∨ σb.length <= j) := by
   have hC' := hC
   generalize zipE ts cc.toList = E at a3 a5 a7 ⊢
   generalize (cAt Tb L n).1 = C at hC' ⊢
   simp only [node, ec, tbl, tblC] at hC' gt g0 ⊢
   obtain ⟨c1, c2, c3, c4, c5, c6, rfl⟩ : ∃ c1 c2 c3 c4 c5 c6, c = [c1, c2, c3, c4, c5, c6] := by
     match c, hcl with
     | [c1, c2, c3, c4, c5, c6], _ => exact ⟨_, _, _, _, _, _, rfl⟩
   cases q with
   | false =>
     have hn : read slT t = none := by
       cases h : read slT t with
       | none => rfl
       | some cl => rw [h] at hO; exact absurd hO.1 (by decide)
     have hs : L5 (acc ++ [t]) = L5 acc := by simp [L5, hn]
     rw [hs]
     refine ⟨_, σb ++ [.arr (.pv [c1, c2, c3, c4, c5, c6]) 0 0 (some 78)], b, by simp [xbOf, Ph, Vb, Bu, Fd, Q1.get?, Q1.toList, a3, a5, a7, g0, g1, gt, hC']; rfl, ?_, hbb.push _, by simp, fun j hj _ _ => List.getElem?_append_left hj, fun j hj => .inl hj⟩
     rw [List.getElem?_append_left (by omega)]; exact g3
   | true =>
     obtain ⟨cl, hcl, hce⟩ : ∃ cl, read slT t = some cl /\ [c1, c2, c3, c4, c5, c6] = clC cl := by
       cases h : read slT t with
       | none => rw [h] at hO; exact absurd hO.1 (by decide)
       | some cl => rw [h] at hO; exact ⟨cl, rfl, hO.2⟩
     have hs : L5 (acc ++ [t]) = L5 acc ++ [cl] := by simp [L5, hcl]
     have hs2 : clsC (L5 acc ++ [cl]) = clsC (L5 acc) ++ [c1, c2, c3, c4, c5, c6] := by simp [clsC, hce]
     rw [hs, hs2, List.length_append]
     obtain ⟨b2, σ2, hA, hb2, hfr, hle, hown⟩ := (hbb.push [.arr (.pv [c1, c2, c3, c4, c5, c6]) 0 0 (some 78), .arr (.pv [c1, c2, c3, c4, c5, c6]) 0 0 none]).app [c1, c2, c3, c4, c5, c6] rfl (by omega)
     have h3b : 3 ∉ own b := fun hm => by have := (hob 3 hm).1; omega
     have f3 : σ2[3]? = some (.arr (.av [b]) 0 0 (some 73)) := by rw [hfr 3 (by simp; omega) h3b, List.getElem?_append_left (by omega)]; exact g3
     have g3' : ∀ τ : Heap, (σb ++ τ)[3]? = some (.arr (.av [b]) 0 0 (some 73)) := fun τ => by rw [List.getElem?_append_left (by omega)]; exact g3
     have h3l2 : 3 < σ2.length := (List.getElem?_eq_some_iff.1 f3).1
     obtain ⟨_, id2, ver2, rfl, _⟩ := hb2.2.resolve_left (by rintro ⟨_, h⟩; omega)
     refine ⟨_, σ2.set 3 (.arr (.av [.sl id2 ver2 0 ((L5 acc).length + 1) 6]) 0 0 (some 73)), .sl id2 ver2 0 ((L5 acc).length + 1) 6, by simp [xbOf, Ph, Vb, Zo, Jk, Bu, Fd, Q1.get?, Q1.toList, a3, a5, a7, g0, g1, g3', gt, hC', hA, f3]; rfl, List.getElem?_set_self h3l2, hb2.same fun j hj => ?_, ?_, fun j hj hj3 hjb => ?_, fun j hj => ?_⟩
     · have : j ≠ 3 := fun h => by
         subst h
         rcases hown 3 hj with hm | hm
         · exact h3b hm
         · simp at hm; omega
       rw [List.getElem?_set_ne (Ne.symm this)]
     · simp at hle ⊢; omega
     · rw [List.getElem?_set_ne (Ne.symm hj3), hfr j (by simp; omega) hjb, List.getElem?_append_left hj]
     · rcases hown j hj with hm | hm
       · exact .inl hm
       · simp at hm; exact .inr (by omega)
 obtain ⟨M2, σ2, b2, rb, f3, hb2, hle, hfr, hown⟩ := key
 have hlb : l ∉ own b := fun hm => (hob l hm).2 rfl
 have gl : σ2[l]? = some (.loop K17 ts cc .busy) := by rw [hfr l (by omega) (by omega) hlb]; exact hbusy
 have hob2 : ∀ j ∈ own b2, 4 <= j /\ j ≠ l := fun j hj => by
   rcases hown j hj with hm | hm
   · exact hob j hm
   · exact ⟨by omega, by omega⟩
 refine ⟨σ2.set l (.loop K17 ts cc .ready), l :: 0 :: 1 :: 3 :: own b2, ?_, ⟨b2, ts, cc, rfl, List.getElem?_set_self (List.getElem?_eq_some_iff.1 gl).1, a3, a5, a7, ?_, ?_, ?_, hb2.same fun j hj => ?_, hob2, hl4⟩, ⟨?_, fun j hj ho => ?_, fun j hj => ?_⟩⟩
 · simp only [cAt, w6, hr, hraw]
   exact Qg8 h1 rfl ra (by rw [List.getElem?_append_left hl]; exact h1) (by rw [<- hσb]; exact rb) gl
 · rw [List.getElem?_set_ne (by omega), hfr 0 (by omega) (by omega) (fun hm => by have := (hob 0 hm).1; omega)]; exact g0
 · rw [List.getElem?_set_ne (by omega), hfr 1 (by omega) (by omega) (fun hm => by have := (hob 1 hm).1; omega)]; exact g1
 · rw [List.getElem?_set_ne (by omega)]; exact f3
 · rw [List.getElem?_set_ne (Ne.symm (hob2 j hj).2)]
 · simp; omega
 · simp only [List.mem_cons, not_or] at ho
   rw [List.getElem?_set_ne (Ne.symm ho.1), hfr j (by omega) ho.2.2.2.1 ho.2.2.2.2, hold j hj ho.1]
 · simp only [List.mem_cons] at hj ⊢
   rcases hj with rfl | rfl | rfl | rfl | hj
   · simp
   · simp
   · simp
   · simp
   · rcases hown j hj with hm | hm
     · simp [hm]
     · exact .inr (by omega)
end Go.Ab.Turn
namespace Go.Ab.Turn.Enc
open Go Go.Ab Go.Ab.Key Go.Ab.Cnt Go.Ab.Turn Go.Proofs
variable [Q4]
def Qdj : Q0 := (((Q0.region [Mk 30 7, Ml 31 (.bin (.plain .geq) (.t 30) (Mm 0))]).seq (Q0.cond (.t 31) Q0.skip (Q0.exit 3))).seq ((Q0.block 4 (Q0.region [Mk 34 3, Mk 35 6, Mk 36 7, Ml 37 (.bin (.plain .shr) (.t 35) (.t 36)), Ml 38 (.convInt .u8 (.t 37)), Ml 39 (.buildSlice [.p (.int .u8 0)] 1 1 [(0, 1, .t 38)]), Ml 40 (.append 5 1 [.p (.int .u8 0)] (.t 34) (.t 39)), Mk 3 40])).seq (Q0.region [Mk 32 7, Ml 33 (.bin (.plain .sub) (.t 32) (Mm 8)), Mk 7 33])))
def qi : Q0 := ((Q0.region [Ml 11 (.bin (.plain .lss) (.t 10) (.t 9))]).seq ((Q0.cond (.t 11) Q0.skip (Q0.exit 0)).seq ((Q0.block 1 ((Q0.region [Ml 12 (.idx 4 (.t 8) (.t 10)), Ml 13 (.load true 4 (.t 12)), Ml 5 (.alloc 54 [.p (.int .i64 0), .p (.int .i64 0), .p (.str []), .p (.bool false)]), ⟨none, .store 4 (.t 5) (.t 13), none⟩]).seq ((Q0.region [Mo 14 0 5, Mn 15 14]).seq (Q0.block 2 ((Q0.region [Ml 17 (.bin (.plain .eql) (.t 15) (Mm 0)), Mk 16 17]).seq (Q0.cond (.t 16) (Q0.region [Mk 18 3, Ml 19 (.buildSlice [.p (.int .u8 0)] 1 1 [(0, 1, .c (.p (.int .u8 1)))]), Ml 20 (.append 5 1 [.p (.int .u8 0)] (.t 18) (.t 19)), Mk 3 20]) ((Q0.region [Ml 22 (.bin (.plain .eql) (.t 15) (Mm 1)), Mk 21 22]).seq (Q0.cond (.t 21) ((Q0.region [Mk 23 3, Ml 24 (.buildSlice [.p (.int .u8 0)] 1 1 [(0, 1, .c (.p (.int .u8 2)))]), Ml 25 (.append 5 1 [.p (.int .u8 0)] (.t 23) (.t 24)), Mk 3 25]).seq ((Q0.region [Mo 26 1 5, Mn 27 26, Ml 28 (.convInt .u64 (.t 27)), Ml 29 (.bin (.plain .xor) (.t 28) (.c (.p (.int .u64 9223372036854775808)))), Mk 6 29, Ml 7 (.mv (Mm 56))]).seq (Q0.block 3 (Q0.loop none Qdj)))) ((Q0.region [Ml 42 (.bin (.plain .eql) (.t 15) (Mm 2)), Mk 41 42]).seq (Q0.cond (.t 41) ((Q0.region [Mk 43 3, Ml 44 (.buildSlice [.p (.int .u8 0)] 1 1 [(0, 1, .c (.p (.int .u8 3)))]), Ml 45 (.append 5 1 [.p (.int .u8 0)] (.t 43) (.t 44)), Mk 3 45]).seq ((Q0.region [Mk 46 3, Mo 47 2 5, Mn 48 47, Ml 49 (.call (.c (.p (.fn 31))) [.t 48, .c (.p (.str [32]))]), Ml 50 (.call (.c (.p (.fn 30))) [.t 49, .c (.p (.str [0])), .c (.p (.str [0, 255]))]), Ml 51 (.append 5 1 [.p (.int .u8 0)] (.t 46) (.t 50)), Mk 3 51]).seq (Q0.region [Mk 52 3, Ml 53 (.append 5 1 [.p (.int .u8 0)] (.t 52) (.c (.p (.str [0, 0])))), Mk 3 53]))) ((Q0.region [Ml 55 (.bin (.plain .eql) (.t 15) (Mm 3)), Mk 54 55]).seq (Q0.cond (.t 54) ((Q0.region [Mk 56 3, Ml 57 (.buildSlice [.p (.int .u8 0)] 2 1 [(0, 1, .c (.p (.int .u8 4))), (1, 1, .c (.p (.int .u8 0)))]), Ml 58 (.append 5 1 [.p (.int .u8 0)] (.t 56) (.t 57)), Mk 3 58]).seq ((Q0.region [Mo 59 3 5, Mn 60 59]).seq (Q0.cond (.t 60) (Q0.region [Mk 61 3, Mk 62 3, Ml 63 (.len false (.t 62)), Ml 64 (.bin (.plain .sub) (.t 63) (Mm 1)), Ml 65 (.idx 1 (.t 61) (.t 64)), ⟨none, .store 1 (.t 65) (.c (.p (.int .u8 1))), none⟩]) Q0.skip))) Q0.skip)))))))))))).seq (Q0.region [Ml 66 (.bin (.plain .add) (.t 10) (Mm 1)), Mk 10 66]))))
theorem lit26_eq : lit26.body = (Q0.region [Ml 2 (.mv (.c (.p (.str []))))]).seq ((Q0.region [Ml 3 (.mv (.c .nil0))]).seq (((Q0.region [Mk 8 0, Ml 9 (.len false (.t 8)), Ml 10 (.mv (Mm 0))]).seq (Q0.block 0 (Q0.loop none qi))).seq ((Q0.region [Mk 67 3, Ml 68 (.bytesStr (.t 67)), Mk 2 68]).seq Q0.ret))) := rfl
def bp (l : List UInt8) : List PV := l.map fun b => .int .u8 b.toNat
theorem qa (l : List UInt8) : (bp l).length = l.length := by simp [bp]
theorem Qvz (l r : List UInt8) : bp (l ++ r) = bp l ++ bp r := by simp [bp]
def BBuf (σ : Heap) (b : AV) (l : List UInt8) : Prop := (b = .nil0 /\ l = []) ∨ (l ≠ [] /\ ∃ id ver, b = .sl id ver 0 l.length 1 /\ σ[id]? = some (.arr (.pv (bp l)) ver 0 (some 5)))
def NB (b : AV) (j : Nat) : Prop := ∀ id ver off len esz, b = .sl id ver off len esz -> id ≠ j
theorem BBuf.grow {σ : Heap} {b : AV} {l : List UInt8} (h : BBuf σ b l) (τ : Heap) : BBuf (σ ++ τ) b l := by
 rcases h with h | ⟨hne, id, ver, rfl, ho⟩
 · exact .inl h
 · exact .inr ⟨hne, id, ver, rfl, by rw [List.getElem?_append_left (List.getElem?_eq_some_iff.1 ho).1]; exact ho⟩
theorem BBuf.lt {σ : Heap} {b : AV} {l : List UInt8} (h : BBuf σ b l) {j : Nat} (hj : σ.length <= j) : NB b j := by
 intro id ver off len esz hb
 rcases h with ⟨h, _⟩ | ⟨_, id', ver', h, ho⟩
 · rw [h] at hb; cases hb
 · rw [h] at hb
   cases hb
   have := (List.getElem?_eq_some_iff.1 ho).1
   omega
theorem wb {σ : Heap} {b : AV} {l : List UInt8} (h : BBuf σ b l) (new : List UInt8) (hl : l.length + new.length <= LIM) (hn : new ≠ []) :
   ∃ b2 σ2, Dm σ 5 1 b new.length (.pv (bp new)) = some (b2, σ2) /\ BBuf σ2 b2 (l ++ new) /\ (∀ j, j < σ.length -> NB b j -> σ2[j]? = σ[j]? /\ NB b2 j) /\ σ.length <= σ2.length := by
 have hlen : new.length ≠ 0 := by simpa using hn
 rcases h with ⟨rfl, rfl⟩ | ⟨hne, id, ver, rfl, ho⟩
 · refine ⟨.sl σ.length 0 0 new.length 1, σ ++ [.arr (.pv (bp new)) 0 0 (some 5)], ?_, .inr ⟨by simpa using hn, σ.length, 0, rfl, by simp⟩, fun j hj _ => ⟨by rw [List.getElem?_append_left hj], ?_⟩, by simp⟩
   · have : new.length <= LIM := by simpa using hl
     simp [Dm, hlen, this]
   · intro id ver off len esz hb
     cases hb
     omega
 · have hid : id < σ.length := (List.getElem?_eq_some_iff.1 ho).1
   refine ⟨.sl id (ver + 1) 0 (l.length + new.length) 1, σ.set id (.arr (.pv (bp l ++ bp new)) (ver + 1) 0 (some 5)), ?_, .inr ⟨by simp [hne], id, ver + 1, by simp, ?_⟩, fun j hj hb => ⟨?_, ?_⟩, by simp⟩
   · have ht : (bp l).take l.length = bp l := List.take_of_length_le (by rw [qa]; exact Nat.le_refl _)
     simp [Dm, ho, hlen, hl, Bu, catC, Q1.len, ht, qa]
   · rw [List.getElem?_set_self hid, Qvz]
   · have := hb id ver 0 l.length 1 rfl
     rw [List.getElem?_set_ne this]
   · intro id' ver' off len esz he
     cases he
     exact hb id ver 0 l.length 1 rfl
theorem Qng (r : Nat) (h : r < 2 ^ 63) : r ^^^ 2 ^ 63 = 2 ^ 63 + r := by
 apply Nat.eq_of_testBit_eq
 intro i
 rw [Nat.testBit_xor, Nat.testBit_two_pow]
 rcases Nat.lt_trichotomy i 63 with hi | hi | hi
 · rw [Nat.testBit_two_pow_add_gt hi, decide_eq_false (by omega)]
   simp
 · subst hi
   rw [Nat.testBit_two_pow_add_eq, Nat.testBit_lt_two_pow h]
   simp
 · have h1 : r < 2 ^ i := Nat.lt_of_lt_of_le h (Nat.pow_le_pow_right (by decide) (by omega))
   have h2 : 2 ^ 63 + r < 2 ^ i := Nat.lt_of_lt_of_le (show 2 ^ 63 + r < 2 ^ 64 by omega) (Nat.pow_le_pow_right (by decide) (by omega))
   rw [Nat.testBit_lt_two_pow h1, Nat.testBit_lt_two_pow h2, decide_eq_false (by omega)]
   rfl
theorem Qsg (r : Nat) (h : r < 2 ^ 63) : (2 ^ 63 + r) ^^^ 2 ^ 63 = r := by
 rw [<- Qng r h, Nat.xor_assoc, Nat.xor_self, Nat.xor_zero]
theorem Va (n : Int) (h1 : 0 <= n) (h2 : n < 18446744073709551616) : IntKind.u64.wrap n = n := by
 simp only [IntKind.wrap, IntKind.bits, IntKind.signed]
 simp
 omega
theorem ym (n : Int) (h1 : -18446744073709551616 <= n) (h2 : n < 0) : IntKind.u64.wrap n = n + 18446744073709551616 := by
 simp only [IntKind.wrap, IntKind.bits, IntKind.signed]
 simp
 omega
theorem Qo9 (n : Int) (h : 0 <= n) : IntKind.u8.wrap n = n % 256 := by
 simp only [IntKind.wrap, IntKind.bits, IntKind.signed]
 simp
theorem Qyy (n : Int) (h : inR n) : IntKind.u64.wrap ((BitVec.ofInt 64 (IntKind.u64.wrap n) ^^^ BitVec.ofInt 64 9223372036854775808).toNat : Int) = (off n : Int) := by
 unfold inR at h
 rw [BitVec.toNat_xor, BitVec.toNat_ofInt, BitVec.toNat_ofInt]
 have e2 : ((9223372036854775808 : Int) % ((2 ^ 64 : Nat) : Int)).toNat = 2 ^ 63 := by decide
 rw [e2]
 by_cases hn : 0 <= n
 · rw [Va n hn (by omega)]
   have e1 : (n % ((2 ^ 64 : Nat) : Int)).toNat = n.toNat := by
     rw [Int.emod_eq_of_lt hn (by omega)]
   rw [e1, Qng _ (by omega)]
   unfold off
   rw [Va _ (by omega) (by omega)]
   omega
 · rw [ym n (by omega) (by omega)]
   have e1 : ((n + 18446744073709551616) % ((2 ^ 64 : Nat) : Int)).toNat = 2 ^ 63 + (n + 9223372036854775808).toNat := by
     rw [Int.emod_eq_of_lt (by omega) (by omega)]
     omega
   rw [e1, Qsg _ (by omega)]
   unfold off
   rw [Va _ (by omega) (by omega)]
end Go.Ab.Turn.Enc
namespace Go.Ab.Turn.Enc
open Go Go.Ab Go.Ab.Key Go.Ab.Cnt Go.Ab.Turn Go.Proofs
attribute [local simp] Uw Qe7 AV.cells N0 O5 finA qc resA resV ansV
variable [Q4]
theorem Qkb (j : Nat) : (2 : Nat) ^ (8 * j) = 256 ^ j := by rw [Nat.pow_mul]
theorem Qxg (u j : Nat) : u % 256 ^ (j + 1) / 256 ^ j = u / 256 ^ j % 256 := by
 rw [Nat.pow_succ, Nat.mod_mul_right_div_self]
theorem Qn4 (u j : Nat) : be (j + 1) (u % 256 ^ (j + 1)) = UInt8.ofNat (u / 256 ^ j % 256) :: be j (u % 256 ^ j) := by
 rw [be, Qxg, Nat.mod_mod_of_dvd _ (Nat.pow_dvd_pow 256 (Nat.le_succ j))]
section
variable (C : Zj) (L : Nat) (u : Nat) (M : Env) (σ : Heap) (b : AV) (l : List UInt8) (j : Nat)
def Same (M M' : Env) : Prop := M'.get 0 = M.get 0 /\ M'.get 8 = M.get 8 /\ M'.get 9 = M.get 9 /\ M'.get 10 = M.get 10 /\ M'.get 6 = M.get 6
theorem Same.trans {M1 M2 M3 : Env} (h : Same M1 M2) (k : Same M2 M3) : Same M1 M3 := ⟨k.1.trans h.1, k.2.1.trans h.2.1, k.2.2.1.trans h.2.2.1, k.2.2.2.1.trans h.2.2.2.1, k.2.2.2.2.trans h.2.2.2.2⟩
theorem stop9n (h7 : M.get 7 = some (.p (.int .i64 (-8)))) : ∃ M' : Env, exec C L Qdj ⟨M, [], σ⟩ = some (.exit 3, ⟨M', [], σ⟩) /\ Same M M' /\ M'.get 3 = M.get 3 :=
 ⟨_, by simp [Qdj, h7]; rfl, by simp [Same], by simp⟩
theorem go9n (h7 : M.get 7 = some (.p (.int .i64 (8 * (j : Int))))) (h6 : M.get 6 = some (.p (.int .u64 (u : Int)))) (h3 : M.get 3 = some b) (hb : BBuf σ b l) (hj : j < 8) (hl : l.length + 1 <= LIM) :
   ∃ (M' : Env) (σ' : Heap) (b' : AV), exec C L Qdj ⟨M, [], σ⟩ = some (.normal, ⟨M', [], σ'⟩) /\ Same M M' /\ M'.get 7 = some (.p (.int .i64 (8 * (j : Int) - 8))) /\ M'.get 3 = some b' /\ BBuf σ' b' (l ++ [UInt8.ofNat (u / 256 ^ j % 256)]) /\ σ.length <= σ'.length := by
 have hp : ¬ (8 * (j : Int)) < 0 := by omega
 have hge : (0 : Int) <= 8 * (j : Int) := by omega
 have e1 : IntKind.i64.wrap (8 * (j : Int) - 8) = 8 * (j : Int) - 8 := J5 _ (by omega) (by omega)
 have hmin : min (8 * (j : Int)).toNat 64 = 8 * j := by omega
 have e2 : (u : Int).fdiv (2 ^ (8 * j)) = ((u / 256 ^ j : Nat) : Int) := by
   rw [show ((2 : Int) ^ (8 * j)) = (((256 ^ j : Nat)) : Int) from by rw [<- Qkb]; simp]
   rw [Int.fdiv_eq_ediv_of_nonneg _ (Int.natCast_nonneg _)]
   rfl
 have e3 : IntKind.u8.wrap ((u / 256 ^ j : Nat) : Int) = (((UInt8.ofNat (u / 256 ^ j % 256)).toNat : Nat) : Int) := by
   have hb8 : (UInt8.ofNat (u / 256 ^ j % 256)).toNat = u / 256 ^ j % 256 := UInt8.toNat_ofNat_of_lt' (Nat.mod_lt _ (by decide))
   rw [Qo9 _ (Int.natCast_nonneg _), hb8, Int.natCast_emod]
   rfl
 have e4 : IntKind.u8.wrap ((u : Int) / 256 ^ j) = (((UInt8.ofNat (u / 256 ^ j % 256)).toNat : Nat) : Int) := by
   rw [show ((u : Int) / 256 ^ j) = ((u / 256 ^ j : Nat) : Int) from by simp]
   exact e3
 obtain ⟨b2, σ2, hA, hb2, _, hlen⟩ := wb (hb.grow [.arr (.pv (bp [UInt8.ofNat (u / 256 ^ j % 256)])) 0 0 none]) [UInt8.ofNat (u / 256 ^ j % 256)] (by simpa using hl) (by simp)
 generalize UInt8.ofNat (u / 256 ^ j % 256) = c at *
 simp only [bp, List.map_cons, List.map_nil, List.length_cons, List.length_nil, Nat.zero_add] at hA
 have hlen' : σ.length <= σ2.length := by simp at hlen; omega
 exact ⟨_, σ2, b2, by simp [Qdj, Xj, Zo, Jk, Bu, Fd, IntKind.bits, h7, h6, h3, hp, hge, e1, hmin, e2, e4, hA]; rfl, by simp [Same], by simp, by simp, hb2, hlen'⟩
end
theorem Qva (C : Zj) (L u : Nat) : ∀ (j f : Nat) (M : Env) (σ : Heap) (b : AV) (l : List UInt8), j < f -> j <= 8 -> M.get 7 = some (.p (.int .i64 (8 * (j : Int) - 8))) -> M.get 6 = some (.p (.int .u64 (u : Int))) -> M.get 3 = some b -> BBuf σ b l -> l.length + j <= LIM ->
   ∃ (M' : Env) (σ' : Heap) (b' : AV), iter (exec C L Qdj) none f ⟨M, [], σ⟩ = some (.exit 3, ⟨M', [], σ'⟩) /\ Same M M' /\ M'.get 3 = some b' /\ BBuf σ' b' (l ++ be j (u % 256 ^ j)) /\ σ.length <= σ'.length
 | 0, f, M, σ, b, l, hf, _, h7, h6, h3, hb, hl => by
   obtain ⟨f, rfl⟩ : ∃ m, f = m + 1 := ⟨f - 1, by omega⟩
   obtain ⟨M', e, hs, g3⟩ := stop9n C L M σ (by rw [h7]; rfl)
   exact ⟨M', σ, b, by simp only [iter, St.keep, e], hs, g3.trans h3, by simpa [be] using hb, Nat.le_refl _⟩
 | j + 1, f, M, σ, b, l, hf, hj, h7, h6, h3, hb, hl => by
   obtain ⟨f, rfl⟩ : ∃ m, f = m + 1 := ⟨f - 1, by omega⟩
   obtain ⟨M1, σ1, b1, e, hs, g7, g3, gb, gl⟩ := go9n C L u M σ b l j (by rw [h7]; congr 3; omega) h6 h3 hb (by omega) (by omega)
   obtain ⟨M', σ', b', e', hs', q3, qb, ql⟩ := Qva C L u j f M1 σ1 b1 _ (by omega) (by omega) g7 (hs.2.2.2.2.trans h6) g3 gb (by simp; omega)
   refine ⟨M', σ', b', by simp only [iter, St.keep, e]; exact e', hs.trans hs', q3, ?_, Nat.le_trans gl ql⟩
   rw [Qn4]
   simpa using qb
end Go.Ab.Turn.Enc
namespace Go.Ab.Turn.Enc
open Go Go.Ab Go.Ab.Key Go.Ab.Cnt Go.Ab.Turn Go.Proofs
attribute [local simp] Uw Qe7 AV.cells N0 O5 finA qc resA resV ansV
variable [Q4]
section
variable (C : Zj) (L : Nat) (x : List V) (M : Env) (σ : Heap) (b : AV) (l : List UInt8) (i : Nat)
structure At9 (x : List V) (M : Env) (i : Nat) (b : AV) : Prop where
 t8 : M.get 8 = some (.p (.vsl (vcs x) x.length))
 t9 : M.get 9 = some (.p (.int .i64 (x.length : Int)))
 t10 : M.get 10 = some (.p (.int .i64 (i : Int)))
 t3 : M.get 3 = some b
theorem stop9 (h : At9 x M i b) (hs : x.length <= i) : ∃ M' : Env, exec C L qi ⟨M, [], σ⟩ = some (.exit 0, ⟨M', [], σ⟩) /\ M'.get 3 = some b := by
 have hi : ¬ (i : Int) < (x.length : Int) := by omega
 exact ⟨_, by simp [qi, h.t9, h.t10, hi]; rfl, by simp [h.t3]⟩
theorem Qtb (h : At9 x M i b) (hb : BBuf σ b l) (hx : x[i]? = some .null) (hm : x.length <= 9223372036854775807) (hl : l.length + 1 <= LIM) :
   ∃ (M' : Env) (σ' : Heap) (b' : AV), exec C L qi ⟨M, [], σ⟩ = some (.normal, ⟨M', [], σ'⟩) /\ At9 x M' (i + 1) b' /\ BBuf σ' b' (l ++ enc1 .null) := by
 have hi : i < x.length := (List.getElem?_eq_some_iff.1 hx).1
 have hi' : (i : Int) < (x.length : Int) := by omega
 have d1 := Qct x i _ hx
 have d3 : 4 <= (vcs x).length - i * 4 := by rw [Lw]; omega
 have e1 : IntKind.i64.wrap ((i : Int) + 1) = (i : Int) + 1 := J5 _ (by omega) (by omega)
 obtain ⟨b2, σ2, hA, hb2, _, hlen⟩ := wb (hb.grow [.arr (.pv (vc .null)) 0 0 (some 54), .arr (.pv (bp [1])) 0 0 none]) [1] (by simpa using hl) (by simp)
 simp [bp, vc] at hA
 simp only [vc] at d1
 refine ⟨_, σ2, b2, by simp [qi, idxA, Zo, Jk, Bu, Fd, h.t8, h.t9, h.t10, h.t3, hi, hi', d1, d3, e1, hA]; rfl, ⟨?_, ?_, ?_, ?_⟩, hb2⟩
 · simp [h.t8]
 · simp [h.t9]
 · simp
 · simp
theorem Qrn (c : Bool) (h : At9 x M i b) (hb : BBuf σ b l) (hx : x[i]? = some (.bool c)) (hm : x.length <= 9223372036854775807) (hl : l.length + 2 <= LIM) :
   ∃ (M' : Env) (σ' : Heap) (b' : AV), exec C L qi ⟨M, [], σ⟩ = some (.normal, ⟨M', [], σ'⟩) /\ At9 x M' (i + 1) b' /\ BBuf σ' b' (l ++ enc1 (.bool c)) := by
 have hi : i < x.length := (List.getElem?_eq_some_iff.1 hx).1
 have hi' : (i : Int) < (x.length : Int) := by omega
 have d1 := Qct x i _ hx
 have d3 : 4 <= (vcs x).length - i * 4 := by rw [Lw]; omega
 have e1 : IntKind.i64.wrap ((i : Int) + 1) = (i : Int) + 1 := J5 _ (by omega) (by omega)
 obtain ⟨b2, σ2, hA, hb2, hf, hlen⟩ := wb (hb.grow [.arr (.pv (vc (.bool c))) 0 0 (some 54), .arr (.pv (bp [4, 0])) 0 0 none]) [4, 0] (by simpa using hl) (by simp)
 have hv := (hf σ.length (by simp) (hb.lt (Nat.le_refl _))).1
 simp [bp, vc] at hA hv
 simp only [vc] at d1
 cases c with
 | false =>
   refine ⟨_, σ2, b2, by simp [qi, idxA, Zo, Jk, Bu, Fd, h.t8, h.t9, h.t10, h.t3, hi, hi', d1, d3, e1, hA, hv]; rfl, ⟨?_, ?_, ?_, ?_⟩, hb2⟩
   · simp [h.t8]
   · simp [h.t9]
   · simp
   · simp
 | true =>
   obtain ⟨_, id, ver, rfl, ho⟩ := hb2.resolve_left (by simp)
   have hid : id < σ2.length := (List.getElem?_eq_some_iff.1 ho).1
   have hL : LIM = 4294967296 := rfl
   have e2 : IntKind.i64.wrap ((l.length : Int) + 2 - 1) = (l.length : Int) + 1 := by
     rw [J5 _ (by omega) (by omega)]
     omega
   have e3 : ((l.length : Int) + 1).toNat = l.length + 1 := by omega
   have e4 : (0 : Int) <= (l.length : Int) + 1 := by omega
   have e5 : (l.length : Int) + 1 < (l.length : Int) + 2 := by omega
   have e6 : l.length + 1 + 1 <= (bp l).length + 2 := by rw [qa]; omega
   have ho' : σ2[id]? = some (.arr (.pv (bp l ++ [.int .u8 4, .int .u8 0])) ver 0 (some 5)) := by rw [ho, Qvz]; rfl
   refine ⟨_, _, .sl id ver 0 (l ++ [4, 1]).length 1, by simp [qi, idxA, Zo, Jk, Bu, Fd, lenA, h.t8, h.t9, h.t10, h.t3, hi, hi', d1, d3, e1, hA, hv, ho', e2, e3, e4, e5, e6, qa]; exact ⟨rfl, rfl⟩, ⟨?_, ?_, ?_, ?_⟩, ?_⟩
   · simp [h.t8]
   · simp [h.t9]
   · simp
   · simp
   · refine .inr ⟨by simp [enc1], id, ver, rfl, ?_⟩
     rw [List.getElem?_set_self hid]
     have e7 : (bp l ++ [PV.int .u8 4, PV.int .u8 0]).take (l.length + 1) = bp l ++ [PV.int .u8 4] := by
       rw [List.take_append, List.take_of_length_le (by rw [qa]; omega), qa]
       simp
     have e8 : (bp l ++ [PV.int .u8 4, PV.int .u8 0]).drop (l.length + 1 + 1) = [] := List.drop_eq_nil_of_le (by rw [List.length_append, qa]; exact Nat.le_refl _)
     unfold bp at e7 e8
     simp [enc1, bp]
     rw [e7, e8]
     simp
theorem Qze (n : Int) (hn : inR n) (h : At9 x M i b) (hb : BBuf σ b l) (hx : x[i]? = some (.num n)) (hm : x.length <= 9223372036854775807) (hl : l.length + 9 <= LIM) (hL : 8 < L) :
   ∃ (M' : Env) (σ' : Heap) (b' : AV), exec C L qi ⟨M, [], σ⟩ = some (.normal, ⟨M', [], σ'⟩) /\ At9 x M' (i + 1) b' /\ BBuf σ' b' (l ++ enc1 (.num n)) := by
 have hi : i < x.length := (List.getElem?_eq_some_iff.1 hx).1
 have hi' : (i : Int) < (x.length : Int) := by omega
 have d1 := Qct x i _ hx
 have d3 : 4 <= (vcs x).length - i * 4 := by rw [Lw]; omega
 have e1 : IntKind.i64.wrap ((i : Int) + 1) = (i : Int) + 1 := J5 _ (by omega) (by omega)
 obtain ⟨b2, σ2, hA, hb2, hf, hlen⟩ := wb (hb.grow [.arr (.pv (vc (.num n))) 0 0 (some 54), .arr (.pv (bp [2])) 0 0 none]) [2] (by simp; omega) (by simp)
 have hv := (hf σ.length (by simp) (hb.lt (Nat.le_refl _))).1
 simp [bp, vc] at hA hv
 simp only [vc] at d1
 have hx' : Rl .xor .u64 (IntKind.u64.wrap n) 9223372036854775808 = some (.int .u64 (off n : Int)) := congrArg (fun z => some (PV.int .u64 z)) (Qyy n hn)
 obtain ⟨E, hE⟩ : ∃ E : Env, E = (7, .p (.int .i64 56)) :: (6, .p (.int .u64 (off n : Int))) :: (29, .p (.int .u64 (off n : Int))) :: (28, .p (.int .u64 (IntKind.u64.wrap n))) :: (27, .p (.int .i64 n)) :: (26, .ptr σ.length 0 1) :: (3, b2) :: (25, b2) ::
   (24, .sl (σ.length + 1) 0 0 1 1) :: (23, b) :: (21, .p (.bool true)) :: (22, .p (.bool true)) :: (16, .p (.bool false)) :: (17, .p (.bool false)) :: (15, .p (.int .i64 1)) :: (14, .ptr σ.length 0 0) :: (5, .ptr σ.length 0 0) ::
   (13, .p (.agg [.int .i64 1, .int .i64 n, .str [], .bool false])) :: (12, .p (.vptr ((vcs x).drop (i * 4)))) :: (11, .p (.bool true)) :: M := ⟨_, rfl⟩
 obtain ⟨M', σ3, b3, eI, hs, g3, gb, gl⟩ := Qva C L (off n) 8 L E σ2 b2 (l ++ [2]) hL (Nat.le_refl _) (by rw [hE]; rfl) (by rw [hE]; rfl) (by rw [hE]; rfl) hb2 (by simp; omega)
 obtain ⟨s0, s8, s9, s10, _⟩ := hs
 rw [hE] at s8 s9 s10 eI
 simp only [Env.get_cons] at s8 s9 s10
 simp [h.t8, h.t9, h.t10] at s8 s9 s10
 rw [Nat.mod_eq_of_lt (Qkz hn)] at gb
 refine ⟨_, σ3, b3, by simp [qi, idxA, Zo, Jk, Bu, Fd, lenA, IntKind.bits, h.t8, h.t9, h.t10, h.t3, hi, hi', d1, d3, e1, hA, hv, ↓hx', eI, s10]; rfl, ⟨?_, ?_, ?_, ?_⟩, by simpa [enc1] using gb⟩
 · simp [s8]
 · simp [s9]
 · simp
 · simp [g3]
theorem Qs7 (s : List UInt8) (h : At9 x M i b) (hb : BBuf σ b l) (hx : x[i]? = some (.text s)) (hm : x.length <= 9223372036854775807) (hl : l.length + (2 * s.length + 3) <= LIM)
   (hC34 : ∀ σ, C 31 [.p (.str s), .p (.str [32])] σ = some (.ret (.p (.str (Fg s))), σ)) (hC33 : ∀ σ, C 30 [.p (.str (Fg s)), .p (.str [0]), .p (.str [0, 255])] σ = some (.ret (.p (.str (esc (Fg s)))), σ))
   (hsz : (esc (Fg s)).length <= 2 * s.length) :
   ∃ (M' : Env) (σ' : Heap) (b' : AV), exec C L qi ⟨M, [], σ⟩ = some (.normal, ⟨M', [], σ'⟩) /\ At9 x M' (i + 1) b' /\ BBuf σ' b' (l ++ enc1 (.text s)) := by
 have hi : i < x.length := (List.getElem?_eq_some_iff.1 hx).1
 have hi' : (i : Int) < (x.length : Int) := by omega
 have d1 := Qct x i _ hx
 have d3 : 4 <= (vcs x).length - i * 4 := by rw [Lw]; omega
 have e1 : IntKind.i64.wrap ((i : Int) + 1) = (i : Int) + 1 := J5 _ (by omega) (by omega)
 obtain ⟨b2, σ2, hA, hb2, hf, hlen⟩ := wb (hb.grow [.arr (.pv (vc (.text s))) 0 0 (some 54), .arr (.pv (bp [3])) 0 0 none]) [3] (by simp; omega) (by simp)
 have hv := (hf σ.length (by simp) (hb.lt (Nat.le_refl _))).1
 obtain ⟨b3, σ3, hA3, hb3, _, _⟩ : ∃ b3 σ3, Dm σ2 5 1 b2 (esc (Fg s)).length (.pv (bp (esc (Fg s)))) = some (b3, σ3) /\ BBuf σ3 b3 ((l ++ [3]) ++ esc (Fg s)) /\ True /\ True := by
   by_cases hne : esc (Fg s) = []
   · obtain ⟨_, id, ver, rfl, ho⟩ := hb2.resolve_left (by simp)
     refine ⟨.sl id ver 0 (l ++ [3]).length 1, σ2, ?_, by rw [hne, List.append_nil]; exact hb2, trivial, trivial⟩
     rw [hne]
     have hl' : (l ++ [3]).length <= LIM := by simp; omega
     simp only [List.length_append, List.length_cons, List.length_nil] at hl' ho
     simp [Dm, ho, qa, hl']
   · obtain ⟨b3, σ3, q1, q2, _, _⟩ := wb hb2 (esc (Fg s)) (by simp; omega) hne
     exact ⟨b3, σ3, q1, q2, trivial, trivial⟩
 obtain ⟨b4, σ4, hA4, hb4, _, _⟩ := wb hb3 [0, 0] (by simp; omega) (by simp)
 simp [bp, vc] at hA hv hA4
 simp only [bp] at hA3
 simp only [vc] at d1
 refine ⟨_, σ4, b4, by simp [qi, idxA, Zo, Jk, Bu, Fd, lenA, h.t8, h.t9, h.t10, h.t3, hi, hi', d1, d3, e1, hA, hv, hC34, hC33, hA3, hA4]; rfl, ⟨?_, ?_, ?_, ?_⟩, by simpa [enc1] using hb4⟩
 · simp [h.t8]
 · simp [h.t9]
 · simp
 · simp
end
end Go.Ab.Turn.Enc
namespace Go.Ab.Turn.Enc
open Go Go.Ab Go.Ab.Key Go.Ab.Cnt Go.Ab.Turn Go.Proofs
attribute [local simp] Uw Qe7 AV.cells N0 O5 finA qc resA resV ansV
def trimO : List PV -> Option PV
 | [.str s, .str c] => if c = [32] /\ s.length <= LIM then some (.str (Fg s)) else none
 | _ => none
def replO : List PV -> Option PV
 | [.str s, .str o, .str n] => if o = [0] /\ n = [0, 255] /\ s.length <= 16777216 then some (.str (esc s)) else none
 | _ => none
def wt : V -> Nat
 | .text s => 2 * s.length + 3
 | _ => 9
def wts (l : List V) : Nat := (l.map wt).sum
theorem Qbl : ∀ s : List UInt8, (esc s).length <= 2 * s.length
 | [] => Nat.le_refl _
 | c :: s => by
   have ih := Qbl s
   by_cases h : c = 0 <;> simp [esc, h] <;> omega
theorem trim_len (s : List UInt8) : (Fg s).length <= s.length := by
 show (Lib.trimRightB s 32).length <= _
 unfold Lib.trimRightB
 rw [List.length_reverse]
 exact Nat.le_trans (List.dropWhile_suffix _).length_le (by simp)
theorem Qwk : ∀ k u, (be k u).length = k
 | 0, _ => rfl
 | k + 1, u => by simp [be, Qwk k]
theorem Qj8 (v : V) : (enc1 v).length <= wt v := by
 cases v with
 | null => decide
 | num n => simp [enc1, Qwk, wt]
 | text s =>
   have h1 := Qbl (Fg s)
   have h2 := trim_len s
   simp [enc1, wt]
   omega
 | bool b => cases b <;> decide
theorem encL_len (l : List V) : (encL l).length <= wts l := by
 induction l with
 | nil => exact Nat.le_refl _
 | cons v r ih =>
   have := Qj8 v
   simp only [encL, wts, List.flatMap_cons, List.length_append, List.map_cons, List.sum_cons] at *
   omega
theorem xj (l : List V) (v : V) : wts (l ++ [v]) = wts l + wt v := by simp [wts]
theorem xf (l : List V) (i : Nat) : wts (l.take i) <= wts l := by
 have h1 := congrArg wts (List.take_append_drop i l)
 have h2 : wts (l.take i ++ l.drop i) = wts (l.take i) + wts (l.drop i) := by
   unfold wts
   rw [List.map_append, List.sum_append]
 omega
theorem Qhd (l : List V) (v : V) : encL (l ++ [v]) = encL l ++ enc1 v := by simp [encL]
theorem Qeo : ∀ l : List UInt8, S6 (bp l) = some l
 | [] => rfl
 | c :: l => by
   have ih := Qeo l
   simp only [bp, List.map_cons] at *
   simp [S6, ih]
variable [Q4]
theorem loop9 (C : Zj) (L : Nat) (x : List V) (hL : 8 < L) (hm : x.length <= 9223372036854775807) (hok : ∀ v ∈ x, v.ok) (hw : wts x <= LIM)
   (hC34 : ∀ s, V.text s ∈ x -> ∀ σ, C 31 [.p (.str s), .p (.str [32])] σ = some (.ret (.p (.str (Fg s))), σ)) (hC33 : ∀ s, V.text s ∈ x -> ∀ σ, C 30 [.p (.str (Fg s)), .p (.str [0]), .p (.str [0, 255])] σ = some (.ret (.p (.str (esc (Fg s)))), σ)) :
   ∀ (d f i : Nat) (M : Env) (σ : Heap) (b : AV), x.length - i <= d -> d < f -> At9 x M i b -> BBuf σ b (encL (x.take i)) ->
   ∃ (M' : Env) (σ' : Heap) (b' : AV), iter (exec C L qi) none f ⟨M, [], σ⟩ = some (.exit 0, ⟨M', [], σ'⟩) /\ M'.get 3 = some b' /\ BBuf σ' b' (encL x)
 | d, f, i, M, σ, b, hd, hf, h, hb => by
   obtain ⟨f, rfl⟩ : ∃ m, f = m + 1 := ⟨f - 1, by omega⟩
   by_cases hs : x.length <= i
   · obtain ⟨M', e, g3⟩ := stop9 C L x M σ b i h hs
     rw [List.take_of_length_le hs] at hb
     exact ⟨M', σ, b, by simp only [iter, St.keep, e], g3, hb⟩
   · have hi : i < x.length := by omega
     have ex : x[i]? = some x[i] := List.getElem?_eq_getElem hi
     have hmem : x[i] ∈ x := List.getElem_mem hi
     have hsn : x.take (i + 1) = x.take i ++ [x[i]] := by rw [List.take_add_one, ex]; rfl
     have hlen : (encL (x.take i)).length + wt x[i] <= LIM := by
       have h1 := encL_len (x.take i)
       have h2 := xf x (i + 1)
       rw [hsn, xj] at h2
       omega
     have step : ∃ (M' : Env) (σ' : Heap) (b' : AV), exec C L qi ⟨M, [], σ⟩ = some (.normal, ⟨M', [], σ'⟩) /\ At9 x M' (i + 1) b' /\ BBuf σ' b' (encL (x.take i) ++ enc1 x[i]) := by
       generalize hv : x[i] = v at *
       cases v with
       | null => exact Qtb C L x M σ b _ i h hb ex hm (by simp only [wt] at hlen; omega)
       | num n => exact Qze C L x M σ b _ i n (hok _ hmem) h hb ex hm (by simpa [wt] using hlen) hL
       | text s => exact Qs7 C L x M σ b _ i s h hb ex hm (by simpa [wt] using hlen) (hC34 s hmem) (hC33 s hmem) (Nat.le_trans (Qbl _) (by have := trim_len s; omega))
       | bool c => exact Qrn C L x M σ b _ i c h hb ex hm (by simp only [wt] at hlen; omega)
     obtain ⟨M1, σ1, b1, e, h1, hb1⟩ := step
     rw [<- Qhd, <- hsn] at hb1
     obtain ⟨d, rfl⟩ : ∃ m, d = m + 1 := ⟨d - 1, by omega⟩
     obtain ⟨M', σ', b', e', q⟩ := loop9 C L x hL hm hok hw hC34 hC33 d f (i + 1) M1 σ1 b1 (by omega) (by omega) h1 hb1
     exact ⟨M', σ', b', by simp only [iter, St.keep, e]; exact e', q⟩
theorem encode26 {Tb : Ld} {L n : Nat} (h26 : Tb 20 = some (.code lit26 true)) (h33 : Tb 30 = some (.ext (extP replO) true)) (h34 : Tb 31 = some (.ext (extP trimO) true)) (x : List V) (hL : x.length + 8 < L) (hm : x.length <= 9223372036854775807) (hok : ∀ v ∈ x, v.ok) (hw : wts x <= 16777216) (σ : Heap) :
   (cAt Tb L (n + 2)).1 20 [.p (.vsl (vcs x) x.length)] σ = some (.ret (.p (.str (encL x))), σ) := by
 refine Z7 (ps := [.vsl (vcs x) x.length]) (n := n + 1) h26 (by rfl) ?_ σ
 have hs : ∀ s, V.text s ∈ x -> s.length <= 16777216 := by
   intro s h
   obtain ⟨i, hi⟩ := List.mem_iff_getElem?.1 h
   have h2 := xf x (i + 1)
   rw [List.take_add_one, hi] at h2
   simp only [Option.toList_some, xj, wt] at h2
   omega
 have hLm : LIM = 4294967296 := rfl
 have hC34 : ∀ s, V.text s ∈ x -> ∀ σ, (cAt Tb L (n + 1)).1 31 [.p (.str s), .p (.str [32])] σ = some (.ret (.p (.str (Fg s))), σ) := fun s h σ =>
   Qkh (ps := [.str s, .str [32]]) h34 (by unfold trimO; simp; have := hs s h; omega) σ
 have hC33 : ∀ s, V.text s ∈ x -> ∀ σ, (cAt Tb L (n + 1)).1 30 [.p (.str (Fg s)), .p (.str [0]), .p (.str [0, 255])] σ = some (.ret (.p (.str (esc (Fg s)))), σ) := fun s h σ =>
   Qkh (ps := [.str (Fg s), .str [0], .str [0, 255]]) h33 (by unfold replO; simp; have := hs s h; have := trim_len s; omega) σ
 generalize (cAt Tb L (n + 1)).1 = C at hC33 hC34 ⊢
 generalize (cAt Tb L (n + 1)).2 = D
 obtain ⟨M', σ', b', e, g3, gb⟩ := loop9 C L x (by omega) hm hok (by omega) hC34 hC33 x.length L 0 [(10, .p (.int .i64 0)), (9, .p (.int .i64 (x.length : Int))), (8, .p (.vsl (vcs x) x.length)), (3, .nil0), (2, .p (.str [])), (0, .p (.vsl (vcs x) x.length))] [] .nil0 (by omega) (by omega) ⟨rfl, rfl, rfl, rfl⟩ (.inl ⟨rfl, rfl⟩)
 rw [Zp, lit26_eq]
 rw [seqN (a := .region _) (by simp [params]; rfl), seqN (a := .region _) (by simp; rfl)]
 have e3 : exec C L (.seq (.region [{ dst := some 8, op := AOp.mv (Opd.t 0), guard := none }, { dst := some 9, op := AOp.len false (Opd.t 8), guard := none }, { dst := some 10, op := AOp.mv (Opd.c (AV.p (PV.int IntKind.i64 (0)))), guard := none }]) (.block 0 (.loop none qi))) ⟨[(3, .nil0), (2, .p (.str [])), (0, .p (.vsl (vcs x) x.length))], [], []⟩ = some (.normal, ⟨M', [], σ'⟩) := by
   rw [seqN (a := .region _) (by simp [lenA]; rfl)]
   simp only [exec, e, if_true]
 rw [seqN e3]
 rcases gb with ⟨rfl, hn⟩ | ⟨_, id, ver, rfl, ho⟩
 · rw [hn]
   simp [finX, Hp, g3, lit26, Jk, S6]
 · have hb := Qeo (encL x)
   have ht : (bp (encL x)).take (encL x).length = bp (encL x) := List.take_of_length_le (by rw [qa]; exact Nat.le_refl _)
   simp [finX, Hp, g3, lit26, Jk, Bu, Fd, ho, qa, ht, hb]
end Go.Ab.Turn.Enc
namespace Go.Ab.Turn
open Go Go.Ab Go.Ab.Plan Go.Ab.Key Go.Ab.Cnt Go.Proofs
attribute [local simp] Uw Qe7 AV.cells N0 O5 finA qc resA resV ansV
variable [Q4]
theorem Ry : ∀ l : List Cl, (clsC l).length = l.length * 6
 | [] => rfl
 | c :: l => by
   have := Ry l
   have h2 := Qfb c
   simp only [clsC, List.flatMap_cons, List.length_append, List.length_cons] at *
   rw [this]
   have : (clC c).length = 6 := h2
   simp only [clC, List.length_cons] at this
   omega
theorem Qf1 : ∀ (l : List Cl) (i : Nat) (c : Cl), l[i]? = some c -> ((clsC l).drop (i * 6)).take 6 = clC c
 | [], i, c, h => by simp at h
 | t :: r, 0, c, h => by
   simp at h
   subst h
   simp only [clsC, List.flatMap_cons, Nat.zero_mul, List.drop_zero]
   rw [<- Qfb t, List.take_left]
 | t :: r, i + 1, c, h => by
   simp at h
   have e : (i + 1) * 6 = (clC t).length + i * 6 := by rw [Qfb]; omega
   have ih := Qf1 r i c h
   simp only [clsC, List.flatMap_cons] at ih ⊢
   rw [e, List.drop_append, List.drop_of_length_le (Nat.le_add_right _ _), List.nil_append, Nat.add_sub_cancel_left, ih]
def Sl6 (σ : Heap) (b : AV) (l : List Cl) : Prop := (b = .nil0 /\ l = []) ∨ ∃ id ver wm ty, b = .sl id ver 0 l.length 6 /\ σ[id]? = some (.arr (.pv (clsC l)) ver wm ty)
theorem Sl6.push {σ : Heap} {b : AV} {l : List Cl} (h : Sl6 σ b l) (τ : Heap) : Sl6 (σ ++ τ) b l := by
 rcases h with h | ⟨id, ver, wm, ty, rfl, ho⟩
 · exact .inl h
 · exact .inr ⟨id, ver, wm, ty, rfl, by rw [List.getElem?_append_left (List.getElem?_eq_some_iff.1 ho).1]; exact ho⟩
theorem Sl6.len {σ : Heap} {b : AV} {l : List Cl} (h : Sl6 σ b l) : lenA b = some l.length := by
 rcases h with ⟨rfl, rfl⟩ | ⟨id, ver, wm, ty, rfl, _⟩ <;> rfl
abbrev T9 (col : Nat) (x : Cl) : Bool := x.col == col && x.op == wEq
theorem run25 {Tb : Ld} {L n : Nat} (h25 : Tb 19 = some (.raw lit25)) (x : Cl) (c col : Nat) (σ : Heap) (hc : σ[c]? = some (.arr (.pv [.int .i64 (col : Int)]) 0 0 (some 3))) :
   (cAt Tb L (n + 1)).1 19 [.p (.agg (clC x)), .ptr c 0 0] σ = some (.ret (.p (.bool (T9 col x))), σ ++ [.arr (.pv (clC x)) 0 0 none]) := by
 have hf : fits lit25 [.p (.agg (clC x)), .ptr c 0 0] = true := by rfl
 simp only [cAt, w6, h25, N2, hf]
 have hc' : (σ ++ [Obj.arr (.pv (clC x)) 0 0 none])[c]? = some (.arr (.pv [.int .i64 (col : Int)]) 0 0 (some 3)) := by
   rw [List.getElem?_append_left (List.getElem?_eq_some_iff.1 hc).1]; exact hc
 obtain ⟨a, b, c', d, e⟩ := Qer (litV x.v)
 simp only [clC, e] at hc' ⊢
 by_cases h : x.col = col
 · have hb : ((x.col : Int) == (col : Int)) = true := by rw [h]; exact beq_self_eq_true _
   have hb2 : T9 col x = (x.op == [61]) := by simp [T9, h]
   rw [hb2]
   simp [Z8, lit25, params, Y9, Hp, Bu, Fd, Q1.get?, hc', hb]
 · have hb : ((x.col : Int) == (col : Int)) = false := beq_eq_false_iff_ne.2 (by omega)
   have hb2 : T9 col x = false := by simp [T9, h]
   rw [hb2]
   simp [Z8, lit25, params, Y9, Hp, Bu, Fd, Q1.get?, hc', hb]
section
variable {C : Zj} {L : Nat} {l : List Cl} {b : AV} {c col : Nat}
structure At24 (l : List Cl) (b : AV) (c : Nat) (M : Env) (i : Nat) : Prop where
 t0 : M.get 0 = some b
 t1 : M.get 1 = some (.clo 19 [] [.ptr c 0 0])
 t7 : M.get 7 = some (int l.length)
 t8 : M.get 8 = some (int i)
theorem stop24 {M : Env} (h : At24 l b c M l.length) (σ : Heap) : ∃ M', exec C L Rc ⟨M, [], σ⟩ = some (.exit 0, ⟨M', [], σ⟩) :=
 ⟨_, by simp [Rc, Vt, Uu, h.t7, h.t8]; rfl⟩
end
end Go.Ab.Turn
