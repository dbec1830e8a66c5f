/- AH -/
import Derived.OrdersIn
import Derived.Test.YtikebbklkiodlaaGreatDoorAbAD
set_option maxRecDepth 1000000
set_option linter.all false
namespace Go.Ab
variable [Q4]
open Go.RowKit
variable {S S' : Nat -> Nat -> Prop} {w w' w1 : World} {μ μ' : Nat -> Nat -> Option (Nat × Nat)} {P : Program} {G : Bx} {σ σ' : Heap}
section
variable {C : Zj} {rds : List (Nat × Nat)} {wrs : List (Nat × Nat × List Nat)} {aos : List AOper} {f : Nat -> St} {m N : Nat} {ops : Array Oper} {anc : List Nat}
variable {μ0 : Nat -> Nat -> Option (Nat × Nat)} {S0 : Nat -> Nat -> Prop} {w0 : World}
theorem Qx4 (hf : ∀ k o, aos[k]? = some o -> k < m -> Fact C rds wrs k o (f k) (f (k + 1))) (hm : m <= aos.length) {D : Nat -> Prop} {a : Act} {q : Nat} {pd : Nat -> Nat} (hqm : q < m)
   (hE : ∀ ak, aos[q]? = some ak -> isE ak.op = true -> D q) (h : Qe5 G N anc aos f μ0 S0 w0 q D a w μ S pd) : ∃ μ', Qe5 G N anc aos f μ0 S0 w0 (q + 1) D a w μ' S pd := by
 obtain ⟨hq1, hq2, hg, hG, hsz, hdef, hfr0, h1, h2, hp, hd⟩ := h
 have hql : q < aos.length := by omega
 have hak : aos[q]? = some aos[q] := by simp [hql]
 cases he : isE aos[q].op with
 | false =>
   have hs := Qjf hf hm 1 q (by omega) (fun k o hk1 hk2 ho => by
     obtain rfl : k = q := by omega
     rw [hak] at ho
     obtain rfl := Option.some.inj ho
     exact he)
   have ne : ∀ k ak, aos[k]? = some ak -> isE ak.op = true -> k ≠ q := by
     rintro k ak hk hEk rfl
     rw [hak] at hk
     obtain rfl := Option.some.inj hk
     rw [he] at hEk; cases hEk
   refine ⟨μ, fun k ak hk hEk hlt => hq1 k ak hk hEk (by have := ne k ak hk hEk; omega), fun k ak hk hEk hD => (hq2 k ak hk hEk hD).imp (fun h => by omega) id, by rw [hs.1]; exact hg, hG, hsz, by rw [hs.2]; exact hdef,
     by rw [hs.1]; exact hfr0, h1, fun k ak t v hD hk hc hdst hv => h2 k ak t v hD hk ?_ hdst hv, fun k ak hD hk hle hEk => by rw [hs.1]; exact hp k ak hD hk (by omega) hEk,
     fun k k' ak ak' hD hD' hk hk' hl hl' => hd k k' ak ak' hD hD' hk hk' (by omega) (by omega)⟩
   rcases hc with hc | hc
   · by_cases hkq : k = q
     · subst hkq
       rw [hak] at hk
       obtain rfl := Option.some.inj hk
       exact .inr he
     · exact .inl (by omega)
   · exact .inr hc
 | true =>
   have hD := hE _ hak he
   have hfree : F5 anc aos q = true := by
     rcases hq2 q _ hak he hD with h | h
     · omega
     · exact h
   obtain ⟨ak, tyo, z, t, hak', hop, hgd, hdst⟩ := Qav hfree
   rw [hak] at hak'
   obtain rfl := Option.some.inj hak'
   obtain ⟨e1, e2, e3⟩ := Qpc (hf q _ hak hqm) hop hgd hdst
   obtain ⟨z', t', vs, et, p1, p2, p3, p4, p5, p6, p7, p8, p9⟩ := hp q _ hD hak (Nat.le_refl _) he
   rw [hop] at p1
   cases p1
   rw [hdst] at p2
   cases p2
   have hl : (Kp z).len = vs.size := by rw [Q1.len_toList, By, (p5 S w μ).length, Array.length_toList]
   obtain ⟨g1, hμ, hdom⟩ := Qq5 (c := Kp z) hg p4 p8 p9 (by omega) (by rw [By, hl, <- Array.length_toList, List.take_length]; exact p5 S w μ)
     (by rw [hl, <- Array.length_toList, List.take_length]; exact p6)
   have hS : ∀ b o, S b o -> S b o /\ w.cell? ⟨b, o, none⟩ = w.cell? ⟨b, o, none⟩ := fun b o h => ⟨h, rfl⟩
   refine ⟨ext μ (f q).heap.length 0 (pd q, vs.size), fun k ak hk hEk hlt => ?_, fun k ak hk hEk hD => (hq2 k ak hk hEk hD).imp (fun h => by omega) id, by rw [e1]; exact g1, hG.mono hS, hsz, by rw [e2]; exact hdef.mono hS hμ,
     ?_, fun t v hno hv => (h1 t v hno hv).mono hS hμ, fun k ak t2 v hDk hk hc hd2 hv => ?_, fun k ak hDk hk hle hEk => ?_, fun k k' ak ak' hDk hDk' hk hk' hl hl' => hd k k' ak ak' hDk hDk' hk hk' (by omega) (by omega)⟩
   · by_cases hkq : k = q
     · subst hkq; exact hD
     · exact hq1 k ak hk hEk (by omega)
   · rw [e1]
     refine ⟨hfr0.os, hfr0.tape, hfr0.output, hfr0.size, hfr0.keepS, hfr0.keepB, hfr0.newS, fun b hb => ?_, fun id ver x hx => hμ _ _ _ (hfr0.mu _ _ _ hx)⟩
     rcases hdom b hb with h | rfl
     · exact hfr0.newD b h
     · exact .inr p7
   · by_cases hkq : k = q
     · subst hkq
       rw [hak] at hk
       obtain rfl := Option.some.inj hk
       rw [hdst] at hd2
       cases hd2
       rw [e3] at hv
       cases hv
       rw [p3]
       exact .ptr (Gx _ _ _ _)
     · exact (h2 k ak t2 v hDk hk (hc.imp (fun h => by omega) id) hd2 hv).mono hS hμ
   · have hkq : k ≠ q := by omega
     obtain ⟨z', t', vs', et', r1, r2, r3, r4, r5, r6, r7, r8, r9⟩ := hp k ak hDk hk (by omega) hEk
     refine ⟨z', t', vs', et', r1, r2, r3, r4, r5, r6, r7, fun hdk => ?_, r9⟩
     rw [e1] at hdk
     rcases hdom _ hdk with h | h
     · exact r8 h
     · exact hkq (hd k q ak _ hDk hD hk hak (by omega) (Nat.le_refl _) hEk he h)
theorem Qld (hf : ∀ k o, aos[k]? = some o -> k < m -> Fact C rds wrs k o (f k) (f (k + 1))) (hm : m <= aos.length) {D : Nat -> Prop} {a : Act} {pd : Nat -> Nat} :
   ∀ (d q : Nat) (μ : Nat -> Nat -> Option (Nat × Nat)), q + d <= m -> (∀ k ak, aos[k]? = some ak -> isE ak.op = true -> q <= k -> k < q + d -> D k) -> Qe5 G N anc aos f μ0 S0 w0 q D a w μ S pd -> ∃ μ', Qe5 G N anc aos f μ0 S0 w0 (q + d) D a w μ' S pd
 | 0, _, μ, _, _, h => ⟨μ, h⟩
 | d + 1, q, μ, hle, hE, h => by
   obtain ⟨μ1, h1⟩ := Qx4 hf hm (by omega) (fun ak hak he => hE q ak hak he (Nat.le_refl _) (by omega)) h
   obtain ⟨μ2, h2⟩ := Qld hf hm d (q + 1) μ1 (by omega) (fun k ak hk he hl hlt => hE k ak hk he (by omega) (by omega)) h1
   exact ⟨μ2, by rw [show q + (d + 1) = q + 1 + d from by omega]; exact h2⟩
theorem Qql {D : Nat -> Prop} {tmps : Array Value} {q : Nat} (hf : ∀ k o, aos[k]? = some o -> k < m -> Fact C rds wrs k o (f k) (f (k + 1))) (hm : m <= aos.length)
   (hok : DOK anc ops.toList aos) {i : Nat} {ai : AOper} (hi : aos[i]? = some ai) (him : i <= m) (hDi : ¬ D i)
   (hbef : ∀ j, bef anc j i = true -> D j) (hbefD : ∀ k j, D k -> bef anc j k = true -> D j)
   (hq2 : ∀ (k : Nat) (ak : AOper), aos[k]? = some ak -> isE ak.op = true -> D k -> k < q ∨ F5 anc aos k = true)
   (hfree : (isE ai.op = true /\ F5 anc aos i = false -> q = i))
   (h1 : ∀ (t : Nat) (v : AV), (∀ (k : Nat) (ak : AOper), D k -> aos[k]? = some ak -> ak.dst ≠ some t) -> (f 0).env.get t = some v -> Rep S w μ v (tmps.getD t undef))
   (h2 : ∀ (k : Nat) (ak : AOper) (t : Nat) (v : AV), D k -> aos[k]? = some ak -> k < q ∨ isE ak.op = false -> ak.dst = some t -> (f (k + 1)).env.get t = some v -> Rep S w μ v (tmps.getD t undef)) :
   EnvOK S w μ (B4 (f i).env (Yw ai)) tmps := by
 intro t v hv
 obtain ⟨hmem, hget⟩ := Qpi hv
 by_cases hk : ∃ k ak, k < i /\ aos[k]? = some ak /\ ak.dst = some t
 · obtain ⟨k, ak, hki, hak, hd⟩ := hk
   have := hok.rd i k ai ak t (by omega) hi hak hd hmem
   rw [if_pos hki] at this
   have hDk := hbef k this
   have hc : k < q ∨ isE ak.op = false := by
     cases hEk : isE ak.op with
     | false => exact .inr rfl
     | true =>
       rcases hq2 k ak hak hEk hDk with h | h
       · exact .inl h
       · have := hfree (hok.frd i k ai ak t (by omega) hi hak hd hmem h)
         exact .inl (by omega)
   refine h2 k ak t v hDk hak hc hd ?_
   have e := zu hf hm (t := t) (i - (k + 1)) (k + 1) (by omega) (fun k' o hk1 hk2 ho hd' => hok.dst k' k o ak t (by omega) ho hak hd hd')
   rw [show k + 1 + (i - (k + 1)) = i from by omega] at e
   rw [<- e]; exact hget
 · refine h1 t v (fun k ak hDk hak hd => ?_) ?_
   · by_cases hki : k < i
     · exact hk ⟨k, ak, hki, hak, hd⟩
     · have hne : k ≠ i := fun e => hDi (e ▸ hDk)
       have := hok.rd i k ai ak t hne hi hak hd hmem
       rw [if_neg hki] at this
       exact hDi (hbefD k i hDk this)
   · have e := zu hf hm (t := t) i 0 (by omega) (fun k o _ hk2 ho hd => hk ⟨k, o, by omega, ho, hd⟩)
     rw [Nat.zero_add] at e
     rw [<- e]; exact hget
theorem adv {D : Nat -> Prop} {a a' : Act} {i q q' : Nat} {ai : AOper} {pd : Nat -> Nat} (hok : DOK anc ops.toList aos) (hi : aos[i]? = some ai) (hDi : ¬ D i)
   (hinv : Qe5 G N anc aos f μ0 S0 w0 q D a w μ S pd)
   (hq' : (isE ai.op = false /\ q' = q) ∨ (isE ai.op = true /\ q = i /\ q' = i + 1))
   (hfr : Frm μ S w (f q).heap μ' S' w' (f q').heap) (hg : Good μ' S' w' (f q').heap) (hG : GlobOK S' w' G) (hsz : a'.tmps.size = N) (hdef : DefRep S' w' μ' (f q').defers a'.defers)
   (hsame : ∀ t, ai.dst ≠ some t -> a'.tmps.getD t undef = a.tmps.getD t undef)
   (hnew : ∀ t v, ai.dst = some t -> (f (i + 1)).env.get t = some v -> Rep S' w' μ' v (a'.tmps.getD t undef)) :
   Qe5 G N anc aos f μ0 S0 w0 q' (fun k => D k ∨ k = i) a' w' μ' S' pd := by
 obtain ⟨hq1, hq2, _, _, _, _, hfr0, h1, h2, hp, hd⟩ := hinv
 have hpk : ∀ (k : Nat) (ak : AOper), (D k ∨ k = i) -> aos[k]? = some ak -> q' <= k -> isE ak.op = true -> D k /\ q <= k /\ k ≠ i := by
   intro k ak hD hk hle hEk
   have hne : k ≠ i := by
     rintro rfl
     rw [hi] at hk
     obtain rfl := Option.some.inj hk
     rcases hq' with ⟨hn, _⟩ | ⟨_, _, rfl⟩
     · rw [hn] at hEk; cases hEk
     · omega
   refine ⟨hD.resolve_right hne, ?_, hne⟩
   rcases hq' with ⟨_, rfl⟩ | ⟨_, rfl, rfl⟩ <;> omega
 refine ⟨?_, ?_, hg, hG, hsz, hdef, hfr0.trans hfr, ?_, ?_, ?_, ?_⟩
 · intro k ak hk hEk hlt
   rcases hq' with ⟨_, rfl⟩ | ⟨_, rfl, rfl⟩
   · exact .inl (hq1 k ak hk hEk hlt)
   · by_cases hkq : k = q
     · exact .inr hkq
     · exact .inl (hq1 k ak hk hEk (by omega))
 · intro k ak hk hEk hD
   by_cases hki : k = i
   · subst hki
     rw [hi] at hk
     obtain rfl := Option.some.inj hk
     rcases hq' with ⟨hn, _⟩ | ⟨_, _, rfl⟩
     · rw [hn] at hEk; cases hEk
     · exact .inl (Nat.lt_succ_self _)
   · refine (hq2 k ak hk hEk (hD.resolve_right hki)).imp (fun h => ?_) id
     rcases hq' with ⟨_, rfl⟩ | ⟨_, rfl, rfl⟩ <;> omega
 · intro t v hno hv
   have hne : ai.dst ≠ some t := hno i ai (.inr rfl) hi
   rw [hsame t hne]
   exact (h1 t v (fun k ak hD hak => hno k ak (.inl hD) hak) hv).mono hfr.keepS hfr.mu
 · intro k ak t v hD hak hc hd' hv
   by_cases hki : k = i
   · subst hki
     rw [hi] at hak
     obtain rfl := Option.some.inj hak
     exact hnew t v hd' hv
   · have hne : ai.dst ≠ some t := hok.dst i k ai ak t hki hi hak hd'
     rw [hsame t hne]
     refine (h2 k ak t v (hD.resolve_right hki) hak ?_ hd' hv).mono hfr.keepS hfr.mu
     cases hEk : isE ak.op with
     | false => exact .inr rfl
     | true =>
       rcases hc with hc | hc
       · left
         rcases hq' with ⟨_, rfl⟩ | ⟨_, rfl, rfl⟩ <;> omega
       · rw [hEk] at hc; cases hc
 · intro k ak hD hak hle hEk
   obtain ⟨hDk, hlq, hne⟩ := hpk k ak hD hak hle hEk
   exact (hp k ak hDk hak hlq hEk).frm hfr fun t ht => hsame t (hok.dst i k ai ak t hne hi hak ht)
 · intro k k' ak ak' hD hD' hk hk' hl hl' hE hE' he
   obtain ⟨d1, l1, _⟩ := hpk k ak hD hk hl hE
   obtain ⟨d2, l2, _⟩ := hpk k' ak' hD' hk' hl' hE'
   exact hd k k' ak ak' d1 d2 hk hk' l1 l2 hE hE' he
theorem Qtg {D : Nat -> Prop} {a a' : Act} {i q t ty : Nat} {ai : AOper} {z : List AV} {pd : Nat -> Nat} {vs : Array Value} (hok : DOK anc ops.toList aos) (hi : aos[i]? = some ai) (hDi : ¬ D i)
   (hinv : Qe5 G N anc aos f μ0 S0 w0 q D a w μ S pd) (hfree : F5 anc aos i = true) (hop : ai.op = .alloc ty z) (hdst : ai.dst = some t)
   (hz : ∀ (S : Nat -> Nat -> Prop) (w : World) (μ : Nat -> Nat -> Option (Nat × Nat)), RepL S w μ z vs.toList) (hone : ∀ x ∈ vs.toList, one x = true)
   (hsz : a'.tmps.size = N) (hdef : a'.defers = a.defers)
   (hsame : ∀ t, ai.dst ≠ some t -> a'.tmps.getD t undef = a.tmps.getD t undef) (hval : a'.tmps.getD t undef = .pointer (some ⟨w.heap.size, 0, none⟩)) :
   Qe5 G N anc aos f μ0 S0 w0 q (fun k => D k ∨ k = i) a' (w.alloc (.cells vs ty (0, 0))) μ S (fun k => if k = i then w.heap.size else pd k) := by
 obtain ⟨hq1, hq2, hg, hG, _, hdf, hfr0, h1, h2, hp, hd⟩ := hinv
 obtain ⟨hg', hfr⟩ := ju hg ((Below.refl w.heap.size w).alloc (Nat.le_refl _) (.cells vs ty (0, 0)))
 have hEi : isE ai.op = true := by rw [hop]; rfl
 have hqi : q <= i := by
   rcases Nat.lt_or_ge i q with h | h
   · exact absurd (hq1 i ai hi hEi h) hDi
   · exact h
 refine ⟨fun k ak hk hEk hlt => .inl (hq1 k ak hk hEk hlt), ?_, hg', hG.mono hfr.keepS, hsz, by rw [hdef]; exact hdf.mono hfr.keepS hfr.mu, hfr0.trans hfr, ?_, ?_, ?_, ?_⟩
 · intro k ak hk hEk hD
   rcases hD with hD | rfl
   · exact hq2 k ak hk hEk hD
   · exact .inr hfree
 · intro t v hno hv
   have hne : ai.dst ≠ some t := hno i ai (.inr rfl) hi
   rw [hsame t hne]
   exact (h1 t v (fun k ak hD hak => hno k ak (.inl hD) hak) hv).mono hfr.keepS hfr.mu
 · intro k ak t v hD hak hc hd' hv
   have hki : k ≠ i := by
     rintro rfl
     rw [hi] at hak
     obtain rfl := Option.some.inj hak
     rcases hc with h | h
     · omega
     · rw [hEi] at h; cases h
   have hne : ai.dst ≠ some t := hok.dst i k ai ak t hki hi hak hd'
   rw [hsame t hne]
   exact (h2 k ak t v (hD.resolve_right hki) hak hc hd' hv).mono hfr.keepS hfr.mu
 · intro k ak hD hak hle hEk
   by_cases hki : k = i
   · subst hki
     rw [hi] at hak
     obtain rfl := Option.some.inj hak
     dsimp only
     rw [if_pos rfl]
     refine ⟨z, t, vs, ty, hop, hdst, hval, Lx _ _, hz, hone, hfr0.size, ?_, fun o hs => ?_⟩
     · rintro ⟨id, o, n, g1, g2, g3⟩
       obtain ⟨_, _, _, hx⟩ := hg.old _ _ _ g3
       simp at hx
     · have := hg.sb _ _ hs
       omega
   · dsimp only
     rw [if_neg hki]
     exact (hp k ak (hD.resolve_right hki) hak hle hEk).frm hfr fun t ht => hsame t (hok.dst i k ai ak t hki hi hak ht)
 · intro k k' ak ak' hD hD' hk hk' hl hl' hE hE' he
   dsimp only at he
   by_cases hki : k = i <;> by_cases hki' : k' = i
   · rw [hki, hki']
   · rw [if_pos hki, if_neg hki'] at he
     have := (hp k' ak' (hD'.resolve_right hki') hk' hl' hE').lt
     omega
   · rw [if_neg hki, if_pos hki'] at he
     have := (hp k ak (hD.resolve_right hki) hk hl hE).lt
     omega
   · rw [if_neg hki, if_neg hki'] at he
     exact hd k k' ak ak' (hD.resolve_right hki) (hD'.resolve_right hki') hk hk' hl hl' hE hE' he
theorem semI {r : Option Nat} {o : Oper} {ao : AOper} (h : COperI P G N ops o ao) (hc : isE ao.op = false ∨ r = none ∨ ao.calm = true) (M : Operand -> Value) : o.semAt r M = execOp M o := by
 obtain ⟨ao0, h0, h1⟩ := h
 obtain ⟨hcop, _, _⟩ := xz h0
 rcases hc with hc | hc
 · refine Oper.semAt_eq _ _ _ fun c ho => ?_
   obtain ⟨f, as, hd⟩ := j8 hcop ho
   rcases h1 with rfl | rfl
   · rw [hd] at hc; cases hc
   · simp [imO, imOp, hd, isE] at hc
 · refine Qkv hcop (hc.imp id fun hc => ?_) M
   rcases h1 with rfl | rfl
   · exact hc
   · obtain ⟨dst, op, gd⟩ := ao0
     cases op <;> first | rfl | exact hc
theorem Qol {r : Option Nat} {n : Nat} (hcalm : r = none ∨ aos.all AOper.calm = true) (hC : Pf P G C) (hcs : Qe3 P G N ops aos) (hf : ∀ k o, aos[k]? = some o -> k < m -> Fact C rds wrs k o (f k) (f (k + 1))) (hm : m <= aos.length)
   (hok : DOK anc ops.toList aos) (hrw : ∀ i id j len wr, (i, id) ∈ rds -> (j, len, wr) ∈ wrs -> (bef anc j i = true ∨ bef anc i j = true ∨ (id < len /\ id ∉ wr)) /\
     (j < i -> F5 anc aos j = true -> (id < len /\ id ∉ wr) ∨ ∃ k ak, aos[k]? = some ak /\ j < k /\ isE ak.op = true /\ F5 anc aos k = false /\ bef anc k i = true))
   {D : Nat -> Prop} {a : Act} {i : Nat} {ai : AOper} (hi : aos[i]? = some ai) (him : i < m) (hDi : ¬ D i)
   (hbef : ∀ j, bef anc j i = true -> D j) (hbefD : ∀ k j, D k -> bef anc j k = true -> D j) (hlt : ∀ (j k : Nat) (ak : AOper), aos[k]? = some ak -> bef anc j k = true -> j < k)
   (hinv : DInv G N anc aos f m μ0 S0 w0 D a w) {Q : Exit -> Act -> World -> Prop} {K : Act -> World -> Prop}
   (hK : ∀ a' w', DInv G N anc aos f m μ0 S0 w0 (fun k => D k ∨ k = i) a' w' -> K a' w') : wpOpIn (FR r) n P ops Q i K a w := by
 obtain ⟨q, hqm, μ, S, pd, hinv⟩ := hinv
 obtain ⟨hlen, hops⟩ := (show _ /\ _ from hcs)
 have hilt : i < ops.toList.length := by rw [<- hlen]; exact (List.getElem?_eq_some_iff.1 hi).1
 obtain ⟨ai', hai', hco⟩ := hops i ops.toList[i] (by simp)
 rw [hi] at hai'
 obtain rfl := Option.some.inj hai'
 generalize ho : ops.toList[i] = o at hco
 have hoi : ops[i]? = some o := by rw [<- ho]; simp at hilt ⊢
 have hcalm1 : r = none ∨ ai.calm = true := hcalm.imp id fun h => List.all_eq_true.1 h _ (List.mem_of_getElem? hi)
 have hsem : o.semAt (FR r).round a.eval = execOp a.eval o := semI hco (.inr hcalm1) a.eval
 obtain ⟨hcopI, hdst, hdN⟩ := hco.op
 cases hE : isE ai.op with
 | false =>
   have hinv' := hinv
   obtain ⟨hq1, hq2, hg, hG, hsz, hdef, hfr0, h1, h2, hp, hd⟩ := hinv
   have henv := Qql hf hm hok hi (Nat.le_of_lt him) hDi hbef hbefD hq2 (fun h => by rw [hE] at h; cases h.1) h1 h2
   have plain : ∀ (c : Value) (v : AV) (w' : World) (S' : Nat -> Nat -> Prop), Good μ S' w' (f q).heap -> Frm μ S w (f q).heap μ S' w' (f q).heap -> Rep S' w' μ v c -> (f (i + 1)).env = putE (f i).env ai.dst v -> K (a.put o.dst c) w' := by
     intro c v w' S' hg' hfr' hr hev
     refine hK _ _ ⟨q, hqm, μ, S', pd, adv (q' := q) hok hi hDi hinv' (.inl ⟨hE, rfl⟩) hfr' hg' (hG.mono hfr'.keepS) (Qd8 hsz) (by rw [qt]; exact hdef.mono hfr'.keepS hfr'.mu) (fun t ht => Qff (by rw [<- hdst]; exact ht)) fun t u hd hu => ?_⟩
     rw [hev, hd] at hu
     simp only [putE, Env.get_cons, if_true, Option.some.injEq] at hu
     subst hu
     rw [<- hdst, hd, Qiq hsz (by rw [<- hdst, hd] at hdN; simpa [Qcj] using hdN)]
     exact hr
   rcases hf i ai hi him with ⟨hw, hs⟩ | ⟨hw, _, v, oid, hst, hs, hrd⟩ | ⟨_, hE', _⟩
   · have hwan := hco.wanted henv hw
     simp only [wpOpIn, hoi, hwan]
     simp only [Bool.false_eq_true, if_false]
     refine ⟨fun _ _ => trivial, ?_⟩
     exact plain undef (.p .undef) w S hg (.refl _ _ _ _) (.p .undef) (by rw [hs])
   · have hwan := hco.wanted henv hw
     have hsame : ∀ id, oid = some id -> (f q).heap[id]? = (f i).heap[id]? := by
       intro id hid
       have hin := hrd id hid
       rcases Nat.le_total q i with hqi | hqi
       · have := Qj0 hC.2 hf hm (id := id) (i - q) q (by omega) (fun k ak hk1 hk2 hak hEk len wr hmem => by
           obtain ⟨r1, r2⟩ := hrw i id k len wr hin hmem
           by_cases hDk : D k
           · have hfk : F5 anc aos k = true := by
               rcases hq2 k ak hak hEk hDk with h | h
               · omega
               · exact h
             rcases r2 (by omega) hfk with h | ⟨j, aj, haj, hkj, hEj, hfj, hb⟩
             · exact h
             · rcases hq2 j aj haj hEj (hbef j hb) with h | h
               · omega
               · rw [hfj] at h; cases h
           · rcases r1 with h | h | h
             · exact absurd (hbef k h) hDk
             · have := hlt i k ak hak h; omega
             · exact h)
         rw [show q + (i - q) = i from by omega] at this
         exact this.symm
       · have := Qj0 hC.2 hf hm (id := id) (q - i) i (by omega) (fun k ak hk1 hk2 hak hEk len wr hmem => by
           have hDk : D k := hq1 k ak hak hEk (by omega)
           rcases (hrw i id k len wr hin hmem).1 with h | h | h
           · have := hlt k i ai hi h; omega
           · exact absurd (hbefD k i hDk h) hDi
           · exact h)
         rw [show i + (q - i) = q from by omega] at this
         exact this
     obtain ⟨c, w', S', hrun, hrep, hg', hfr'⟩ := Qg4 henv hG hg hcopI hst hsame
     simp only [wpOpIn, hoi, hwan, if_true]
     unfold Oper.wpIn
     rw [hsem]
     refine ⟨fun _ _ => trivial, ?_⟩
     simp only [hrun, Oper.uponIn_value]
     exact plain c v w' S' hg' hfr' hrep (by rw [hs])
   · rw [hE] at hE'; cases hE'
 | true =>
   have hco := hco.E hE
   obtain ⟨hcop, _, _⟩ := xz hco
   cases hfi : F5 anc aos i with
   | true =>
     obtain ⟨ak, tyo, z, t, hak, hop, hgd, hdst'⟩ := Qav hfi
     rw [hi] at hak
     obtain rfl := Option.some.inj hak
     have hsz : a.tmps.size = N := hinv.2.2.2.2.1
     have hwan := Wb (M := []) (b := true) (S := S) (w := w) (μ := μ) (tmps := a.tmps) (fun t v h => by simp [Env.get] at h) hco (by rw [hgd]; rfl)
     rw [hop] at hcop
     have halloc : ∃ i0 c, o.op = .alloc tyo /\ P.info? tyo = some i0 /\ i0.zero = some c /\ (∀ (S : Nat -> Nat -> Prop) (w : World) (μ : Nat -> Nat -> Option (Nat × Nat)), RepL S w μ z c.cells.toList) /\ ∀ x ∈ c.cells.toList, one x = true := by
       generalize o.op = op at hcop
       cases op <;> simp only [cOp] at hcop
       case alloc ty =>
         simp only [Option.map_eq_some_iff] at hcop
         obtain ⟨z', hz, hz'⟩ := hcop
         cases hz'
         obtain ⟨i0, c, e1, e2, e3, e4⟩ := xw hz S w μ
         refine ⟨i0, c, rfl, e1, e2, fun S' w' μ' => ?_, e4⟩
         obtain ⟨i1, c1, k1, k2, k3, _⟩ := xw hz S' w' μ'
         rw [e1] at k1
         obtain rfl := Option.some.inj k1
         rw [e2] at k2
         obtain rfl := Option.some.inj k2
         exact k3
       all_goals exact absurd hcop (by repeat' (first | contradiction | split | simp | unfold L2))
     obtain ⟨i0, c, hoop, e1, e2, e3, e4⟩ := halloc
     have hrun : (execOp a.eval o).run P w = .ok (.value (.pointer (some ⟨w.heap.size, 0, none⟩))) (w.alloc (.cells c.cells tyo (0, 0))) := by
       obtain ⟨_, op, _, _, _, _⟩ := o
       simp only at hoop
       subst hoop
       simp [execOp, Instr.alloc, zeroValue, typeInfo, e1, e2, newVar, newRow]
     simp only [wpOpIn, hoi, hwan, if_true]
     unfold Oper.wpIn
     rw [hsem]
     refine ⟨fun _ _ => trivial, ?_⟩
     simp only [hrun, Oper.uponIn_value]
     refine hK _ _ ⟨q, hqm, μ, S, _, Qtg hok hi hDi hinv hfi hop hdst' e3 e4 (Qd8 hsz) qt (fun t ht => Qff (by rw [<- hdst]; exact ht)) ?_⟩
     rw [<- hdst, hdst']
     exact Qiq hsz (by rw [<- hdst, hdst'] at hdN; simpa [Qcj] using hdN)
   | false =>
     have hbE : ∀ (k : Nat) (ak : AOper), aos[k]? = some ak -> isE ak.op = true -> k < i -> D k := by
       intro k ak hak hEk hki
       have := hok.ee i k ai ak (by omega) hi hak hE hEk
       rw [if_pos hki, hfi] at this
       exact hbef k (this.resolve_right (by simp))
     have hqi : q <= i := by
       rcases Nat.lt_or_ge i q with h | h
       · exact absurd (hinv.1 i ai hi hE h) hDi
       · exact h
     obtain ⟨μ1, hinv1⟩ := Qld hf hm (i - q) q μ (by omega) (fun k ak hk hEk _ hlt => hbE k ak hk hEk (by omega)) hinv
     rw [show q + (i - q) = i from by omega] at hinv1
     have hinv' := hinv1
     obtain ⟨hq1, hq2, hg, hG, hsz, hdef, hfr0, h1, h2, hp, hd⟩ := hinv1
     have henv := Qql hf hm hok hi (Nat.le_of_lt him) hDi hbef hbefD hq2 (fun _ => rfl) h1 h2
     rcases hf i ai hi him with ⟨hw, hs⟩ | ⟨_, hE', _⟩ | ⟨hw, _, st1, hr, hs, hwr⟩
     · have hwan := Wb henv hco hw
       simp only [wpOpIn, hoi, hwan]
       simp only [Bool.false_eq_true, if_false]
       refine ⟨fun _ _ => trivial, ?_⟩
       refine hK _ _ ⟨i + 1, him, μ1, S, pd, adv (q' := i + 1) hok hi hDi hinv' (.inr ⟨hE, rfl, rfl⟩) ?_ ?_ hG (Qd8 hsz) ?_ (fun t ht => Qff (by rw [<- hdst]; exact ht)) fun t u hd hu => ?_⟩
       · rw [hs]; exact .refl _ _ _ _
       · rw [hs]; exact hg
       · rw [qt, hs]; exact hdef
       · rw [hs, hd] at hu
         simp only [putE, Env.get_cons, if_true, Option.some.injEq] at hu
         subst hu
         rw [<- hdst, hd, Qiq hsz (by rw [<- hdst, hd] at hdN; simpa [Qcj] using hdN)]
         exact .p .undef
     · rw [hE] at hE'; cases hE'
     · have hst : StOK G N μ1 S w { f i with env := B4 (f i).env (Yw ai) } a := ⟨henv, hG, hg, hsz, hdef⟩
       have hrun := S9 (r := r) (n := n) hC [i] [ai] (hcalm1.imp id fun h => by simp [h]) (fun k j hk => by
         cases k with
         | zero =>
           simp at hk
           subst hk
           exact ⟨o, ai, hoi, rfl, hco⟩
         | succ k => simp at hk) rfl _ _ _ hr a w μ1 S hst
       rw [wpOpsIn_cons] at hrun
       refine Vg hoi ?_ ?_ hrun
       · intro a' w' hp hsm
         obtain ⟨μ', S', _, hst1, hfr⟩ := hp
         refine hK _ _ ⟨i + 1, him, μ', S', pd, adv (q' := i + 1) hok hi hDi hinv' (.inr ⟨hE, rfl, rfl⟩) ?_ ?_ hst1.glob hst1.size ?_ (fun t ht => hsm t (by rw [<- hdst]; exact ht)) ?_⟩
         · rw [hs]; exact hfr
         · rw [hs]; exact hst1.good
         · rw [hs]; exact hst1.defers
         · intro t v hd hv
           rw [hs] at hv
           simp only [Sp, hd] at hv
           split at hv
           · rename_i u hu
             rw [Env.get_cons, if_pos rfl] at hv
             obtain rfl := Option.some.inj hv
             exact hst1.env t _ hu
           · rw [Env.get_cons, if_pos rfl] at hv
             obtain rfl := Option.some.inj hv
             exact .dead _
       · intro e a' w' hne hp _
         obtain ⟨μ', S', hex, _⟩ := hp
         cases e <;> first | exact absurd rfl hne | exact hex.elim
end
end Go.Ab
namespace Go.Ab
variable [Q4]
variable {S S' : Nat -> Nat -> Prop} {w w' w1 : World} {μ μ' : Nat -> Nat -> Option (Nat × Nat)} {P : Program} {G : Bx} {σ σ' : Heap}
theorem Qqw {M : Env} {l : List Nat} {t : Nat} {v : AV} (h : (Qig M l).get t = some v) : t ∉ l /\ M.get t = some v := by
 induction M with
 | nil => simp [Qig, Env.get] at h
 | cons x r ih =>
   obtain ⟨k, u⟩ := x
   simp only [Qig] at h
   rw [Env.get_cons]
   split at h
   · rename_i hc
     obtain ⟨h1, h2⟩ := ih h
     refine ⟨h1, ?_⟩
     rw [if_neg]
     · exact h2
     · rintro rfl
       exact h1 (by simpa using hc)
   · rename_i hc
     rw [Env.get_cons] at h
     split at h
     · rename_i hk
       subst hk
       exact ⟨by simpa using hc, by simpa using h⟩
     · rename_i hk
       obtain ⟨h1, h2⟩ := ih h
       exact ⟨h1, by rw [if_neg hk]; exact h2⟩
theorem Qst {aos : List AOper} {k d : Nat} {ao : AOper} (h : aos[k]? = some ao) (hd : ao.dst = some d) : d ∈ dsts aos := by
 induction aos generalizing k with
 | nil => simp at h
 | cons x r ih =>
   cases k with
   | zero =>
     simp only [List.getElem?_cons_zero, Option.some.injEq] at h
     subst h
     simp [dsts, hd]
   | succ k =>
     have := ih (by simpa using h)
     simp only [dsts]
     split
     · exact List.mem_cons_of_mem _ this
     · exact this
theorem Qmz (hg : Good μ S w σ) : Good μ S { w with drawn := w.drawn + 1 } σ := by
 have hrep : ∀ {v : AV} {c : Value}, Rep S w μ v c -> Rep S { w with drawn := w.drawn + 1 } μ v c := fun h => Rep.mono (S := S) (S' := S) (w := w) (w' := { w with drawn := w.drawn + 1 }) (μ := μ) (μ' := μ) (fun b o hs => ⟨hs, rfl⟩) (fun _ _ _ h => h) h
 refine ⟨fun id o ho => ?_, hg.inj, hg.old, hg.sb⟩
 have := hg.obj id o ho
 cases o with
 | arr c ver wm ty =>
   obtain ⟨b, n, h1, vs, e, lo, hi, h2, h3, h4, h5, h6, h7⟩ := this
   exact ⟨b, n, h1, vs, e, lo, hi, h2, h3, h4, fun j v hv => let ⟨cv, q1, q2, q3⟩ := h5 j v hv; ⟨cv, q1, q2, hrep q3⟩, h6, h7⟩
 | iter s pos => exact this
 | loop k ts c st =>
   obtain ⟨b, n, rec, h1, h2, h3, h4, h5⟩ := this
   exact ⟨b, n, rec, h1, h2, h3, h4, fun j t v ht hj => hrep (h5 j t v ht hj)⟩
 | mark => exact this
 | none => trivial
theorem Qdl {r : Option Nat} {n : Nat} {N : Nat} {C : Zj} (hC : Pf P G C) {ops : Array Oper} {aos : List AOper} (hcs : Qe3 P G N ops aos) (hcalm : r = none ∨ aos.all AOper.calm = true)
   (hmix : (P.follows .mixedOrders || !Region.departs ops) = true) (hdr : Qha (Ip ops.toList []) ops.toList aos = true)
   {st st' : St} {ex : AExit} (h : xh C ops.size (Ip ops.toList []) aos st = some (ex, st')) {id : Nat} {a : Act} (hst : StOK G N μ S w st a) :
   (Code.region id ops true).wpIn (FR r) n P (Post G N μ S w st.heap ex st') a w := by
 refine wpIn_region_draw fun t => ?_
 have hsch : Region.schedule (P.follows .mixedOrders) ops t = Region.linearise .any ops t := by
   unfold Region.schedule
   rw [if_pos hmix]
 rw [hsch]
 refine wpAnyIn_sound ops.size t (Array.replicate ops.size false) a _ ?_
 obtain ⟨hlen, hops⟩ := (show _ /\ _ from hcs)
 have hlen : aos.length = ops.size := by rw [hlen]; simp
 have hok := Qjb hdr
 have hoi : ∀ (k : Nat) o, ops.toList[k]? = some o ↔ ops[k]? = some o := fun k o => by rw [Array.getElem?_toList]
 have key : ∃ (s : Tr) (f : Nat -> St) (m : Nat), m <= aos.length /\ f 0 = st /\ (∀ k o, aos[k]? = some o -> k < m -> Fact C s.rds s.wrs k o (f k) (f (k + 1))) /\ okRW (Ip ops.toList []) aos s = true /\
     ((m = aos.length /\ ex = .normal /\ st' = f m) ∨
      (∃ v ao st1, aos[m]? = some ao /\ Hv ao.guard (B4 (f m).env (Yw ao)) = some true /\ isE ao.op = true /\ Me C [ao] { f m with env := B4 (f m).env (Yw ao) } = some (.pan v, st1) /\
       ex = .pan v /\ st' = { st1 with env := Qig st.env (dsts aos) } /\ ∀ k, m < k -> k < ops.size -> bef (Ip ops.toList []) m k = true)) := by
   unfold xh at h
   split at h
   · rename_i s hr
     split at h
     · rename_i hrw
       simp only [Option.some.injEq, Prod.mk.injEq] at h
       obtain ⟨rfl, rfl⟩ := h
       obtain ⟨_, _, f, k, h1, h2, h3, h4⟩ := Vc _ _ _ _ _ hr
       rcases h4 with ⟨_, rfl, h5⟩ | ⟨v, o, h5, _⟩
       · refine ⟨s, f, aos.length, Nat.le_refl _, h1, fun k o hk hlt => ?_, hrw, .inl ⟨rfl, rfl, by rw [h5, Nat.zero_add]⟩⟩
         have := h3 k o hk hlt
         rwa [Nat.zero_add] at this
       · cases h5
     · cases h
   · rename_i p v s hr
     split at h
     · rename_i hrw
       simp only [Bool.and_eq_true] at hrw
       simp only [Option.some.injEq, Prod.mk.injEq] at h
       obtain ⟨rfl, rfl⟩ := h
       obtain ⟨_, _, f, k, h1, h2, h3, h4⟩ := Vc _ _ _ _ _ hr
       rcases h4 with ⟨h5, _⟩ | ⟨v', o, h5, h6, h7, h8, h9⟩
       · cases h5
       · simp only [Nat.zero_add, Option.some.injEq, Prod.mk.injEq] at h5 h7 h9
         obtain ⟨rfl, rfl⟩ := h5
         refine ⟨s, f, p, h2, h1, fun k o hk hlt => ?_, hrw.1, .inr ⟨v, o, s.st, h6, h7, h8, h9, rfl, rfl, fun k hk hkn => ?_⟩⟩
         · have := h3 k o hk hlt
           rwa [Nat.zero_add] at this
         · have := hrw.2
           simp only [Qvm, List.all_eq_true, List.mem_range, Bool.or_eq_true, decide_eq_true_eq] at this
           rcases this k hkn with h | h
           · omega
           · exact h
     · cases h
   · cases h
 clear h
 obtain ⟨s, f, m, hm, hf0, hf, hrw, hend⟩ := key
 have hbd := @Qtq _ ops.toList aos hok
 have hlt : ∀ (j k : Nat) (ak : AOper), aos[k]? = some ak -> bef (Ip ops.toList []) j k = true -> j < k := by
   intro j k ak hk hb
   obtain ⟨o, ho, hd⟩ := hok.has k ak hk
   refine hbd (D := fun x => x < k) (fun x o' hx ho' y hy => ?_) k ak o hk ho (fun j hj => hd j hj) j hb
   have hxl : x < aos.length := Nat.lt_trans hx (List.getElem?_eq_some_iff.1 hk).1
   obtain ⟨o2, ho2, hd2⟩ := hok.has x aos[x] (by simp [hxl])
   rw [ho'] at ho2
   obtain rfl := Option.some.inj ho2
   exact Nat.lt_trans (hd2 y hy) hx
 have fin : ∀ (D : Nat -> Prop) (a1 : Act) (w2 : World), (∀ k, k < aos.length -> D k) -> (∀ k, D k -> k < m) -> DInv G N (Ip ops.toList []) aos f m μ S w D a1 w2 -> Post G N μ S w st.heap ex st' .normal a1 w2 := by
   intro D a1 w2 hall hDm ⟨q, hqm, μ1, S1, pd, hinv⟩
   rcases hend with ⟨hmn, rfl, rfl⟩ | ⟨v, ao, st1, hao, _⟩
   · obtain ⟨μ2, hinv2⟩ := Qld hf hm (m - q) q μ1 (by omega) (fun k ak hk _ _ _ => hall k (List.getElem?_eq_some_iff.1 hk).1) hinv
     rw [show q + (m - q) = m from by omega] at hinv2
     obtain ⟨_, _, hg, hG, hsz, hdef, hfr, h1, h2, _, _⟩ := hinv2
     refine ⟨μ2, S1, trivial, ⟨?_, hG, hg, hsz, hdef⟩, by rw [<- hf0]; exact hfr⟩
     intro t v hv
     by_cases hk : ∃ (k : Nat) (ak : AOper), aos[k]? = some ak /\ ak.dst = some t
     · obtain ⟨k, ak, hak, hd⟩ := hk
       have hkl : k < aos.length := (List.getElem?_eq_some_iff.1 hak).1
       refine h2 k ak t v (hall k hkl) hak (.inl (by omega)) hd ?_
       have e := zu hf hm (t := t) (m - (k + 1)) (k + 1) (by omega) (fun k' o hk1 hk2 ho hd' => hok.dst k' k o ak t (by omega) ho hak hd hd')
       rw [show k + 1 + (m - (k + 1)) = m from by omega] at e
       rw [<- e]; exact hv
     · refine h1 t v (fun k ak _ hak hd => hk ⟨k, ak, hak, hd⟩) ?_
       have e := zu hf hm (t := t) m 0 (by omega) (fun k o _ _ ho hd => hk ⟨k, o, ho, hd⟩)
       rw [Nat.zero_add] at e
       rw [<- e]; exact hv
   · have hml : m < aos.length := (List.getElem?_eq_some_iff.1 hao).1
     have := hDm m (hall m hml)
     omega
 have main : ∀ (fuel : Nat) (listed : Array Bool) (a1 : Act) (w2 : World), listed.size = ops.size -> (∀ (k : Nat) (o : Oper), listed.getD k false = true -> ops.toList[k]? = some o -> ∀ j ∈ Ui o, listed.getD j false = true) ->
     (∀ (k : Nat), listed.getD k false = true -> k < m) -> DInv G N (Ip ops.toList []) aos f m μ S w (fun k => listed.getD k false = true) a1 w2 ->
     ((List.range ops.size).filter fun k => !listed.getD k false).length <= fuel -> wpAnyIn (FR r) n P .any ops (Post G N μ S w st.heap ex st') fuel listed a1 w2 := by
   intro fuel
   induction fuel with
   | zero =>
     intro listed a1 w2 hsz hcl hDm hinv hcount
     have hall : ∀ k, k < ops.size -> listed.getD k false = true := by
       intro k hk
       have h0 : (List.range ops.size).filter (fun k => !listed.getD k false) = [] := by
         apply List.eq_nil_of_length_eq_zero; omega
       rw [List.filter_eq_nil_iff] at h0
       have := h0 k (List.mem_range.2 hk)
       simpa using this
     refine ⟨?_, fin _ a1 w2 (fun k hk => hall k (by omega)) hDm hinv⟩
     cases hr : Region.ready .any ops listed with
     | nil => rfl
     | cons x xs =>
       have hx : x ∈ Region.ready .any ops listed := by rw [hr]; exact List.mem_cons_self ..
       rw [mem_ready] at hx
       obtain ⟨h0, o, ho, _⟩ := hx
       have hxl : x < ops.size := (Array.getElem?_eq_some_iff.1 ho).1
       have := hall x hxl
       have hxs : x < listed.size := by omega
       simp [hxs] at h0 this
       rw [h0] at this; cases this
   | succ fuel ih =>
     intro listed a1 w2 hsz hcl hDm hinv hcount
     constructor
     · intro hr
       refine fin _ a1 w2 (fun k hk => ?_) hDm hinv
       induction k using Nat.strongRecOn with
       | _ k ihk =>
         obtain ⟨o, ho, hd⟩ := hok.has k aos[k] (by simp [hk])
         cases hlk : listed.getD k false with
         | true => rfl
         | false =>
           have hks : k < listed.size := by omega
           have : k ∈ Region.ready .any ops listed := by
             rw [mem_ready]
             refine ⟨by simp [hks] at hlk ⊢; exact hlk, o, (hoi k o).1 ho, fun e he hb => ?_⟩
             have hmem : e.on ∈ Ui o := by
               unfold Ui
               refine List.mem_map.2 ⟨e, List.mem_filter.2 ⟨by simpa using he, hb⟩, rfl⟩
             exact ihk e.on (hd _ hmem) (Nat.lt_trans (hd _ hmem) hk)
           rw [hr] at this
           cases this
     · intro i hi
       rw [mem_ready] at hi
       obtain ⟨h0, o, ho, haft⟩ := hi
       have hio : i < ops.size := (Array.getElem?_eq_some_iff.1 ho).1
       have his : i < listed.size := by omega
       have hil : i < aos.length := by omega
       have hDi : ¬ listed.getD i false = true := by simp [his] at h0 ⊢; exact h0
       have hai : aos[i]? = some aos[i] := by simp [hil]
       have hdir : ∀ j ∈ Ui o, listed.getD j false = true := by
         intro j hj
         unfold Ui at hj
         obtain ⟨e, he, rfl⟩ := List.mem_map.1 hj
         obtain ⟨he1, he2⟩ := List.mem_filter.1 he
         exact haft e (by simpa using he1) he2
       have hbef : ∀ j, bef (Ip ops.toList []) j i = true -> listed.getD j false = true := hbd (D := fun k => listed.getD k false = true) hcl i aos[i] o hai ((hoi i o).2 ho) hdir
       have hbefD : ∀ (k j : Nat), listed.getD k false = true -> bef (Ip ops.toList []) j k = true -> listed.getD j false = true := by
         intro k j hk hb
         have hkl : k < aos.length := Nat.lt_of_lt_of_le (hDm k hk) hm
         obtain ⟨ok, hok', _⟩ := hok.has k aos[k] (by simp [hkl])
         exact hbd (D := fun k => listed.getD k false = true) hcl k aos[k] ok (by simp [hkl]) hok' (hcl k ok hk hok') j hb
       rcases Nat.lt_or_ge i m with him | him
       · refine Qol hcalm hC hcs hf hm hok (fun i id j len wr h1 h2 => Qoz hrw h1 h2) hai him (D := fun k => listed.getD k false = true) hDi hbef hbefD hlt hinv ?_
         intro a' w' hinv'
         have hset : ∀ k, (listed.setIfInBounds i true).getD k false = true ↔ (listed.getD k false = true ∨ k = i) := by
           intro k
           by_cases hki : k = i
           · subst hki; simp [his]
           · rw [getD_set_ne false (Ne.symm hki)]; simp [hki]
         refine ih (listed.setIfInBounds i true) a' w' (by simpa using hsz) ?_ ?_ ?_ ?_
         · intro k ok hk hok' j hj
           rw [hset] at hk ⊢
           rcases hk with hk | rfl
           · exact .inl (hcl k ok hk hok' j hj)
           · rw [hoi] at hok'
             rw [ho] at hok'
             obtain rfl := Option.some.inj hok'
             exact .inl (hdir j hj)
         · intro k hk
           rw [hset] at hk
           rcases hk with hk | rfl
           · exact hDm k hk
           · exact him
         · have : (fun k => (listed.setIfInBounds i true).getD k false = true) = fun k => (listed.getD k false = true ∨ k = i) := funext fun k => propext (hset k)
           rw [this]; exact hinv'
         · have hlt' : ((List.range ops.size).filter fun k => !(listed.setIfInBounds i true).getD k false).length < ((List.range ops.size).filter fun k => !listed.getD k false).length := by
             have hsub : ((List.range ops.size).filter fun k => !(listed.setIfInBounds i true).getD k false) = ((List.range ops.size).filter fun k => !listed.getD k false).filter fun k => !(k == i) := by
               rw [List.filter_filter]
               refine List.filter_congr fun k _ => ?_
               by_cases hki : k = i
               · subst hki; simp [his]
               · rw [getD_set_ne false (Ne.symm hki)]; simp [hki]
             rw [hsub]
             refine List.length_filter_lt_length_iff_exists.2 ⟨i, List.mem_filter.2 ⟨List.mem_range.2 hio, by simpa using hDi⟩, by simp⟩
           omega
       · rcases hend with ⟨hmn, _⟩ | ⟨v, ao, st1, hao, hw, hE, hr, rfl, rfl, hlate⟩
         · omega
         · by_cases hmi : i = m
           · subst hmi
             obtain ⟨q, hqm, μ0, S1, pd, hinv⟩ := hinv
             obtain ⟨o', ho', hco⟩ := hcs.2 i o ((hoi i o).2 ho)
             rw [hao] at ho'
             obtain rfl := Option.some.inj ho'
             have hco := hco.E hE
             have hfi : F5 (Ip ops.toList []) aos i = false := by
               cases hfi : F5 (Ip ops.toList []) aos i with
               | false => rfl
               | true =>
                 exfalso
                 obtain ⟨ak, _, z, t, hak, hop, hgd, hdst'⟩ := Qav hfi
                 rw [hao] at hak
                 obtain rfl := Option.some.inj hak
                 obtain ⟨dst, op, guard⟩ := ao
                 simp only at hop hgd
                 subst hop hgd
                 simp [Me, Hv, yk, G2, Jp] at hr
             obtain ⟨μ1, hinv⟩ := Qld hf hm (i - q) q μ0 (by omega) (fun k ak hk hEk _ hlt2 => by
               have := hok.ee i k ao ak (by omega) hao hk hE hEk
               rw [if_pos (by omega), hfi] at this
               exact hbef k (this.resolve_right (by simp))) hinv
             rw [show q + (i - q) = i from by omega] at hinv
             obtain ⟨hq1, hq2, hg, hG, hsz1, hdef, hfr, h1, h2, _, _⟩ := hinv
             have henv := Qql (w := w2) hf hm hok hao (Nat.le_refl _) (D := fun k => listed.getD k false = true) hDi hbef hbefD hq2 (fun _ => rfl) h1 h2
             have hst1 : StOK G N μ1 S1 w2 { f i with env := B4 (f i).env (Yw ao) } a1 := ⟨henv, hG, hg, hsz1, hdef⟩
             have hrun := S9 (r := r) (n := n) hC [i] [ao] (hcalm.imp_right fun h => by simp [List.all_eq_true.1 h _ (List.mem_of_getElem? hao)]) (fun k j hk => by
               cases k with
               | zero => simp at hk; subst hk; exact ⟨o, ao, ho, rfl, hco⟩
               | succ k => simp at hk) rfl _ _ _ hr a1 w2 μ1 S1 hst1
             rw [wpOpsIn_cons] at hrun
             refine Vg ho ?_ ?_ hrun
             · intro a' w' hp _
               obtain ⟨μ2, S2, hex, _⟩ := hp
               exact hex.elim
             · intro e a' w' hne hp hae
               obtain ⟨μ2, S2, hex, hst2, hfr2⟩ := hp
               have haa : a' = a1 := by
                 rcases hae with h | rfl
                 · exact h
                 · exact hex.elim
               subst haa
               simp only at hfr2
               refine ⟨μ2, S2, hex, ⟨?_, hst2.glob, hst2.good, hst2.size, hst2.defers⟩, ?_⟩
               · intro t u hu
                 obtain ⟨hnot, hu⟩ := Qqw hu
                 refine (h1 t u (fun k ak _ hak hd => hnot (Qst hak hd)) (by rw [hf0]; exact hu)).mono hfr2.keepS hfr2.mu
               · rw [<- hf0]; exact hfr.trans hfr2
           · have := hlate i (by omega) hio
             have := hDm m (hbef m this)
             omega
 refine main ops.size _ a _ (by simp) ?_ ?_ ?_ ?_
 · intro k o hk
   simp [Array.getElem?_replicate] at hk
   split at hk <;> simp at hk
 · intro k hk
   simp [Array.getElem?_replicate] at hk
   split at hk <;> simp at hk
 · have hfr : Frm μ S w (f 0).heap μ S { w with drawn := w.drawn + 1 } (f 0).heap := ⟨rfl, rfl, rfl, Nat.le_refl _, fun b o h => ⟨h, rfl⟩, fun _ _ _ => rfl, fun _ _ h => .inl h, fun _ h => .inl h, fun _ _ _ h => h⟩
   have hst2 := hst.step (Qmz hst.good) (by rw [<- hf0]; exact hfr)
   have nol : ∀ k, ¬ (Array.replicate ops.size false).getD k false = true := by
     intro k hk
     simp [Array.getElem?_replicate] at hk
     split at hk <;> simp at hk
   refine ⟨0, Nat.zero_le _, μ, S, fun _ => 0, fun k ak _ _ h => absurd h (Nat.not_lt_zero _), fun k ak _ _ h => absurd h (nol k), by rw [hf0]; exact hst2.good, hst2.glob, hst2.size, by rw [hf0]; exact hst2.defers, hfr, ?_, ?_, fun k ak hk => absurd hk (nol k), fun k k' ak ak' hk => absurd hk (nol k)⟩
   · intro t v _ hv
     exact hst2.env t v (by rw [hf0] at hv; exact hv)
   · intro k ak t v hk
     exact absurd hk (nol k)
 · refine Nat.le_trans (List.length_filter_le _ _) (by simp)
end Go.Ab
