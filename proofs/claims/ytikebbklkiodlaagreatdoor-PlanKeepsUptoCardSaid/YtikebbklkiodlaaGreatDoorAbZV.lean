/- ZV -/
import Derived.Test.YtikebbklkiodlaaGreatDoorAbZQ
set_option maxRecDepth 1000000
set_option linter.all false
namespace Go.Ab.Keep
open Go Go.Ab Go.Ab.Plan Go.Ab.Key Go.Ab.Cnt Go.Ab.Turn Go.Ab.Turn.Enc Go.Proofs
variable [Mx]
theorem Qo1 (L n : Nat) (σ : Heap) : (cAt TT (L + 100) (n + 30)).1 5 [] σ = some (.ret (.p (.bool true)), σ) := by
 have key : ∃ af, TT 5 = some (.code af true) /\ ansV (Z8 (cAt TT (L + 100) (n + 29)).1 (cAt TT (L + 100) (n + 29)).2 (L + 100) af [] []) = some (.bool true) := ⟨_, rfl, by kernel_rfl⟩
 obtain ⟨af, h1, h2⟩ := key
 exact Z7 (ps := []) (n := n + 29) h1 (by kernel_rfl) h2 σ
theorem keeps' {r : List V} (hr : ∀ v ∈ r, v.ok) {ls : List Cl} (hs : ∀ c ∈ ls, Sat r c) (hok : ∀ c ∈ ls, (litV c.v).ok /\ Hc c.op = true) (k : List Nat) (hin : ∀ c ∈ k, c < r.length) :
   ∃ A lo hi N, V4 k ls = [.bool A, .str lo, .str hi, .bool N] /\ (A = true ∨ (N = false /\ le lo (encL (keyV r k)) = true /\ le (encL (keyV r k)) hi = true)) := by
 by_cases hk : k = []
 · subst hk
   exact ⟨false, [], [], false, by unfold V4; rw [if_pos (by rfl)]; rfl, .inr ⟨rfl, rfl, rfl⟩⟩
 · exact keeps hr hs hok k hk hin
def Qii (r : Raw) : Prop := inR r.n /\ r.s.length <= 1048576
theorem Qoi {l : List Raw} (h : ∀ r ∈ l, Qii r) (i : Nat) : okV (Mg l i) /\ (Mg l i).ok /\ wt (Mg l i) <= 2097155 := by
 unfold Mg
 cases hq : l[i]? with
 | none => exact ⟨trivial, trivial, by simp [wt]⟩
 | some r =>
   obtain ⟨h1, h2⟩ := h r (List.mem_of_getElem? hq)
   simp only
   split
   · split
     · exact ⟨h1, h1, by simp [wt]⟩
     · exact ⟨trivial, trivial, by simp [wt]⟩
   · split
     · exact ⟨h2, trivial, by simp [wt]; omega⟩
     · exact ⟨trivial, trivial, by simp [wt]⟩
theorem Quh {l : List Raw} (h : ∀ r ∈ l, Qii r) : ∀ v ∈ rowV l, v.ok /\ wt v <= 2097155 := by
 intro v hv
 simp only [rowV, List.mem_cons, List.not_mem_nil, or_false] at hv
 rcases hv with rfl | rfl | rfl <;> exact (Qoi h _).2
theorem Quu {r : List V} (h : ∀ v ∈ r, v.ok /\ wt v <= 2097155) : ∀ k : List Nat, (∀ v ∈ keyV r k, v.ok) /\ wts (keyV r k) <= k.length * 2097155
 | [] => ⟨by simp [keyV], by simp [keyV, wts]⟩
 | c :: k => by
   obtain ⟨h1, h2⟩ := Quu h k
   have hc : ((r[c]?).getD .null).ok /\ wt ((r[c]?).getD .null) <= 2097155 := by
     cases hq : r[c]? with
     | none => exact ⟨trivial, by simp [wt]⟩
     | some v => exact h v (List.mem_of_getElem? hq)
   refine ⟨fun v hv => ?_, ?_⟩
   · simp only [keyV, List.map_cons, List.mem_cons] at hv
     rcases hv with rfl | hv
     · exact hc.1
     · exact h1 v hv
   · simp only [keyV, wts, List.map_cons, List.sum_cons, List.length_cons] at h2 ⊢
     omega
theorem law3 (L n : Nat) (x : List Int) (t : T) (rows : List (List Raw)) (hx : ∀ c ∈ x, inR c) (hok : okT t) (hb : zz t < L) (hcl : (Jo t).length <= LIM) (hclL : (Jo t).length < L) (hn : 4 * deep t + 12 <= n) (hrows : ∀ l ∈ rows, ∀ r ∈ l, Qii r) :
   (cAt TT (L + 16777400) (n + 31)).1 3 [.p (.vsl (ints x) x.length), .p (node t), .p (.vsl (wi rows) rows.length)] [] = some (.ret (.p (.bool true)), []) := by
 obtain ⟨K, h14⟩ := Qqc (L := L + 16777400) q14 (n + 30) t (by omega) hok (by omega) 400
 obtain ⟨k, hk, hk3, h16⟩ := keys16 (L := L + 16777400) (n := n + 29) q16 (by omega) x hx
 refine Z7 (ps := [.vsl (ints x) x.length, node t, .vsl (wi rows) rows.length]) (n := n + 30) q103 (by rfl) ?_ []
 have hsaid := Qq0 hok
 refine run103 (k := k) (K := K) (P := V4 k (L5 (Jo t))) _ ⟨h14, h16, fun σ => Qzf (n := n + 29) q15 k σ, fun σ id ho => Qy3 (L + 16777380) (n + 26) k hk t hok hcl (by omega) (by omega) σ id ho, fun σ => Qo1 (L + 16777300) n σ⟩ ?_ ?_ hk3 hk (by omega)
 · refine ⟨fun l hl σ => row9 (L + 16777400) (n + 29) (by omega) l σ, fun l hl => ?_, fun l hl b σ hbuf => ?_, fun l hl hH => ?_⟩
   · have hc := fun i => (Qoi (hrows l hl) i).1
     obtain ⟨v, w, _, hV, hS⟩ := Qi7 (L + 16777400) (by omega) (Mg l 0) (Mg l 1) (Mg l 2) (hc 0) (hc 1) (hc 2) (deep t) t (Nat.le_refl _) hok (by omega) (n + 29) (by omega)
     have hT := Qje (L + 16777400) (n + 28) (Y1 (rowV l)) t v w hV
     refine ⟨_, _, fun σ => Qtx (L + 16777400) (n + 29) t (rowV l) rfl _ _ hT σ, fun h1 h2 => ?_⟩
     obtain ⟨k1, k2⟩ := z4 (Prod.ext h1 h2)
     exact (hS k1).truth k2
   · have hko := Quu (Quh (hrows l hl)) k
     have hl' : (keyV (rowV l) k).length = k.length := by simp [keyV]
     rw [<- hl'] at hbuf
     have hw := hko.2
     exact Qm9 (L + 16777400) (n + 27) (keyV (rowV l) k) (by omega) (by omega) hko.1 (by omega) (by omega) hbuf
   · exact keeps' (fun v hv => (Quh (hrows l hl) v hv).1) hH (fun c hc => ⟨(hsaid c hc).1.1, (hsaid c hc).2⟩) k hk3
 · obtain ⟨A, lo, hi, N, e, _⟩ : ∃ A lo hi N, V4 k (L5 (Jo t)) = [.bool A, .str lo, .str hi, .bool N] /\ True := by
     unfold V4 zx
     split
     · exact ⟨_, _, _, _, rfl, trivial⟩
     · split
       · split
         · exact ⟨_, _, _, _, rfl, trivial⟩
         · split
           · exact ⟨_, _, _, _, rfl, trivial⟩
           · exact ⟨_, _, _, _, rfl, trivial⟩
       · exact ⟨_, _, _, _, rfl, trivial⟩
   exact ⟨_, _, _, _, e⟩
end Go.Ab.Keep
