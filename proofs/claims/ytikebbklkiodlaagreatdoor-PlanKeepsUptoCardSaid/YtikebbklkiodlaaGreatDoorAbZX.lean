/- ZX -/
import Derived.Test.YtikebbklkiodlaaGreatDoorAbZW
import Derived.Test.YtikebbklkiodlaaGreatDoorAbE2
import Derived.Shelf.Vars
import Derived.Test.YtikebbklkiodlaaGreatDoorCards
import Derived.Test.YtikebbklkiodlaaGreatDoorTie
set_option maxRecDepth 1000000
set_option linter.all false
namespace Go.Ab.Keep
open Go Go.Ab Go.Ab.Plan Go.Ab.Key Go.Ab.Cnt Go.Ab.Turn Go.Proofs Go.Proofs.YtikebbklkiodlaaGreatDoor Go.ChangeShapes Go.WideShapes Go.RowKit
theorem Qp9 : Qe8 Tryz.prog [22, 25, 23, 9, 2, 3, 26, 40, 54, 4, 52] = true := by kernel_rfl
theorem Qik : laidOutB Tryz.prog = true := by kernel_rfl
theorem Qsb : ownKnob Tryz.prog.godebug = none := by kernel_rfl
theorem Qea {n : Int} (h : (Lit.int .i64 n).wf = true) : inR n := by
 have h1 : IntKind.i64.min = -9223372036854775808 := rfl
 have h2 : IntKind.i64.max = 9223372036854775807 := rfl
 simp [Lit.wf] at h
 unfold inR
 omega
variable [Q4]
theorem Qf8 : ∀ (rows : List (List PV)), (∀ r ∈ rows, OfT Tryz.prog 3 r) -> ∃ l : List Int, rows.flatten = ints l /\ rows.length = l.length /\ ∀ c ∈ l, inR c
 | [], _ => ⟨[], rfl, rfl, fun r h => by simp at h⟩
 | p :: rows, h => by
   obtain ⟨n, rfl, hn⟩ := (h p (by simp)).of_int Tryz.underlying3
   obtain ⟨l, h1, h2, h3⟩ := Qf8 rows (fun q hq => h q (by simp [hq]))
   refine ⟨n :: l, by simp [ints, h1], by simp [h2], fun q hq => ?_⟩
   rcases List.mem_cons.1 hq with rfl | hq
   · exact Qea hn
   · exact h3 q hq
theorem Qw6 {u : PV} (h : OfT Tryz.prog 22 [u]) : ∃ l : List Int, u = .vsl (ints l) l.length /\ ∀ r ∈ l, inR r := by
 obtain ⟨rows, e, h1, _, _⟩ := h.of_sl Tryz.underlying22
 obtain ⟨l, e1, e2, h3⟩ := Qf8 rows h1
 simp only [List.cons.injEq, _root_.and_true] at e
 exact ⟨l, by rw [e, e1, e2], h3⟩
theorem Qq4 (n : Nat) (ih : ∀ ps, szL ps <= n -> OfT Tryz.prog 25 ps -> ∃ t, ps = cells t /\ (szL ps <= 1048576 -> okT t)) : ∀ (rows : List (List PV)), (∀ r ∈ rows, OfT Tryz.prog 25 r) -> szL rows.flatten <= n ->
   ∃ l : List T, rows.flatten = Zs l /\ rows.length = l.length /\ (szL rows.flatten <= 1048576 -> Qp7 (fun _ s n k => inR n /\ s.length <= 1048576 /\ k <= 1048576) l)
 | [], _, _ => ⟨[], rfl, rfl, fun _ => trivial⟩
 | p :: rows, h, hs => by
   simp only [List.flatten_cons, U6] at hs ⊢
   obtain ⟨t, rfl, ht⟩ := ih p (by omega) (h p (by simp))
   obtain ⟨l, h1, h2, h3⟩ := Qq4 n ih rows (fun q hq => h q (by simp [hq])) (by omega)
   exact ⟨t :: l, by simp [Zs, h1], by simp [h2], fun hz => ⟨ht (by omega), h3 (by omega)⟩⟩
theorem Qvp : ∀ l : List T, l.length <= szL (Zs l)
 | [] => Nat.zero_le _
 | .mk op s n k :: r => by
   have := Qvp r
   simp only [List.length_cons, Zs, cells, U6, szL, szP] at *
   omega
theorem Qqt : ∀ (n : Nat) (ps : List PV), szL ps <= n -> OfT Tryz.prog 25 ps -> ∃ t, ps = cells t /\ (szL ps <= 1048576 -> okT t)
 | 0, ps, hs, h => by
   obtain ⟨p0, p1, p2, p3, rfl, h0, h1, h2, h3⟩ := h.of_struct4 Tryz.underlying25
   obtain ⟨a, rfl, _⟩ := h0.of_str Tryz.underlying9
   simp only [U6, szL, szP] at hs
   omega
 | n + 1, ps, hs, h => by
   obtain ⟨p0, p1, p2, p3, rfl, h0, h1, h2, h3⟩ := h.of_struct4 Tryz.underlying25
   obtain ⟨a, rfl, _⟩ := h0.of_str Tryz.underlying9
   obtain ⟨b, rfl, _⟩ := h1.of_str Tryz.underlying9
   obtain ⟨c, rfl, hc⟩ := h2.of_int Tryz.underlying2
   obtain ⟨rows, rfl, g1, _, _⟩ := h3.of_sl Tryz.underlying23
   simp only [U6, szL, szP] at hs ⊢
   obtain ⟨l, e1, e2, e3⟩ := Qq4 n (Qqt n) rows g1 (by omega)
   have hl := Qvp l
   rw [<- e1] at hl
   refine ⟨.mk a b c l, by simp [cells, e1, e2], fun hz => ⟨⟨Qea hc, by omega, by omega⟩, e3 (by omega)⟩⟩
mutual
theorem Qdi : ∀ t : T, (Jo t).length <= szL (cells t)
 | .mk op s n l => by
   unfold Jo
   split
   · have := Qci l
     simp only [cells, szL, szP]
     omega
   · simp [cells, szL, szP]
     omega
theorem Qci : ∀ l : List T, (N7 l).length <= szL (Zs l)
 | [] => Nat.zero_le _
 | t :: r => by
   have h1 := Qdi t
   have h2 := Qci r
   simp only [N7, Zs, List.length_append, U6]
   omega
end
theorem Qid {H : Type} : BulkOK (Rows.uptoBulk (H := H)) where
 str l := by simp [Rows.uptoBulk]
 lit l := by cases l <;> simp [Rows.uptoBulk]
 sl es rs := by
   have : ∀ ds : List (DataW H), (ds.map Rows.uptoBulk).sum = Rows.uptoBulkAll ds := by
     intro ds
     induction ds with
     | nil => simp [Rows.uptoBulkAll]
     | cons d r ih => simp [Rows.uptoBulkAll, ih]
   rw [this]
   simp only [Rows.uptoBulk]
   omega
 agg ps := by
   have : ∀ ds : List (DataW H), (ds.map Rows.uptoBulk).sum = Rows.uptoBulkAll ds := by
     intro ds
     induction ds with
     | nil => simp [Rows.uptoBulkAll]
     | cons d r ih => simp [Rows.uptoBulkAll, ih]
   rw [this]
   simp only [Rows.uptoBulk]
   omega
theorem Qlo : ∀ (rows : List (List PV)), (∀ r ∈ rows, OfT Tryz.prog 54 r) -> ∃ l : List Raw, rows.flatten = raws l /\ rows.length = l.length /\ (szL rows.flatten <= 1048576 -> ∀ r ∈ l, Qii r)
 | [], _ => ⟨[], rfl, rfl, fun _ r h => by simp at h⟩
 | p :: rows, h => by
   obtain ⟨p0, p1, p2, p3, rfl, h0, h1, h2, h3⟩ := (h p (by simp)).of_struct4 Tryz.underlying54
   obtain ⟨a, rfl, _⟩ := h0.of_int Tryz.underlying52
   obtain ⟨b, rfl, hb⟩ := h1.of_int Tryz.underlying2
   obtain ⟨c, rfl, _⟩ := h2.of_str Tryz.underlying9
   obtain ⟨d, rfl⟩ := h3.of_bool Tryz.underlying4
   obtain ⟨l, e1, e2, e3⟩ := Qlo rows (fun q hq => h q (by simp [hq]))
   refine ⟨⟨a, b, c, d⟩ :: l, by simp [raws, rawC, e1], by simp [e2], fun hz r hr => ?_⟩
   simp only [List.flatten_cons, U6, szL, szP] at hz
   rcases List.mem_cons.1 hr with rfl | hr
   · exact ⟨Qea hb, by simp only; omega⟩
   · exact e3 (by omega) r hr
theorem Qyk {ps : List PV} (h : OfT Tryz.prog 40 ps) : ∃ l : List Raw, ps = [.vsl (raws l) l.length] /\ (szL ps <= 1048576 -> ∀ r ∈ l, Qii r) := by
 obtain ⟨rows, rfl, h1, _, _⟩ := h.of_sl Tryz.underlying40
 obtain ⟨l, e1, e2, h3⟩ := Qlo rows h1
 refine ⟨l, by rw [e1, e2], fun hz => h3 ?_⟩
 simp only [szL, szP] at hz
 omega
theorem Qgy : ∀ (rows : List (List PV)), (∀ r ∈ rows, OfT Tryz.prog 40 r) -> ∃ l : List (List Raw), rows.flatten = wi l /\ rows.length = l.length /\ (szL rows.flatten <= 1048576 -> ∀ x ∈ l, ∀ r ∈ x, Qii r)
 | [], _ => ⟨[], rfl, rfl, fun _ r h => by simp at h⟩
 | p :: rows, h => by
   obtain ⟨a, rfl, ha⟩ := Qyk (h p (by simp))
   obtain ⟨l, e1, e2, e3⟩ := Qgy rows (fun q hq => h q (by simp [hq]))
   refine ⟨a :: l, by simp [wi, e1], by simp [e2], fun hz x hx => ?_⟩
   simp only [List.flatten_cons, U6] at hz
   rcases List.mem_cons.1 hx with rfl | hx
   · exact ha (by omega)
   · exact e3 (by omega) x hx
theorem Qt8 {u : PV} (h : OfT Tryz.prog 26 [u]) : ∃ l : List (List Raw), u = .vsl (wi l) l.length /\ (szL [u] <= 1048576 -> ∀ x ∈ l, ∀ r ∈ x, Qii r) := by
 obtain ⟨rows, e, h1, _, _⟩ := h.of_sl Tryz.underlying26
 obtain ⟨l, e1, e2, h3⟩ := Qgy rows h1
 simp only [List.cons.injEq, _root_.and_true] at e
 subst e
 refine ⟨l, by rw [e1, e2], fun hz => h3 ?_⟩
 simp only [szL, szP] at hz
 omega
end Go.Ab.Keep
