/- The law TypesNames: the interpreter answers true at all numbers. -/
import Derived.Test.YtacjjncmbklplaaGreatDoorAbN6
set_option maxRecDepth 1000000
namespace Go.Ab.Names
open Go Go.Ab
theorem right_or (b s : Int) : wrong b s ∨ (b, s) ∈ pairs := by
  by_cases h : wrong b s
  · exact .inl h
  · right
    unfold wrong at h
    simp only [pairs, List.mem_append, List.mem_cons, List.mem_map, List.mem_range, Prod.mk.injEq, List.mem_nil_iff, or_false]
    rw [not_or, not_or, not_or] at h
    obtain ⟨h1, h2, h3, h4⟩ := h
    have hb : b = 1 ∨ b = 2 ∨ b = 3 ∨ b = 4 ∨ b = 5 ∨ b = 6 := by omega
    rcases hb with rfl | rfl | rfl | rfl | rfl | rfl
    · left; left; left; exact ⟨rfl, by simpa using h3⟩
    · left; left; right; left; exact ⟨rfl, by simpa using h3⟩
    · left; left; right; right; left; exact ⟨rfl, by simpa using h3⟩
    · left; right; exact ⟨(s - 1).toNat, by omega, rfl, by omega⟩
    · right; exact ⟨(s - 1).toNat, by omega, rfl, by omega⟩
    · left; left; right; right; right; exact ⟨rfl, by simpa using h3⟩
theorem same_of {f : Nat} {af : AFunc} {x : Int × Int} {v : PV} (hf : run af x = some v) (hT : T f = some (.code af true)) (hfit : fits af [.p (ty x.1 x.2)] = true) (σ : Heap) : (cAt T 100 13).1 f [.p (ty x.1 x.2)] σ = some (.ret (.p v), σ) :=
  call_ans (ps := [ty x.1 x.2]) (n := 12) hT hfit hf σ
theorem sameB_of {a b : Option PV} (h : sameB a b = true) : ∃ r, a = some (.bool r) ∧ b = some (.bool r) := by
  unfold sameB at h
  split at h
  · rename_i x y; obtain rfl := eq_of_beq h; exact ⟨_, rfl, rfl⟩
  · cases h
theorem sameN_of {a b : Option PV} (h : sameN a b = true) : ∃ r, a = some (.int .i64 r) ∧ b = some (.int .i64 r) := by
  unfold sameN at h
  split at h
  · rename_i x y; obtain rfl := eq_of_beq h; exact ⟨_, rfl, rfl⟩
  · cases h
theorem sameS_of {a b : Option PV} (h : sameS a b = true) : ∃ r, a = some (.str r) ∧ b = some (.str r) := by
  unfold sameS at h
  split at h
  · rename_i x y; obtain rfl := eq_of_beq h; exact ⟨_, rfl, rfl⟩
  · cases h
theorem law (b s : Int) (σ : Heap) : (cAt T 100 14).1 3 [.p (.int .i64 b), .p (.int .i64 s)] σ = some (.ret (.p (.bool true)), σ) := by
  refine call_ans (ps := [.int .i64 b, .int .i64 s]) (n := 13) (af := lit3) (fz := true) rfl (by kernel_rfl) ?_ σ
  rcases right_or b s with h | h
  · exact law3 _ _ b s false [] 0 alive7 (right8 b s h 12) (right9 b s h 12) (name10 b s h 11) (name11 b s h 11) (kind12 b s h 11) (kind13 b s h 11)
  · obtain ⟨r, r1, r2⟩ := sameB_of (List.all_eq_true.1 rights _ h)
    obtain ⟨l, l1, l2⟩ := sameS_of (List.all_eq_true.1 names _ h)
    obtain ⟨k, k1, k2⟩ := sameN_of (List.all_eq_true.1 kinds _ h)
    exact law3 _ _ b s r l k alive7 (same_of r1 rfl (by kernel_rfl)) (same_of r2 rfl (by kernel_rfl)) (same_of l1 rfl (by kernel_rfl)) (same_of l2 rfl (by kernel_rfl)) (same_of k1 rfl (by kernel_rfl)) (same_of k2 rfl (by kernel_rfl))

end Go.Ab.Names
