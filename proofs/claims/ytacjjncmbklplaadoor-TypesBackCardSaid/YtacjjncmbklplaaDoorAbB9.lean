/- The law TypesBack: what is cast to a text. -/
import Derived.Test.YtacjjncmbklplaaDoorAbB8
set_option maxRecDepth 1000000
namespace Go.Ab.Back
open Go Go.Ab
/-- a text of at most so many bytes as the type has it -/
def padR (b sz : Int) (u : List UInt8) : List PV := if (u.length : Int) ≤ sz then [val 2 0 (padB b sz u) false, done] else [null, tooLong]
/-- what a value comes to as a text -/
def castT (b sz k n : Int) (s : List UInt8) (t : Bool) : List PV :=
  if k = 0 then [null, done]
  else if k = 1 then padR b sz (Lib.itoa n)
  else if k = 2 then (if (s.length : Int) ≤ sz then [val 2 0 (padB b sz s) false, done] else [val 2 0 (s.take sz.toNat) false, done])
  else if t = true then padR b sz [84, 82, 85, 69] else padR b sz [70, 65, 76, 83, 69]
theorem itoa13 (n : Int) (h1 : -9223372036854775808 ≤ n) (h2 : n ≤ 9223372036854775807) (L m : Nat) (σ : Heap) : (cAt TB L (m + 1)).1 13 [.p (.int .i64 n), .p (.int .i64 10)] σ = some (.ret (.p (.str (Lib.itoa n))), σ) := by
  refine call_ext (ps := [.int .i64 n, .int .i64 10]) (g := itoaO) (fz := true) rfl ?_ σ
  exact if_pos ⟨rfl, rfl, rfl, h1, h2⟩
theorem padR_form (b sz : Int) (u : List UInt8) : ∃ (k m : Int) (y : List UInt8) (v : Bool) (e : List UInt8), padR b sz u = [val k m y v, .str e] := by
  unfold padR
  split
  all_goals exact ⟨_, _, _, _, _, rfl⟩
theorem padded12 (b sz : Int) (hb : b = 4 ∨ b = 5) (hz : sz ≤ 100) (u : List UInt8) (L m : Nat) (σ : Heap) : (cAt TB L (m + 2)).1 12 [.p (.str u), .p (ty b sz)] σ = some (.ret (.p (.tup (padR b sz u))), σ) := by
  unfold padR
  by_cases h : (u.length : Int) ≤ sz
  · rw [if_pos h]; exact pad26 b sz hb u h hz L m σ
  · rw [if_neg h]; exact long26 b sz u (by omega) L m σ
theorem cast6 (b sz k n : Int) (s : List UInt8) (t : Bool) (hv : isVal k n s t) (hb : b = 4 ∨ b = 5) (z1 : 1 ≤ sz) (z2 : sz ≤ 100) (h1 : -9223372036854775808 ≤ n) (h2 : n ≤ 9223372036854775807) (hs : s.length ≤ 9223372036854775807) (L m : Nat) (σ : Heap) :
    (cAt TB L (m + 5)).1 6 [.p (val k n s t), .p (ty b sz)] σ = some (.ret (.p (.tup (castT b sz k n s t))), σ) := by
  refine call_ans (ps := [val k n s t, ty b sz]) (n := m + 4) (af := lit17) (fz := true) rfl (by kernel_rfl) ?_ σ
  have hk : kindZ b sz = 2 := by
    unfold kindZ
    rw [if_neg (by omega), if_pos ⟨hb, z1, z2⟩]
  have h12 := kind12 b sz L (m + 2)
  rw [hk] at h12
  have h9 := assign14 b sz k n s t hv h1 h2 hs L m
  have h13 := itoa13 n h1 h2 L (m + 3)
  have hp := fun u => padded12 b sz hb z2 u L (m + 2)
  generalize (cAt TB L (m + 4)).1 = C at h12 h9 h13 hp ⊢
  generalize (cAt TB L (m + 4)).2 = D
  unfold castT
  rcases hv with ⟨rfl, rfl, rfl, rfl⟩ | ⟨rfl, rfl, rfl⟩ | ⟨rfl, rfl, rfl⟩ | ⟨rfl, rfl, rfl⟩
  · rw [if_pos rfl]
    have e : assignZ b sz 0 0 [] false = [null, done] := by
      unfold assignZ
      rw [hk, if_neg (by decide), if_pos rfl]
    rw [e] at h9
    exact c17_null C D L b sz 0 [] false h12 h9
  · rw [if_neg (by decide), if_pos rfl]
    obtain ⟨k, m, y, v, e, hr⟩ := padR_form b sz (Lib.itoa n)
    have hp := hp (Lib.itoa n)
    rw [hr] at hp ⊢
    exact c17_num C D L b sz n [] false h12 _ h13 k m y v e hp
  · rw [if_neg (by decide), if_neg (by decide), if_pos rfl]
    by_cases hle : (s.length : Int) ≤ sz
    · rw [if_pos hle]
      have hp := hp s
      unfold padR at hp
      rw [if_pos hle] at hp
      exact c17_short C D L b sz 0 s false h12 hle 2 0 _ false _ hp
    · rw [if_neg hle]
      have hl : (s.take sz.toNat).length = sz.toNat := by rw [List.length_take]; omega
      have hp := hp (s.take sz.toNat)
      unfold padR at hp
      rw [if_pos (by omega), padB_full b sz _ (by omega)] at hp
      exact c17_long C D L b sz 0 s false h12 (by omega) (by omega) 2 0 _ false _ hp
  · rw [if_neg (by decide), if_neg (by decide), if_neg (by decide)]
    cases t
    · rw [if_neg (by decide)]
      obtain ⟨k, m, y, v, e, hr⟩ := padR_form b sz [70, 65, 76, 83, 69]
      have hp := hp [70, 65, 76, 83, 69]
      rw [hr] at hp ⊢
      exact c17_false C D L b sz 0 [] h12 k m y v e hp
    · rw [if_pos rfl]
      obtain ⟨k, m, y, v, e, hr⟩ := padR_form b sz [84, 82, 85, 69]
      have hp := hp [84, 82, 85, 69]
      rw [hr] at hp ⊢
      exact c17_true C D L b sz 0 [] h12 k m y v e hp


end Go.Ab.Back
