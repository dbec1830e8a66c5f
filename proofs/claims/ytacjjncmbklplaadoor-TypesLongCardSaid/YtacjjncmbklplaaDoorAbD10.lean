/- The law TypesLong: what is cast to a text, and that it has room. -/
import Derived.Test.YtacjjncmbklplaaDoorAbD9
set_option maxRecDepth 1000000
namespace Go.Ab.Long
open Go Go.Ab
/-- a text of at most so many bytes as the type has it -/
def padR (b sz : Int) (u : List UInt8) : List PV := if (u.length : Int) ≤ sz then [val 2 0 (padB b sz u) false, done] else [null, tooLong]
/-- what a value comes to as a text -/
def castT (b sz k n : Int) (s : List UInt8) (t : Bool) : List PV :=
  if k = 0 then [null, done]
  else if k = 1 then padR b sz (Lib.itoa n)
  else if k = 2 then (if (s.length : Int) ≤ sz then [val 2 0 (padB b sz s) false, done] else [val 2 0 (s.take sz.toNat) false, done])
  else if t = true then padR b sz [84, 82, 85, 69] else padR b sz [70, 65, 76, 83, 69]
theorem itoa13 (n : Int) (h1 : -9223372036854775808 ≤ n) (h2 : n ≤ 9223372036854775807) (L m : Nat) (σ : Heap) : (cAt TD L (m + 1)).1 13 [.p (.int .i64 n), .p (.int .i64 10)] σ = some (.ret (.p (.str (Lib.itoa n))), σ) := by
  refine call_ext (ps := [.int .i64 n, .int .i64 10]) (g := itoaO) (fz := true) rfl ?_ σ
  exact if_pos ⟨rfl, rfl, rfl, h1, h2⟩
theorem padR_form (b sz : Int) (u : List UInt8) : ∃ (k m : Int) (y : List UInt8) (v : Bool) (e : List UInt8), padR b sz u = [val k m y v, .str e] := by
  unfold padR
  split
  all_goals exact ⟨_, _, _, _, _, rfl⟩
theorem padded12 (b sz : Int) (hb : b = 4 ∨ b = 5) (hz : sz ≤ 100) (u : List UInt8) (L m : Nat) (σ : Heap) : (cAt TD L (m + 2)).1 12 [.p (.str u), .p (ty b sz)] σ = some (.ret (.p (.tup (padR b sz u))), σ) := by
  unfold padR
  by_cases h : (u.length : Int) ≤ sz
  · rw [if_pos h]; exact pad26 b sz hb u h hz L m σ
  · rw [if_neg h]; exact long26 b sz u (by omega) L m σ
theorem cast6 (b sz k n : Int) (s : List UInt8) (t : Bool) (hv : isVal k n s t) (hb : b = 4 ∨ b = 5) (z1 : 1 ≤ sz) (z2 : sz ≤ 100) (h1 : -9223372036854775808 ≤ n) (h2 : n ≤ 9223372036854775807) (hs : s.length ≤ 9223372036854775807) (L m : Nat) (σ : Heap) :
    (cAt TD L (m + 5)).1 6 [.p (val k n s t), .p (ty b sz)] σ = some (.ret (.p (.tup (castT b sz k n s t))), σ) := by
  refine call_ans (ps := [val k n s t, ty b sz]) (n := m + 4) (af := lit17) (fz := true) rfl (by kernel_rfl) ?_ σ
  have hk : kindZ b sz = 2 := by
    unfold kindZ
    rw [if_neg (by omega), if_pos ⟨hb, z1, z2⟩]
  have h12 := kind12 b sz L (m + 2)
  rw [hk] at h12
  have h9 := assign14 b sz k n s t hv h1 h2 hs L m
  have h13 := itoa13 n h1 h2 L (m + 3)
  have hp := fun u => padded12 b sz hb z2 u L (m + 2)
  generalize (cAt TD L (m + 4)).1 = C at h12 h9 h13 hp ⊢
  generalize (cAt TD L (m + 4)).2 = D
  unfold castT
  rcases hv with ⟨rfl, rfl, rfl, rfl⟩ | ⟨rfl, rfl, rfl⟩ | ⟨rfl, rfl, rfl⟩ | ⟨rfl, rfl, rfl⟩
  · rw [if_pos rfl]
    have e : assignZ b sz 0 0 [] false = [null, done] := by
      unfold assignZ
      rw [hk, if_neg (by decide), if_pos rfl]
    rw [e] at h9
    exact c17_null C D L b sz 0 [] false h12 h9
  · rw [if_neg (by decide), if_pos rfl]
    obtain ⟨k, m, y, v, e, hr⟩ := padR_form b sz (Lib.itoa n)
    have hp := hp (Lib.itoa n)
    rw [hr] at hp ⊢
    exact c17_num C D L b sz n [] false h12 _ h13 k m y v e hp
  · rw [if_neg (by decide), if_neg (by decide), if_pos rfl]
    by_cases hle : (s.length : Int) ≤ sz
    · rw [if_pos hle]
      have hp := hp s
      unfold padR at hp
      rw [if_pos hle] at hp
      exact c17_short C D L b sz 0 s false h12 hle 2 0 _ false _ hp
    · rw [if_neg hle]
      have hl : (s.take sz.toNat).length = sz.toNat := by rw [List.length_take]; omega
      have hp := hp (s.take sz.toNat)
      unfold padR at hp
      rw [if_pos (by omega), padB_full b sz _ (by omega)] at hp
      exact c17_long C D L b sz 0 s false h12 (by omega) (by omega) 2 0 _ false _ hp
  · rw [if_neg (by decide), if_neg (by decide), if_neg (by decide)]
    cases t
    · rw [if_neg (by decide)]
      obtain ⟨k, m, y, v, e, hr⟩ := padR_form b sz [70, 65, 76, 83, 69]
      have hp := hp [70, 65, 76, 83, 69]
      rw [hr] at hp ⊢
      exact c17_false C D L b sz 0 [] h12 k m y v e hp
    · rw [if_pos rfl]
      obtain ⟨k, m, y, v, e, hr⟩ := padR_form b sz [84, 82, 85, 69]
      have hp := hp [84, 82, 85, 69]
      rw [hr] at hp ⊢
      exact c17_true C D L b sz 0 [] h12 k m y v e hp

def baseZ (fixed : Bool) : Int := if fixed then 4 else 5
theorem room_len (fixed : Bool) (sz : Int) (y : List UInt8) (h : (y.length : Int) = sz ∨ (fixed = false ∧ (y.length : Int) ≤ sz)) : Room fixed sz 2 y [48, 48, 48, 48, 48] := by
  by_cases he : (y.length : Int) = sz
  · exact .inr (.inr (.inl ⟨rfl, by decide, he⟩))
  · obtain ⟨hf, hle⟩ := h.resolve_left he
    exact .inr (.inr (.inr ⟨rfl, by decide, by simpa using he, hf, by omega⟩))
theorem room_pad (fixed : Bool) (sz : Int) (u : List UInt8) (h : (u.length : Int) ≤ sz) : Room fixed sz 2 (padB (baseZ fixed) sz u) [48, 48, 48, 48, 48] := by
  apply room_len
  unfold padB baseZ
  cases fixed
  · right
    exact ⟨rfl, by simpa using h⟩
  · left
    simp
    omega
theorem room_padR (fixed : Bool) (sz : Int) (u : List UInt8) : ∃ (k m : Int) (y : List UInt8) (v : Bool) (e : List UInt8), padR (baseZ fixed) sz u = [val k m y v, .str e] ∧ Room fixed sz k y e := by
  unfold padR
  split
  · rename_i h
    exact ⟨2, 0, _, false, _, rfl, room_pad fixed sz u h⟩
  · exact ⟨0, 0, [], false, _, rfl, .inl (by decide)⟩
/-- both have room, and are the same where a column takes the value -/
theorem rooms (fixed : Bool) (sz k n : Int) (s : List UInt8) (t : Bool) (hv : isVal k n s t) (z1 : 1 ≤ sz) (z2 : sz ≤ 100) :
    ∃ (k1 n1 : Int) (s1 : List UInt8) (t1 : Bool) (e1 : List UInt8) (k2 n2 : Int) (s2 : List UInt8) (t2 : Bool) (e2 : List UInt8),
      assignZ (baseZ fixed) sz k n s t = [val k1 n1 s1 t1, .str e1] ∧ castT (baseZ fixed) sz k n s t = [val k2 n2 s2 t2, .str e2] ∧ Room fixed sz k1 s1 e1 ∧ Room fixed sz k2 s2 e2 ∧
      (((e1 == [48, 48, 48, 48, 48]) = false) ∨ (e1 = [48, 48, 48, 48, 48] ∧ e2 = [48, 48, 48, 48, 48] ∧ k2 = k1 ∧ n2 = n1 ∧ s2 = s1 ∧ t2 = t1)) := by
  have hk : kindZ (baseZ fixed) sz = 2 := by
    unfold kindZ baseZ
    cases fixed
    · rw [if_neg (by simp), if_pos ⟨.inr rfl, z1, z2⟩]
    · rw [if_neg (by simp), if_pos ⟨.inl rfl, z1, z2⟩]
  unfold assignZ castT
  rw [hk]
  rcases hv with ⟨rfl, rfl, rfl, rfl⟩ | ⟨rfl, rfl, rfl⟩ | ⟨rfl, rfl, rfl⟩ | ⟨rfl, rfl, rfl⟩
  · exact ⟨0, 0, [], false, [48, 48, 48, 48, 48], 0, 0, [], false, [48, 48, 48, 48, 48], by rw [if_neg (by decide), if_pos rfl]; rfl, by rw [if_pos rfl]; rfl, .inr (.inl ⟨rfl, rfl⟩), .inr (.inl ⟨rfl, rfl⟩), .inr ⟨rfl, rfl, rfl, rfl, rfl, rfl⟩⟩
  · rw [if_neg (by decide), if_neg (by decide), if_pos (by decide), if_neg (by decide), if_pos rfl]
    obtain ⟨k2, m2, y2, v2, e2, hr, hroom⟩ := room_padR fixed sz (Lib.itoa n)
    exact ⟨0, 0, [], false, [52, 50, 56, 48, 52], k2, m2, y2, v2, e2, rfl, hr, .inl (by decide), hroom, .inl (by decide)⟩
  · rw [if_neg (by decide), if_neg (by decide), if_neg (by decide), if_pos rfl, if_pos rfl]
    by_cases hle : (s.length : Int) ≤ sz
    · rw [if_pos hle, if_pos hle]
      exact ⟨2, 0, _, false, [48, 48, 48, 48, 48], 2, 0, _, false, [48, 48, 48, 48, 48], rfl, rfl, room_pad fixed sz s hle, room_pad fixed sz s hle, .inr ⟨rfl, rfl, rfl, rfl, rfl, rfl⟩⟩
    · rw [if_neg hle, if_neg hle]
      have hl : ((s.take sz.toNat).length : Int) = sz := by rw [List.length_take]; omega
      by_cases htr : Lib.trimB (s.drop sz.toNat) 32 = []
      · rw [if_pos htr]
        exact ⟨2, 0, _, false, [48, 48, 48, 48, 48], 2, 0, _, false, [48, 48, 48, 48, 48], rfl, rfl, room_len fixed sz _ (.inl hl), room_len fixed sz _ (.inl hl), .inr ⟨rfl, rfl, rfl, rfl, rfl, rfl⟩⟩
      · rw [if_neg htr]
        exact ⟨0, 0, [], false, [50, 50, 48, 48, 49], 2, 0, _, false, [48, 48, 48, 48, 48], rfl, rfl, .inl (by decide), room_len fixed sz _ (.inl hl), .inl (by decide)⟩
  · rw [if_neg (by decide), if_neg (by decide), if_pos (by decide), if_neg (by decide), if_neg (by decide), if_neg (by decide)]
    cases t
    · rw [if_neg (by decide)]
      obtain ⟨k2, m2, y2, v2, e2, hr, hroom⟩ := room_padR fixed sz [70, 65, 76, 83, 69]
      exact ⟨0, 0, [], false, [52, 50, 56, 48, 52], k2, m2, y2, v2, e2, rfl, hr, .inl (by decide), hroom, .inl (by decide)⟩
    · rw [if_pos rfl]
      obtain ⟨k2, m2, y2, v2, e2, hr, hroom⟩ := room_padR fixed sz [84, 82, 85, 69]
      exact ⟨0, 0, [], false, [52, 50, 56, 48, 52], k2, m2, y2, v2, e2, rfl, hr, .inl (by decide), hroom, .inl (by decide)⟩
theorem law (c n : Int) (s : List UInt8) (t : Bool) (z : Int) (fixed : Bool) (hc1 : -9223372036854775808 ≤ c) (hc2 : c ≤ 9223372036854775807) (_hn1 : -9223372036854775808 ≤ n) (_hn2 : n ≤ 9223372036854775807) (hz1 : -9223372036854775808 ≤ z) (hz2 : z ≤ 9223372036854775807) (hs : s.length ≤ 9223372036854775807)
    (hform : ∃ (k m : Int) (x : List UInt8) (t' : Bool), valOf c n s t = val k m x t' ∧ isVal k m x t' ∧ -9223372036854775808 ≤ m ∧ m ≤ 9223372036854775807 ∧ x.length ≤ s.length) (σ : Heap) :
    (cAt TD 100 14).1 5 [.p (raw c n s t), .p (.int .i64 z), .p (.bool fixed)] σ = some (.ret (.p (.bool true)), σ) := by
  refine call_ans (ps := [raw c n s t, .int .i64 z, .bool fixed]) (n := 13) (af := lit5) (fz := true) rfl (by kernel_rfl) ?_ σ
  obtain ⟨k, m, x, u, hv, hk, m1, m2, hx⟩ := hform
  have hl := lenZ_of z
  obtain ⟨k1, n1, s1, t1, e1, k2, n2, s2, t2, e2, ha, hc, ra, rc, hf⟩ := rooms fixed (lenZ z) k m x u hk hl.1 hl.2
  have h8 := alive7 0 1
  have h10 := value15 c n s t hc1 hc2 100 11
  have h9 := assign14 (baseZ fixed) (lenZ z) k m x u hk m1 m2 (by omega) 100 9
  have h6 := cast6 (baseZ fixed) (lenZ z) k m x u hk (by unfold baseZ; cases fixed <;> simp) hl.1 hl.2 m1 m2 (by omega) 100 8
  rw [hv] at h10
  rw [ha] at h9
  rw [hc] at h6
  cases fixed
  · exact law5_false _ _ 100 z (lenZ z) hz1 hz2 rfl _ _ _ _ _ _ _ _ k1 n1 s1 t1 e1 k2 n2 s2 t2 e2 h8 h10 h9 h6 ra rc hf
  · exact law5_true _ _ 100 z (lenZ z) hz1 hz2 rfl _ _ _ _ _ _ _ _ k1 n1 s1 t1 e1 k2 n2 s2 t2 e2 h8 h10 h9 h6 ra rc hf

end Go.Ab.Long
