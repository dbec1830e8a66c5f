/- EvalCounts: the law answers true. -/
import Derived.Test.YtcafoohjffcaeaaGreatDoorAbVR
set_option linter.unusedSectionVars false
set_option linter.unusedSimpArgs false
set_option linter.unusedVariables false
set_option maxRecDepth 1000000
namespace Go.Ab.Cnt
open Go Go.Ab Go.Ab.Key Go.Proofs
variable [Marks]
theorem seq3N {C : Oracle} {L : Nat} {a b c d : ACode} {st st1 : St} (h : exec C L (.seq a (.seq b c)) st = some (.normal, st1)) : exec C L (.seq a (.seq b (.seq c d))) st = exec C L d st1 := by
  simp only [exec] at h ⊢
  split at h
  · split at h
    · simp_all
    · simp_all
  · simp_all
theorem seq3R {C : Oracle} {L : Nat} {a b c d : ACode} {st st1 : St} (h : exec C L (.seq a (.seq b c)) st = some (.ret, st1)) : exec C L (.seq a (.seq b (.seq c d))) st = some (.ret, st1) := by
  simp only [exec] at h ⊢
  split at h
  · split at h
    · simp_all
    · simp_all
  · simp_all
theorem body13_eq : p6_13 = .seq (fstC p6_13) (.block 0 (.loop none body6)) := rfl
section
variable (L n : Nat)
theorem fin6 (D : DOracle) {ρ : Env} {σ : Heap} (g : ρ.get 2 = some (.p (.bool true))) : ansV (finX D lit6 (some (.ret, ⟨ρ, [], σ⟩))) = some (.bool true) := by
  simp [finX, finA, leaveA, resA, resV, ansV, lit6, g]
theorem order (a b : V) (ha : ∀ s, a = .text s → s.length ≤ maxLen) (hb : ∀ s, b = .text s → s.length ≤ maxLen) (hLm : maxLen < L) (σ : Heap) :
    (cAt TC L (n + 2)).1 20 [.p (.agg (vc a)), .p (.agg (vc b))] σ = some (.ret (.p (.int .i64 (ordI (ordV a b)))), σ) :=
  order20 L n a b (fun s h => ⟨by have := ha s h; omega, Nat.le_trans (ha s h) (by decide)⟩) (fun s h => ⟨by have := hb s h; omega, Nat.le_trans (hb s h) (by decide)⟩) σ
theorem body_true (D : DOracle) (x : List V) (hl : x.length ≤ 400) (hL : x.length < L) (hLm : maxLen < L) (ht : ∀ s, V.text s ∈ x → s.length ≤ maxLen) (ρ0 : Env) (t0 : ρ0.get 0 = some (.p (.vsl (vcs x) x.length)))
    (h8 : ∀ σ, (cAt TC L (n + 30)).1 8 [] σ = some (.ret (.p (.bool true)), σ)) :
    ∃ ρ' σ', exec (cAt TC L (n + 30)).1 L (.seq p6_4 (.seq p6_5 (.seq p6_6 (.seq p6_7 (.seq p6_8 (.seq p6_9 (.seq p6_10 (.seq p6_11 (.seq p6_12 (.seq p6_13 p6_r)))))))))) ⟨ρ0, [], []⟩ = some (.ret, ⟨ρ', [], σ'⟩) ∧ ρ'.get 2 = some (.p (.bool true)) := by
  have hlim : x.length ≤ LIM := Nat.le_trans hl (by decide)
  have hm : x.length ≤ 9223372036854775807 := by omega
  have c1 := all_count L (n + 25) x hlim hL
  have c2 := some_count L (n + 25) x hlim hL
  have c3 := unlike_count L (n + 23) x hlim hL ht
  have c4 := low L (n + 25) x hlim hL ht
  have c5 := high L (n + 25) x hlim hL ht
  have hlt : ∀ s, lowest x = .text s → s.length ≤ maxLen := fun s hs => by
    rcases lowhigh x with ⟨_, h, _⟩ | ⟨_, _, h, _, _⟩
    · rw [h] at hs; cases hs
    · exact ht s (hs ▸ h)
  have hht : ∀ s, highest x = .text s → s.length ≤ maxLen := fun s hs => by
    rcases lowhigh x with ⟨_, _, h⟩ | ⟨_, _, _, h, _⟩
    · rw [h] at hs; cases hs
    · exact ht s (hs ▸ h)
  have hC1 : ∀ v ∈ x, ∀ σ, (cAt TC L (n + 30)).1 20 [.p (.agg (vc v)), .p (.agg (vc (lowest x)))] σ = some (.ret (.p (.int .i64 (ordI (ordV v (lowest x))))), σ) :=
    fun v hv σ => order L (n + 28) v (lowest x) (fun s hs => ht s (hs ▸ hv)) hlt hLm σ
  have hC2 : ∀ v ∈ x, ∀ σ, (cAt TC L (n + 30)).1 20 [.p (.agg (vc v)), .p (.agg (vc (highest x)))] σ = some (.ret (.p (.int .i64 (ordI (ordV v (highest x))))), σ) :=
    fun v hv σ => order L (n + 28) v (highest x) (fun s hs => ht s (hs ▸ hv)) hht hLm σ
  have hC3 : ∀ σ, (cAt TC L (n + 30)).1 20 [.p (.agg (vc (lowest x))), .p (.agg (vc (highest x)))] σ = some (.ret (.p (.int .i64 (ordI (ordV (lowest x) (highest x))))), σ) :=
    fun σ => order L (n + 28) (lowest x) (highest x) hlt hht hLm σ
  generalize (cAt TC L (n + 30)).1 = C at *
  obtain ⟨ρ1, e1, a4, a5, k1⟩ := total_4 C L x ρ0 [] (.num x.length) t0 c1
  have t0 : ρ1.get 0 = some (.p (.vsl (vcs x) x.length)) := (k1 0 (by omega) (by omega) (by omega)).trans t0
  have e1 : exec C L p6_4 ⟨ρ0, [], []⟩ = some (.normal, ⟨ρ1, [], [.arr (.pv (vc (.num x.length))) 0 0 (some 30)]⟩) := e1
  obtain ⟨ρ2, e2, a6, a7, k2⟩ := total_5 C L x ρ1 [.arr (.pv (vc (.num x.length))) 0 0 (some 30)] (.num (nn x).length) t0 c2
  have t0 : ρ2.get 0 = some (.p (.vsl (vcs x) x.length)) := (k2 0 (by omega) (by omega) (by omega)).trans t0
  have a4 := (k2 4 (by omega) (by omega) (by omega)).trans a4
  have a5 := (k2 5 (by omega) (by omega) (by omega)).trans a5
  have e2 : exec C L p6_5 ⟨ρ1, [], [.arr (.pv (vc (.num x.length))) 0 0 (some 30)]⟩ = some (.normal, ⟨ρ2, [], [.arr (.pv (vc (.num x.length))) 0 0 (some 30), .arr (.pv (vc (.num (nn x).length))) 0 0 (some 30)]⟩) := e2
  obtain ⟨ρ3, e3, a8, a9, k3⟩ := total_6 C L x ρ2 [.arr (.pv (vc (.num x.length))) 0 0 (some 30), .arr (.pv (vc (.num (nn x).length))) 0 0 (some 30)] (.num (nn (uq x)).length) t0 c3
  have t0 : ρ3.get 0 = some (.p (.vsl (vcs x) x.length)) := (k3 0 (by omega) (by omega) (by omega)).trans t0
  have a4 := (k3 4 (by omega) (by omega) (by omega)).trans a4
  have a5 := (k3 5 (by omega) (by omega) (by omega)).trans a5
  have a6 := (k3 6 (by omega) (by omega) (by omega)).trans a6
  have a7 := (k3 7 (by omega) (by omega) (by omega)).trans a7
  have e3 : exec C L p6_6 ⟨ρ2, [], [.arr (.pv (vc (.num x.length))) 0 0 (some 30), .arr (.pv (vc (.num (nn x).length))) 0 0 (some 30)]⟩ = some (.normal, ⟨ρ3, [], [.arr (.pv (vc (.num x.length))) 0 0 (some 30), .arr (.pv (vc (.num (nn x).length))) 0 0 (some 30), .arr (.pv (vc (.num (nn (uq x)).length))) 0 0 (some 30)]⟩) := e3
  obtain ⟨ρ4, e4, a10, a11, k4⟩ := total_7 C L x ρ3 [.arr (.pv (vc (.num x.length))) 0 0 (some 30), .arr (.pv (vc (.num (nn x).length))) 0 0 (some 30), .arr (.pv (vc (.num (nn (uq x)).length))) 0 0 (some 30)] (lowest x) t0 c4
  have t0 : ρ4.get 0 = some (.p (.vsl (vcs x) x.length)) := (k4 0 (by omega) (by omega) (by omega)).trans t0
  have a4 := (k4 4 (by omega) (by omega) (by omega)).trans a4
  have a5 := (k4 5 (by omega) (by omega) (by omega)).trans a5
  have a6 := (k4 6 (by omega) (by omega) (by omega)).trans a6
  have a7 := (k4 7 (by omega) (by omega) (by omega)).trans a7
  have a8 := (k4 8 (by omega) (by omega) (by omega)).trans a8
  have a9 := (k4 9 (by omega) (by omega) (by omega)).trans a9
  have e4 : exec C L p6_7 ⟨ρ3, [], [.arr (.pv (vc (.num x.length))) 0 0 (some 30), .arr (.pv (vc (.num (nn x).length))) 0 0 (some 30), .arr (.pv (vc (.num (nn (uq x)).length))) 0 0 (some 30)]⟩ = some (.normal, ⟨ρ4, [], [.arr (.pv (vc (.num x.length))) 0 0 (some 30), .arr (.pv (vc (.num (nn x).length))) 0 0 (some 30), .arr (.pv (vc (.num (nn (uq x)).length))) 0 0 (some 30), .arr (.pv (vc (lowest x))) 0 0 (some 30)]⟩) := e4
  obtain ⟨ρ5, e5, a12, a13, k5⟩ := total_8 C L x ρ4 [.arr (.pv (vc (.num x.length))) 0 0 (some 30), .arr (.pv (vc (.num (nn x).length))) 0 0 (some 30), .arr (.pv (vc (.num (nn (uq x)).length))) 0 0 (some 30), .arr (.pv (vc (lowest x))) 0 0 (some 30)] (highest x) t0 c5
  have t0 : ρ5.get 0 = some (.p (.vsl (vcs x) x.length)) := (k5 0 (by omega) (by omega) (by omega)).trans t0
  have a4 := (k5 4 (by omega) (by omega) (by omega)).trans a4
  have a5 := (k5 5 (by omega) (by omega) (by omega)).trans a5
  have a6 := (k5 6 (by omega) (by omega) (by omega)).trans a6
  have a7 := (k5 7 (by omega) (by omega) (by omega)).trans a7
  have a8 := (k5 8 (by omega) (by omega) (by omega)).trans a8
  have a9 := (k5 9 (by omega) (by omega) (by omega)).trans a9
  have a10 := (k5 10 (by omega) (by omega) (by omega)).trans a10
  have a11 := (k5 11 (by omega) (by omega) (by omega)).trans a11
  have e5 : exec C L p6_8 ⟨ρ4, [], [.arr (.pv (vc (.num x.length))) 0 0 (some 30), .arr (.pv (vc (.num (nn x).length))) 0 0 (some 30), .arr (.pv (vc (.num (nn (uq x)).length))) 0 0 (some 30), .arr (.pv (vc (lowest x))) 0 0 (some 30)]⟩ = some (.normal, ⟨ρ5, [], H6 x.length (nn x).length (nn (uq x)).length (lowest x) (highest x)⟩) := e5
  obtain ⟨ρ6, e6, k6⟩ := err6 C L ρ5 a5 a7 a9 a11 a13 (H6 x.length (nn x).length (nn (uq x)).length (lowest x) (highest x))
  have h6 : At6 x ρ6 := ⟨(k6 0 (by omega)).trans t0, (k6 4 (by omega)).trans a4, (k6 6 (by omega)).trans a6, (k6 8 (by omega)).trans a8, (k6 10 (by omega)).trans a10, (k6 12 (by omega)).trans a12⟩
  have hnull : (nn x).length = 0 ↔ isNull (lowest x) = true := by
    rcases lowhigh x with ⟨h, h', _⟩ | ⟨h, h', _⟩
    · rw [h, h']; simp [isNull]
    · rw [h']; simp [h]
  obtain ⟨ρ7, e7, g7, k7⟩ := one6 C L x ρ6 x.length (nn x).length (nn (uq x)).length (lowest x) (highest x) h6 rfl (nn_len x) (uq_le x) (uq_zero x) hnull
  have h7 := At6.of x ρ6 h6 k7
  generalize hH : H6 x.length (nn x).length (nn (uq x)).length (lowest x) (highest x) = σ at *
  have hp : HpL (lowest x) (highest x) σ := by subst hH; exact ⟨rfl, rfl⟩
  have ho1 : σ[1]? = some (.arr (.pv (vc (.num (nn x).length))) 0 0 (some 30)) := by subst hH; rfl
  have e8 : ∃ ρ', exec C L (.seq p6_11 (.seq p6_12 (fstC p6_13))) ⟨ρ7, [], σ⟩ = some (.normal, ⟨ρ', [], σ⟩) ∧ AtL x ρ' 0 false false :=
    ⟨_, by simp [p6_11, p6_12, p6_13, fstC, exec, runOps, wantedA, stepOp, pureOp, allocOp, readOp, effOp, ev, evs, evO, Env.get_cons, putE, binA, intBin, unA, AV.fit, AV.toCells, partC, partP, mkCells, allP, mkAgg, Cells.len, target]; rfl, ⟨by simp [Env.get_cons, h7.t0], by simp [Env.get_cons, h7.t6], by simp [Env.get_cons, h7.t10], by simp [Env.get_cons, h7.t12], by simp [Env.get_cons, g7], by simp [Env.get_cons], by simp [Env.get_cons], by simp [Env.get_cons]⟩⟩
  obtain ⟨ρ8, e8, h8'⟩ := e8
  obtain ⟨ρ9, e9, h9⟩ := loop6 C L x (lowest x) (highest x) σ hp hm (bounds x) (fun v hv => hC1 v hv σ) (fun v hv => hC2 v hv σ) x.length 0 L ρ8 false false (by omega) hL h8'
  rw [List.drop_zero, Bool.false_or, Bool.false_or] at h9
  obtain ⟨ρa, ea, ga⟩ := last6 C L x (lowest x) (highest x) σ hp (nn x).length ho1 ρ9 _ _ h9 (h8 σ) (by
    rcases lowhigh x with ⟨h, _, _⟩ | ⟨h, hn, m1, m2, hb⟩
    · exact .inl (by rw [h]; rfl)
    · refine .inr ⟨by simpa using h, List.any_eq_true.2 ⟨_, m1, by simp⟩, List.any_eq_true.2 ⟨_, m2, by simp⟩, ?_⟩
      exact (hb _ (List.mem_filter.2 ⟨m1, by rw [hn]; rfl⟩)).2) (hC3 σ)
  have e10 : exec C L (.block 0 (.loop none body6)) ⟨ρ8, [], σ⟩ = some (.normal, ⟨ρ9, [], σ⟩) := by
    simp only [exec, e9, if_true]
  refine ⟨ρa, σ, ?_, ga⟩
  rw [seqN e1, seqN e2, seqN e3, seqN e4, seqN e5, seqN e6, seqN e7, body13_eq]
  have e11 : exec C L (.seq p6_11 (.seq p6_12 (.seq (.seq (fstC p6_13) (.block 0 (.loop none body6))) p6_r))) ⟨ρ7, [], σ⟩ = exec C L (.seq p6_11 (.seq p6_12 (.seq (fstC p6_13) (.seq (.block 0 (.loop none body6)) p6_r)))) ⟨ρ7, [], σ⟩ := by
    simp only [exec]
    repeat' split
    all_goals simp_all
  rw [e11, seq3N e8, seqN e10]
  exact ea
theorem law6 (l : List Raw) (hL : l.length < L + 100) (hm : l.length ≤ 9223372036854775807) (ht : ∀ r ∈ l, r.s.length ≤ maxLen) (hLm : maxLen < L + 100) (σ : Heap) :
    (cAt TC (L + 100) (n + 31)).1 6 [.p (.vsl (raws l) l.length)] σ = some (.ret (.p (.bool true)), σ) := by
  refine call_ans (ps := [.vsl (raws l) l.length]) (n := n + 30) q6 rfl ?_ σ
  have h7 := rights7 (L + 100) (n + 28) l hL hm []
  have h8 := alive L n
  rw [runFunc_eq, p6_eq]
  by_cases hr : l.all Raw.right = false ∨ 400 < l.length
  · obtain ⟨ρ', e, g⟩ := gone6 (cAt TC (L + 100) (n + 30)).1 (L + 100) l hr h7 (h8 [])
    have e' := seq3R (d := .seq p6_4 (.seq p6_5 (.seq p6_6 (.seq p6_7 (.seq p6_8 (.seq p6_9 (.seq p6_10 (.seq p6_11 (.seq p6_12 (.seq p6_13 p6_r)))))))))) e
    exact (congrArg (fun z => ansV (finX (cAt TC (L + 100) (n + 30)).2 lit6 z)) e').trans (fin6 _ g)
  · have hr1 : l.all Raw.right = true := by
      cases h : l.all Raw.right with
      | true => rfl
      | false => exact absurd (.inl h) hr
    have hr2 : l.length ≤ 400 := by
      have : ¬ 400 < l.length := fun h => hr (.inr h)
      omega
    obtain ⟨x, hx, hxl, hxt⟩ := raws_right l hr1
    rw [hr1] at h7
    rw [hx, ← hxl] at h7 ⊢
    obtain ⟨ρ0, e, t0⟩ := stay6 (cAt TC (L + 100) (n + 30)).1 (L + 100) x (by omega) h7
    obtain ⟨ρ', σ', e2, g⟩ := body_true (L + 100) n (cAt TC (L + 100) (n + 30)).2 x (by omega) (by omega) hLm (fun s hs => by obtain ⟨r, hr, hrs⟩ := hxt s hs; rw [← hrs]; exact ht r hr) ρ0 t0 h8
    have e' := (seq3N (d := .seq p6_4 (.seq p6_5 (.seq p6_6 (.seq p6_7 (.seq p6_8 (.seq p6_9 (.seq p6_10 (.seq p6_11 (.seq p6_12 (.seq p6_13 p6_r)))))))))) e).trans e2
    exact (congrArg (fun z => ansV (finX (cAt TC (L + 100) (n + 30)).2 lit6 z)) e').trans (fin6 _ g)
end
end Go.Ab.Cnt
