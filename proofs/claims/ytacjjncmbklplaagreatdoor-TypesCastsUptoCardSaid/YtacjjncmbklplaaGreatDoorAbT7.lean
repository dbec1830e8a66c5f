/- TypesCasts: small letters, by the program. -/
import Derived.Test.YtacjjncmbklplaaGreatDoorAbT6
import Derived.Lib.ItoaMem
set_option linter.unusedSectionVars false
set_option linter.unusedSimpArgs false
set_option linter.unusedVariables false
set_option maxRecDepth 1000000
namespace Go.Ab.Cols
open Go Go.Ab Go.Ab.Names
def cellsU (l : List UInt8) : List PV := l.map fun b => PV.int .u8 (b.toNat : Int)
theorem cellsU_len (l : List UInt8) : (cellsU l).length = l.length := by simp [cellsU]
theorem bytes_cells : ∀ l : List UInt8, bytesOfP (cellsU l) = some l
  | [] => rfl
  | c :: r => by
    have ih := bytes_cells r
    simp only [cellsU, List.map_cons, bytesOfP] at ih ⊢
    rw [ih]
    simp
/-- the first n letters small -/
def half (s : List UInt8) (n : Nat) : List UInt8 := Cast.lowP (s.take n) ++ s.drop n
theorem half_len (s : List UInt8) (n : Nat) : (half s n).length = s.length := by
  simp [half, Cast.lowP]
  omega
theorem half_step (s : List UInt8) (n : Nat) (c : UInt8) (hc : s[n]? = some c) : half s (n + 1) = (half s n).take n ++ [Cast.low1 c] ++ (half s n).drop (n + 1) := by
  have hn : n < s.length := (List.getElem?_eq_some_iff.1 hc).1
  have hl : (Cast.lowP (s.take n)).length = n := by simp [Cast.lowP]; omega
  unfold half
  rw [List.take_left' hl]
  have e1 : Cast.lowP (s.take (n + 1)) = Cast.lowP (s.take n) ++ [Cast.low1 c] := by
    rw [List.take_add_one, hc]
    simp [Cast.lowP]
  have e2 : (Cast.lowP (s.take n) ++ s.drop n).drop (n + 1) = s.drop (n + 1) := by
    rw [List.drop_append, hl]
    have : (Cast.lowP (s.take n)).drop (n + 1) = [] := List.drop_eq_nil_of_le (by omega)
    rw [this, List.drop_drop]
    simp
  rw [e1, e2]
theorem half_same (s : List UInt8) (n : Nat) (c : UInt8) (hc : s[n]? = some c) (h : Cast.low1 c = c) : half s (n + 1) = half s n := by
  have hn : n < s.length := (List.getElem?_eq_some_iff.1 hc).1
  unfold half
  have e1 : Cast.lowP (s.take (n + 1)) = Cast.lowP (s.take n) ++ [c] := by
    rw [List.take_add_one, hc]
    simp [Cast.lowP, h]
  have e2 : s.drop n = c :: s.drop (n + 1) := by
    rw [List.drop_eq_getElem_cons hn]
    congr 1
    exact (List.getElem?_eq_some_iff.1 hc).2
  rw [e1, e2]
  simp
theorem half_get (s : List UInt8) (n : Nat) (c : UInt8) (hc : s[n]? = some c) : (cellsU (half s n))[n]? = some (.int .u8 (c.toNat : Int)) := by
  have hn : n < s.length := (List.getElem?_eq_some_iff.1 hc).1
  have hl : (Cast.lowP (s.take n)).length = n := by simp [Cast.lowP]; omega
  unfold cellsU half
  rw [List.getElem?_map, List.getElem?_append_right (by omega), hl]
  simp [hc]
section
variable (C : Oracle) (L : Nat) (s : List UInt8) (ρ : Env) (j : Nat) (c : UInt8)
structure At32 (s : List UInt8) (j : Nat) (ρ : Env) : Prop where
  g3 : ρ.get 3 = some (.sl 0 0 0 s.length 1)
  g8 : ρ.get 8 = some (.sl 0 0 0 s.length 1)
  g9 : ρ.get 9 = some (.p (.int .i64 (s.length : Int)))
  g10 : ρ.get 10 = some (.p (.int .i64 (j : Int)))
abbrev hp32 (l : List UInt8) : Heap := [Obj.arr (Cells.pv (cellsU l)) 0 0]
theorem over32 (h : At32 s s.length ρ) (σ : Heap) : ∃ ρ' : Env, exec C L body32 ⟨ρ, [], σ⟩ = some (.exit 0, ⟨ρ', [], σ⟩) ∧ At32 s s.length ρ' := by
  refine ⟨_, by simp [body32, exec, runOps, wantedA, stepOp, pureOp, allocOp, readOp, effOp, ev, evs, evO, Env.get_cons, putE, binA, intBin, unA, AV.fit, AV.toCells, partC, partP, mkCells, allP, mkAgg, Cells.len, target, h.g9, h.g10]; rfl, ?_⟩
  constructor <;> simp [Env.get_cons, h.g3, h.g8, h.g9, h.g10]
theorem go32 (h : At32 s j ρ) (hj : decide (j < s.length) = true) (hm : s.length ≤ 1048576) (hc : s[j]? = some c) :
    ∃ ρ' : Env, exec C L body32 ⟨ρ, [], hp32 (half s j)⟩ = some (.normal, ⟨ρ', [], hp32 (half s (j + 1))⟩) ∧ At32 s (j + 1) ρ' := by
  unfold hp32
  have hlt := of_decide_eq_true hj
  have e1 : IntKind.i64.wrap ((j : Int) + 1) = (j : Int) + 1 := wrap_id _ (by omega) (by omega)
  have hg := half_get s j c hc
  have hl := cellsU_len (half s j)
  rw [half_len] at hl
  by_cases hup : 65 ≤ c.toNat ∧ c.toNat ≤ 90
  · obtain ⟨l1, l2⟩ := low1_up c hup.1 hup.2
    have e2 : IntKind.u8.wrap (IntKind.u8.wrap ((c.toNat : Int) + 97) - 65) = (c.toNat : Int) + 32 := by
      simp [IntKind.wrap, IntKind.bits, IntKind.signed]
      omega
    have hu1 : (65 : Int) ≤ (c.toNat : Int) := by omega
    have hu2 : (c.toNat : Int) ≤ 90 := by omega
    have hs := half_step s j c hc
    have hcs : cellsU (half s (j + 1)) = (cellsU (half s j)).take j ++ [.int .u8 ((c.toNat : Int) + 32)] ++ (cellsU (half s j)).drop (j + 1) := by
      rw [hs, ← l2, ← l1]
      simp [cellsU]
    rw [hcs]
    generalize cellsU (half s j) = q at hg hl ⊢
    have hjq : j + 1 ≤ q.length := by omega
    refine ⟨_, by simp [body32, exec, runOps, wantedA, stepOp, pureOp, allocOp, readOp, effOp, ev, evs, evO, Env.get_cons, putE, binA, intBin, unA, AV.fit, AV.toCells, partC, partP, mkCells, allP, mkAgg, Cells.len, target, idxA, h.g3, h.g8, h.g9, h.g10, hg, -decide_eq_true_eq, hj, e1, e2, hu1, hu2, spliceC, splice, hjq, hlt]; rfl, ?_⟩
    constructor <;> simp [Env.get_cons, h.g3, h.g8, h.g9]
  · rw [half_same s j c hc (low1_id c hup)]
    generalize cellsU (half s j) = q at hg hl ⊢
    by_cases hu1 : (65 : Int) ≤ (c.toNat : Int)
    · have hu2 : ¬ (c.toNat : Int) ≤ 90 := by omega
      refine ⟨_, by simp [body32, exec, runOps, wantedA, stepOp, pureOp, allocOp, readOp, effOp, ev, evs, evO, Env.get_cons, putE, binA, intBin, unA, AV.fit, AV.toCells, partC, partP, mkCells, allP, mkAgg, Cells.len, target, idxA, h.g3, h.g8, h.g9, h.g10, hg, -decide_eq_true_eq, hj, e1, hu1, hu2, hlt]; rfl, ?_⟩
      constructor <;> simp [Env.get_cons, h.g3, h.g8, h.g9]
    · refine ⟨_, by simp [body32, exec, runOps, wantedA, stepOp, pureOp, allocOp, readOp, effOp, ev, evs, evO, Env.get_cons, putE, binA, intBin, unA, AV.fit, AV.toCells, partC, partP, mkCells, allP, mkAgg, Cells.len, target, idxA, h.g3, h.g8, h.g9, h.g10, hg, -decide_eq_true_eq, hj, e1, hu1, hlt]; rfl, ?_⟩
      constructor <;> simp [Env.get_cons, h.g3, h.g8, h.g9]
end
theorem loop32 (C : Oracle) (L : Nat) (s : List UInt8) (hm : s.length ≤ 1048576) : ∀ (l : List UInt8) (j f : Nat) (ρ : Env), s.drop j = l → j ≤ s.length → l.length < f → At32 s j ρ →
    ∃ ρ' : Env, iter (exec C L body32) none f ⟨ρ, [], hp32 (half s j)⟩ = some (.exit 0, ⟨ρ', [], hp32 (Cast.lowP s)⟩) ∧ At32 s s.length ρ'
  | [], j, f, ρ, hd, hj, hf, h => by
    obtain ⟨f, rfl⟩ : ∃ n, f = n + 1 := ⟨f - 1, by simp at hf; omega⟩
    have e : j = s.length := by
      have := congrArg List.length hd
      simp at this
      omega
    subst e
    obtain ⟨ρ', x, a⟩ := over32 C L s ρ h (hp32 (half s s.length))
    have hh : half s s.length = Cast.lowP s := by simp [half]
    rw [hh] at x ⊢
    exact ⟨ρ', by simp only [iter, St.keep, x], a⟩
  | c :: r, j, f, ρ, hd, hj, hf, h => by
    obtain ⟨f, rfl⟩ : ∃ n, f = n + 1 := ⟨f - 1, by simp at hf; omega⟩
    have hlt : j < s.length := by
      have := congrArg List.length hd
      simp at this
      omega
    have hc : s[j]? = some c := by
      have : (s.drop j)[0]? = some c := by rw [hd]; rfl
      simpa using this
    have hr : s.drop (j + 1) = r := by
      rw [← List.drop_drop, hd]
      rfl
    obtain ⟨ρ1, x1, a1⟩ := go32 C L s ρ j c h (decide_eq_true hlt) hm hc
    obtain ⟨ρ', x, a⟩ := loop32 C L s hm r (j + 1) f ρ1 hr (by omega) (by simp at hf; omega) a1
    exact ⟨ρ', by simp only [iter, St.keep, x1]; exact x, a⟩
theorem lower32 (s : List UInt8) (hm : s.length ≤ 1048576) (L n : Nat) (hL : 1048580 ≤ L) (σ : Heap) : (cAt TC L (n + 1)).1 32 [.p (.str s)] σ = some (.ret (.p (.str (Cast.lowP s))), σ) := by
  refine call_ans (ps := [.str s]) (n := n) (af := lit32) (fz := true) rfl (by kernel_rfl) ?_ σ
  generalize (cAt TC L n).1 = C
  generalize (cAt TC L n).2 = D
  rw [runFunc_eq, lit32_eq]
  have hlim : s.length ≤ LIM := by unfold LIM; omega
  have h0 : half s 0 = s := by simp [half, Cast.lowP]
  rw [seqN (st1 := ⟨[(2, .p (.str [])), (0, .p (.str s))], [], []⟩) (by simp [params, exec, runOps, wantedA, stepOp, pureOp, allocOp, readOp, effOp, ev, evs, evO, Env.get_cons, putE, binA, intBin, unA, AV.fit, AV.toCells, partC, partP, mkCells, allP, mkAgg, Cells.len, target])]
  rw [seqN (st1 := ⟨[(3, .sl 0 0 0 s.length 1), (7, .sl 0 0 0 s.length 1), (6, .p (.str s)), (2, .p (.str [])), (0, .p (.str s))], [], hp32 s⟩) (by simp [exec, runOps, wantedA, stepOp, pureOp, allocOp, readOp, effOp, ev, evs, evO, Env.get_cons, putE, binA, intBin, unA, AV.fit, AV.toCells, partC, partP, mkCells, allP, mkAgg, Cells.len, target, hlim, cellsU])]
  obtain ⟨ρ', e, a⟩ := loop32 C L s hm s 0 L [(10, .p (.int .i64 0)), (9, .p (.int .i64 (s.length : Int))), (8, .sl 0 0 0 s.length 1), (3, .sl 0 0 0 s.length 1), (7, .sl 0 0 0 s.length 1), (6, .p (.str s)), (2, .p (.str [])), (0, .p (.str s))] rfl (Nat.zero_le _) (by omega) (by constructor <;> simp [Env.get_cons])
  rw [h0] at e
  have hb := bytes_cells (Cast.lowP s)
  have hl : (cellsU (Cast.lowP s)).length = s.length := by rw [cellsU_len]; simp [Cast.lowP]
  generalize Cast.lowP s = w at e hb hl ⊢
  rw [seqN (st1 := ⟨ρ', [], hp32 w⟩) (by
    rw [seqN (st1 := ⟨[(10, .p (.int .i64 0)), (9, .p (.int .i64 (s.length : Int))), (8, .sl 0 0 0 s.length 1), (3, .sl 0 0 0 s.length 1), (7, .sl 0 0 0 s.length 1), (6, .p (.str s)), (2, .p (.str [])), (0, .p (.str s))], [], hp32 s⟩) (by simp [exec, runOps, wantedA, stepOp, pureOp, allocOp, readOp, effOp, ev, evs, evO, Env.get_cons, putE, binA, intBin, unA, AV.fit, AV.toCells, partC, partP, mkCells, allP, mkAgg, Cells.len, target, lenA])]
    simp only [exec, e, if_true])]
  unfold hp32
  generalize cellsU w = q at hb hl ⊢
  have ht : q.take s.length = q := by rw [← hl]; exact List.take_length
  simp [exec, runOps, wantedA, stepOp, pureOp, allocOp, readOp, effOp, ev, evs, evO, Env.get_cons, putE, binA, intBin, unA, AV.fit, AV.toCells, partC, partP, mkCells, allP, mkAgg, Cells.len, target, evParts, fillA, AV.cells, splice, spliceC, finA, leaveA, resA, resV, ansV, a.g3, elemsA, takeC, dropC, hl, ht, hb, finX, lit32]
end Go.Ab.Cols

/- TypesCasts: the document's digits. -/
set_option maxRecDepth 1000000
namespace Go.Ab.Cols
open Go Go.Ab Go.Ab.Names
def body44 : ACode := (ACode.block 1 ((ACode.region [{ dst := some 6, op := AOp.mv (Opd.t 0), guard := none }, { dst := some 7, op := AOp.bin (Bin.plain BinOp.rem) (Opd.t 6) (Opd.c (AV.p (PV.int IntKind.i64 (10)))), guard := none }, { dst := some 8, op := AOp.un UnOp.neg (Opd.t 7), guard := none }, { dst := some 9, op := AOp.mv (Opd.t 0), guard := none }, { dst := some 10, op := AOp.bin (Bin.plain BinOp.rem) (Opd.t 9) (Opd.c (AV.p (PV.int IntKind.i64 (10)))), guard := none }, { dst := some 11, op := AOp.un UnOp.neg (Opd.t 10), guard := none }, { dst := some 12, op := AOp.bin (Bin.plain BinOp.add) (Opd.t 11) (Opd.c (AV.p (PV.int IntKind.i64 (1)))), guard := none }, { dst := some 13, op := AOp.sliceStr (Opd.c (AV.p (PV.str [48, 49, 50, 51, 52, 53, 54, 55, 56, 57]))) (some (Opd.t 8)) (some (Opd.t 12)), guard := none }, { dst := some 14, op := AOp.mv (Opd.t 5), guard := none }, { dst := some 15, op := AOp.bin (Bin.plain BinOp.add) (Opd.t 13) (Opd.t 14), guard := none }, { dst := some 5, op := AOp.mv (Opd.t 15), guard := none }]).seq ((ACode.region [{ dst := some 16, op := AOp.mv (Opd.t 0), guard := none }, { dst := some 17, op := AOp.bin (Bin.plain BinOp.quo) (Opd.t 16) (Opd.c (AV.p (PV.int IntKind.i64 (10)))), guard := none }, { dst := some 0, op := AOp.mv (Opd.t 17), guard := none }]).seq ((ACode.region [{ dst := some 18, op := AOp.mv (Opd.t 0), guard := none }, { dst := some 19, op := AOp.bin (Bin.plain BinOp.eql) (Opd.t 18) (Opd.c (AV.p (PV.int IntKind.i64 (0)))), guard := none }]).seq (ACode.cond (Opd.t 19) ((ACode.region [{ dst := some 20, op := AOp.mv (Opd.t 1), guard := none }, { dst := some 21, op := AOp.mv (Opd.t 5), guard := none }, { dst := some 22, op := AOp.bin (Bin.plain BinOp.add) (Opd.t 20) (Opd.t 21), guard := none }, { dst := some 4, op := AOp.mv (Opd.t 22), guard := none }]).seq ACode.ret) ACode.skip)))))
theorem lit44_eq : lit44.body = (ACode.region [{ dst := some 4, op := AOp.mv (Opd.c (AV.p (PV.str []))), guard := none }]).seq ((ACode.region [{ dst := some 5, op := AOp.mv (Opd.c (AV.p (PV.str []))), guard := none }]).seq (ACode.block 0 (ACode.loop none body44))) := rfl
def digB (d : Nat) : UInt8 := UInt8.ofNat (48 + d)
theorem dec_big {u : Nat} (h : ¬ u < 10) : Lib.decDigits u = Lib.decDigits (u / 10) ++ [digB (u % 10)] := by
  rw [Lib.decDigits, dif_neg h]; rfl
theorem dec_one {u : Nat} (h : u < 10) : Lib.decDigits u = [digB u] := by
  rw [Lib.decDigits, dif_pos h]; rfl
theorem slice10 (d : Nat) (h : d < 10) : (([48, 49, 50, 51, 52, 53, 54, 55, 56, 57] : List UInt8).drop d).take 1 = [digB d] := by
  have : d = 0 ∨ d = 1 ∨ d = 2 ∨ d = 3 ∨ d = 4 ∨ d = 5 ∨ d = 6 ∨ d = 7 ∨ d = 8 ∨ d = 9 := by omega
  rcases this with rfl | rfl | rfl | rfl | rfl | rfl | rfl | rfl | rfl | rfl <;> rfl
theorem body44_go (C : Oracle) (L : Nat) (m : Nat) (hm : m ≤ 9223372036854775808) (sg acc : List UInt8) (ha : acc.length ≤ 1000) (ρ : Env) (σ : Heap) (h0 : ρ.get 0 = some (.p (.int .i64 (-(m : Int))))) (h1 : ρ.get 1 = some (.p (.str sg))) (h5 : ρ.get 5 = some (.p (.str acc))) (hs : sg.length ≤ 1) :
    (¬ m < 10 → ∃ ρ' : Env, exec C L body44 ⟨ρ, [], σ⟩ = some (.normal, ⟨ρ', [], σ⟩) ∧ ρ'.get 0 = some (.p (.int .i64 (-((m / 10 : Nat) : Int)))) ∧ ρ'.get 1 = some (.p (.str sg)) ∧ ρ'.get 5 = some (.p (.str (digB (m % 10) :: acc)))) ∧
    (m < 10 → ∃ ρ' : Env, exec C L body44 ⟨ρ, [], σ⟩ = some (.ret, ⟨ρ', [], σ⟩) ∧ ρ'.get 4 = some (.p (.str (sg ++ (digB m :: acc))))) := by
  have e1 : (-(m : Int)).tmod 10 = -((m % 10 : Nat) : Int) := by
    rw [Int.neg_tmod, Int.tmod_eq_emod_of_nonneg (by omega)]
    simp
  have e2 : (-(m : Int)).tdiv 10 = -((m / 10 : Nat) : Int) := by
    rw [Int.neg_tdiv, Int.tdiv_eq_ediv_of_nonneg (by omega)]
    simp
  have hd : m % 10 < 10 := Nat.mod_lt _ (by omega)
  have e3 : IntKind.i64.wrap ((m % 10 : Nat) : Int) = ((m % 10 : Nat) : Int) := wrap_id _ (by omega) (by omega)
  have e4 : IntKind.i64.wrap (((m % 10 : Nat) : Int) + 1) = ((m % 10 : Nat) : Int) + 1 := wrap_id _ (by omega) (by omega)
  have e5 : IntKind.i64.wrap (-((m / 10 : Nat) : Int)) = -((m / 10 : Nat) : Int) := wrap_id _ (by omega) (by omega)
  have hsl := slice10 (m % 10) hd
  have hq : m / 10 = 0 ↔ m < 10 := by omega
  have hmod : m < 10 → m % 10 = m := fun h => Nat.mod_eq_of_lt h
  generalize hdd : m % 10 = d at *
  generalize hqq : m / 10 = q at *
  have i1 : (0 : Int) ≤ (d : Int) := by omega
  have i2 : (d : Int) ≤ (d : Int) + 1 := by omega
  have i3 : (d : Int) + 1 ≤ 10 := by omega
  have i4 : (0 : Int) ≤ (d : Int) + 1 := by omega
  have i5 : ((d : Int) + 1).toNat = d + 1 := by omega
  have i6 : d ≤ d + 1 := by omega
  have l1 : 1 + acc.length ≤ LIM := by unfold LIM; omega
  have l2 : acc.length + 1 ≤ LIM := by unfold LIM; omega
  constructor
  · intro h10
    have hq0 : ((-(q : Int)) == 0) = false := by
      rw [beq_eq_false_iff_ne]
      omega
    refine ⟨_, by simp [body44, exec, runOps, wantedA, stepOp, pureOp, allocOp, readOp, effOp, ev, evs, evO, Env.get_cons, putE, binA, intBin, unA, AV.fit, AV.toCells, partC, partP, mkCells, allP, mkAgg, Cells.len, target, strBin, sliceA, boundsA, boundA, h0, h1, h5, e1, e2, e3, e4, e5, i1, i2, i3, i4, i5, i6, hsl, l1, l2, hq0, -Int.neg_eq_zero]; rfl, ?_, ?_, ?_⟩
    · simp [Env.get_cons]
    · simp [Env.get_cons, h1]
    · simp [Env.get_cons]
  · intro h10
    have hq1 : q = 0 := hq.2 h10
    subst hq1
    have hdm := hmod h10
    subst hdm
    have l3 : sg.length + (1 + acc.length) ≤ LIM := by unfold LIM; omega
    have l4 : sg.length + (acc.length + 1) ≤ LIM := by unfold LIM; omega
    refine ⟨_, by simp [body44, exec, runOps, wantedA, stepOp, pureOp, allocOp, readOp, effOp, ev, evs, evO, Env.get_cons, putE, binA, intBin, unA, AV.fit, AV.toCells, partC, partP, mkCells, allP, mkAgg, Cells.len, target, strBin, sliceA, boundsA, boundA, h0, h1, h5, e1, e2, e3, e4, e5, i1, i2, i3, i4, i5, i6, hsl, l1, l2, l3, l4]; rfl, ?_⟩
    simp [Env.get_cons]
theorem loop44 (C : Oracle) (L : Nat) (sg : List UInt8) (hs : sg.length ≤ 1) (σ : Heap) : ∀ (f m : Nat) (acc : List UInt8) (ρ : Env), m < 10 ^ (f + 1) → m ≤ 9223372036854775808 → acc.length + f ≤ 1000 → ρ.get 0 = some (.p (.int .i64 (-(m : Int)))) → ρ.get 1 = some (.p (.str sg)) → ρ.get 5 = some (.p (.str acc)) → ∀ g, f < g →
    ∃ ρ' : Env, iter (exec C L body44) none g ⟨ρ, [], σ⟩ = some (.ret, ⟨ρ', [], σ⟩) ∧ ρ'.get 4 = some (.p (.str (sg ++ (Lib.decDigits m ++ acc))))
  | f, m, acc, ρ, hlt, hm, ha, h0, h1, h5, g, hg => by
    obtain ⟨g, rfl⟩ : ∃ n, g = n + 1 := ⟨g - 1, by omega⟩
    have hb := body44_go C L m hm sg acc (by omega) ρ σ h0 h1 h5 hs
    by_cases h10 : m < 10
    · obtain ⟨ρ', e, g4⟩ := hb.2 h10
      refine ⟨ρ', by simp only [iter, St.keep, e], ?_⟩
      rw [g4, dec_one h10]
      rfl
    · obtain ⟨ρ1, e, k0, k1, k5⟩ := hb.1 h10
      cases f with
      | zero => exact absurd hlt (by simpa using h10)
      | succ f =>
        have hlt' : m / 10 < 10 ^ (f + 1) := by
          rw [Nat.pow_succ] at hlt
          omega
        obtain ⟨ρ', e', g4⟩ := loop44 C L sg hs σ f (m / 10) _ ρ1 hlt' (by omega) (by simp; omega) k0 k1 k5 g (by omega)
        refine ⟨ρ', by simp only [iter, St.keep, e]; exact e', ?_⟩
        rw [g4, dec_big h10]
        simp
theorem figures44 (m : Nat) (hm : m ≤ 9223372036854775808) (sg : List UInt8) (hs : sg.length ≤ 1) (L n : Nat) (hL : 1048580 ≤ L) (σ : Heap) :
    (cAt TC L (n + 1)).1 44 [.p (.int .i64 (-(m : Int))), .p (.str sg)] σ = some (.ret (.p (.str (sg ++ Lib.decDigits m))), σ) := by
  refine call_ans (ps := [.int .i64 (-(m : Int)), .str sg]) (n := n) (af := lit44) (fz := true) rfl (by kernel_rfl) ?_ σ
  generalize (cAt TC L n).1 = C
  generalize (cAt TC L n).2 = D
  rw [runFunc_eq, lit44_eq]
  obtain ⟨ρ', e, g4⟩ := loop44 C L sg hs [] 19 m [] [(5, .p (.str [])), (4, .p (.str [])), (0, .p (.int .i64 (-(m : Int)))), (1, .p (.str sg))] (by omega) hm (by simp) (by simp [Env.get_cons]) (by simp [Env.get_cons]) (by simp [Env.get_cons]) L (by omega)
  rw [List.append_nil] at g4
  rw [seqN (st1 := ⟨[(4, .p (.str [])), (0, .p (.int .i64 (-(m : Int)))), (1, .p (.str sg))], [], []⟩) (by simp [params, exec, runOps, wantedA, stepOp, pureOp, allocOp, readOp, effOp, ev, evs, evO, Env.get_cons, putE, binA, intBin, unA, AV.fit, AV.toCells, partC, partP, mkCells, allP, mkAgg, Cells.len, target])]
  rw [seqN (st1 := ⟨[(5, .p (.str [])), (4, .p (.str [])), (0, .p (.int .i64 (-(m : Int)))), (1, .p (.str sg))], [], []⟩) (by simp [exec, runOps, wantedA, stepOp, pureOp, allocOp, readOp, effOp, ev, evs, evO, Env.get_cons, putE, binA, intBin, unA, AV.fit, AV.toCells, partC, partP, mkCells, allP, mkAgg, Cells.len, target])]
  have e2 : exec C L (.block 0 (.loop none body44)) ⟨[(5, .p (.str [])), (4, .p (.str [])), (0, .p (.int .i64 (-(m : Int)))), (1, .p (.str sg))], [], []⟩ = some (.ret, ⟨ρ', [], []⟩) := by simp only [exec, e]
  rw [e2]
  simp [finX, evParts, fillA, AV.cells, splice, spliceC, finA, leaveA, resA, resV, ansV, lit44, g4]
theorem digits23 (n : Int) (h1 : -9223372036854775808 ≤ n) (h2 : n ≤ 9223372036854775807) (L k : Nat) (hL : 1048580 ≤ L) (σ : Heap) :
    (cAt TC L (k + 2)).1 23 [.p (.int .i64 n)] σ = some (.ret (.p (.str (Lib.itoa n))), σ) := by
  refine call_ans (ps := [.int .i64 n]) (n := k + 1) (af := lit23) (fz := true) rfl (by kernel_rfl) ?_ σ
  have hf := fun m hm sg hs => figures44 m hm sg hs L k hL
  generalize (cAt TC L (k + 1)).1 = C at hf ⊢
  generalize (cAt TC L (k + 1)).2 = D
  by_cases hn : n < 0
  · have h44 := hf n.natAbs (by omega) [45] (by simp)
    have e : -(n.natAbs : Int) = n := by omega
    rw [e] at h44
    have hneg : ¬ 0 ≤ n := by omega
    have hi : Lib.itoa n = 45 :: Lib.decDigits n.natAbs := by unfold Lib.itoa; rw [if_pos hn]
    rw [hi]
    simp [runFunc, lit23, params, exec, runOps, wantedA, stepOp, pureOp, allocOp, readOp, effOp, ev, evs, evO, Env.get_cons, putE, binA, intBin, unA, AV.fit, AV.toCells, partC, partP, mkCells, allP, mkAgg, Cells.len, target, evParts, fillA, AV.cells, splice, spliceC, finA, leaveA, resA, resV, ansV, hneg, h44]
  · have h44 := hf n.toNat (by omega) [] (by simp)
    have e : -(n.toNat : Int) = -n := by omega
    rw [e] at h44
    have hpos : 0 ≤ n := by omega
    have e1 : IntKind.i64.wrap (-n) = -n := wrap_id _ (by omega) (by omega)
    have e2 : IntKind.i64.wrap (-n - 1) = -n - 1 := wrap_id _ (by omega) (by omega)
    have e3 : IntKind.i64.wrap (-n - 1 + 1) = -n := by rw [wrap_id _ (by omega) (by omega)]; omega
    have hi : Lib.itoa n = Lib.decDigits n.toNat := by unfold Lib.itoa; rw [if_neg hn]
    rw [hi]
    simp [runFunc, lit23, params, exec, runOps, wantedA, stepOp, pureOp, allocOp, readOp, effOp, ev, evs, evO, Env.get_cons, putE, binA, intBin, unA, AV.fit, AV.toCells, partC, partP, mkCells, allP, mkAgg, Cells.len, target, evParts, fillA, AV.cells, splice, spliceC, finA, leaveA, resA, resV, ansV, hpos, e1, e2, e3, h44, -Int.sub_add_cancel]
end Go.Ab.Cols
