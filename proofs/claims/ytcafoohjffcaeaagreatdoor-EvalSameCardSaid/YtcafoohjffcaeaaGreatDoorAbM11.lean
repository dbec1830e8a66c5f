/- The law EvalSame: values that are not right; and what right values are. -/
import Derived.Test.YtcafoohjffcaeaaGreatDoorAbM1
import Derived.KernelRfl
set_option linter.unusedSectionVars false
set_option linter.unusedSimpArgs false
set_option linter.unusedVariables false
set_option maxRecDepth 1000000
namespace Go.Ab.Same
open Go Go.Ab Go.Proofs
variable [Marks]
theorem seqN {C : Oracle} {L : Nat} {a b : ACode} {st st1 : St} (h : exec C L a st = some (.normal, st1)) : exec C L (.seq a b) st = exec C L b st1 := by
  simp only [exec, h]
theorem drawE {C : Oracle} {i : Nat} {o : AOper} {r : List AOper} {s : Tr} {st1 : St} (hw : wantedA o.guard (keepE s.st.env (readsOf o)) = some true) (hE : isE o.op = true)
    (h : runOps C [o] { s.st with env := keepE s.st.env (readsOf o) } = some (.normal, st1)) :
    drawRun C i (o :: r) s = drawRun C (i + 1) r ⟨{ st1 with env := carry s.st.env o.dst st1.env }, s.rds, (i, s.st.heap.length, wrIds (keepE s.st.env (readsOf o)) s.st.heap o.op) :: s.wrs⟩ := by
  simp only [drawRun, hw, hE, h]
theorem drawS {C : Oracle} {i : Nat} {o : AOper} {r : List AOper} {s : Tr} {v : AV} (hw : wantedA o.guard (keepE s.st.env (readsOf o)) = some true) (hE : isE o.op = false)
    (h : stillOp (keepE s.st.env (readsOf o)) s.st.heap o.op = some (v, none)) :
    drawRun C i (o :: r) s = drawRun C (i + 1) r { s with st := { s.st with env := putE s.st.env o.dst v } } := by
  simp only [drawRun, hw, hE, h]
theorem drawR {C : Oracle} {i id : Nat} {o : AOper} {r : List AOper} {s : Tr} {v : AV} (hw : wantedA o.guard (keepE s.st.env (readsOf o)) = some true) (hE : isE o.op = false)
    (h : stillOp (keepE s.st.env (readsOf o)) s.st.heap o.op = some (v, some id)) :
    drawRun C i (o :: r) s = drawRun C (i + 1) r ⟨{ s.st with env := putE s.st.env o.dst v }, (i, id) :: s.rds, s.wrs⟩ := by
  simp only [drawRun, hw, hE, h]
/-- a call's end -/
def finX (D : DOracle) (af : AFunc) : Option (AExit × St) → Option (CRes × Heap)
  | some (.pan v, st) => finA D af st (some v)
  | some (.normal, st) => finA D af st none
  | some (.ret, st) => finA D af st none
  | _ => none
theorem runFunc_eq (C : Oracle) (D : DOracle) (L : Nat) (af : AFunc) (args : List AV) (σ : Heap) : runFunc C D L af args σ = finX D af (exec C L af.body ⟨params 0 args, [], σ⟩) := rfl
theorem seqR {C : Oracle} {L : Nat} {a b : ACode} {st st1 : St} (h : exec C L a st = some (.ret, st1)) : exec C L (.seq a b) st = some (.ret, st1) := by
  simp only [exec, h]
theorem condT {C : Oracle} {L : Nat} {c : Opd} {a b : ACode} {st : St} (h : ev st.env c = some (.p (.bool true))) : exec C L (.cond c a b) st = exec C L a st := by
  simp only [exec, h]
theorem condF {C : Oracle} {L : Nat} {c : Opd} {a b : ACode} {st : St} (h : ev st.env c = some (.p (.bool false))) : exec C L (.cond c a b) st = exec C L b st := by
  simp only [exec, h]
theorem blockR {C : Oracle} {L id : Nat} {b : ACode} {st st1 : St} (h : exec C L b st = some (.ret, st1)) : exec C L (.block id b) st = some (.ret, st1) := by
  simp only [exec, h]

theorem wrap_id (n : Int) (h1 : -9223372036854775808 ≤ n) (h2 : n ≤ 9223372036854775807) : IntKind.i64.wrap n = n := by
  simp only [IntKind.wrap, IntKind.bits, IntKind.signed]
  simp
  split <;> omega
theorem wrap_frz {g : List AV → Heap → Option (CRes × Heap)} {as0 : List AV} {σ σ1 σr : Heap} {ps : List PV} {v : PV} (hf : frzA (touch σ as0) 9 σ as0 = (ps.map .p, σ1)) (h : g (ps.map .p) [] = some (.ret (.p v), σr)) :
    wrapF g true as0 σ = some (.ret (.p v), σ1) := by
  unfold wrapF
  simp only [hf, touch_pure, List.all_nil]
  exact inner_pure h σ1
/-- what may be a value -/
def IsVal (k x : Int) (s : List UInt8) (b : Bool) : Prop := (k = 0 ∧ x = 0 ∧ s = [] ∧ b = false) ∨ (k = 1 ∧ s = [] ∧ b = false) ∨ (k = 2 ∧ x = 0 ∧ b = false) ∨ (k = 3 ∧ x = 0 ∧ s = [])
theorem eqV (k n : Int) (s : List UInt8) (b : Bool) (k' n' : Int) (s' : List UInt8) (b' : Bool) : eqP (EQ.struct [(0, false, 1, EQ.int), (1, false, 1, EQ.int), (2, false, 1, EQ.str), (3, false, 1, EQ.bool)]) (.agg [.int .i64 k, .int .i64 n, .str s, .bool b]) (.agg [.int .i64 k', .int .i64 n', .str s', .bool b']) = some (k == k' && (n == n' && (s == s' && b == b'))) := by
  simp only [eqP, eqPs, partP]
  cases h1 : (k == k') <;> cases h2 : (n == n') <;> cases h3 : (s == s') <;> cases h4 : (b == b') <;> simp [h1, h2, h3, h4]
theorem q7 : TE 7 = some (.code lit7 true) := by kernel_rfl
theorem q21 : TE 21 = some (.code lit21 true) := by kernel_rfl
theorem q5 : TE 5 = some (.code lit5 true) := by kernel_rfl
theorem right21 (L n : Nat) (k x : Int) (s : List UInt8) (b : Bool) : ∃ r : Bool, (r = true → IsVal k x s b) ∧ ∀ σ, (cAt TE L (n + 1)).1 21 [.p (.agg [.int .i64 k, .int .i64 x, .str s, .bool b])] σ = some (.ret (.p (.bool r)), σ) := by
  have h : ∃ r : Bool, (r = true → IsVal k x s b) ∧ ansV (runFunc (cAt TE L n).1 (cAt TE L n).2 L lit21 [.p (.agg [.int .i64 k, .int .i64 x, .str s, .bool b])] []) = some (.bool r) := by
    by_cases h0 : k = 0
    · subst h0
      refine ⟨(x == 0 && (s == [] && b == false)), ?_, ?_⟩
      · intro h; simp at h; exact .inl ⟨rfl, h.1, h.2.1, h.2.2⟩
      · simp [lit21, runFunc, params, exec, runOps, wantedA, stepOp, pureOp, allocOp, readOp, ev, Env.get_cons, putE, binA, intBin, AV.fit, AV.toCells, partC, partP, allP, mkAgg, Cells.len, eqV, evParts, fillA, finA, leaveA, resA, resV, ansV]
    by_cases h1 : k = 1
    · subst h1
      refine ⟨(s == [] && b == false), ?_, ?_⟩
      · intro h; simp at h; exact .inr (.inl ⟨rfl, h.1, h.2⟩)
      · simp [lit21, runFunc, params, exec, runOps, wantedA, stepOp, pureOp, allocOp, readOp, ev, Env.get_cons, putE, binA, intBin, AV.fit, AV.toCells, partC, partP, allP, mkAgg, Cells.len, eqV, evParts, fillA, AV.cells, splice, finA, leaveA, resA, resV, ansV]
    by_cases h2 : k = 2
    · subst h2
      refine ⟨(x == 0 && b == false), ?_, ?_⟩
      · intro h; simp at h; exact .inr (.inr (.inl ⟨rfl, h.1, h.2⟩))
      · simp [lit21, runFunc, params, exec, runOps, wantedA, stepOp, pureOp, allocOp, readOp, ev, Env.get_cons, putE, binA, intBin, AV.fit, AV.toCells, partC, partP, allP, mkAgg, Cells.len, eqV, evParts, fillA, AV.cells, splice, finA, leaveA, resA, resV, ansV]
    by_cases h3 : k = 3
    · subst h3
      refine ⟨(x == 0 && s == []), ?_, ?_⟩
      · intro h; simp at h; exact .inr (.inr (.inr ⟨rfl, h.1, h.2⟩))
      · simp [lit21, runFunc, params, exec, runOps, wantedA, stepOp, pureOp, allocOp, readOp, ev, Env.get_cons, putE, binA, intBin, AV.fit, AV.toCells, partC, partP, allP, mkAgg, Cells.len, eqV, evParts, fillA, AV.cells, splice, finA, leaveA, resA, resV, ansV]
    refine ⟨false, fun h => (by cases h), ?_⟩
    have g0 : (k == 0) = false := beq_eq_false_iff_ne.2 h0
    have g1 : (k == 1) = false := beq_eq_false_iff_ne.2 h1
    have g2 : (k == 2) = false := beq_eq_false_iff_ne.2 h2
    have g3 : (k == 3) = false := beq_eq_false_iff_ne.2 h3
    simp [lit21, runFunc, params, exec, runOps, wantedA, stepOp, pureOp, allocOp, readOp, ev, Env.get_cons, putE, binA, intBin, AV.fit, AV.toCells, partC, partP, Cells.len, g0, g1, g2, g3, finA, leaveA, resA, resV, ansV]
  obtain ⟨r, hr, h⟩ := h
  exact ⟨r, hr, fun σ => call_ans (ps := [.agg [.int .i64 k, .int .i64 x, .str s, .bool b]]) q21 (by kernel_rfl) h σ⟩
def body7 : ACode := (((ACode.region [{ dst := some 5, op := AOp.mv (Opd.t 3), guard := none }, { dst := some 6, op := AOp.mv (Opd.t 0), guard := none }, { dst := some 7, op := AOp.len false (Opd.t 6), guard := none }, { dst := some 8, op := AOp.bin (Bin.plain BinOp.lss) (Opd.t 5) (Opd.t 7), guard := none }]).seq (ACode.cond (Opd.t 8) ACode.skip (ACode.exit 0))).seq ((ACode.block 1 ((ACode.region [{ dst := some 11, op := AOp.mv (Opd.t 0), guard := none }, { dst := some 12, op := AOp.mv (Opd.t 3), guard := none }, { dst := some 13, op := AOp.idx 4 (Opd.t 11) (Opd.t 12), guard := none }, { dst := some 14, op := AOp.load true 4 (Opd.t 13), guard := none }, { dst := some 15, op := AOp.call (Opd.c (AV.p (PV.fn 21))) [Opd.t 14], guard := none }, { dst := some 4, op := AOp.mv (Opd.t 15), guard := none }]).seq ((ACode.region [{ dst := some 16, op := AOp.mv (Opd.t 4), guard := none }, { dst := some 17, op := AOp.un UnOp.not (Opd.t 16), guard := none }]).seq (ACode.cond (Opd.t 17) ((ACode.region [{ dst := some 2, op := AOp.mv (Opd.c (AV.p (PV.bool false))), guard := none }]).seq ACode.ret) ACode.skip)))).seq (ACode.region [{ dst := some 9, op := AOp.mv (Opd.t 3), guard := none }, { dst := some 10, op := AOp.bin (Bin.plain BinOp.add) (Opd.t 9) (Opd.c (AV.p (PV.int IntKind.i64 (1)))), guard := none }, { dst := some 3, op := AOp.mv (Opd.t 10), guard := none }])))
section
variable (C : Oracle) (L : Nat) (rows : List (List PV)) (ρ : Env) (i : Nat)
theorem stop7 (h0 : ρ.get 0 = some (.p (.vsl rows.flatten rows.length))) (h3 : ρ.get 3 = some (.p (.int .i64 (i : Int)))) (hs : rows.length ≤ i) :
    ∃ ρ' : Env, exec C L body7 ⟨ρ, [], []⟩ = some (.exit 0, ⟨ρ', [], []⟩) := by
  have hi : ¬ (i : Int) < (rows.length : Int) := by omega
  exact ⟨_, by simp [body7, exec, runOps, wantedA, stepOp, pureOp, ev, Env.get_cons, putE, binA, intBin, lenA, h0, h3, hi]; rfl⟩
theorem go7 (r : List PV) (b : Bool) (h0 : ρ.get 0 = some (.p (.vsl rows.flatten rows.length))) (h3 : ρ.get 3 = some (.p (.int .i64 (i : Int)))) (hr : rows[i]? = some r) (hl : ∀ r ∈ rows, r.length = 4) (hm : rows.length ≤ maxLen)
    (hC : ∀ σ, C 21 [.p (.agg r)] σ = some (.ret (.p (.bool b)), σ)) :
    ∃ (ρ' : Env), exec C L body7 ⟨ρ, [], []⟩ = some (if b then .normal else .ret, ⟨ρ', [], []⟩) ∧ (b = true → ρ'.get 0 = some (.p (.vsl rows.flatten rows.length)) ∧ ρ'.get 3 = some (.p (.int .i64 ((i : Int) + 1)))) ∧ (b = false → ρ'.get 2 = some (.p (.bool false))) := by
  have hi : i < rows.length := (List.getElem?_eq_some_iff.1 hr).1
  have hi' : (i : Int) < (rows.length : Int) := by omega
  obtain ⟨d1, d2⟩ := drop_flatten rows i r hl hr
  have hM : maxLen ≤ 9223372036854775807 := by decide
  have e1 : IntKind.i64.wrap ((i : Int) + 1) = (i : Int) + 1 := wrap_id _ (by omega) (by omega)
  have d4 : 4 ≤ rows.flatten.length - i * 4 := by omega
  cases b
  · refine ⟨_, by simp [-List.length_flatten, body7, exec, runOps, wantedA, stepOp, pureOp, allocOp, readOp, ev, evs, Env.get_cons, putE, binA, intBin, unA, partP, target, lenA, idxA, h0, h3, hi', d1, d4, hC]; rfl, ?_, ?_⟩
    · simp
    · simp [Env.get_cons]
  · refine ⟨_, by simp [-List.length_flatten, body7, exec, runOps, wantedA, stepOp, pureOp, allocOp, readOp, ev, evs, Env.get_cons, putE, binA, intBin, unA, partP, target, lenA, idxA, h0, h3, hi', e1, d1, d4, hC]; rfl, ?_, ?_⟩
    · simp [Env.get_cons, h0]
    · simp
end
theorem loop7 (C : Oracle) (L : Nat) (Q : List PV → Prop) (rows : List (List PV)) (hl : ∀ r ∈ rows, r.length = 4) (hm : rows.length ≤ maxLen) (hC : ∀ r ∈ rows, ∃ b : Bool, (b = true → Q r) ∧ ∀ σ, C 21 [.p (.agg r)] σ = some (.ret (.p (.bool b)), σ)) :
    ∀ (d n i : Nat) (ρ : Env), rows.length - i ≤ d → d < n → ρ.get 0 = some (.p (.vsl rows.flatten rows.length)) → ρ.get 3 = some (.p (.int .i64 (i : Int))) →
    ∃ (x : AExit) (ρ' : Env), iter (exec C L body7) none n ⟨ρ, [], []⟩ = some (x, ⟨ρ', [], []⟩) ∧ (x = .exit 0 ∧ (∀ (j : Nat) r, i ≤ j → rows[j]? = some r → Q r) ∨ x = .ret ∧ ρ'.get 2 = some (.p (.bool false)))
  | d, n, i, ρ, hd, hn, h0, h3 => by
    obtain ⟨n, rfl⟩ : ∃ m, n = m + 1 := ⟨n - 1, by omega⟩
    by_cases hs : rows.length ≤ i
    · obtain ⟨ρ', e⟩ := stop7 C L rows ρ i h0 h3 hs
      refine ⟨.exit 0, ρ', ?_, .inl ⟨rfl, fun j r hij hj => ?_⟩⟩
      · simp only [iter, St.keep, e]
      · have := (List.getElem?_eq_some_iff.1 hj).1
        omega
    · have hi : i < rows.length := by omega
      obtain ⟨b, hq, hb⟩ := hC rows[i] (List.getElem_mem hi)
      obtain ⟨ρ1, e, g1, g2⟩ := go7 C L rows ρ i rows[i] b h0 h3 (List.getElem?_eq_getElem hi) hl hm hb
      cases b
      · refine ⟨.ret, ρ1, ?_, .inr ⟨rfl, g2 rfl⟩⟩
        simp only [iter, St.keep, e]
        rfl
      · obtain ⟨d, rfl⟩ : ∃ m, d = m + 1 := ⟨d - 1, by omega⟩
        obtain ⟨x, ρ', e', q⟩ := loop7 C L Q rows hl hm hC d n (i + 1) ρ1 (by omega) (by omega) (g1 rfl).1 (by rw [(g1 rfl).2]; rfl)
        refine ⟨x, ρ', ?_, q.imp (fun q => ⟨q.1, fun j r hij hj => ?_⟩) id⟩
        · simp only [iter, St.keep, e]
          exact e'
        · by_cases hij' : j = i
          · subst hij'
            rw [List.getElem?_eq_getElem hi] at hj
            obtain rfl := Option.some.inj hj
            exact hq rfl
          · exact q.2 j r (by omega) hj
theorem lit7_eq : lit7.body = .seq (.region [{ dst := some 2, op := AOp.mv (Opd.c (AV.p (PV.bool false))), guard := none }]) (.seq (.seq (.region [{ dst := some 3, op := AOp.mv (Opd.c (AV.p (PV.int IntKind.i64 (0)))), guard := none }]) (.block 0 (.loop none body7))) (.seq (.region [{ dst := some 2, op := AOp.mv (Opd.c (AV.p (PV.bool true))), guard := none }]) .ret)) := rfl
theorem rights7 (L n : Nat) (Q : List PV → Prop) (rows : List (List PV)) (hl : ∀ r ∈ rows, r.length = 4) (hm : rows.length ≤ maxLen) (hL : rows.length < L) (hC : ∀ r ∈ rows, ∃ b : Bool, (b = true → Q r) ∧ ∀ σ, (cAt TE L (n + 1)).1 21 [.p (.agg r)] σ = some (.ret (.p (.bool b)), σ)) :
    ∃ b : Bool, (b = true → ∀ (j : Nat) r, rows[j]? = some r → Q r) ∧ ansV (runFunc (cAt TE L (n + 1)).1 (cAt TE L (n + 1)).2 L lit7 [.p (.vsl rows.flatten rows.length)] []) = some (.bool b) := by
  generalize (cAt TE L (n + 1)).1 = C at hC ⊢
  generalize (cAt TE L (n + 1)).2 = D
  obtain ⟨x, ρ', e, hx⟩ := loop7 C L Q rows hl hm hC rows.length L 0 [(3, .p (.int .i64 0)), (2, .p (.bool false)), (0, .p (.vsl rows.flatten rows.length))] (by omega) hL rfl rfl
  have e3 : exec C L (.seq (.region [{ dst := some 3, op := AOp.mv (Opd.c (AV.p (PV.int IntKind.i64 (0)))), guard := none }]) (.block 0 (.loop none body7))) ⟨[(2, .p (.bool false)), (0, .p (.vsl rows.flatten rows.length))], [], []⟩ = exec C L (.block 0 (.loop none body7)) ⟨[(3, .p (.int .i64 0)), (2, .p (.bool false)), (0, .p (.vsl rows.flatten rows.length))], [], []⟩ :=
    seqN (a := .region _) (by simp [exec, runOps, wantedA, stepOp, pureOp, ev, putE])
  unfold runFunc
  rw [lit7_eq]
  rw [seqN (a := .region _) (by simp [params, exec, runOps, wantedA, stepOp, pureOp, ev, putE]; rfl)]
  rcases hx with ⟨rfl, hq⟩ | ⟨rfl, g2⟩
  · refine ⟨true, fun _ j r hj => hq j r (Nat.zero_le _) hj, ?_⟩
    have e2 : exec C L (.block 0 (.loop none body7)) ⟨[(3, .p (.int .i64 0)), (2, .p (.bool false)), (0, .p (.vsl rows.flatten rows.length))], [], []⟩ = some (.normal, ⟨ρ', [], []⟩) := by
      simp only [exec, e, if_true]
    erw [seqN (e3.trans e2)]
    simp [exec, runOps, wantedA, stepOp, pureOp, ev, Env.get_cons, putE, finA, leaveA, resA, resV, ansV, lit7]
  · refine ⟨false, fun h => (by cases h), ?_⟩
    have e2 : exec C L (.block 0 (.loop none body7)) ⟨[(3, .p (.int .i64 0)), (2, .p (.bool false)), (0, .p (.vsl rows.flatten rows.length))], [], []⟩ = some (.ret, ⟨ρ', [], []⟩) := by
      simp only [exec, e]
    erw [seqR (e3.trans e2)]
    simp [finA, leaveA, resA, resV, ansV, lit7, g2]
/-- a value's cells -/
def cv (k x : Int) (s : List UInt8) (b : Bool) : List PV := [.int .i64 k, .int .i64 x, .str s, .bool b]
section
variable (k0 x0 k1 x1 k2 x2 : Int) (s0 s1 s2 : List UInt8) (b0 b1 b2 : Bool)
theorem alive8E (L n : Nat) (hL : 100 ≤ L) (hn : 20 ≤ n) (σ : Heap) : (cAt TE L n).1 8 [] σ = some (.ret (.p (.bool true)), σ) := by
  obtain ⟨m, rfl⟩ : ∃ m, L = m + 100 := ⟨L - 100, by omega⟩
  obtain ⟨j, rfl⟩ : ∃ j, n = j + 20 := ⟨n - 20, by omega⟩
  refine call_ans (ps := []) (n := j + 19) (fz := true) (af := lit8) (by kernel_rfl) (by kernel_rfl) ?_ σ
  kernel_rfl
theorem law5_stop (hv : ¬ (IsVal k0 x0 s0 b0 ∧ IsVal k1 x1 s1 b1 ∧ IsVal k2 x2 s2 b2)) :
    ∃ L n, (cAt TE L n).1 5 [.p (.agg (cv k0 x0 s0 b0)), .p (.agg (cv k1 x1 s1 b1)), .p (.agg (cv k2 x2 s2 b2))] [] = some (.ret (.p (.bool true)), []) := by
  refine ⟨100, 30, ?_⟩
  obtain ⟨b, hb, h7⟩ := rights7 100 27 (fun r => ∃ k x s b, r = cv k x s b ∧ IsVal k x s b) [cv k0 x0 s0 b0, cv k1 x1 s1 b1, cv k2 x2 s2 b2] (by simp [cv]) (by simp [maxLen]) (by simp) (by
    intro r hr
    have : ∃ k x s b, r = cv k x s b := by
      simp only [List.mem_cons, List.not_mem_nil, or_false] at hr
      rcases hr with rfl | rfl | rfl <;> exact ⟨_, _, _, _, rfl⟩
    obtain ⟨k, x, s, b, rfl⟩ := this
    obtain ⟨r, h1, h2⟩ := right21 100 27 k x s b
    exact ⟨r, fun h => ⟨k, x, s, b, rfl, h1 h⟩, h2⟩)
  cases b with
  | true =>
    exfalso
    apply hv
    have get : ∀ (j : Nat) k x s b, [cv k0 x0 s0 b0, cv k1 x1 s1 b1, cv k2 x2 s2 b2][j]? = some (cv k x s b) → IsVal k x s b := by
      intro j k x s b hj
      obtain ⟨k', x', s', b', he, hv⟩ := hb rfl j _ hj
      simp only [cv, List.cons.injEq, PV.int.injEq, PV.str.injEq, PV.bool.injEq, true_and, and_true] at he
      obtain ⟨rfl, rfl, rfl, rfl⟩ := he
      exact hv
    exact ⟨get 0 _ _ _ _ rfl, get 1 _ _ _ _ rfl, get 2 _ _ _ _ rfl⟩
  | false =>
    obtain ⟨σr, h7⟩ := ans_of h7
    have hc7 : (cAt TE 100 29).1 7 [.sl 3 0 0 3 4] [.arr (.pv (cv k0 x0 s0 b0)) 0 0, .arr (.pv (cv k1 x1 s1 b1)) 0 0, .arr (.pv (cv k2 x2 s2 b2)) 0 0, .arr (.pv (cv k0 x0 s0 b0 ++ (cv k1 x1 s1 b1 ++ cv k2 x2 s2 b2))) 0 0, .arr (.av [.sl 3 0 0 3 4]) 0 0] =
        some (.ret (.p (.bool false)), [.arr (.pv (cv k0 x0 s0 b0)) 0 0, .arr (.pv (cv k1 x1 s1 b1)) 0 0, .arr (.pv (cv k2 x2 s2 b2)) 0 0, .arr (.pv (cv k0 x0 s0 b0 ++ (cv k1 x1 s1 b1 ++ cv k2 x2 s2 b2))) 0 12, .arr (.av [.sl 3 0 0 3 4]) 0 0]) := by
      rw [show cAt TE 100 29 = (callT TE (cAt TE 100 28).1 (cAt TE 100 28).2 100, defT TE (cAt TE 100 28).1 100) from rfl]
      simp only [callT, q7]
      refine wrap_frz (ps := [.vsl [cv k0 x0 s0 b0, cv k1 x1 s1 b1, cv k2 x2 s2 b2].flatten 3]) (σr := σr) rfl ?_
      unfold runCode
      exact h7
    have h8 := alive8E 100 29 (by omega) (by omega)
    refine call_ans (ps := [.agg (cv k0 x0 s0 b0), .agg (cv k1 x1 s1 b1), .agg (cv k2 x2 s2 b2)]) (n := 29) q5 (by kernel_rfl) ?_ []
    generalize (cAt TE 100 29).1 = C at hc7 h8 ⊢
    generalize (cAt TE 100 29).2 = D
    unfold cv at *
    rw [runFunc_eq]
    simp only [lit5]
    rw [seqN (a := .region _) (by simp [params, exec, runOps, wantedA, stepOp, pureOp, allocOp, ev, Env.get_cons, putE, AV.fit, AV.toCells, Cells.len]; rfl)]
    rw [seqN (a := .region _) (by simp [exec, runOps, wantedA, stepOp, pureOp, allocOp, readOp, ev, Env.get_cons, putE, AV.fit, partC, partP, mkCells, allP, evParts, fillA, AV.cells, splice, repCells]; rfl)]
    rw [seqN (a := .region _) (by simp [exec, runOps, wantedA, stepOp, pureOp, allocOp, readOp, ev, evs, Env.get_cons, putE, partC, target, idxA]; erw [hc7])]
    rw [seqR (a := .seq (.region _) (.cond _ _ _)) (by simp [exec, runOps, wantedA, stepOp, pureOp, ev, evs, Env.get_cons, putE, unA, target, h8]; rfl)]
    simp [finX, Env.get_cons, finA, leaveA, resA, resV, ansV]
end
end Go.Ab.Same
