/- EvalCounts: slices.DeleteFunc, a whole call of it. -/
import Derived.Test.YtcafoohjffcaeaaGreatDoorAbVE
set_option linter.unusedSectionVars false
set_option linter.unusedSimpArgs false
set_option linter.unusedVariables false
set_option maxRecDepth 1000000
namespace Go.Ab.Cnt
open Go Go.Ab Go.Ab.Key Go.Proofs
variable [Marks]
/-- a call that is handed one object and answers a slice of it -/
theorem wrap_sl {g : List AV → Heap → Option (CRes × Heap)} {xs as0 : List AV} {σ τ : Heap} {id ver k : Nat} {c c' : List PV} {ty ty' : Option Nat} (h : g as0 [.arr (.pv c) 0 0 ty] = some (.ret (.sl 0 0 0 k 4), τ)) (h0 : τ[0]? = some (.arr (.pv c') 0 0 ty'))
    (ho : σ[id]? = some (.arr (.pv c) ver 0 ty)) (hids : idsL xs = [id]) (hren : renL (fwd [(id, ver)]) xs = as0) : wrapF g false xs σ = some (.ret (.sl id ver 0 k 4), σ.set id (.arr (.pv c') ver 0 ty')) := by
  obtain ⟨τ, rfl⟩ : ∃ τ', τ = .arr (.pv c') 0 0 ty' :: τ' := by
    cases τ with
    | nil => cases h0
    | cons a τ => simp at h0; subst h0; exact ⟨τ, rfl⟩
  have hid : id < σ.length := (List.getElem?_eq_some_iff.1 ho).1
  have ht : touch σ xs = [id] := by simp [touch, collect, hids, ho, idsO]
  have hout : outL 1 (.ret (.sl 0 0 0 k 4)) (.arr (.pv c') 0 0 ty' :: τ) = [(0, 0)] := by
    simp [outL, keepK, resIds, idsV, collect, listOf, idsO, Nat.blt, Nat.ble]
  have hlo : listOf σ [id] = [(id, ver)] := by simp [listOf, versO, ho, Obj.ver]
  have hsh : shrinkH [(id, ver)] σ = [.arr (.pv c) 0 0 ty] := by simp [shrinkH, ho, shO, renC]
  have hsh2 : shrinkH [(0, 0)] (.arr (.pv c') 0 0 ty' :: τ) = [.arr (.pv c') 0 0 ty'] := by simp [shrinkH, shO, renC]
  have h1 : (uniq [(id, ver)] && inOK [(id, ver)] σ.length) = true := by simp [uniq, posOf, inOK, hid]
  have h4 : (uniq [(0, 0)] && backOK [(id, ver)] [Obj.arr (.pv c') 0 0 ty']) = true := rfl
  have hm : mergeH [(id, ver)] σ [Obj.arr (.pv c') 0 0 ty'] = σ.set id (.arr (.pv c') ver 0 ty') := by simp [mergeH, putBack, bkO, renC]
  have hr : renR (bwd [(id, ver)] σ.length) (renR (fwd [(0, 0)]) (.ret (.sl 0 0 0 k 4))) = .ret (.sl id ver 0 k 4) := by
    simp [renR, renV, fwd, posOf, bwd]
  unfold wrapF
  simp only [ht]
  have hall : ([id].all fun x => [id].contains x) = true := by simp
  simp only [hall]
  unfold innerW
  simp only [hlo, h1, hren, hsh, h, List.length_cons, List.length_nil, Nat.zero_add, hout, hsh2, h4, hr, hm]
theorem nn_len (x : List V) : (nn x).length ≤ x.length := List.length_filter_le _ _
/-- parts of code -/
def fstC : ACode → ACode
  | .seq a _ => a
  | c => c
def sndC : ACode → ACode
  | .seq _ b => b
  | c => c
def pre25 : ACode := .seq (fstC lit25.body) (.seq (fstC (sndC lit25.body)) (fstC (sndC (sndC lit25.body))))
def mid25 : ACode := fstC (fstC (sndC (sndC (sndC lit25.body))))
def end25 : ACode := sndC (sndC (sndC (sndC lit25.body)))
theorem parts25 : lit25.body = .seq (fstC lit25.body) (.seq (fstC (sndC lit25.body)) (.seq (fstC (sndC (sndC lit25.body))) (.seq (.seq mid25 (.block 0 (.loop none body25))) end25))) := rfl
section
variable (C : Oracle) (D : DOracle) (L : Nat)
theorem seq3 (a b c d : ACode) (st st1 : St) (h : exec C L (.seq a (.seq b c)) st = some (.normal, st1)) : exec C L d st1 = exec C L (.seq a (.seq b (.seq c d))) st := by
  cases h1 : exec C L a st with
  | none => simp [exec, h1] at h
  | some r =>
    obtain ⟨e1, s1⟩ := r
    cases e1 with
    | normal =>
      cases h2 : exec C L b s1 with
      | none => simp [exec, h1, h2] at h
      | some r =>
        obtain ⟨e2, s2⟩ := r
        cases e2 with
        | normal =>
          simp only [exec, h1, h2] at h ⊢
          rw [h]
        | _ => simp [exec, h1, h2] at h
    | _ => simp [exec, h1] at h
theorem tail25 (n k : Nat) (ty : Option Nat) (ρ : Env) (σ : Heap) (y : List V) (h : At25 0 0 n ρ k n) (hk : k ≤ n) (hy : y.length = n) (ho : σ[0]? = some (.arr (.pv (vcs y)) 0 0 ty)) :
    ∃ ρ' σ' y', exec C L end25 ⟨ρ, [], σ⟩ = some (.ret, ⟨ρ', [], σ'⟩) ∧ ρ'.get 4 = some (.sl 0 0 0 k 4) ∧ σ'[0]? = some (.arr (.pv (vcs y')) 0 0 ty) ∧ y'.length = n ∧ y'.take k = y.take k := by
  have hk' : (k : Int) ≤ (n : Int) := by omega
  have hl := vcs_len y
  have s2 : sliceA 4 (.sl 0 0 0 n 4) none (some (.p (.int .i64 (k : Int)))) = some (.sl 0 0 0 k 4) := by
    simp [sliceA, boundsA, boundA, hk]
  have s2' : pureOp ρ (.mv (.t 0)) = some (.sl 0 0 0 n 4) := h.t0
  by_cases hkn : k = n
  · subst hkn
    rcases Nat.eq_zero_or_pos k with h0 | h0
    · subst h0
      have s1 : sliceA 4 (.sl 0 0 0 0 4) (some (.p (.int .i64 0))) none = some (.sl 0 0 0 0 4) := rfl
      have s2 : sliceA 4 (.sl 0 0 0 0 4) none (some (.p (.int .i64 0))) = some (.sl 0 0 0 0 4) := rfl
      exact ⟨_, σ, y, by simp [end25, lit25, sndC, exec, runOps, wantedA, stepOp, pureOp, allocOp, readOp, effOp, ev, evs, evO, Env.get_cons, putE, binA, intBin, unA, AV.fit, AV.toCells, partC, partP, mkCells, allP, mkAgg, Cells.len, target, h.t0, h.t5, ↓s1, ↓s2]; rfl, by simp [Env.get_cons], ho, hy, rfl⟩
    · have s1 : sliceA 4 (.sl 0 0 0 k 4) (some (.p (.int .i64 (k : Int)))) none = some (.p (.vsl [] 0)) := by
        have : k ≠ 0 := by omega
        simp [sliceA, boundsA, boundA, this]
      exact ⟨_, σ, y, by simp [end25, lit25, sndC, exec, runOps, wantedA, stepOp, pureOp, allocOp, readOp, effOp, ev, evs, evO, Env.get_cons, putE, binA, intBin, unA, AV.fit, AV.toCells, partC, partP, mkCells, allP, mkAgg, Cells.len, target, h.t0, h.t5, ↓s1, ↓s2]; rfl, by simp [Env.get_cons], ho, hy, rfl⟩
  · have hlt : k < n := by omega
    have s1 : sliceA 4 (.sl 0 0 0 n 4) (some (.p (.int .i64 (k : Int)))) none = some (.sl 0 0 (k * 4) (n - k) 4) := by
      have : ¬ k = n := hkn
      simp [sliceA, boundsA, boundA, hk, this]
    have hr := rep_nulls (n - k)
    have hc1 : ¬ n - k = 0 := by omega
    have hc2 : k * 4 + (n - k) * 4 ≤ (vcs y).length := by omega
    have hsp := splice_nulls y k (by omega)
    rw [hy] at hsp
    have h0 : 0 < σ.length := (List.getElem?_eq_some_iff.1 ho).1
    have hnk : ¬ n ≤ k := by omega
    refine ⟨_, _, y.take k ++ List.replicate (n - k) .null, by simp [end25, lit25, sndC, exec, runOps, wantedA, stepOp, pureOp, allocOp, readOp, effOp, ev, evs, evO, Env.get_cons, putE, binA, intBin, unA, AV.fit, AV.toCells, partC, partP, mkCells, allP, mkAgg, Cells.len, target, h.t0, h.t5, ↓s1, ↓s2, hc1, hnk, ho, ↓hr, hc2]; exact ⟨rfl, by simp only [spliceC, hsp]⟩, by simp [Env.get_cons], List.getElem?_set_self h0, by simp; omega, ?_⟩
    rw [List.take_append_of_le_length (by simp; omega), List.take_take, Nat.min_self]
/-- the call in its own heap -/
theorem own25 (x : List V) (hm : x.length ≤ 9223372036854775807) (hL : x.length < L) (ty : Option Nat) (hC : ∀ v ∈ x, ∀ σ, C 27 [.p (.agg (vc v))] σ = some (.ret (.p (.bool (isNull v))), σ))
    (hi : C 40 [.sl 0 0 0 x.length 4, .p (.fn 27)] [.arr (.pv (vcs x)) 0 0 ty] = some (.ret (.p (.int .i64 (idxI isNull x 0))), [.arr (.pv (vcs x)) 0 0 ty])) :
    ∃ τ y, runFunc C D L lit25 [.sl 0 0 0 x.length 4, .p (.fn 27)] [.arr (.pv (vcs x)) 0 0 ty] = some (.ret (.sl 0 0 0 (nn x).length 4), τ) ∧ τ[0]? = some (.arr (.pv (vcs y)) 0 0 ty) ∧ y.length = x.length ∧ y.take (nn x).length = nn x := by
  rw [runFunc_eq, lit25_eq]
  rcases idx_spec isNull x 0 with ⟨h1, h2⟩ | ⟨i, v, h1, h2, h3, h4⟩
  · rw [h1] at hi
    have hn : nn x = x := List.filter_eq_self.2 fun v hv => by simp [h2 v hv]
    rw [hn]
    exact ⟨[.arr (.pv (vcs x)) 0 0 ty], x, by simp [lit25, params, exec, runOps, wantedA, stepOp, pureOp, allocOp, readOp, effOp, ev, evs, evO, Env.get_cons, putE, binA, intBin, unA, AV.fit, AV.toCells, partC, partP, mkCells, allP, mkAgg, Cells.len, target, evParts, fillA, AV.cells, splice, spliceC, finA, leaveA, resA, resV, ansV, finX, hi], rfl, rfl, List.take_length⟩
  · rw [Nat.zero_add] at h1
    rw [h1] at hi
    have hix : i < x.length := (List.getElem?_eq_some_iff.1 h2).1
    have hne : ¬ (i : Int) = -1 := by omega
    have e1 : IntKind.i64.wrap ((i : Int) + 1) = ((i + 1 : Nat) : Int) := by rw [wrap_id _ (by omega) (by omega)]; omega
    have hvx : x[i] = v := by rw [List.getElem?_eq_getElem hix] at h2; exact Option.some.inj h2
    have htk : x.take i = nn (x.take (i + 1)) := by
      rw [List.take_add_one, h2]
      unfold nn
      rw [List.filter_append]
      have he : (some v).toList.filter (fun v => !isNull v) = [] := by simp [h3]
      rw [he, List.append_nil, List.filter_eq_self.2 fun u hu => by simp [h4 u hu]]
    obtain ⟨F, hF⟩ : ∃ F : Env → Env × Heap × List V × Nat, ∀ ρ, At25 0 0 x.length ρ i (i + 1) → iter (exec C L body25) none L ⟨ρ, [], [.arr (.pv (vcs x)) 0 0 ty]⟩ = some (.exit 0, ⟨(F ρ).1, [], (F ρ).2.1⟩) ∧
        At25 0 0 x.length (F ρ).1 (F ρ).2.2.2 x.length ∧ (F ρ).2.2.2 ≤ x.length ∧ (F ρ).2.2.1.length = x.length ∧ (F ρ).2.2.1.take (F ρ).2.2.2 = nn x ∧ (F ρ).2.1[0]? = some (.arr (.pv (vcs (F ρ).2.2.1)) 0 0 ty) := by
      have hl := fun ρ (h : At25 0 0 x.length ρ i (i + 1)) => loop25 C L 0 0 x.length ty x rfl hm hC (x.length - (i + 1)) i (i + 1) L ρ [.arr (.pv (vcs x)) 0 0 ty] x (by omega) (by omega) (by omega) rfl rfl htk h rfl
      refine ⟨fun ρ => open Classical in if h : At25 0 0 x.length ρ i (i + 1) then ((hl ρ h).choose, (hl ρ h).choose_spec.choose, (hl ρ h).choose_spec.choose_spec.choose, (hl ρ h).choose_spec.choose_spec.choose_spec.choose) else (ρ, [], [], 0), fun ρ h => ?_⟩
      simp only [dif_pos h]
      exact (hl ρ h).choose_spec.choose_spec.choose_spec.choose_spec
    have hF1 := fun ρ (t0 : ρ.get 0 = some (.sl 0 0 0 x.length 4)) (t1 : ρ.get 1 = some (.p (.fn 27))) (t5 : ρ.get 5 = some (.p (.int .i64 (i : Int)))) (t6 : ρ.get 6 = some (.p (.int .i64 ((i + 1 : Nat) : Int)))) => hF ρ ⟨t0, t1, t5, t6⟩
    have pre : ∃ ρ1, exec C L pre25 ⟨params 0 [.sl 0 0 0 x.length 4, .p (.fn 27)], [], [.arr (.pv (vcs x)) 0 0 ty]⟩ = some (.normal, ⟨ρ1, [], [.arr (.pv (vcs x)) 0 0 ty]⟩) ∧ ρ1.get 0 = some (.sl 0 0 0 x.length 4) ∧ ρ1.get 1 = some (.p (.fn 27)) ∧ ρ1.get 5 = some (.p (.int .i64 (i : Int))) :=
      ⟨_, by simp [pre25, lit25, fstC, sndC, params, exec, runOps, wantedA, stepOp, pureOp, allocOp, readOp, effOp, ev, evs, evO, Env.get_cons, putE, binA, intBin, unA, AV.fit, AV.toCells, partC, partP, mkCells, allP, mkAgg, Cells.len, target, hi, hne]; rfl, by simp [Env.get_cons], by simp [Env.get_cons], by simp [Env.get_cons]⟩
    obtain ⟨ρ1, e1', p0, p1, p5⟩ := pre
    have mid : ∃ ρ2, exec C L mid25 ⟨ρ1, [], [.arr (.pv (vcs x)) 0 0 ty]⟩ = some (.normal, ⟨ρ2, [], [.arr (.pv (vcs x)) 0 0 ty]⟩) ∧ At25 0 0 x.length ρ2 i (i + 1) :=
      ⟨_, by simp [mid25, lit25, fstC, sndC, exec, runOps, wantedA, stepOp, pureOp, allocOp, readOp, effOp, ev, evs, evO, Env.get_cons, putE, binA, intBin, unA, AV.fit, AV.toCells, partC, partP, mkCells, allP, mkAgg, Cells.len, target, p5, e1]; rfl, by simp [Env.get_cons, p0], by simp [Env.get_cons, p1], by simp [Env.get_cons, p5], by simp [Env.get_cons]⟩
    obtain ⟨ρ2, e2, h2'⟩ := mid
    obtain ⟨e3, hat, hk, hyl, hyt, hob⟩ := hF ρ2 h2'
    obtain ⟨ρ4, σ4, y4, e4, g4, ho4, hy4, ht4⟩ := tail25 C L x.length (F ρ2).2.2.2 ty (F ρ2).1 (F ρ2).2.1 (F ρ2).2.2.1 hat hk hyl hob
    have hkk : (F ρ2).2.2.2 = (nn x).length := by rw [← hyt, List.length_take, hyl, Nat.min_eq_left hk]
    have hrun : exec C L lit25.body ⟨params 0 [.sl 0 0 0 x.length 4, .p (.fn 27)], [], [.arr (.pv (vcs x)) 0 0 ty]⟩ = some (.ret, ⟨ρ4, [], σ4⟩) := by
      have e5 : exec C L (.seq mid25 (.block 0 (.loop none body25))) ⟨ρ1, [], [.arr (.pv (vcs x)) 0 0 ty]⟩ = some (.normal, ⟨(F ρ2).1, [], (F ρ2).2.1⟩) := by
        rw [seqN e2]
        simp only [exec, e3, if_true]
      have e6 : exec C L (.seq (.seq mid25 (.block 0 (.loop none body25))) end25) ⟨ρ1, [], [.arr (.pv (vcs x)) 0 0 ty]⟩ = some (.ret, ⟨ρ4, [], σ4⟩) := by
        rw [seqN e5]; exact e4
      rw [parts25, ← seq3 C L _ _ _ _ _ _ e1']
      exact e6
    refine ⟨σ4, y4, ?_, ho4, hy4, ?_⟩
    · rw [← lit25_eq, hrun]
      simp [finX, finA, leaveA, resA, resV, lit25, g4, hkk]
    · rw [← hkk, ht4, hyt]
end
section
variable (L n : Nat)
theorem q25 : TC 25 = some (.code lit25 false) := by kernel_rfl
/-- DeleteFunc of a slice in the heap -/
theorem delete25 (x : List V) (hm : x.length ≤ 9223372036854775807) (hL : x.length < L) {σ : Heap} {id ver : Nat} {ty : Option Nat} (ho : σ[id]? = some (.arr (.pv (vcs x)) ver 0 ty)) :
    ∃ y, (cAt TC L (n + 3)).1 25 [.sl id ver 0 x.length 4, .p (.fn 27)] σ = some (.ret (.sl id ver 0 (nn x).length 4), σ.set id (.arr (.pv (vcs y)) ver 0 ty)) ∧ y.length = x.length ∧ y.take (nn x).length = nn x := by
  have hi := index_null L n x hm hL (s := .sl 0 0 0 x.length 4) (σ := [.arr (.pv (vcs x)) 0 0 ty]) (.inr ⟨0, 0, 0, [], ty, rfl, by simp⟩)
  have hC : ∀ v ∈ x, ∀ σ, (cAt TC L (n + 2)).1 27 [.p (.agg (vc v))] σ = some (.ret (.p (.bool (isNull v))), σ) := fun v _ σ => null27 L (n + 1) v σ
  rw [show cAt TC L (n + 3) = (callT TC (cAt TC L (n + 2)).1 (cAt TC L (n + 2)).2 L, defT TC (cAt TC L (n + 2)).1 L) from rfl]
  simp only [callT, q25]
  generalize (cAt TC L (n + 2)).1 = C at *
  generalize (cAt TC L (n + 2)).2 = D
  obtain ⟨τ, y, h1, h2, h3, h4⟩ := own25 C D L x hm hL ty hC hi
  refine ⟨y, ?_, h3, h4⟩
  have hb : Nat.beq id id = true := Nat.beq_refl id
  have hf : fits lit25 [.sl 0 0 0 x.length 4, .p (.fn 27)] = true := rfl
  exact wrap_sl (as0 := [.sl 0 0 0 x.length 4, .p (.fn 27)]) (by simp only [runCode, hf]; exact h1) h2 ho rfl (by simp [renL, renV, fwd, posOf, hb])
end
end Go.Ab.Cnt

/- EvalCounts: calls that freeze a list; numbers; copies. -/
set_option maxRecDepth 1000000
namespace Go.Ab.Cnt
open Go Go.Ab Go.Ab.Key Go.Proofs
variable [Marks]
def lit28 : AFunc := { ntmps := 5, results := [ARes.cell 2 true 4], body := (ACode.region [{ dst := some 2, op := AOp.alloc 30 [AV.p (PV.int IntKind.i64 (0)), AV.p (PV.int IntKind.i64 (0)), AV.p (PV.str []), AV.p (PV.bool false)], guard := none }]).seq ((ACode.region [{ dst := some 3, op := AOp.mv (Opd.t 0), guard := none }, { dst := some 4, op := AOp.build [AV.p (PV.int IntKind.i64 (0)), AV.p (PV.int IntKind.i64 (0)), AV.p (PV.str []), AV.p (PV.bool false)] [(0, 1, Opd.c (AV.p (PV.int IntKind.i64 (1)))), (1, 1, Opd.t 3)], guard := none }, { dst := none, op := AOp.store 4 (Opd.t 2) (Opd.t 4), guard := none }]).seq ACode.ret) }
/-- a call whose arguments are frozen is that of the frozen ones -/
theorem frz_more {g : List AV → Heap → Option (CRes × Heap)} {xs ys : List AV} {σ σ1 : Heap} (h : frzA (touch σ xs) 9 σ xs = (ys, σ1)) (h1 : frzA (touch σ1 ys) 9 σ1 ys = (ys, σ1)) (ht : ((touch σ1 ys).all fun x => (touch σ xs).contains x) = true) :
    wrapF g true xs σ = wrapF g true ys σ1 := by
  have ht1 : ((touch σ1 ys).all fun x => (touch σ1 ys).contains x) = true := by simp
  unfold wrapF
  simp only [h, h1, ht, ht1]
/-- a list, frozen or in an object of its own behind the two first -/
def Lst (σ : Heap) (s : AV) (l : List V) : Prop := s = .p (.vsl (vcs l) l.length) ∨ (s = .nil0 ∧ l = []) ∨ ∃ id ver wm rest ty, 2 ≤ id ∧ s = .sl id ver 0 l.length 4 ∧ σ[id]? = some (.arr (.pv (vcs l ++ rest)) ver wm ty) ∧ wm ≤ l.length * 4
/-- the two first objects stay -/
def Two (σ σ1 : Heap) : Prop := σ1[0]? = σ[0]? ∧ σ1[1]? = σ[1]? ∧ σ.length ≤ σ1.length
theorem Two.refl (σ : Heap) : Two σ σ := ⟨rfl, rfl, Nat.le_refl _⟩
theorem Two.trans {σ σ1 σ2 : Heap} (h : Two σ σ1) (k : Two σ1 σ2) : Two σ σ2 := ⟨k.1.trans h.1, k.2.1.trans h.2.1, Nat.le_trans h.2.2 k.2.2⟩
theorem Two.push {σ : Heap} (h : 2 ≤ σ.length) (τ : Heap) : Two σ (σ ++ τ) := ⟨List.getElem?_append_left (by omega), List.getElem?_append_left (by omega), by simp⟩
theorem Two.set {σ : Heap} {id : Nat} (h : 2 ≤ id) (o : Obj) : Two σ (σ.set id o) := ⟨List.getElem?_set_ne (by omega), List.getElem?_set_ne (by omega), by simp⟩
theorem Lst.len {σ : Heap} {s : AV} {l : List V} (h : Lst σ s l) : lenA s = some l.length := by
  rcases h with rfl | ⟨rfl, rfl⟩ | ⟨_, _, _, _, _, _, rfl, _⟩ <;> rfl
theorem Lst.str {σ : Heap} {s : AV} {l : List V} (h : Lst σ s l) : ∀ t, s ≠ .p (.str t) := by
  intro t ht
  rcases h with rfl | ⟨rfl, rfl⟩ | ⟨_, _, _, _, _, _, rfl, _⟩ <;> cases ht
theorem Lst.push {σ : Heap} {s : AV} {l : List V} (h : Lst σ s l) (τ : Heap) : Lst (σ ++ τ) s l := by
  rcases h with h | h | ⟨id, ver, wm, rest, ty, h2, hs, ho, hw⟩
  · exact .inl h
  · exact .inr (.inl h)
  · exact .inr (.inr ⟨id, ver, wm, rest, ty, h2, hs, by rw [List.getElem?_append_left (List.getElem?_eq_some_iff.1 ho).1]; exact ho, hw⟩)
/-- a list frozen: which is left of the heap -/
theorem Lst.frz {σ : Heap} {s : AV} {l : List V} (h : Lst σ s l) {tl : List Nat} (ht : ∀ id ver n, s = .sl id ver 0 n 4 → tl.contains id = true) :
    ∃ σ1, Go.Ab.frz tl 9 σ s = some (.vsl (vcs l) l.length, σ1) ∧ Two σ σ1 ∧ σ1.length = σ.length ∧ Lst σ1 s l ∧ ∀ j o, σ[j]? = some o → (∀ ver n, s ≠ .sl j ver 0 n 4) → σ1[j]? = some o := by
  rcases h with rfl | ⟨rfl, rfl⟩ | ⟨id, ver, wm, rest, ty, h2, rfl, ho, hw⟩
  · exact ⟨σ, rfl, .refl _, rfl, .inl rfl, fun _ _ h _ => h⟩
  · exact ⟨σ, rfl, .refl _, rfl, .inr (.inl ⟨rfl, rfl⟩), fun _ _ h _ => h⟩
  · have hid : id < σ.length := (List.getElem?_eq_some_iff.1 ho).1
    have hc := ht id ver l.length rfl
    have hl : l.length * 4 ≤ (vcs l).length + rest.length := by rw [vcs_len]; omega
    have htk : (vcs l ++ rest).take (l.length * 4) = vcs l := by rw [← vcs_len, List.take_left]
    have hmax : Nat.max wm (l.length * 4) = l.length * 4 := Nat.max_eq_right hw
    refine ⟨σ.set id (.arr (.pv (vcs l ++ rest)) ver (l.length * 4) ty), ?_, .set h2 _, by simp, ?_, ?_⟩
    · simp only [Go.Ab.frz, ho, Cells.len, hc, List.drop_zero, htk, and_true, true_and, List.length_append, Nat.zero_add, hmax]
      rw [if_pos hl]
    · exact .inr (.inr ⟨id, ver, l.length * 4, rest, ty, h2, rfl, by rw [List.getElem?_set_self hid], Nat.le_refl _⟩)
    · intro j o hj hne
      rw [List.getElem?_set_ne]
      · exact hj
      · rintro rfl
        exact hne ver l.length rfl
section
variable (L n : Nat)
theorem q28 : TC 28 = some (.code lit28 true) := by kernel_rfl
theorem num28 (k : Int) (σ : Heap) : (cAt TC L (n + 1)).1 28 [.p (.int .i64 k)] σ = some (.ret (.p (.agg (vc (.num k)))), σ) :=
  call_ans (ps := [.int .i64 k]) (n := n) q28 rfl (by
    generalize (cAt TC L n).1 = C
    generalize (cAt TC L n).2 = D
    kernel_rfl) σ
/-- a copy of a list: one that is empty is frozen, another one is new -/
theorem copy26 {σ : Heap} {s : AV} {l : List V} (h : Lst σ s l) (hl : l.length ≤ LIM) :
    ∃ σ1, Two σ σ1 ∧ σ1.length = σ.length ∧ Lst σ1 s l ∧ (l = [] → (cAt TC L (n + 1)).1 26 [s] σ = some (.ret (.p (.vsl [] 0)), σ1)) ∧
      (l ≠ [] → (cAt TC L (n + 1)).1 26 [s] σ = some (.ret (.sl σ.length 0 0 l.length 4), σ1 ++ [.arr (.pv (vcs l)) 0 0 none])) := by
  have ht : ∀ id ver n, s = .sl id ver 0 n 4 → (touch σ [s]).contains id = true := by
    intro id ver n hs
    rcases h with rfl | ⟨rfl, rfl⟩ | ⟨id', ver', wm, rest, ty, h2, rfl, ho, hw⟩
    · cases hs
    · cases hs
    · cases hs
      simp [touch, idsL, idsV, collect, idsO, ho]
  obtain ⟨σ1, h1, h2, h3, h4, h5⟩ := h.frz ht
  have hf : frzA (touch σ [s]) 9 σ [s] = ([.p (.vsl (vcs l) l.length)], σ1) := by
    simp only [frzA, h1]
  have he : (cAt TC L (n + 1)).1 26 [s] σ = (cAt TC L (n + 1)).1 26 [.p (.vsl (vcs l) l.length)] σ1 := by
    simp only [cAt, callT, q26]
    exact frz_more hf rfl rfl
  refine ⟨σ1, h2, h3, h4, fun hl0 => ?_, fun hl0 => ?_⟩
  · subst hl0
    rw [he]
    simp only [cAt, callT, q26]
    refine wrap_pure (ps := [.vsl [] 0]) (σr := []) ?_ σ1
    rfl
  · rw [he]
    cases l with
    | nil => exact absurd rfl hl0
    | cons v r =>
      have := clone26 L n v r (by simpa using hl) σ1
      rw [h3] at this
      exact this
end
end Go.Ab.Cnt
