/- The laws of keys: what Decode answers. -/
import Derived.Test.YtafjhlangdcefaaDoorAbKJ
set_option linter.unusedSectionVars false
set_option linter.unusedSimpArgs false
set_option linter.unusedVariables false
set_option maxRecDepth 1000000
namespace Go.Ab.Key
open Go Go.Ab Go.Proofs
/-- the text of an answer -/
def txtOf : CRes → Option (List UInt8)
  | .ret (.p (.agg [_, _, .str t, _])) => some t
  | _ => none
/-- what Decode reads -/
def dec : Nat → List UInt8 → List V → Option (List V)
  | 0, _, _ => none
  | f + 1, s, l => match s with
    | [] => some l
    | c :: s => if c = 1 then dec f s (l ++ [.null])
      else if c = 2 then (if 8 ≤ s.length then dec f (s.drop 8) (l ++ [.num (numOf (val (s.take 8)))]) else none)
      else if c = 3 then (match txtOf (words s []).1 with
        | some t => dec f (words s []).2 (l ++ [.text t])
        | none => none)
      else if c = 4 then (match s with
        | [] => none
        | d :: s => if d = 0 ∨ d = 1 then dec f s (l ++ [.bool (d == 1)]) else none)
      else none
theorem words_len : ∀ (s acc : List UInt8), (words s acc).2.length ≤ s.length
  | [], _ => Nat.le_refl _
  | [c], acc => by unfold words; split <;> simp
  | c :: d :: s, acc => by
    unfold words
    split
    · split
      · simp only [List.length_cons]; omega
      · split
        · have := words_len s (acc ++ [0])
          simp only [List.length_cons]
          omega
        · simp only [List.length_cons]; omega
    · have := words_len (d :: s) (acc ++ [c])
      simp only [List.length_cons] at *
      omega
variable [Marks]
/-- how the loop ends -/
def End12 (ty : Option Nat) (ds : List (Nat × List AV)) (x : Option (List V)) (ex : AExit) (st : St) : Prop := ∃ ρ' s' b' rest', st = ⟨ρ', ds, box ty s' :: rcell b' :: ecell 0 :: rest'⟩ ∧ At12 ρ' ∧ match x with
  | some l => ex = .exit 0 ∧ VB rest' b' l
  | none => ex = .pan badP
theorem loop12 (C : Oracle) (L : Nat) (ty : Option Nat) (hC : C12 C L ty) (hL : 8 < L) (ds : List (Nat × List AV)) : ∀ (f : Nat) (s : List UInt8) (l : List V) (ρ : Env) (b : AV) (rest : Heap), s.length < f → At12 ρ → VB rest b l → s.length < L → l.length + s.length ≤ LIM →
    ∃ (ex : AExit) (st : St), iter (exec C L body12) none f ⟨ρ, ds, box ty s :: rcell b :: ecell 0 :: rest⟩ = some (ex, st) ∧ End12 ty ds (dec f s l) ex st
  | 0, s, l, ρ, b, rest, hf, _, _, _, _ => absurd hf (by omega)
  | f + 1, s, l, ρ, b, rest, hf, h, hv, hsL, hl => by
    have fin : ∀ {ex : AExit} {st : St}, exec C L body12 ⟨ρ, ds, box ty s :: rcell b :: ecell 0 :: rest⟩ = some (ex, st) → ex ≠ .normal → iter (exec C L body12) none (f + 1) ⟨ρ, ds, box ty s :: rcell b :: ecell 0 :: rest⟩ = some (ex, st) := fun {ex st} e hne => by
      simp only [iter, St.keep, e]
      split
      · rename_i st' he
        cases he
        exact absurd rfl hne
      · rfl
    have on : ∀ {ρ1 s1 b1 rest1}, exec C L body12 ⟨ρ, ds, box ty s :: rcell b :: ecell 0 :: rest⟩ = some (.normal, ⟨ρ1, ds, box ty s1 :: rcell b1 :: ecell 0 :: rest1⟩) → iter (exec C L body12) none (f + 1) ⟨ρ, ds, box ty s :: rcell b :: ecell 0 :: rest⟩ = iter (exec C L body12) none f ⟨ρ1, ds, box ty s1 :: rcell b1 :: ecell 0 :: rest1⟩ := fun {ρ1 s1 b1 rest1} e => by simp only [iter, St.keep, e]
    match s, hf, hsL, hl, @fin, @on with
    | [], _, _, _, fin, on =>
      obtain ⟨ρ', e, h'⟩ := stop12 C L ty ρ ds rest b h
      exact ⟨_, _, fin e (by simp), ρ', [], b, rest, rfl, h', rfl, hv⟩
    | c :: s, hf, hsL, hl, fin, on =>
      simp only [List.length_cons] at hf hsL hl
      simp only [dec]
      by_cases c1 : c = 1
      · subst c1
        obtain ⟨ρ1, rest1, b1, e, h1, hv1⟩ := go12_null C L ty ρ ds rest b l hC s h hv (by omega)
        obtain ⟨ex, st, e', q⟩ := loop12 C L ty hC hL ds f s (l ++ [.null]) ρ1 b1 rest1 (by omega) h1 hv1 (by omega) (by simp; omega)
        exact ⟨ex, st, by rw [on e]; exact e', by simpa using q⟩
      by_cases c2 : c = 2
      · subst c2
        by_cases h8 : 8 ≤ s.length
        · have hs : s = s.take 8 ++ s.drop 8 := (List.take_append_drop 8 s).symm
          have ht : (s.take 8).length = 8 := by simp; omega
          obtain ⟨ρ1, rest1, b1, e, h1, hv1⟩ := go12_num C L ty ρ ds rest b l hC (s.take 8) (s.drop 8) ht h hv (by omega) hL
          rw [← hs] at e
          obtain ⟨ex, st, e', q⟩ := loop12 C L ty hC hL ds f (s.drop 8) (l ++ [.num (numOf (val (s.take 8)))]) ρ1 b1 rest1 (by simp; omega) h1 hv1 (by simp; omega) (by simp; omega)
          exact ⟨ex, st, by rw [on e]; exact e', by simpa [h8] using q⟩
        · obtain ⟨ρ1, e, h1⟩ := go12_nshort C L ty ρ ds rest b hC s h (by omega)
          exact ⟨_, _, fin e (by simp), ρ1, s, b, rest, rfl, h1, by simp [h8]⟩
      by_cases c3 : c = 3
      · subst c3
        rcases words_text s [] with hw | ⟨t, hw⟩
        · obtain ⟨ρ1, e, h1⟩ := go12_tbad C L ty ρ ds rest b hC s h (by omega) (by omega) hw
          exact ⟨_, _, fin e (by simp), ρ1, (words s []).2, b, rest, rfl, h1, by simp [hw, txtOf]⟩
        · obtain ⟨ρ1, rest1, b1, e, h1, hv1⟩ := go12_text C L ty ρ ds rest b l hC s t h hv (by omega) (by omega) (by omega) hw
          have hwl := words_len s []
          obtain ⟨ex, st, e', q⟩ := loop12 C L ty hC hL ds f (words s []).2 (l ++ [.text t]) ρ1 b1 rest1 (by omega) h1 hv1 (by omega) (by simp; omega)
          exact ⟨ex, st, by rw [on e]; exact e', by simpa [hw, txtOf, vc] using q⟩
      by_cases c4 : c = 4
      · subst c4
        match s, hf, hsL, hl, @fin, @on with
        | [], _, _, _, fin, on =>
          obtain ⟨ρ1, e, h1⟩ := go12_bempty C L ty ρ ds rest b hC h
          exact ⟨_, _, fin e (by simp), ρ1, [], b, rest, rfl, h1, by simp⟩
        | d :: s, hf, hsL, hl, fin, on =>
          simp only [List.length_cons] at hf hsL hl
          by_cases hd : d = 0 ∨ d = 1
          · obtain ⟨ρ1, rest1, b1, e, h1, hv1⟩ := go12_bool C L ty ρ ds rest b l hC d s h hv (by omega) hd
            obtain ⟨ex, st, e', q⟩ := loop12 C L ty hC hL ds f s (l ++ [.bool (d == 1)]) ρ1 b1 rest1 (by omega) h1 hv1 (by omega) (by simp; omega)
            exact ⟨ex, st, by rw [on e]; exact e', by simpa [hd] using q⟩
          · have hd' : 1 < d.toNat := by
              have h0 : d.toNat ≠ 0 := fun e => hd (.inl (UInt8.toNat_inj.1 e))
              have h1 : d.toNat ≠ 1 := fun e => hd (.inr (UInt8.toNat_inj.1 e))
              omega
            obtain ⟨ρ1, e, h1⟩ := go12_bbig C L ty ρ ds rest b hC d s h hd'
            exact ⟨_, _, fin e (by simp), ρ1, s, b, rest, rfl, h1, by simp [hd]⟩
      · obtain ⟨ρ1, e, h1⟩ := go12_bad C L ty ρ ds rest b hC c s h c1 c2 c3 c4
        exact ⟨_, _, fin e (by simp), ρ1, s, b, rest, rfl, h1, by simp [c1, c2, c3, c4]⟩
end Go.Ab.Key

/- The laws of keys: what a call of Decode answers. -/
set_option maxRecDepth 1000000
namespace Go.Ab.Key
open Go Go.Ab Go.Proofs
variable [Marks]
def lit24 : AFunc := { ntmps := 5, results := [ARes.cell 2 true 4], body := (ACode.region [{ dst := some 2, op := AOp.alloc 39 [AV.p (PV.int IntKind.i64 (0)), AV.p (PV.int IntKind.i64 (0)), AV.p (PV.str []), AV.p (PV.bool false)], guard := none }]).seq ((ACode.region [{ dst := some 3, op := AOp.mv (Opd.t 0), guard := none }, { dst := some 4, op := AOp.build [AV.p (PV.int IntKind.i64 (0)), AV.p (PV.int IntKind.i64 (0)), AV.p (PV.str []), AV.p (PV.bool false)] [(0, 1, Opd.c (AV.p (PV.int IntKind.i64 (1)))), (1, 1, Opd.t 3)], guard := none }, { dst := none, op := AOp.store 4 (Opd.t 2) (Opd.t 4), guard := none }]).seq ACode.ret) }
def lit22r : RFunc := { ntmps := 16, dst := 5, moves := [(2, Opd.t 5)], body := (ACode.region [{ dst := some 6, op := AOp.mv (Opd.t 2), guard := none }, { dst := some 7, op := AOp.bin (Bin.nil NilK.iface true) (Opd.t 6) (Opd.c (AV.p PV.nilif)), guard := none }]).seq (ACode.cond (Opd.t 7) (((ACode.region [{ dst := some 9, op := AOp.mv (Opd.t 2), guard := none }, { dst := some 10, op := AOp.assert 50 (AV.p (PV.agg [])) true (Opd.t 9), guard := none }, { dst := some 8, op := AOp.mv (Opd.t 10), guard := none }, { dst := some 11, op := AOp.extract 0 (Opd.t 8), guard := none }, { dst := some 12, op := AOp.extract 1 (Opd.t 8), guard := none }, { dst := some 3, op := AOp.alloc 50 [], guard := none }, { dst := none, op := AOp.store 0 (Opd.t 3) (Opd.t 11), guard := none }, { dst := some 4, op := AOp.mv (Opd.t 12), guard := none }]).seq ((ACode.region [{ dst := some 13, op := AOp.mv (Opd.t 4), guard := none }, { dst := some 14, op := AOp.un UnOp.not (Opd.t 13), guard := none }]).seq (ACode.cond (Opd.t 14) (ACode.region [{ dst := some 15, op := AOp.mv (Opd.t 2), guard := none }, { dst := none, op := AOp.panic (Opd.t 15), guard := none }]) ACode.skip))).seq (ACode.region [{ dst := none, op := AOp.store 1 (Opd.t 0) (Opd.c AV.nil0), guard := none }, { dst := none, op := AOp.store 1 (Opd.t 1) (Opd.c (AV.p (PV.int IntKind.i64 (31)))), guard := none }])) ACode.skip) }
section
variable (m : Int) (L n : Nat)
theorem q12 : TE (G 0 m) 12 = some (.code lit12 true) := by kernel_rfl
theorem q24 : TE (G 0 m) 24 = some (.code lit24 true) := by kernel_rfl
theorem q22 : TE (G 0 m) 22 = some (.rcv lit22r) := by kernel_rfl
theorem num24 (x : Int) (σ : Heap) : (cAt (TE (G 0 m)) L (n + 1)).1 24 [.p (.int .i64 x)] σ = some (.ret (.p (.agg (vc (.num x)))), σ) :=
  call_ans (ps := [.int .i64 x]) (q24 m) (by kernel_rfl) (by kernel_rfl) σ
theorem c12_ok (ty : Option Nat) : C12 (cAt (TE (G 0 m)) L (n + 3)).1 L ty where
  take σ s k := take_at m L (n + 2) (σ := box ty s :: σ) (id := 0) k rfl
  words σ s hs hl := words_at m L n (σ := box ty s :: σ) (id := 0) rfl hs hl
  num x σ := num24 m L (n + 2) x σ
/-- the deferred function -/
structure D12 (D : DOracle) (ty : Option Nat) : Prop where
  calm : ∀ (s : List UInt8) (b : AV) (rest : Heap), D 22 [.ptr 1 0 0, .ptr 2 0 0] (box ty s :: rcell b :: ecell 0 :: rest) none = some (none, box ty s :: rcell b :: ecell 0 :: rest)
  hurt : ∀ (s : List UInt8) (b : AV) (rest : Heap), ∃ rest', D 22 [.ptr 1 0 0, .ptr 2 0 0] (box ty s :: rcell b :: ecell 0 :: rest) (some badP) = some (none, box ty s :: rcell .nil0 :: ecell 31 :: rest')
theorem d12_ok (ty : Option Nat) : D12 (cAt (TE (G 0 m)) L (n + 1)).2 ty where
  calm s b rest := by
    rw [cAt_succ]
    simp only [defT, q22 m]
    generalize (cAt (TE (G 0 m)) L n).1 = C
    simp [runRec, lit22r, moveA, params, exec, runOps, wantedA, stepOp, pureOp, allocOp, readOp, effOp, ev, evs, evO, Env.get_cons, putE, binA, intBin, unA, AV.fit, AV.toCells, partC, partP, mkCells, allP, mkAgg, Cells.len, target, evParts, fillA, AV.cells, splice, spliceC, finA, leaveA, resA, resV, ansV, eqNil, isNilA, assertA, extractA, mkTup, Cells.toList]
  hurt s b rest := by
    rw [cAt_succ]
    simp only [defT, q22 m]
    generalize (cAt (TE (G 0 m)) L n).1 = C
    refine ⟨rest ++ [.arr (.pv []) 0 0 (some 50)], ?_⟩
    simp [runRec, lit22r, moveA, params, exec, runOps, wantedA, stepOp, pureOp, allocOp, readOp, effOp, ev, evs, evO, Env.get_cons, putE, binA, intBin, unA, AV.fit, AV.toCells, partC, partP, mkCells, allP, mkAgg, Cells.len, target, evParts, fillA, AV.cells, splice, spliceC, finA, leaveA, resA, resV, ansV, eqNil, isNilA, assertA, extractA, mkTup, Cells.toList]
end
theorem seqP {C : Oracle} {L : Nat} {a b : ACode} {st st1 : St} {v : AV} (h : exec C L a st = some (.pan v, st1)) : exec C L (.seq a b) st = some (.pan v, st1) := by
  simp only [exec, h]
theorem run12 (C : Oracle) (D : DOracle) (L : Nat) (hC : ∀ ty, C12 C L ty) (hD : ∀ ty, D12 D ty) (hL : 8 < L) (s : List UInt8) (hs : s.length < L) (hl : s.length ≤ LIM) :
    match dec L s [] with
    | some l => ∃ b o0 o1 o2 rest, VB rest b l ∧ runFunc C D L lit12 [.p (.str s)] [] = some (.ret (.tup [b, .p (.int .i64 0)]), o0 :: o1 :: o2 :: rest)
    | none => ∃ σr, runFunc C D L lit12 [.p (.str s)] [] = some (.ret (.tup [.nil0, .p (.int .i64 31)]), σr) := by
  obtain ⟨ty, hty⟩ : ∃ ty, exec C L (.region [{ dst := some 1, op := AOp.box 1 (Opd.t 0), guard := none }, { dst := some 2, op := AOp.alloc 24 [AV.nil0], guard := none }, { dst := some 3, op := AOp.alloc 30 [AV.p (PV.int IntKind.i64 (0))], guard := none }]) ⟨params 0 [.p (.str s)], [], []⟩ =
      some (.normal, ⟨[(3, .ptr 2 0 0), (2, .ptr 1 0 0), (1, .ptr 0 0 0), (0, .p (.str s))], [], [box ty s, rcell .nil0, ecell 0]⟩) := ⟨_, by simp [params, exec, runOps, wantedA, stepOp, pureOp, allocOp, readOp, effOp, ev, evs, evO, Env.get_cons, putE, binA, intBin, unA, AV.fit, AV.toCells, partC, partP, mkCells, allP, mkAgg, Cells.len, target]; rfl⟩
  obtain ⟨ex, st, e, ρ', s', b', rest', rfl, hat, q⟩ := loop12 C L ty (hC ty) hL [(22, [.ptr 1 0 0, .ptr 2 0 0])] L s [] [(4, .clo 23 [] [.ptr 0 0 0]), (10, .clo 23 [] [.ptr 0 0 0]), (9, .clo 22 [] [.ptr 1 0 0, .ptr 2 0 0]), (3, .ptr 2 0 0), (2, .ptr 1 0 0), (1, .ptr 0 0 0), (0, .p (.str s))] .nil0 [] hs ⟨rfl, rfl, rfl, rfl⟩ (.inl ⟨rfl, rfl⟩) hs (by simpa using hl)
  rw [runFunc_eq, lit12_eq, seqN hty, seqN (a := .region _) (by simp [exec, runOps, wantedA, stepOp, pureOp, allocOp, readOp, effOp, ev, evs, evO, Env.get_cons, putE, binA, intBin, unA, AV.fit, AV.toCells, partC, partP, mkCells, allP, mkAgg, Cells.len, target]; rfl), seqN (a := .region _) (by simp [exec, runOps, wantedA, stepOp, pureOp, allocOp, readOp, effOp, ev, evs, evO, Env.get_cons, putE, binA, intBin, unA, AV.fit, AV.toCells, partC, partP, mkCells, allP, mkAgg, Cells.len, target]; rfl)]
  cases hx : dec L s [] with
  | some l =>
    rw [hx] at q
    obtain ⟨rfl, hv⟩ := q
    have e3 := blockX (C := C) (L := L) (id := 0) (b := .loop none body12) (by simp only [exec]; exact e)
    rw [seqN e3]
    have hd := (hD ty).calm
    rcases hv with ⟨rfl, rfl⟩ | ⟨hne, id, ver, rfl, ho⟩
    · refine ⟨.nil0, box ty s', rcell .nil0, ecell 0, rest', .inl ⟨rfl, rfl⟩, ?_⟩
      simp [exec, runOps, wantedA, stepOp, pureOp, allocOp, readOp, effOp, ev, evs, evO, Env.get_cons, putE, binA, intBin, unA, AV.fit, AV.toCells, partC, partP, mkCells, allP, mkAgg, Cells.len, target, evParts, fillA, AV.cells, splice, spliceC, finA, leaveA, resA, resV, ansV, finX, lit12, hat.t2, hat.t3, hd, Cells.toList, mkTup, allP]
    · refine ⟨.sl (id + 3) ver 0 l.length 4, box ty s', rcell (.sl (id + 3) ver 0 l.length 4), ecell 0, rest', .inr ⟨hne, id, ver, rfl, ho⟩, ?_⟩
      simp [exec, runOps, wantedA, stepOp, pureOp, allocOp, readOp, effOp, ev, evs, evO, Env.get_cons, putE, binA, intBin, unA, AV.fit, AV.toCells, partC, partP, mkCells, allP, mkAgg, Cells.len, target, evParts, fillA, AV.cells, splice, spliceC, finA, leaveA, resA, resV, ansV, finX, lit12, hat.t2, hat.t3, hd, Cells.toList, mkTup, allP]
  | none =>
    rw [hx] at q
    simp only at q
    subst q
    have e3 : exec C L (.block 0 (.loop none body12)) ⟨[(4, .clo 23 [] [.ptr 0 0 0]), (10, .clo 23 [] [.ptr 0 0 0]), (9, .clo 22 [] [.ptr 1 0 0, .ptr 2 0 0]), (3, .ptr 2 0 0), (2, .ptr 1 0 0), (1, .ptr 0 0 0), (0, .p (.str s))], [(22, [.ptr 1 0 0, .ptr 2 0 0])], [box ty s, rcell .nil0, ecell 0]⟩ = some (.pan badP, ⟨ρ', [(22, [.ptr 1 0 0, .ptr 2 0 0])], box ty s' :: rcell b' :: ecell 0 :: rest'⟩) := by simp only [exec, e]
    rw [seqP e3]
    obtain ⟨rest2, hd⟩ := (hD ty).hurt s' b' rest'
    exact ⟨_, by simp [finX, finA, leaveA, resA, resV, lit12, hat.t2, hat.t3, hd, partC, partP, mkTup, allP]; rfl⟩
theorem wrap_tup {g : List AV → Heap → Option (CRes × Heap)} {fz : Bool} {ps : List PV} {id ver n esz : Nat} {cells : List PV} {ty : Option Nat} {k : PV} {σr : Heap} (h : g (ps.map .p) [] = some (.ret (.tup [.sl id ver 0 n esz, .p k]), σr))
    (ho : σr[id]? = some (.arr (.pv cells) ver 0 ty)) (σ : Heap) : wrapF g fz (ps.map .p) σ = some (.ret (.tup [.sl σ.length 0 0 n esz, .p k]), σ ++ [.arr (.pv cells) 0 0 ty]) := by
  have key : innerW g (ps.map .p) σ [] = some (.ret (.tup [.sl σ.length 0 0 n esz, .p k]), σ ++ [.arr (.pv cells) 0 0 ty]) := by
    have hout : outL 0 (.ret (.tup [.sl id ver 0 n esz, .p k])) σr = [(id, ver)] := by
      have hb : Nat.blt id 0 = false := by
        unfold Nat.blt
        simp [Nat.ble]
      simp [outL, keepK, resIds, idsV, idsL, collect, listOf, idsO, ho, versO, hb, Obj.ver]
    have hsh : shrinkH [(id, ver)] σr = [.arr (.pv cells) 0 0 ty] := by
      simp [shrinkH, ho, shO, renC]
    unfold innerW
    have h1 : (uniq [] && inOK [] σ.length) = true := rfl
    have h2 : shrinkH [] σ = [] := rfl
    simp only [h1, renL_pure, h2, h, List.length_nil, hout]
    have h4 : (uniq [(id, ver)] && backOK [] [Obj.arr (.pv cells) 0 0 ty]) = true := rfl
    simp only [hsh, h4]
    have hbeq : Nat.beq id id = true := Nat.beq_refl id
    simp [renR, renV, renL, fwd, posOf, hbeq, bwd, mergeH, putBack, bkO, renC]
  unfold wrapF
  cases fz with
  | false =>
    simp only [touch_pure, List.all_nil]
    exact key
  | true =>
    simp only [frzA_pure, touch_pure, List.all_nil]
    exact key
theorem wrap_tnil {g : List AV → Heap → Option (CRes × Heap)} {fz : Bool} {ps : List PV} {k : PV} {σr : Heap} (h : g (ps.map .p) [] = some (.ret (.tup [.nil0, .p k]), σr)) (σ : Heap) :
    wrapF g fz (ps.map .p) σ = some (.ret (.tup [.nil0, .p k]), σ) := by
  have key : innerW g (ps.map .p) σ [] = some (.ret (.tup [.nil0, .p k]), σ) := by
    unfold innerW
    have h1 : (uniq [] && inOK [] σ.length) = true := rfl
    have h2 : shrinkH [] σ = [] := rfl
    have h3 : outL ([] : List (Nat × Nat)).length (.ret (.tup [.nil0, .p k])) σr = [] := rfl
    simp only [h1, h2, renL_pure, h, h3]
    have h4 : (uniq [] && backOK [] (shrinkH [] σr)) = true := rfl
    simp only [h4, renR, renV, renL]
    have h5 : shrinkH [] σr = [] := rfl
    rw [h5]
    have h6 : mergeH [] σ [] = σ := by simp [mergeH, putBack]
    rw [h6]
  unfold wrapF
  cases fz with
  | false =>
    simp only [touch_pure, List.all_nil]
    exact key
  | true =>
    simp only [frzA_pure, touch_pure, List.all_nil]
    exact key
/-- what Decode answers: the values and 0, or nothing and 31 -/
def decI (x : Option (List V)) : Int := match x with
  | some _ => 0
  | none => 31
theorem decode_at (m : Int) (L n : Nat) (s : List UInt8) (hL : 8 < L) (hs : s.length < L) (hl : s.length ≤ LIM) (σ : Heap) :
    ∃ v τ, (cAt (TE (G 0 m)) L (n + 4)).1 12 [.p (.str s)] σ = some (.ret (.tup [v, .p (.int .i64 (decI (dec L s [])))]), σ ++ τ) ∧ SlAt (σ ++ τ) v ((dec L s []).getD []) := by
  have hC := fun ty => c12_ok m L n ty
  have hD := fun ty => d12_ok m L (n + 2) ty
  rw [cAt_succ]
  simp only [callT, q12 m]
  generalize (cAt (TE (G 0 m)) L (n + 3)).1 = C at *
  generalize (cAt (TE (G 0 m)) L (n + 3)).2 = D at *
  have h := run12 C D L hC hD hL s hs hl
  have hf : fits lit12 ([PV.str s].map .p) = true := rfl
  cases hx : dec L s [] with
  | some l =>
    rw [hx] at h
    obtain ⟨b, o0, o1, o2, rest, hv, hr⟩ := h
    rcases hv with ⟨rfl, rfl⟩ | ⟨hne, id, ver, rfl, ho⟩
    · exact ⟨.nil0, [], by rw [List.append_nil]; exact wrap_tnil (ps := [.str s]) (by simp only [runCode, hf]; exact hr) σ, .inl ⟨rfl, rfl⟩⟩
    · exact ⟨_, _, wrap_tup (ps := [.str s]) (by simp only [runCode, hf]; exact hr) (by simpa using ho) σ, .inr ⟨σ.length, 0, 0, [], some 39, rfl, by simp⟩⟩
  | none =>
    rw [hx] at h
    obtain ⟨σr, hr⟩ := h
    exact ⟨.nil0, [], by rw [List.append_nil]; exact wrap_tnil (ps := [.str s]) (by simp only [runCode, hf]; exact hr) σ, .inl ⟨rfl, rfl⟩⟩
end Go.Ab.Key
