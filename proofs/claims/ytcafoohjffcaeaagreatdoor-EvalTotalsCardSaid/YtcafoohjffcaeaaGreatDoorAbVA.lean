/- EvalCounts: slices.Clone of a list that is not empty; the empty list. -/
import Derived.Test.YtcafoohjffcaeaaGreatDoorAbV8
set_option linter.unusedSectionVars false
set_option linter.unusedSimpArgs false
set_option linter.unusedVariables false
set_option maxRecDepth 1000000
namespace Go.Ab.Cnt
open Go Go.Ab Go.Ab.Key Go.Proofs
variable [Marks]
section
variable (L n : Nat)
theorem q26 : TC 26 = some (.ext g26 true) := by kernel_rfl
theorem clone26 (v : V) (r : List V) (hl : r.length + 1 ≤ LIM) (σ : Heap) :
    (cAt TC L (n + 1)).1 26 [.p (.vsl (vcs (v :: r)) (r.length + 1))] σ = some (.ret (.sl σ.length 0 0 (r.length + 1) 4), σ ++ [.arr (.pv (vcs (v :: r))) 0 0 none]) := by
  have hln := vcs_len (v :: r)
  have hv4 := vc_len v
  obtain ⟨x0, cx, hx⟩ : ∃ x0 cx, vcs (v :: r) = x0 :: cx := by
    cases h : vcs (v :: r) with
    | nil => rw [h] at hln; simp at hln
    | cons a b => exact ⟨a, b, rfl⟩
  have hlen : (x0 :: cx).length = (r.length + 1) * 4 := by rw [← hx, hln]; rfl
  rw [hx]
  generalize r.length + 1 = k at *
  have hk : k ≠ 0 := by
    intro h
    subst h
    simp at hlen
  simp only [cAt, callT, q26]
  refine wrap_slice (ps := [.vsl (x0 :: cx) k]) (id := 0) (ver := 1) (σr := [.arr (.pv (x0 :: cx)) 1 0 none]) (ty := none) ?_ rfl σ
  have hf : fits lit26 ([PV.vsl (x0 :: cx) k].map .p) = true := rfl
  have hx0 : extP cloneO ([PV.vsl (x0 :: cx) k].map .p) [] = none := rfl
  simp only [g26, hx0, runCode, hf]
  generalize (cAt (fun _ => none) 1 0).1 = C
  generalize (cAt (fun _ => none) 1 0).2 = D
  have ht : (x0 :: cx).length = k * 4 := hlen
  have hle : k ≤ LIM := hl
  simp [lit26, runFunc, params, exec, runOps, wantedA, stepOp, pureOp, allocOp, readOp, effOp, ev, evs, evO, Env.get_cons, putE, binA, intBin, unA, AV.fit, AV.toCells, partC, partP, mkCells, allP, mkAgg, Cells.len, target, evParts, fillA, AV.cells, splice, spliceC, finA, leaveA, resA, resV, ansV, eqNil, isNilA, repCells, elemsA, appendTo, takeC, dropC, catC, hk, hle]
  simp only [List.length_cons] at ht
  simp [ht, hk, hle, leaveA, Env.get_cons]
end
def isT : Option (CRes × Heap) → Bool
  | some (.ret (.p (.bool true)), _) => true
  | _ => false
theorem alive8 (L n : Nat) : isT ((cAt TC (L + 100) (n + 30)).1 8 [] []) = true := by kernel_rfl
end Go.Ab.Cnt

/- EvalCounts: the closure that asks whether a value is like another. -/
set_option maxRecDepth 1000000
namespace Go.Ab.Cnt
open Go Go.Ab Go.Ab.Key Go.Proofs
variable [Marks]
theorem set_same {σ : Heap} {id : Nat} {o : Obj} (h : σ[id]? = some o) : σ.set id o = σ := by
  have hid : id < σ.length := (List.getElem?_eq_some_iff.1 h).1
  apply List.ext_getElem?
  intro j
  by_cases hj : id = j
  · subst hj
    rw [List.getElem?_set_self hid, h]
  · rw [List.getElem?_set_ne hj]
section
variable (L n : Nat)
theorem like23 (k v : V) (hk : ∀ s, k = .text s → s.length ≤ maxLen) (hv : ∀ s, v = .text s → s.length ≤ maxLen) {σ : Heap} {id ver : Nat} {ty : Option Nat} (ho : σ[id]? = some (.arr (.pv (vc v)) ver 0 ty)) :
    (cAt TC L (n + 4)).1 23 [.p (.agg (vc k)), .ptr id ver 0] σ = some (.ret (.p (.bool (ordV k v == .eq))), σ) := by
  have hC := order24 L n k v hk hv
  rw [show cAt TC L (n + 4) = (callT TC (cAt TC L (n + 3)).1 (cAt TC L (n + 3)).2 L, defT TC (cAt TC L (n + 3)).1 L) from rfl]
  simp only [callT, q23]
  generalize (cAt TC L (n + 3)).1 = C at *
  generalize (cAt TC L (n + 3)).2 = D
  have hw := wrap_one (g := runCode C D L lit23) (as0 := [.p (.agg (vc k)), .ptr 0 0 0]) (r := .ret (.p (.bool (ordV k v == .eq)))) (c' := vc v) (ty' := ty) (τ := [.arr (.pv (vc k)) 0 0 none]) (xs := [.p (.agg (vc k)), .ptr id ver 0]) ?_ (.inl ⟨_, rfl⟩) ho rfl (frz_ptr _ _ _ _ _ _) ?_
  · rw [hw, set_same ho]
  · have hf : fits lit23 [.p (.agg (vc k)), .ptr 0 0 0] = true := rfl
    simp only [runCode, hf]
    have hk4 := vc_len k
    have hv4 := vc_len v
    generalize vc k = ck at *
    generalize vc v = cv at *
    obtain ⟨x0, x1, x2, x3, rfl⟩ : ∃ x0 x1 x2 x3, ck = [x0, x1, x2, x3] := by
      match ck, hk4 with
      | [x0, x1, x2, x3], _ => exact ⟨x0, x1, x2, x3, rfl⟩
    obtain ⟨y0, y1, y2, y3, rfl⟩ : ∃ y0 y1 y2 y3, cv = [y0, y1, y2, y3] := by
      match cv, hv4 with
      | [y0, y1, y2, y3], _ => exact ⟨y0, y1, y2, y3, rfl⟩
    cases hq : ordV k v <;> rw [hq] at hC <;> simp [lit23, runFunc, params, exec, runOps, wantedA, stepOp, pureOp, allocOp, readOp, effOp, ev, evs, evO, Env.get_cons, putE, binA, intBin, unA, AV.fit, AV.toCells, partC, partP, mkCells, allP, mkAgg, Cells.len, target, evParts, fillA, AV.cells, splice, spliceC, finA, leaveA, resA, resV, ansV, hC, ordI]
  · have hb : Nat.beq id id = true := Nat.beq_refl id
    simp [renL, renV, fwd, posOf, hb]
end
end Go.Ab.Cnt

/- EvalCounts: slices.ContainsFunc. -/
set_option maxRecDepth 1000000
namespace Go.Ab.Cnt
open Go Go.Ab Go.Ab.Key Go.Proofs
variable [Marks]
def lit22 : AFunc := { ntmps := 9, results := [ARes.tmp 4], body := (ACode.region [{ dst := some 4, op := AOp.mv (Opd.c (AV.p (PV.bool false))), guard := none }]).seq ((ACode.region [{ dst := some 5, op := AOp.mv (Opd.t 0), guard := none }, { dst := some 6, op := AOp.mv (Opd.t 1), guard := none }, { dst := some 7, op := AOp.call (Opd.c (AV.p (PV.fn 40))) [Opd.t 5, Opd.t 6], guard := none }, { dst := some 8, op := AOp.bin (Bin.plain BinOp.geq) (Opd.t 7) (Opd.c (AV.p (PV.int IntKind.i64 (0)))), guard := none }, { dst := some 4, op := AOp.mv (Opd.t 8), guard := none }]).seq ACode.ret) }
theorem idx_any (p : V → Bool) : ∀ (x : List V) (i : Nat), decide (0 ≤ idxI p x i) = x.any p
  | [], i => by simp [idxI]
  | v :: x, i => by
    cases h : p v <;> simp [idxI, h, idx_any p x (i + 1)]
section
variable (L n : Nat)
theorem q22 : TC 22 = some (.code lit22 true) := by kernel_rfl
/-- IndexFunc of a frozen list and the closure -/
theorem index_like (x : List V) (v : V) (hm : x.length ≤ 9223372036854775807) (hL : x.length < L) (hx : ∀ s, V.text s ∈ x → s.length ≤ maxLen) (hv : ∀ s, v = .text s → s.length ≤ maxLen) {σ : Heap} {id ver : Nat} {ty : Option Nat} (ho : σ[id]? = some (.arr (.pv (vc v)) ver 0 ty)) :
    (cAt TC L (n + 5)).1 40 [.p (.vsl (vcs x) x.length), .clo 23 [] [.ptr id ver 0]] σ = some (.ret (.p (.int .i64 (idxI (fun k => ordV k v == .eq) x 0))), σ) := by
  have hC : Says (cAt TC L (n + 4)).1 [.arr (.pv (vc v)) 0 0 ty] (.clo 23 [] [.ptr 0 0 0]) (fun k => ordV k v == .eq) x := fun k hk =>
    ⟨23, [.p (.agg (vc k)), .ptr 0 0 0], rfl, like23 L n k v (fun s hs => hx s (hs ▸ hk)) hv rfl⟩
  rw [show cAt TC L (n + 5) = (callT TC (cAt TC L (n + 4)).1 (cAt TC L (n + 4)).2 L, defT TC (cAt TC L (n + 4)).1 L) from rfl]
  simp only [callT, q40]
  generalize (cAt TC L (n + 4)).1 = C at *
  generalize (cAt TC L (n + 4)).2 = D
  have hf : fits lit40 [.p (.vsl (vcs x) x.length), .clo 23 [] [.ptr 0 0 0]] = true := rfl
  have hr := run40 C D L _ x (.p (.vsl (vcs x) x.length)) (.clo 23 [] [.ptr 0 0 0]) [.arr (.pv (vc v)) 0 0 ty] hm hL (.inr rfl) hC
  have hb : Nat.beq id id = true := Nat.beq_refl id
  exact wrap_keep (as0 := [.p (.vsl (vcs x) x.length), .clo 23 [] [.ptr 0 0 0]]) (by simp only [runCode, hf]; exact hr) (.inl ⟨_, rfl⟩) ho rfl (by simp [renL, renV, fwd, posOf, hb])
/-- ContainsFunc of a frozen list and the closure -/
theorem has22 (x : List V) (v : V) (hm : x.length ≤ 9223372036854775807) (hL : x.length < L) (hx : ∀ s, V.text s ∈ x → s.length ≤ maxLen) (hv : ∀ s, v = .text s → s.length ≤ maxLen) {σ : Heap} {id ver : Nat} {ty : Option Nat} (ho : σ[id]? = some (.arr (.pv (vc v)) ver 0 ty)) :
    (cAt TC L (n + 6)).1 22 [.p (.vsl (vcs x) x.length), .clo 23 [] [.ptr id ver 0]] σ = some (.ret (.p (.bool (x.any fun k => ordV k v == .eq))), σ) := by
  have hC := index_like L n x v hm hL hx hv (σ := [.arr (.pv (vc v)) 0 0 ty]) (id := 0) (ver := 0) (ty := ty) rfl
  rw [show cAt TC L (n + 6) = (callT TC (cAt TC L (n + 5)).1 (cAt TC L (n + 5)).2 L, defT TC (cAt TC L (n + 5)).1 L) from rfl]
  simp only [callT, q22]
  generalize (cAt TC L (n + 5)).1 = C at *
  generalize (cAt TC L (n + 5)).2 = D
  have hf : fits lit22 [.p (.vsl (vcs x) x.length), .clo 23 [] [.ptr 0 0 0]] = true := rfl
  have hb : Nat.beq id id = true := Nat.beq_refl id
  have hw := wrap_one (g := runCode C D L lit22) (as0 := [.p (.vsl (vcs x) x.length), .clo 23 [] [.ptr 0 0 0]]) (r := .ret (.p (.bool (x.any fun k => ordV k v == .eq)))) (c' := vc v) (ty' := ty) (τ := []) (xs := [.p (.vsl (vcs x) x.length), .clo 23 [] [.ptr id ver 0]]) ?_ (.inl ⟨_, rfl⟩) ho rfl rfl (by simp [renL, renV, fwd, posOf, hb])
  · rw [hw, set_same ho]
  · simp only [runCode, hf]
    rw [← idx_any _ x 0]
    simp [lit22, runFunc, params, exec, runOps, wantedA, stepOp, pureOp, allocOp, readOp, effOp, ev, evs, evO, Env.get_cons, putE, binA, intBin, unA, AV.fit, AV.toCells, partC, partP, mkCells, allP, mkAgg, Cells.len, target, evParts, fillA, AV.cells, splice, spliceC, finA, leaveA, resA, resV, ansV, hC]
end
end Go.Ab.Cnt
