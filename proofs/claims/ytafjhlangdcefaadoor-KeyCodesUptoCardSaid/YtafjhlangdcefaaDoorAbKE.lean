/- The laws of keys: KeyAbove. -/
import Derived.Test.YtafjhlangdcefaaDoorAbKD
set_option linter.unusedSectionVars false
set_option linter.unusedSimpArgs false
set_option linter.unusedVariables false
set_option maxRecDepth 1000000
namespace Go.Ab.Key
open Go Go.Ab Go.Proofs
theorem cmpL_refl : ∀ s : List UInt8, cmpL s s = .eq := fun s => cmpL_eq.2 rfl
theorem ordV_refl (v : V) : ordV v v = .eq := by
  cases v with
  | null => rfl
  | num n => simp [ordV]
  | text s => exact cmpL_refl _
  | bool b => simp [ordV]
theorem begins_app : ∀ (x w : List V), begins (x ++ w) x = true
  | [], w => by cases w <;> rfl
  | a :: x, w => by simp [begins, ordV_refl, begins_app x w]
theorem begins_take : ∀ (z x : List V), begins z x = (decide (x.length ≤ z.length) && ordL (z.take x.length) x == .eq)
  | z, [] => by cases z <;> rfl
  | [], a :: x => by simp [begins]
  | b :: z, a :: x => by
    have ih := begins_take z x
    simp only [begins, ih, List.length_cons, List.take_succ_cons, ordL]
    cases ordV b a <;> simp
theorem wts_row' {l : List Raw} (h : szL (raws l) ≤ 1048576) : wts (rowOf' l) ≤ 2100000 := by
  rw [szL_raws] at h
  have h1 := wts_raws (l.take 40)
  have h2 := sum_take l 40
  have h3 : (l.take 40).length ≤ 40 := by simp; omega
  unfold rowOf'
  omega
theorem geq_cmp (x y : List UInt8) : (!(Op.bytesLess x y)) = (cmpL x y != .lt) := by rw [less_cmp]; rfl
theorem leq_cmp (x y : List UInt8) : (Op.bytesLess x y || x == y) = (cmpL x y != .gt) := by
  rw [less_cmp, eq_cmp]
  cases cmpL x y <;> rfl
variable [Marks]
theorem SlAt.len {σ : Heap} {v : AV} {x : List V} (h : SlAt σ v x) : lenA v = some x.length := by
  rcases h with ⟨rfl, rfl⟩ | ⟨_, _, _, _, _, rfl, _⟩ <;> rfl
theorem SlAt.str {σ : Heap} {v : AV} {x : List V} (h : SlAt σ v x) : ∀ s, v ≠ .p (.str s) := by
  intro s hv
  rcases h with ⟨rfl, _⟩ | ⟨_, _, _, _, _, rfl, _⟩ <;> cases hv
theorem wanted_true {ρ : Env} {j : Nat} (h : ρ.get j = some (.p (.bool true))) : wantedA (some (j, true)) ρ = some true := by
  simp only [wantedA, h]; rfl
/-- one operation that asks for a slice's length -/
theorem run_len {C : Oracle} {d k : Nat} {g : Option (Nat × Bool)} {r : List AOper} {ρ : Env} {σ : Heap} {v : AV} {n : Nat} (hl : lenA v = some n) (hs : ∀ s, v ≠ .p (.str s)) (hw : wantedA g ρ = some true) (h : ρ.get k = some v) :
    runOps C (⟨some d, .len false (.t k), g⟩ :: r) ⟨ρ, [], σ⟩ = runOps C r ⟨(d, .p (.int .i64 (n : Int))) :: ρ, [], σ⟩ := by
  have hp : pureOp ρ (.len false (.t k)) = some (.p (.int .i64 (n : Int))) := by
    simp only [pureOp, ev, h]
    cases v with
    | p u => cases u <;> first | exact absurd rfl (hs _) | (simp only [lenA] at hl ⊢ ; first | (cases hl; done) | (obtain rfl := Option.some.inj hl; rfl) | (cases hl))
    | _ => simp only [lenA] at hl ⊢ <;> first | (obtain rfl := Option.some.inj hl; rfl) | (cases hl)
  simp only [runOps, hw, stepOp, hp, putE]
/-- one operation that takes the head of a slice -/
theorem run_slice {C : Oracle} {d k j : Nat} {g : Option (Nat × Bool)} {r : List AOper} {ρ : Env} {σ : Heap} {v u : AV} {X : Int} (hl : sliceA 4 v none (some (.p (.int .i64 X))) = some u) (hs : ∀ s, v ≠ .p (.str s)) (hw : wantedA g ρ = some true) (h : ρ.get k = some v) (hj : ρ.get j = some (.p (.int .i64 X))) :
    runOps C (⟨some d, .slice 4 (.t k) none (some (.t j)), g⟩ :: r) ⟨ρ, [], σ⟩ = runOps C r ⟨(d, u) :: ρ, [], σ⟩ := by
  have hp : pureOp ρ (.slice 4 (.t k) none (some (.t j))) = some u := by
    simp only [pureOp, ev, evO, h, hj, Option.map_some]
    cases v with
    | p u => cases u <;> first | exact absurd rfl (hs _) | exact hl
    | _ => exact hl
  simp only [runOps, hw, stepOp, hp, putE]
theorem SlAt.elems {σ : Heap} {v : AV} {x : List V} (h : SlAt σ v x) : elemsA σ 4 v = some (x.length, .pv (vcs x)) := by
  rcases h with ⟨rfl, rfl⟩ | ⟨id, ver, wm, rest, ty, rfl, ho⟩
  · rfl
  · have hl : x.length * 4 ≤ (vcs x ++ rest).length := by rw [List.length_append, vcs_len]; omega
    have htk : (vcs x ++ rest).take (x.length * 4) = vcs x := by rw [← vcs_len, List.take_left]
    simp only [elemsA, ho, Cells.len, Nat.zero_add, true_and, if_true]
    rw [if_pos hl]
    simp only [takeC, dropC, List.drop_zero, htk]
theorem SlAt.slice {σ : Heap} {v : AV} {x : List V} (h : SlAt σ v x) (k : Nat) (hk : k ≤ x.length) : ∃ u, sliceA 4 v none (some (.p (.int .i64 (k : Int)))) = some u ∧ SlAt σ u (x.take k) ∧ (∀ s, v ≠ .p (.str s)) := by
  rcases h with ⟨rfl, rfl⟩ | ⟨id, ver, wm, rest, ty, rfl, ho⟩
  · obtain rfl : k = 0 := by simpa using hk
    exact ⟨.nil0, rfl, .inl ⟨rfl, rfl⟩, fun _ h => by cases h⟩
  · refine ⟨.sl id ver 0 k 4, ?_, .inr ⟨id, ver, wm, (vcs x).drop (k * 4) ++ rest, ty, ?_, ?_⟩, fun _ h => by cases h⟩
    · have h1 : (0 : Int) ≤ (k : Int) := by omega
      have h2 : (k : Int) ≤ (x.length : Int) := by omega
      simp [sliceA, boundsA, boundA, hk]
    · simp [Nat.min_eq_left hk]
    · rw [ho]
      have hv : vcs x = vcs (x.take k) ++ (vcs x).drop (k * 4) := by
        have h1 : vcs x = vcs (x.take k) ++ vcs (x.drop k) := by
          unfold vcs
          rw [← List.flatten_append, ← List.map_append, List.take_append_drop]
        have h2 : (vcs (x.take k)).length = k * 4 := by rw [vcs_len, List.length_take, Nat.min_eq_left hk]
        rw [h1]
        congr 1
        rw [← h2, List.drop_left]
      rw [← List.append_assoc, ← hv]
/-- a slice that its owner may append to -/
def Own (σ : Heap) (id : Nat) (d : AV) (l : List V) : Prop := ∃ ver wm ty, d = .sl id ver 0 l.length 4 ∧ σ[id]? = some (.arr (.pv (vcs l)) ver wm ty) ∧ wm ≤ l.length * 4
theorem Own.at {σ : Heap} {id : Nat} {d : AV} {l : List V} (h : Own σ id d l) : SlAt σ d l := by
  obtain ⟨ver, wm, ty, rfl, ho, _⟩ := h
  exact .inr ⟨id, ver, wm, [], ty, rfl, by simpa using ho⟩
theorem Own.push {σ : Heap} {id : Nat} {d : AV} {l : List V} (h : Own σ id d l) (τ : Heap) : Own (σ ++ τ) id d l := by
  obtain ⟨ver, wm, ty, rfl, ho, hw⟩ := h
  exact ⟨ver, wm, ty, rfl, by rw [List.getElem?_append_left (List.getElem?_eq_some_iff.1 ho).1]; exact ho, hw⟩
theorem Own.append {σ : Heap} {id : Nat} {d : AV} {l : List V} (h : Own σ id d l) (x : List V) (hl : l.length + x.length ≤ LIM) :
    ∃ d2 σ2, appendTo σ 39 4 d x.length (.pv (vcs x)) = some (d2, σ2) ∧ Own σ2 id d2 (l ++ x) ∧ ∀ v y, NB v id → SlAt σ v y → SlAt σ2 v y := by
  obtain ⟨ver, wm, ty, rfl, ho, hw⟩ := h
  have hid : id < σ.length := (List.getElem?_eq_some_iff.1 ho).1
  have hlen : l.length * 4 ≤ (vcs l).length := by rw [vcs_len]; exact Nat.le_refl _
  cases x with
  | nil =>
    refine ⟨.sl id ver 0 l.length 4, σ, ?_, ⟨ver, wm, ty, by simp, by simpa using ho, by simpa using hw⟩, fun v y _ h => h⟩
    have hl' : l.length ≤ LIM := by simpa using hl
    simp [appendTo, ho, Cells.len, hlen, hw, hl']
  | cons a x =>
    have ht : (vcs l).take (l.length * 4) = vcs l := List.take_of_length_le (by rw [vcs_len]; exact Nat.le_refl _)
    refine ⟨.sl id (ver + 1) 0 (l.length + (a :: x).length) 4, σ.set id (.arr (.pv (vcs l ++ vcs (a :: x))) (ver + 1) wm (if ty = some 39 then some 39 else none)), ?_, ⟨ver + 1, wm, if ty = some 39 then some 39 else none, by simp, ?_, ?_⟩, ?_⟩
    · simp only [appendTo, ho, Cells.len]
      rw [if_pos ⟨trivial, trivial, trivial, hlen, hw, hl⟩, if_neg (by simp)]
      simp only [takeC, catC, ht]
    · rw [List.getElem?_set_self hid]
      simp [vcs]
    · simp only [List.length_append]
      omega
    · rintro v y hn (h | ⟨id', ver', wm', rest', ty', rfl, ho'⟩)
      · exact .inl h
      · exact .inr ⟨id', ver', wm', rest', ty', rfl, by rw [List.getElem?_set_ne (fun e => hn id' ver' 0 y.length 4 rfl e.symm)]; exact ho'⟩
theorem SlAt.nb {σ : Heap} {v : AV} {x : List V} (h : SlAt σ v x) {j : Nat} (hj : σ.length ≤ j) : NB v j := by
  intro id ver off len esz hb
  rcases h with ⟨h, _⟩ | ⟨id', _, _, _, _, h, ho⟩
  · rw [h] at hb; cases hb
  · rw [h] at hb
    cases hb
    have := (List.getElem?_eq_some_iff.1 ho).1
    omega
def lit16 : AFunc := { ntmps := 5, results := [ARes.tmp 2], body := (ACode.region [{ dst := some 2, op := AOp.mv (Opd.c (AV.p (PV.str []))), guard := none }]).seq ((ACode.region [{ dst := some 3, op := AOp.mv (Opd.t 0), guard := none }, { dst := some 4, op := AOp.bin (Bin.plain BinOp.add) (Opd.t 3) (Opd.c (AV.p (PV.str [255]))), guard := none }, { dst := some 2, op := AOp.mv (Opd.t 4), guard := none }]).seq ACode.ret) }
def lit7 : AFunc := { ntmps := 72, results := [ARes.tmp 6], body := (ACode.region [{ dst := some 6, op := AOp.mv (Opd.c (AV.p (PV.bool false))), guard := none }]).seq ((ACode.region [{ dst := some 14, op := AOp.mv (Opd.t 0), guard := none }, { dst := some 15, op := AOp.call (Opd.c (AV.p (PV.fn 8))) [Opd.t 14], guard := none }, { dst := some 7, op := AOp.mv (Opd.t 15), guard := none }]).seq ((ACode.region [{ dst := some 16, op := AOp.buildSlice [AV.p (PV.int IntKind.i64 (0)), AV.p (PV.int IntKind.i64 (0)), AV.p (PV.str []), AV.p (PV.bool false)] 0 4 [], guard := none }, { dst := some 17, op := AOp.mv (Opd.t 7), guard := none }, { dst := some 18, op := AOp.append 39 4 [AV.p (PV.int IntKind.i64 (0)), AV.p (PV.int IntKind.i64 (0)), AV.p (PV.str []), AV.p (PV.bool false)] (Opd.t 16) (Opd.t 17), guard := none }, { dst := some 19, op := AOp.mv (Opd.t 1), guard := none }, { dst := some 20, op := AOp.call (Opd.c (AV.p (PV.fn 8))) [Opd.t 19], guard := none }, { dst := some 21, op := AOp.append 39 4 [AV.p (PV.int IntKind.i64 (0)), AV.p (PV.int IntKind.i64 (0)), AV.p (PV.str []), AV.p (PV.bool false)] (Opd.t 18) (Opd.t 20), guard := none }, { dst := some 8, op := AOp.mv (Opd.t 21), guard := none }]).seq ((ACode.region [{ dst := some 22, op := AOp.mv (Opd.t 2), guard := none }, { dst := some 23, op := AOp.call (Opd.c (AV.p (PV.fn 8))) [Opd.t 22], guard := none }, { dst := some 9, op := AOp.mv (Opd.t 23), guard := none }]).seq ((ACode.region [{ dst := some 24, op := AOp.mv (Opd.t 7), guard := none }, { dst := some 25, op := AOp.call (Opd.c (AV.p (PV.fn 9))) [Opd.t 24], guard := none }, { dst := some 10, op := AOp.mv (Opd.t 25), guard := none }]).seq ((ACode.region [{ dst := some 26, op := AOp.mv (Opd.t 8), guard := none }, { dst := some 27, op := AOp.call (Opd.c (AV.p (PV.fn 9))) [Opd.t 26], guard := none }, { dst := some 11, op := AOp.mv (Opd.t 27), guard := none }]).seq ((ACode.region [{ dst := some 28, op := AOp.mv (Opd.t 9), guard := none }, { dst := some 29, op := AOp.call (Opd.c (AV.p (PV.fn 9))) [Opd.t 28], guard := none }, { dst := some 12, op := AOp.mv (Opd.t 29), guard := none }]).seq ((ACode.region [{ dst := some 30, op := AOp.mv (Opd.t 9), guard := none }, { dst := some 31, op := AOp.len false (Opd.t 30), guard := none }, { dst := some 32, op := AOp.mv (Opd.t 7), guard := none }, { dst := some 33, op := AOp.len false (Opd.t 32), guard := none }, { dst := some 34, op := AOp.bin (Bin.plain BinOp.geq) (Opd.t 31) (Opd.t 33), guard := none }, { dst := some 35, op := AOp.mv (Opd.t 34), guard := none }, { dst := some 36, op := AOp.mv (Opd.t 9), guard := some (35, true) }, { dst := some 37, op := AOp.mv (Opd.t 7), guard := some (35, true) }, { dst := some 38, op := AOp.len false (Opd.t 37), guard := some (35, true) }, { dst := some 39, op := AOp.mv (Opd.t 9), guard := some (35, true) }, { dst := some 40, op := AOp.len false (Opd.t 39), guard := some (35, true) }, { dst := some 41, op := AOp.minmax false [Opd.t 38, Opd.t 40], guard := some (35, true) }, { dst := some 42, op := AOp.slice 4 (Opd.t 36) none (some (Opd.t 41)), guard := some (35, true) }, { dst := some 43, op := AOp.mv (Opd.t 7), guard := some (35, true) }, { dst := some 44, op := AOp.call (Opd.c (AV.p (PV.fn 10))) [Opd.t 42, Opd.t 43], guard := some (35, true) }, { dst := some 45, op := AOp.bin (Bin.plain BinOp.eql) (Opd.t 44) (Opd.c (AV.p (PV.int IntKind.i64 (0)))), guard := some (35, true) }, { dst := some 46, op := AOp.pick (Opd.t 35) (Opd.t 45) (Opd.c (AV.p (PV.bool false))), guard := none }, { dst := some 13, op := AOp.mv (Opd.t 46), guard := none }]).seq ((ACode.region [{ dst := some 47, op := AOp.call (Opd.c (AV.p (PV.fn 11))) [], guard := none }, { dst := some 48, op := AOp.mv (Opd.t 47), guard := none }, { dst := some 49, op := AOp.mv (Opd.t 11), guard := some (48, true) }, { dst := some 50, op := AOp.mv (Opd.t 10), guard := some (48, true) }, { dst := some 51, op := AOp.bin (Bin.plain BinOp.geq) (Opd.t 49) (Opd.t 50), guard := some (48, true) }, { dst := some 52, op := AOp.pick (Opd.t 48) (Opd.t 51) (Opd.c (AV.p (PV.bool false))), guard := none }, { dst := some 53, op := AOp.mv (Opd.t 52), guard := none }, { dst := some 54, op := AOp.mv (Opd.t 11), guard := some (53, true) }, { dst := some 55, op := AOp.mv (Opd.t 10), guard := some (53, true) }, { dst := some 56, op := AOp.call (Opd.c (AV.p (PV.fn 16))) [Opd.t 55], guard := some (53, true) }, { dst := some 57, op := AOp.bin (Bin.plain BinOp.leq) (Opd.t 54) (Opd.t 56), guard := some (53, true) }, { dst := some 58, op := AOp.pick (Opd.t 53) (Opd.t 57) (Opd.c (AV.p (PV.bool false))), guard := none }, { dst := some 59, op := AOp.mv (Opd.t 58), guard := none }, { dst := some 60, op := AOp.mv (Opd.t 13), guard := some (59, true) }, { dst := some 61, op := AOp.mv (Opd.t 12), guard := some (59, true) }, { dst := some 62, op := AOp.mv (Opd.t 10), guard := some (59, true) }, { dst := some 63, op := AOp.bin (Bin.plain BinOp.geq) (Opd.t 61) (Opd.t 62), guard := some (59, true) }, { dst := some 64, op := AOp.mv (Opd.t 63), guard := some (59, true) }, { dst := some 65, op := AOp.mv (Opd.t 12), guard := some (64, true) }, { dst := some 66, op := AOp.mv (Opd.t 10), guard := some (64, true) }, { dst := some 67, op := AOp.call (Opd.c (AV.p (PV.fn 16))) [Opd.t 66], guard := some (64, true) }, { dst := some 68, op := AOp.bin (Bin.plain BinOp.leq) (Opd.t 65) (Opd.t 67), guard := some (64, true) }, { dst := some 69, op := AOp.pick (Opd.t 64) (Opd.t 68) (Opd.c (AV.p (PV.bool false))), guard := some (59, true) }, { dst := some 70, op := AOp.bin (Bin.eq false EQ.bool) (Opd.t 60) (Opd.t 69), guard := some (59, true) }, { dst := some 71, op := AOp.pick (Opd.t 59) (Opd.t 70) (Opd.c (AV.p (PV.bool false))), guard := none }, { dst := some 6, op := AOp.mv (Opd.t 71), guard := none }]).seq ACode.ret)))))))) }
section
variable (m : Int) (L n : Nat)
theorem row_at' (hL : 40 < L) (l : List Raw) (hk : ∀ r ∈ l, -9223372036854775808 ≤ r.k ∧ r.k ≤ 9223372036854775807) (σ : Heap) :
    ∃ v τ, (cAt (TE (G 0 m)) L (n + 3)).1 8 [.p (.vsl (raws l) l.length)] σ = some (.ret v, σ ++ τ) ∧ SlAt (σ ++ τ) v (rowOf' l) ∧ (v = .nil0 ∨ ∀ j, j < σ.length → NB v j) := by
  rw [row8 m L n hL l hk σ]
  cases h : rowOf' l with
  | nil => exact ⟨_, [], by simp [sliceR], .inl ⟨rfl, rfl⟩, .inl rfl⟩
  | cons v r =>
    refine ⟨_, [_], rfl, .inr ⟨σ.length, 0, 0, [], some 39, rfl, by simp⟩, .inr fun j hj id ver off len esz he => ?_⟩
    cases he
    omega
theorem q16 : TE (G 0 m) 16 = some (.code lit16 true) := by kernel_rfl
theorem q7 : TE (G 0 m) 7 = some (.code lit7 true) := by kernel_rfl
theorem above16 (s : List UInt8) (hs : s.length + 1 ≤ LIM) (σ : Heap) : (cAt (TE (G 0 m)) L (n + 1)).1 16 [.p (.str s)] σ = some (.ret (.p (.str (s ++ [255]))), σ) := by
  refine call_ans (ps := [.str s]) (q16 m) (by kernel_rfl) ?_ σ
  simp [lit16, runFunc, params, exec, runOps, wantedA, stepOp, pureOp, allocOp, readOp, effOp, ev, evs, evO, Env.get_cons, putE, binA, intBin, unA, AV.fit, AV.toCells, partC, partP, mkCells, allP, mkAgg, Cells.len, target, evParts, fillA, AV.cells, splice, spliceC, finA, leaveA, resA, resV, ansV, strBin, hs]
def reg7 : ACode := ACode.region [{ dst := some 30, op := AOp.mv (Opd.t 9), guard := none }, { dst := some 31, op := AOp.len false (Opd.t 30), guard := none }, { dst := some 32, op := AOp.mv (Opd.t 7), guard := none }, { dst := some 33, op := AOp.len false (Opd.t 32), guard := none }, { dst := some 34, op := AOp.bin (Bin.plain BinOp.geq) (Opd.t 31) (Opd.t 33), guard := none }, { dst := some 35, op := AOp.mv (Opd.t 34), guard := none }, { dst := some 36, op := AOp.mv (Opd.t 9), guard := some (35, true) }, { dst := some 37, op := AOp.mv (Opd.t 7), guard := some (35, true) }, { dst := some 38, op := AOp.len false (Opd.t 37), guard := some (35, true) }, { dst := some 39, op := AOp.mv (Opd.t 9), guard := some (35, true) }, { dst := some 40, op := AOp.len false (Opd.t 39), guard := some (35, true) }, { dst := some 41, op := AOp.minmax false [Opd.t 38, Opd.t 40], guard := some (35, true) }, { dst := some 42, op := AOp.slice 4 (Opd.t 36) none (some (Opd.t 41)), guard := some (35, true) }, { dst := some 43, op := AOp.mv (Opd.t 7), guard := some (35, true) }, { dst := some 44, op := AOp.call (Opd.c (AV.p (PV.fn 10))) [Opd.t 42, Opd.t 43], guard := some (35, true) }, { dst := some 45, op := AOp.bin (Bin.plain BinOp.eql) (Opd.t 44) (Opd.c (AV.p (PV.int IntKind.i64 (0)))), guard := some (35, true) }, { dst := some 46, op := AOp.pick (Opd.t 35) (Opd.t 45) (Opd.c (AV.p (PV.bool false))), guard := none }, { dst := some 13, op := AOp.mv (Opd.t 46), guard := none }]
theorem seqE {C : Oracle} {D : DOracle} {L : Nat} {af : AFunc} {a b : ACode} {st : St} {r : Option PV} (Q : Env → Prop) (σ1 : Heap) (h : ∃ ρ1, exec C L a st = some (.normal, ⟨ρ1, [], σ1⟩) ∧ Q ρ1)
    (k : ∀ ρ1, Q ρ1 → ansV (finX D af (exec C L b ⟨ρ1, [], σ1⟩)) = r) : ansV (finX D af (exec C L (.seq a b) st)) = r := by
  obtain ⟨ρ1, h1, h2⟩ := h
  rw [seqN h1]
  exact k ρ1 h2
set_option maxHeartbeats 2000000 in
theorem law7 (a b c : List Raw) (ha : ∀ r ∈ a, inR r.k ∧ inR r.n) (hza : szL (raws a) ≤ 1048576) (hb : ∀ r ∈ b, inR r.k ∧ inR r.n) (hzb : szL (raws b) ≤ 1048576) (hc : ∀ r ∈ c, inR r.k ∧ inR r.n) (hzc : szL (raws c) ≤ 1048576)
    :
    ∃ L n σ', (cAt (TE (G 0 m)) L n).1 7 [.p (.vsl (raws a) a.length), .p (.vsl (raws b) b.length), .p (.vsl (raws c) c.length)] [] = some (.ret (.p (.bool true)), σ') := by
  refine ⟨20000000, 31, [], ?_⟩
  have hxa := ok_row ha
  have hxb := ok_row hb
  have hxc := ok_row hc
  have hwa := wts_row hza
  have hwc := wts_row hzc
  have hwb : wts (rowOf' a) + wts (rowOf' b) ≤ 16777216 := by
    have h1 := wts_row' hza
    have h2 := wts_row' hzb
    omega
  have hx40 : (rowOf' a).length ≤ 40 := by simp [rowOf']; omega
  have hy40 : (rowOf' b).length ≤ 40 := by simp [rowOf']; omega
  have hz40 : (rowOf' c).length ≤ 40 := by simp [rowOf']; omega
  have htx : ∀ (x : List V), wts x ≤ 16777216 → ∀ s, V.text s ∈ x → s.length < 20000000 ∧ s.length ≤ 9223372036854775807 := by
    intro x hx s h
    obtain ⟨i, hi⟩ := List.mem_iff_getElem?.1 h
    have h2 := wts_take x (i + 1)
    rw [List.take_add_one, hi] at h2
    simp only [Option.toList_some, wts_snoc, wt] at h2
    omega
  have hLm : LIM = 4294967296 := rfl
  obtain ⟨v, τ1, e1, s1, _⟩ := row_at' m 20000000 27 (by omega) a (fun r hr => (ha r hr).1) []
  rw [List.nil_append] at e1 s1
  -- the list of both
  have o0 : Own (τ1 ++ [.arr (.pv []) 0 0 none]) τ1.length (.sl τ1.length 0 0 0 4) [] := ⟨0, 0, none, rfl, by simp [vcs], by simp⟩
  obtain ⟨d1, σ2, a1, o1, kp1⟩ := o0.append (rowOf' a) (by simp; omega)
  have s1' : SlAt (τ1 ++ [.arr (.pv []) 0 0 none]) v (rowOf' a) := Keeps.push _ _ _ _ s1
  have el1 := s1'.elems
  have s2 : SlAt σ2 v (rowOf' a) := kp1 _ _ (s1.nb (Nat.le_refl _)) s1'
  obtain ⟨u, τ2, e2, s3, hnb2⟩ := row_at' m 20000000 27 (by omega) b (fun r hr => (hb r hr).1) σ2
  obtain ⟨d2, σ4, a2, o2, kp2⟩ := (o1.push τ2).append (rowOf' b) (by simp; omega)
  have el2 := s3.elems
  have s2' : SlAt (σ2 ++ τ2) v (rowOf' a) := by
    rcases s2 with h | ⟨id, ver, wm, rest, ty, rfl, ho⟩
    · exact .inl h
    · exact .inr ⟨id, ver, wm, rest, ty, rfl, by rw [List.getElem?_append_left (List.getElem?_eq_some_iff.1 ho).1]; exact ho⟩
  have s5 : SlAt σ4 v (rowOf' a) := kp2 _ _ (s1.nb (Nat.le_refl _)) s2'
  rw [List.nil_append] at o2
  obtain ⟨z, σ5, e3, s6, k5⟩ := row_at m 20000000 27 (by omega) c (fun r hr => (hc r hr).1) σ4
  obtain ⟨σ6, e4, k6⟩ := encode_at m 20000000 28 (rowOf' a) (by omega) (by omega) hxa hwa (k5 _ _ s5)
  have hok : ∀ v ∈ rowOf' a ++ rowOf' b, v.ok := fun v hv => by
    rcases List.mem_append.1 hv with h | h
    · exact hxa v h
    · exact hxb v h
  have hwy : wts (rowOf' a ++ rowOf' b) ≤ 16777216 := by
    have : wts (rowOf' a ++ rowOf' b) = wts (rowOf' a) + wts (rowOf' b) := by simp [wts]
    omega
  obtain ⟨σ7, e5, k7⟩ := encode_at m 20000000 28 (rowOf' a ++ rowOf' b) (by simp; omega) (by simp; omega) hok hwy (k6 _ _ (k5 _ _ o2.at))
  obtain ⟨σ8, e6, k8⟩ := encode_at m 20000000 28 (rowOf' c) (by omega) (by omega) hxc hwc (k7 _ _ (k6 _ _ s6))
  have s7 : SlAt σ8 v (rowOf' a) := k8 _ _ (k7 _ _ (k6 _ _ (k5 _ _ s5)))
  have s8 : SlAt σ8 z (rowOf' c) := k8 _ _ (k7 _ _ (k6 _ _ s6))
  have e9 := alive_at m 20000000 30 (by omega) (by omega)
  have e10 := above16 m 20000000 29
  have hb1 := begins_between (rowOf' a ++ rowOf' b) (rowOf' a) hok hxa
  have hb2 := begins_between (rowOf' c) (rowOf' a) hxc hxa
  rw [begins_app] at hb1
  rw [begins_take] at hb2
  have hl1 := encL_len (rowOf' a)
  have hord : ∀ w, SlAt σ8 w ((rowOf' c).take (rowOf' a).length) → ∃ σ', (cAt (TE (G 0 m)) 20000000 30).1 10 [w, v] σ8 = some (.ret (.p (.int .i64 (ordI (ordL ((rowOf' c).take (rowOf' a).length) (rowOf' a))))), σ') ∧ Keeps σ8 σ' := fun w hw =>
    order_at m 20000000 27 _ (rowOf' a) (by simp; omega) (by simp; omega) (fun s hs => htx _ hwc s (List.mem_of_mem_take hs)) (htx _ hwa) hw s7
  refine call_ans (ps := [.vsl (raws a) a.length, .vsl (raws b) b.length, .vsl (raws c) c.length]) (n := 30) (q7 m) (by kernel_rfl) ?_ []
  have habove := e10 (encL (rowOf' a)) (by omega)
  generalize rowOf' a = x at *
  generalize rowOf' b = y at *
  generalize rowOf' c = t at *
  generalize (cAt (TE (G 0 m)) 20000000 30).1 = C at *
  generalize (cAt (TE (G 0 m)) 20000000 30).2 = D
  have lv : lenA v = some x.length := s7.len
  have g1 := geq_cmp (encL (x ++ y)) (encL x)
  have g2 := leq_cmp (encL (x ++ y)) (encL x ++ [255])
  have g3 := geq_cmp (encL t) (encL x)
  have g4 := leq_cmp (encL t) (encL x ++ [255])
  rw [eq_comm, Bool.and_eq_true] at hb1
  rw [hb1.1] at g1
  rw [hb1.2] at g2
  have hLa : (encL x).length + 1 ≤ LIM := by omega
  rw [runFunc_eq]
  simp only [lit7]
  refine seqE (σ1 := []) (Q := fun ρ => ρ.get 0 = some (.p (.vsl (raws a) a.length)) ∧ ρ.get 1 = some (.p (.vsl (raws b) b.length)) ∧ ρ.get 2 = some (.p (.vsl (raws c) c.length))) ⟨_, by simp [params, exec, runOps, wantedA, stepOp, pureOp, allocOp, readOp, effOp, ev, evs, evO, Env.get_cons, putE, binA, intBin, unA, AV.fit, AV.toCells, partC, partP, mkCells, allP, mkAgg, Cells.len, target]; rfl, by simp [Env.get_cons]⟩ fun ρ ⟨g0, g1', g2'⟩ => ?_
  refine seqE (σ1 := τ1) (Q := fun ρ => ρ.get 7 = some v ∧ ρ.get 1 = some (.p (.vsl (raws b) b.length)) ∧ ρ.get 2 = some (.p (.vsl (raws c) c.length))) ⟨_, by simp [exec, runOps, wantedA, stepOp, pureOp, allocOp, readOp, effOp, ev, evs, evO, Env.get_cons, putE, binA, intBin, unA, AV.fit, AV.toCells, partC, partP, mkCells, allP, mkAgg, Cells.len, target, g0, e1]; rfl, by simp [Env.get_cons, g1', g2']⟩ fun ρ ⟨g7, g1', g2'⟩ => ?_
  refine seqE (σ1 := σ4) (Q := fun ρ => ρ.get 7 = some v ∧ ρ.get 8 = some d2 ∧ ρ.get 2 = some (.p (.vsl (raws c) c.length))) ⟨_, by simp [exec, runOps, wantedA, stepOp, pureOp, allocOp, readOp, effOp, ev, evs, evO, Env.get_cons, putE, binA, intBin, unA, AV.fit, AV.toCells, partC, partP, mkCells, allP, mkAgg, Cells.len, target, evParts, fillA, AV.cells, splice, spliceC, finA, leaveA, resA, resV, ansV, repCells, g7, g1', e2, a1, a2, el1, el2]; rfl, by simp [Env.get_cons, g7, g2']⟩ fun ρ ⟨g7, g8, g2'⟩ => ?_
  refine seqE (σ1 := σ5) (Q := fun ρ => ρ.get 7 = some v ∧ ρ.get 8 = some d2 ∧ ρ.get 9 = some z) ⟨_, by simp [exec, runOps, wantedA, stepOp, pureOp, allocOp, readOp, effOp, ev, evs, evO, Env.get_cons, putE, binA, intBin, unA, AV.fit, AV.toCells, partC, partP, mkCells, allP, mkAgg, Cells.len, target, g2', e3]; rfl, by simp [Env.get_cons, g7, g8]⟩ fun ρ ⟨g7, g8, g9⟩ => ?_
  refine seqE (σ1 := σ6) (Q := fun ρ => ρ.get 7 = some v ∧ ρ.get 8 = some d2 ∧ ρ.get 9 = some z ∧ ρ.get 10 = some (.p (.str (encL x)))) ⟨_, by simp [exec, runOps, wantedA, stepOp, pureOp, allocOp, readOp, effOp, ev, evs, evO, Env.get_cons, putE, binA, intBin, unA, AV.fit, AV.toCells, partC, partP, mkCells, allP, mkAgg, Cells.len, target, g7, e4]; rfl, by simp [Env.get_cons, g7, g8, g9]⟩ fun ρ ⟨g7, g8, g9, g10⟩ => ?_
  refine seqE (σ1 := σ7) (Q := fun ρ => ρ.get 7 = some v ∧ ρ.get 9 = some z ∧ ρ.get 10 = some (.p (.str (encL x))) ∧ ρ.get 11 = some (.p (.str (encL (x ++ y))))) ⟨_, by simp [exec, runOps, wantedA, stepOp, pureOp, allocOp, readOp, effOp, ev, evs, evO, Env.get_cons, putE, binA, intBin, unA, AV.fit, AV.toCells, partC, partP, mkCells, allP, mkAgg, Cells.len, target, g8, e5]; rfl, by simp [Env.get_cons, g7, g9, g10]⟩ fun ρ ⟨g7, g9, g10, g11⟩ => ?_
  refine seqE (σ1 := σ8) (Q := fun ρ => ρ.get 7 = some v ∧ ρ.get 9 = some z ∧ ρ.get 10 = some (.p (.str (encL x))) ∧ ρ.get 11 = some (.p (.str (encL (x ++ y)))) ∧ ρ.get 12 = some (.p (.str (encL t)))) ⟨_, by simp [exec, runOps, wantedA, stepOp, pureOp, allocOp, readOp, effOp, ev, evs, evO, Env.get_cons, putE, binA, intBin, unA, AV.fit, AV.toCells, partC, partP, mkCells, allP, mkAgg, Cells.len, target, g9, e6]; rfl, by simp [Env.get_cons, g7, g9, g10, g11]⟩ fun ρ ⟨g7, g9, g10, g11, g12⟩ => ?_
  have lz := s8.len
  obtain ⟨q, σ9, hq, hbeg⟩ : ∃ (q : Bool) (σ9 : Heap), (∃ ρ1, exec C 20000000 reg7 ⟨ρ, [], σ8⟩ = some (.normal, ⟨ρ1, [], σ9⟩) ∧ ρ1.get 10 = some (.p (.str (encL x))) ∧ ρ1.get 11 = some (.p (.str (encL (x ++ y)))) ∧ ρ1.get 12 = some (.p (.str (encL t))) ∧ ρ1.get 13 = some (.p (.bool q))) ∧
      q = (cmpL (encL t) (encL x) != .lt && cmpL (encL t) (encL x ++ [255]) != .gt) := by
    unfold reg7
    have rl1 := fun (d k : Nat) (r : List AOper) (ρ : Env) (σ : Heap) => run_len (C := C) (d := d) (k := k) (g := none) (r := r) (ρ := ρ) (σ := σ) lv s7.str rfl
    have rl2 := fun (d k : Nat) (r : List AOper) (ρ : Env) (σ : Heap) => run_len (C := C) (d := d) (k := k) (g := none) (r := r) (ρ := ρ) (σ := σ) lz s8.str rfl
    have rg1 := fun (d k : Nat) (r : List AOper) (ρ : Env) (σ : Heap) (h : ρ.get 35 = some (.p (.bool true))) => run_len (C := C) (d := d) (k := k) (g := some (35, true)) (r := r) (ρ := ρ) (σ := σ) lv s7.str (wanted_true h)
    have rg2 := fun (d k : Nat) (r : List AOper) (ρ : Env) (σ : Heap) (h : ρ.get 35 = some (.p (.bool true))) => run_len (C := C) (d := d) (k := k) (g := some (35, true)) (r := r) (ρ := ρ) (σ := σ) lz s8.str (wanted_true h)
    by_cases hxz : x.length ≤ t.length
    · have h1 : (x.length : Int) ≤ (t.length : Int) := by omega
      have h2 : ¬ (t.length : Int) < (x.length : Int) := by omega
      have h3 : ¬ t.length < x.length := by omega
      obtain ⟨w, hs, hw, _⟩ := s8.slice x.length hxz
      obtain ⟨σ9, e7, _⟩ := hord w hw
      have hfin : (ordL (t.take x.length) x == .eq) = (cmpL (encL t) (encL x) != .lt && cmpL (encL t) (encL x ++ [255]) != .gt) := by
        rw [← hb2]
        simp [hxz]
      refine ⟨ordL (t.take x.length) x == .eq, σ9, ?_, hfin⟩
      have hoi : (ordI (ordL (t.take x.length) x) == 0) = (ordL (t.take x.length) x == .eq) := by cases ordL (t.take x.length) x <;> rfl
      have rs := fun (d k j : Nat) (r : List AOper) (ρ : Env) (σ : Heap) (h : ρ.get 35 = some (.p (.bool true))) => run_slice (C := C) (d := d) (k := k) (j := j) (g := some (35, true)) (r := r) (ρ := ρ) (σ := σ) hs s8.str (wanted_true h)
      exact ⟨_, by simp [exec, runOps, wantedA, stepOp, pureOp, allocOp, readOp, effOp, ev, evs, evO, Env.get_cons, putE, binA, intBin, unA, AV.fit, AV.toCells, partC, partP, mkCells, allP, mkAgg, Cells.len, target, maxA, ↓rl1, ↓rl2, ↓rg1, ↓rg2, ↓rs, g7, g9, hxz, h1, h2, h3, e7, hoi]; rfl, by simp [Env.get_cons, g10, g11, g12]⟩
    · have h1 : ¬ (x.length : Int) ≤ (t.length : Int) := by omega
      refine ⟨false, σ8, ?_, ?_⟩
      · exact ⟨_, by simp [exec, runOps, wantedA, stepOp, pureOp, allocOp, readOp, effOp, ev, evs, evO, Env.get_cons, putE, binA, intBin, unA, AV.fit, AV.toCells, partC, partP, mkCells, allP, mkAgg, Cells.len, target, ↓rl1, ↓rl2, g7, g9, hxz, h1]; rfl, by simp [Env.get_cons, g10, g11, g12]⟩
      · rw [← hb2]
        simp [hxz]
  rw [← g3, ← g4] at hbeg
  obtain ⟨ρ1, hq, k10, k11, k12, k13⟩ := hq
  refine seqE (σ1 := σ9) (Q := fun ρ => ρ.get 10 = some (.p (.str (encL x))) ∧ ρ.get 11 = some (.p (.str (encL (x ++ y)))) ∧ ρ.get 12 = some (.p (.str (encL t))) ∧ ρ.get 13 = some (.p (.bool q))) ⟨ρ1, hq, k10, k11, k12, k13⟩ fun ρ ⟨g10, g11, g12, g13⟩ => ?_
  cases hlt : Op.bytesLess (encL t) (encL x) with
  | true =>
    rw [hlt] at hbeg
    simp at hbeg
    subst hbeg
    simp [exec, runOps, wantedA, stepOp, pureOp, allocOp, readOp, effOp, ev, evs, evO, Env.get_cons, putE, binA, intBin, unA, AV.fit, AV.toCells, partC, partP, mkCells, allP, mkAgg, Cells.len, target, finX, finA, leaveA, resA, resV, ansV, strBin, eqP, e9, habove, g1, g2, g10, g11, g12, g13, hlt, lit7]
  | false =>
    rw [hlt] at hbeg
    cases hle : (Op.bytesLess (encL t) (encL x ++ [255]) || encL t == encL x ++ [255]) with
    | true =>
      rw [hle] at hbeg
      simp at hbeg
      subst hbeg
      simp [exec, runOps, wantedA, stepOp, pureOp, allocOp, readOp, effOp, ev, evs, evO, Env.get_cons, putE, binA, intBin, unA, AV.fit, AV.toCells, partC, partP, mkCells, allP, mkAgg, Cells.len, target, finX, finA, leaveA, resA, resV, ansV, strBin, eqP, e9, habove, g1, g2, g10, g11, g12, g13, hlt, ↓hle, lit7]
    | false =>
      rw [hle] at hbeg
      simp at hbeg
      subst hbeg
      simp [exec, runOps, wantedA, stepOp, pureOp, allocOp, readOp, effOp, ev, evs, evO, Env.get_cons, putE, binA, intBin, unA, AV.fit, AV.toCells, partC, partP, mkCells, allP, mkAgg, Cells.len, target, finX, finA, leaveA, resA, resV, ansV, strBin, eqP, e9, habove, g1, g2, g10, g11, g12, g13, hlt, ↓hle, lit7]
end
end Go.Ab.Key
