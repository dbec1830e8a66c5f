/- The laws of keys: slices of values in a caller's heap; KeyOrder. -/
import Derived.Test.YtafjhlangdcefaaDoorAbKA
set_option linter.unusedSectionVars false
set_option linter.unusedSimpArgs false
set_option linter.unusedVariables false
set_option maxRecDepth 1000000
namespace Go.Ab.Key
open Go Go.Ab Go.Proofs
variable [Marks]
/-- a slice that holds values -/
def SlAt (σ : Heap) (v : AV) (x : List V) : Prop := (v = .nil0 ∧ x = []) ∨ ∃ id ver wm rest ty, v = .sl id ver 0 x.length 4 ∧ σ[id]? = some (.arr (.pv (vcs x ++ rest)) ver wm ty)
/-- whatever slices were there are there -/
def Keeps (σ σ' : Heap) : Prop := ∀ v x, SlAt σ v x → SlAt σ' v x
theorem Keeps.refl (σ : Heap) : Keeps σ σ := fun _ _ h => h
theorem Keeps.trans {σ1 σ2 σ3 : Heap} (h : Keeps σ1 σ2) (k : Keeps σ2 σ3) : Keeps σ1 σ3 := fun v x q => k v x (h v x q)
theorem Keeps.push (σ : Heap) (o : Obj) : Keeps σ (σ ++ [o]) := by
  rintro v x (h | ⟨id, ver, wm, rest, ty, rfl, ho⟩)
  · exact .inl h
  · exact .inr ⟨id, ver, wm, rest, ty, rfl, by rw [List.getElem?_append_left (List.getElem?_eq_some_iff.1 ho).1]; exact ho⟩
theorem frz_one {tl : List Nat} {σ : Heap} {v : AV} {x : List V} (h : SlAt σ v x) (ht : ∀ id ver n, v = .sl id ver 0 n 4 → tl.contains id = true) :
    ∃ σ1, frz tl 9 σ v = some (.vsl (vcs x) x.length, σ1) ∧ Keeps σ σ1 := by
  rcases h with ⟨rfl, rfl⟩ | ⟨id, ver, wm, rest, ty, rfl, ho⟩
  · exact ⟨σ, rfl, .refl _⟩
  · have hid : id < σ.length := (List.getElem?_eq_some_iff.1 ho).1
    have hc := ht id ver x.length rfl
    have hl : x.length * 4 ≤ (vcs x ++ rest).length := by rw [List.length_append, vcs_len]; omega
    have htk : (vcs x ++ rest).take (x.length * 4) = vcs x := by rw [← vcs_len, List.take_left]
    refine ⟨σ.set id (.arr (.pv (vcs x ++ rest)) ver (Nat.max wm (0 + x.length * 4)) ty), ?_, ?_⟩
    · have hl' : x.length * 4 ≤ (vcs x).length + rest.length := by rw [vcs_len]; omega
      simp only [frz, ho, Cells.len, hc, Nat.zero_add, List.drop_zero, htk, and_true, true_and]
      rw [if_pos hl]
    · rintro v' x' (h | ⟨id', ver', wm', rest', ty', rfl, ho'⟩)
      · exact .inl h
      · by_cases he : id = id'
        · subst he
          rw [ho] at ho'
          simp only [Option.some.injEq, Obj.arr.injEq, Cells.pv.injEq] at ho'
          obtain ⟨e1, rfl, rfl, rfl⟩ := ho'
          exact .inr ⟨id, ver, _, rest', ty, rfl, by rw [List.getElem?_set_self hid, e1]⟩
        · exact .inr ⟨id', ver', wm', rest', ty', rfl, by rw [List.getElem?_set_ne he]; exact ho'⟩
theorem touch_one {σ : Heap} {v : AV} {x : List V} (h : SlAt σ v x) : ∀ id ver n, v = .sl id ver 0 n 4 → (touch σ [v]).contains id = true := by
  intro id ver n hv
  rcases h with ⟨rfl, _⟩ | ⟨id', ver', wm, rest, ty, rfl, ho⟩
  · cases hv
  · cases hv
    simp [touch, idsL, idsV, collect, idsO, ho]
theorem touch_two {σ : Heap} {v u : AV} {x y : List V} (h : SlAt σ v x) (k : SlAt σ u y) : (∀ id ver n, v = .sl id ver 0 n 4 → (touch σ [v, u]).contains id = true) ∧ (∀ id ver n, u = .sl id ver 0 n 4 → (touch σ [v, u]).contains id = true) := by
  rcases h with ⟨rfl, _⟩ | ⟨id1, ver1, wm1, rest1, ty1, rfl, ho1⟩ <;> rcases k with ⟨rfl, _⟩ | ⟨id2, ver2, wm2, rest2, ty2, rfl, ho2⟩
  · exact ⟨fun _ _ _ h => (by cases h), fun _ _ _ h => (by cases h)⟩
  · refine ⟨fun _ _ _ h => (by cases h), fun _ _ _ h => ?_⟩
    cases h
    simp [touch, idsL, idsV, collect, idsO, ho2]
  · refine ⟨fun _ _ _ h => ?_, fun _ _ _ h => (by cases h)⟩
    cases h
    simp [touch, idsL, idsV, collect, idsO, ho1]
  · by_cases he : id1 = id2
    · subst he
      refine ⟨fun _ _ _ h => ?_, fun _ _ _ h => ?_⟩ <;> cases h <;> simp [touch, idsL, idsV, collect, idsO, ho1]
    · have he' : ¬ id2 = id1 := fun h => he h.symm
      refine ⟨fun _ _ _ h => ?_, fun _ _ _ h => ?_⟩ <;> cases h <;> simp [touch, idsL, idsV, collect, idsO, ho1, ho2, he, he']
theorem cAt_frz {T : Table} {L n f : Nat} {af : AFunc} {as0 : List AV} {ps : List PV} {σ σ1 : Heap} (hT : T f = some (.code af true)) (hf : frzA (touch σ as0) 9 σ as0 = (ps.map .p, σ1)) :
    (cAt T L (n + 1)).1 f as0 σ = (cAt T L (n + 1)).1 f (ps.map .p) σ1 := by
  simp only [cAt, callT, hT, wrapF, hf, frzA_pure, touch_pure, List.all_nil]
def lit11 : AFunc := { ntmps := 37, results := [ARes.tmp 0], body := (ACode.region [{ dst := some 0, op := AOp.mv (Opd.c (AV.p (PV.bool false))), guard := none }]).seq ((ACode.region [{ dst := some 6, op := AOp.call (Opd.c (AV.p (PV.fn 12))) [Opd.c (AV.p (PV.str [3, 97, 0, 0, 1]))], guard := none }, { dst := some 5, op := AOp.mv (Opd.t 6), guard := none }, { dst := some 7, op := AOp.extract 0 (Opd.t 5), guard := none }, { dst := some 8, op := AOp.extract 1 (Opd.t 5), guard := none }, { dst := some 1, op := AOp.mv (Opd.t 7), guard := none }, { dst := some 2, op := AOp.mv (Opd.t 8), guard := none }]).seq ((ACode.region [{ dst := some 10, op := AOp.call (Opd.c (AV.p (PV.fn 12))) [Opd.c (AV.p (PV.str [3, 97, 0]))], guard := none }, { dst := some 9, op := AOp.mv (Opd.t 10), guard := none }, { dst := some 11, op := AOp.extract 0 (Opd.t 9), guard := none }, { dst := some 12, op := AOp.extract 1 (Opd.t 9), guard := none }, { dst := some 3, op := AOp.mv (Opd.t 11), guard := none }, { dst := some 4, op := AOp.mv (Opd.t 12), guard := none }]).seq ((ACode.draw 25 [0, 1, 3, 7, 15, 31, 63, 127, 255, 511, 1023, 2047, 4095, 8191, 16383, 32767, 65535, 16383, 262143, 524287, 1048575, 2097151, 4194303, 8388607, 16777215] [{ dst := some 13, op := AOp.call (Opd.c (AV.p (PV.fn 21))) [Opd.c (AV.p (PV.str [97, 32]))], guard := none }, { dst := some 14, op := AOp.buildSlice [AV.p (PV.int IntKind.i64 (0)), AV.p (PV.int IntKind.i64 (0)), AV.p (PV.str []), AV.p (PV.bool false)] 1 4 [(0, 4, Opd.t 13)], guard := none }, { dst := some 15, op := AOp.call (Opd.c (AV.p (PV.fn 9))) [Opd.t 14], guard := none }, { dst := some 16, op := AOp.bin (Bin.plain BinOp.eql) (Opd.t 15) (Opd.c (AV.p (PV.str [3, 97, 0, 0]))), guard := none }, { dst := some 17, op := AOp.mv (Opd.t 16), guard := none }, { dst := some 18, op := AOp.mv (Opd.t 2), guard := some (17, true) }, { dst := some 19, op := AOp.bin (Bin.plain BinOp.eql) (Opd.t 18) (Opd.c (AV.p (PV.int IntKind.i64 (0)))), guard := some (17, true) }, { dst := some 20, op := AOp.pick (Opd.t 17) (Opd.t 19) (Opd.c (AV.p (PV.bool false))), guard := none }, { dst := some 21, op := AOp.mv (Opd.t 20), guard := none }, { dst := some 22, op := AOp.mv (Opd.t 1), guard := some (21, true) }, { dst := some 23, op := AOp.len false (Opd.t 22), guard := some (21, true) }, { dst := some 24, op := AOp.bin (Bin.plain BinOp.eql) (Opd.t 23) (Opd.c (AV.p (PV.int IntKind.i64 (2)))), guard := some (21, true) }, { dst := some 25, op := AOp.pick (Opd.t 21) (Opd.t 24) (Opd.c (AV.p (PV.bool false))), guard := none }, { dst := some 26, op := AOp.mv (Opd.t 25), guard := none }, { dst := some 27, op := AOp.mv (Opd.t 1), guard := some (26, true) }, { dst := some 28, op := AOp.idx 4 (Opd.t 27) (Opd.c (AV.p (PV.int IntKind.i64 (0)))), guard := some (26, true) }, { dst := some 29, op := AOp.load true 4 (Opd.t 28), guard := some (26, true) }, { dst := some 30, op := AOp.call (Opd.c (AV.p (PV.fn 21))) [Opd.c (AV.p (PV.str [97]))], guard := some (26, true) }, { dst := some 31, op := AOp.bin (Bin.eq false (EQ.struct [(0, false, 1, EQ.int), (1, false, 1, EQ.int), (2, false, 1, EQ.str), (3, false, 1, EQ.bool)])) (Opd.t 29) (Opd.t 30), guard := some (26, true) }, { dst := some 32, op := AOp.pick (Opd.t 26) (Opd.t 31) (Opd.c (AV.p (PV.bool false))), guard := none }, { dst := some 33, op := AOp.mv (Opd.t 32), guard := none }, { dst := some 34, op := AOp.mv (Opd.t 4), guard := some (33, true) }, { dst := some 35, op := AOp.bin (Bin.plain BinOp.eql) (Opd.t 34) (Opd.c (AV.p (PV.int IntKind.i64 (31)))), guard := some (33, true) }, { dst := some 36, op := AOp.pick (Opd.t 33) (Opd.t 35) (Opd.c (AV.p (PV.bool false))), guard := none }, { dst := some 0, op := AOp.mv (Opd.t 36), guard := none }]).seq ACode.ret))) }
section
variable (m : Int) (L n : Nat)
/-- what Row makes -/
theorem row_at (hL : 40 < L) (l : List Raw) (hk : ∀ r ∈ l, -9223372036854775808 ≤ r.k ∧ r.k ≤ 9223372036854775807) (σ : Heap) :
    ∃ v σ', (cAt (TE (G 0 m)) L (n + 3)).1 8 [.p (.vsl (raws l) l.length)] σ = some (.ret v, σ') ∧ SlAt σ' v (rowOf' l) ∧ Keeps σ σ' := by
  rw [row8 m L n hL l hk σ]
  cases h : rowOf' l with
  | nil => exact ⟨_, _, rfl, .inl ⟨rfl, rfl⟩, .refl _⟩
  | cons v r => exact ⟨_, _, rfl, .inr ⟨σ.length, 0, 0, [], some 39, rfl, by simp⟩, .push _ _⟩
theorem encode_at (x : List V) (hL : x.length + 8 < L) (hm : x.length ≤ 9223372036854775807) (hok : ∀ v ∈ x, v.ok) (hw : wts x ≤ 16777216) {v : AV} {σ : Heap} (h : SlAt σ v x) :
    ∃ σ', (cAt (TE (G 0 m)) L (n + 2)).1 9 [v] σ = some (.ret (.p (.str (encL x))), σ') ∧ Keeps σ σ' := by
  obtain ⟨σ1, e, hk⟩ := frz_one h (touch_one h)
  refine ⟨σ1, ?_, hk⟩
  rw [cAt_frz (ps := [.vsl (vcs x) x.length]) (σ1 := σ1) (q9 m) (by simp only [frzA, e]; rfl)]
  exact encode9 m L n x hL hm hok hw σ1
theorem order_at (x y : List V) (hL : x.length < L) (hm : x.length ≤ 9223372036854775807) (hx : ∀ s, V.text s ∈ x → s.length < L ∧ s.length ≤ 9223372036854775807) (hy : ∀ s, V.text s ∈ y → s.length < L ∧ s.length ≤ 9223372036854775807) {v u : AV} {σ : Heap} (h : SlAt σ v x) (k : SlAt σ u y) :
    ∃ σ', (cAt (TE (G 0 m)) L (n + 3)).1 10 [v, u] σ = some (.ret (.p (.int .i64 (ordI (ordL x y)))), σ') ∧ Keeps σ σ' := by
  obtain ⟨t1, t2⟩ := touch_two h k
  obtain ⟨σ1, e1, hk1⟩ := frz_one h t1
  obtain ⟨σ2, e2, hk2⟩ := frz_one (hk1 _ _ k) t2
  refine ⟨σ2, ?_, hk1.trans hk2⟩
  rw [cAt_frz (ps := [.vsl (vcs x) x.length, .vsl (vcs y) y.length]) (σ1 := σ2) (q10 m) (by simp only [frzA, e1, e2]; rfl)]
  exact order10 m L n x y hL hm hx hy σ2
theorem q11 : TE (G 0 m) 11 = some (.code lit11 true) := by kernel_rfl
theorem alive_at (hL : 100 ≤ L) (hn : 20 ≤ n) (σ : Heap) : (cAt (TE (G 0 m)) L n).1 11 [] σ = some (.ret (.p (.bool true)), σ) := by
  obtain ⟨k, rfl⟩ : ∃ k, L = k + 100 := ⟨L - 100, by omega⟩
  obtain ⟨j, rfl⟩ : ∃ j, n = j + 20 := ⟨n - 20, by omega⟩
  refine call_ans (ps := []) (n := j + 19) (q11 m) (by kernel_rfl) ?_ σ
  kernel_rfl
def lit3 : AFunc := { ntmps := 38, results := [ARes.tmp 4], body := (ACode.region [{ dst := some 4, op := AOp.mv (Opd.c (AV.p (PV.bool false))), guard := none }]).seq ((ACode.region [{ dst := some 10, op := AOp.mv (Opd.t 0), guard := none }, { dst := some 11, op := AOp.call (Opd.c (AV.p (PV.fn 8))) [Opd.t 10], guard := none }, { dst := some 5, op := AOp.mv (Opd.t 11), guard := none }]).seq ((ACode.region [{ dst := some 12, op := AOp.mv (Opd.t 1), guard := none }, { dst := some 13, op := AOp.call (Opd.c (AV.p (PV.fn 8))) [Opd.t 12], guard := none }, { dst := some 6, op := AOp.mv (Opd.t 13), guard := none }]).seq ((ACode.region [{ dst := some 14, op := AOp.mv (Opd.t 5), guard := none }, { dst := some 15, op := AOp.call (Opd.c (AV.p (PV.fn 9))) [Opd.t 14], guard := none }, { dst := some 7, op := AOp.mv (Opd.t 15), guard := none }]).seq ((ACode.region [{ dst := some 16, op := AOp.mv (Opd.t 6), guard := none }, { dst := some 17, op := AOp.call (Opd.c (AV.p (PV.fn 9))) [Opd.t 16], guard := none }, { dst := some 8, op := AOp.mv (Opd.t 17), guard := none }]).seq ((ACode.region [{ dst := some 18, op := AOp.mv (Opd.t 5), guard := none }, { dst := some 19, op := AOp.mv (Opd.t 6), guard := none }, { dst := some 20, op := AOp.call (Opd.c (AV.p (PV.fn 10))) [Opd.t 18, Opd.t 19], guard := none }, { dst := some 9, op := AOp.mv (Opd.t 20), guard := none }]).seq ((ACode.region [{ dst := some 21, op := AOp.call (Opd.c (AV.p (PV.fn 11))) [], guard := none }, { dst := some 22, op := AOp.mv (Opd.t 21), guard := none }, { dst := some 23, op := AOp.mv (Opd.t 7), guard := some (22, true) }, { dst := some 24, op := AOp.mv (Opd.t 8), guard := some (22, true) }, { dst := some 25, op := AOp.bin (Bin.plain BinOp.lss) (Opd.t 23) (Opd.t 24), guard := some (22, true) }, { dst := some 26, op := AOp.mv (Opd.t 9), guard := some (22, true) }, { dst := some 27, op := AOp.bin (Bin.plain BinOp.lss) (Opd.t 26) (Opd.c (AV.p (PV.int IntKind.i64 (0)))), guard := some (22, true) }, { dst := some 28, op := AOp.bin (Bin.eq false EQ.bool) (Opd.t 25) (Opd.t 27), guard := some (22, true) }, { dst := some 29, op := AOp.pick (Opd.t 22) (Opd.t 28) (Opd.c (AV.p (PV.bool false))), guard := none }, { dst := some 30, op := AOp.mv (Opd.t 29), guard := none }, { dst := some 31, op := AOp.mv (Opd.t 7), guard := some (30, true) }, { dst := some 32, op := AOp.mv (Opd.t 8), guard := some (30, true) }, { dst := some 33, op := AOp.bin (Bin.plain BinOp.eql) (Opd.t 31) (Opd.t 32), guard := some (30, true) }, { dst := some 34, op := AOp.mv (Opd.t 9), guard := some (30, true) }, { dst := some 35, op := AOp.bin (Bin.plain BinOp.eql) (Opd.t 34) (Opd.c (AV.p (PV.int IntKind.i64 (0)))), guard := some (30, true) }, { dst := some 36, op := AOp.bin (Bin.eq false EQ.bool) (Opd.t 33) (Opd.t 35), guard := some (30, true) }, { dst := some 37, op := AOp.pick (Opd.t 30) (Opd.t 36) (Opd.c (AV.p (PV.bool false))), guard := none }, { dst := some 4, op := AOp.mv (Opd.t 37), guard := none }]).seq ACode.ret)))))) }
theorem q3 : TE (G 0 m) 3 = some (.code lit3 true) := by kernel_rfl
/-- KEYS STAND AS THEIR VALUES DO -/
theorem law3 (a b : List Raw) (hka : ∀ r ∈ a, -9223372036854775808 ≤ r.k ∧ r.k ≤ 9223372036854775807) (hkb : ∀ r ∈ b, -9223372036854775808 ≤ r.k ∧ r.k ≤ 9223372036854775807)
    (hna : ∀ v ∈ rowOf' a, v.ok) (hnb : ∀ v ∈ rowOf' b, v.ok) (hwa : wts (rowOf' a) ≤ 16777216) (hwb : wts (rowOf' b) ≤ 16777216) :
    ∃ L n σ', (cAt (TE (G 0 m)) L n).1 3 [.p (.vsl (raws a) a.length), .p (.vsl (raws b) b.length)] [] = some (.ret (.p (.bool true)), σ') := by
  refine ⟨20000000, 31, [], ?_⟩
  have hx40 : (rowOf' a).length ≤ 40 := by simp [rowOf']; omega
  have hy40 : (rowOf' b).length ≤ 40 := by simp [rowOf']; omega
  have htx : ∀ (x : List V), wts x ≤ 16777216 → ∀ s, V.text s ∈ x → s.length < 20000000 ∧ s.length ≤ 9223372036854775807 := by
    intro x hx s h
    obtain ⟨i, hi⟩ := List.mem_iff_getElem?.1 h
    have h2 := wts_take x (i + 1)
    rw [List.take_add_one, hi] at h2
    simp only [Option.toList_some, wts_snoc, wt] at h2
    omega
  obtain ⟨v, σ1, e1, s1, k1⟩ := row_at m 20000000 27 (by omega) a hka []
  obtain ⟨u, σ2, e2, s2, k2⟩ := row_at m 20000000 27 (by omega) b hkb σ1
  obtain ⟨σ3, e3, k3⟩ := encode_at m 20000000 28 (rowOf' a) (by omega) (by omega) hna hwa (k2 _ _ s1)
  obtain ⟨σ4, e4, k4⟩ := encode_at m 20000000 28 (rowOf' b) (by omega) (by omega) hnb hwb (k3 _ _ s2)
  obtain ⟨σ5, e5, k5⟩ := order_at m 20000000 27 (rowOf' a) (rowOf' b) (by omega) (by omega) (htx _ hwa) (htx _ hwb) ((k3.trans k4) _ _ (k2 _ _ s1)) (k4 _ _ (k3 _ _ s2))
  have e6 := alive_at m 20000000 30 (by omega) (by omega)
  refine call_ans (ps := [.vsl (raws a) a.length, .vsl (raws b) b.length]) (n := 30) (q3 m) (by kernel_rfl) ?_ []
  have hc := encL_cmp (rowOf' a) (rowOf' b) hna hnb
  generalize rowOf' a = x at *
  generalize rowOf' b = y at *
  generalize (cAt (TE (G 0 m)) 20000000 30).1 = C at *
  generalize (cAt (TE (G 0 m)) 20000000 30).2 = D
  have hl : Op.bytesLess (encL x) (encL y) = (ordL x y == .lt) := by rw [less_cmp, hc]
  have hq : (encL x == encL y) = (ordL x y == .eq) := by rw [eq_cmp, hc]
  cases ho : ordL x y <;> rw [ho] at hl hq e5 <;> simp [lit3, runFunc, params, exec, runOps, wantedA, stepOp, pureOp, allocOp, readOp, effOp, ev, evs, evO, Env.get_cons, putE, binA, intBin, unA, AV.fit, AV.toCells, partC, partP, mkCells, allP, mkAgg, Cells.len, target, evParts, fillA, AV.cells, splice, spliceC, finA, leaveA, resA, resV, ansV, strBin, eqP, e1, e2, e3, e4, e5, e6, hl, hq, ordI]
end
end Go.Ab.Key
