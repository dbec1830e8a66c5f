/- TypesCasts: the document's number of a word: its loop, whole. -/
import Derived.Test.YtacjjncmbklplaaGreatDoorAbT1
set_option linter.unusedSectionVars false
set_option linter.unusedSimpArgs false
set_option linter.unusedVariables false
set_option maxRecDepth 1000000
namespace Go.Ab.Cols
open Go Go.Ab Go.Ab.Names
section
variable (C : Oracle) (L : Nat) (s : List UInt8) (j : Nat) (e : List UInt8) (m : Bool) (ρ : Env) (X : Obj) (l : List PV) (c : UInt8)
theorem b4_late (h : At34 s j [50, 50, 48, 48, 51] m ρ) : ∃ ρ' : Env, exec C L (.seq body34_b4 body34_b5) ⟨ρ, [], hp34 X l⟩ = some (.normal, ⟨ρ', [], hp34 X l⟩) ∧ At34 s j [50, 50, 48, 48, 51] m ρ' := by
  refine ⟨_, by simp [body34_b4, body34_b5, exec, runOps, wantedA, stepOp, pureOp, allocOp, readOp, effOp, ev, evs, evO, Env.get_cons, putE, binA, intBin, unA, AV.fit, AV.toCells, partC, partP, mkCells, allP, mkAgg, Cells.len, target, strBin, h.g8]; rfl, ?_⟩
  constructor <;> simp [Env.get_cons, h.g0, h.g9, h.g8, h.g7, h.g4, h.g3, h.g6]
theorem b4_go (n k a : Int) (q : List UInt8) (h : At34 s j [48, 48, 48, 48, 48] m ρ) (hc : s[j]? = some c) (hf1 : 48 ≤ c.toNat) (hf2 : c.toNat ≤ 57)
    (h28 : ∀ x σ, C 28 [.p (.int .i64 x)] σ = some (.ret (.p (.agg [.int .i64 1, .int .i64 x, .str [], .bool false])), σ))
    (h57 : ∀ σ, C 57 [.p (.agg [.int .i64 1, .int .i64 n, .str [], .bool false]), .p (.agg [.int .i64 1, .int .i64 ((c.toNat : Int) - 48), .str [], .bool false])] σ = some (.ret (.p (.tup [.agg [.int .i64 k, .int .i64 a, .str [], .bool false], .str q])), σ)) :
    ∃ ρ' : Env, exec C L (.seq body34_b4 body34_b5) ⟨ρ, [], hp34 X [.int .i64 1, .int .i64 n, .str [], .bool false]⟩ = some (.normal, ⟨ρ', [], hp34 X [.int .i64 k, .int .i64 a, .str [], .bool false]⟩) ∧ At34 s j q m ρ' := by
  have e2 : IntKind.u8.wrap ((c.toNat : Int) - 48) = (c.toNat : Int) - 48 := by
    simp [IntKind.wrap, IntKind.bits, IntKind.signed]
    omega
  have e3 : IntKind.i64.wrap ((c.toNat : Int) - 48) = (c.toNat : Int) - 48 := wrap_id _ (by omega) (by omega)
  rw [seqN (st1 := ⟨(68, .p (.bool true)) :: (67, .p (.str [48, 48, 48, 48, 48])) :: ρ, [], hp34 X [.int .i64 1, .int .i64 n, .str [], .bool false]⟩) (by simp [body34_b4, exec, runOps, wantedA, stepOp, pureOp, allocOp, readOp, effOp, ev, evs, evO, Env.get_cons, putE, binA, intBin, unA, AV.fit, AV.toCells, partC, partP, mkCells, allP, mkAgg, Cells.len, target, strBin, h.g8])]
  refine ⟨_, by unfold body34_b5; rw [condT (by simp [ev, Env.get_cons])]; simp [exec, runOps, wantedA, stepOp, pureOp, allocOp, readOp, effOp, ev, evs, evO, Env.get_cons, putE, binA, intBin, unA, AV.fit, AV.toCells, partC, partP, mkCells, allP, mkAgg, Cells.len, target, evParts, fillA, AV.cells, splice, spliceC, finA, leaveA, resA, resV, ansV, drawExec, drawRun, stillOp, keepE, readsOf, isE, opds, tmpsOf, carry, refOf, refV, oneH, wrIds, okRW, bef, isFree, between, touch, collect, idsL, idsV, idsO, extractA, atStrA, h.g0, h.g9, h.g7, hc, e2, e3, h28, h57]; rfl, ?_⟩
  constructor <;> simp [Env.get_cons, h.g0, h.g9, h.g8, h.g7, h.g4, h.g3, h.g6]
theorem s3 (h : At34 s j e m ρ) (hm : j < 1048577) : ∃ ρ' : Env, exec C L body34_3 ⟨ρ, [], hp34 X l⟩ = some (.normal, ⟨ρ', [], hp34 X l⟩) ∧ At34 s (j + 1) e m ρ' := by
  have e1 : IntKind.i64.wrap ((j : Int) + 1) = (j : Int) + 1 := wrap_id _ (by omega) (by omega)
  refine ⟨_, by simp [body34_3, exec, runOps, wantedA, stepOp, pureOp, allocOp, readOp, effOp, ev, evs, evO, Env.get_cons, putE, binA, intBin, unA, AV.fit, AV.toCells, partC, partP, mkCells, allP, mkAgg, Cells.len, target, h.g9, e1]; rfl, ?_⟩
  constructor <;> simp [Env.get_cons, h.g0, h.g9, h.g8, h.g7, h.g4, h.g3, h.g6]
theorem blockN {C : Oracle} {L id : Nat} {b : ACode} {st st1 : St} (h : exec C L b st = some (.normal, st1)) : exec C L (.block id b) st = some (.normal, st1) := by
  simp only [exec, h]
theorem blockE {C : Oracle} {L id : Nat} {b : ACode} {st st1 : St} (h : exec C L b st = some (.exit id, st1)) : exec C L (.block id b) st = some (.normal, st1) := by
  simp [exec, h]
theorem seqX {C : Oracle} {L id : Nat} {a b : ACode} {st st1 : St} (h : exec C L a st = some (.exit id, st1)) : exec C L (.seq a b) st = some (.exit id, st1) := by
  simp only [exec, h]
/-- one round: a figure more -/
theorem round34 (o : Option Int) (ho : Below0 o) (h : At34 s j (stE o) m ρ) (hj : j < s.length) (hm : s.length ≤ 1048576) (hc : s[j]? = some c) (hf1 : 48 ≤ c.toNat) (hf2 : c.toNat ≤ 57)
    (h28 : ∀ x σ, C 28 [.p (.int .i64 x)] σ = some (.ret (.p (val 1 x [] false)), σ))
    (h56 : ∀ n σ, -9223372036854775808 ≤ n → n ≤ 0 → C 56 [.p (val 1 n [] false), .p (val 1 10 [] false)] σ = some (.ret (.p (.tup (subZ (n * 10)))), σ))
    (h57 : ∀ n x σ, -9223372036854775808 ≤ n → n ≤ 0 → 0 ≤ x → x ≤ 9 → C 57 [.p (val 1 n [] false), .p (val 1 x [] false)] σ = some (.ret (.p (.tup (subZ (n - x)))), σ)) :
    ∃ ρ' : Env, exec C L body34 ⟨ρ, [], hp34 X (stC o)⟩ = some (.normal, ⟨ρ', [], hp34 X (stC (docStep o (Cast.dig c)))⟩) ∧ At34 s (j + 1) (stE (docStep o (Cast.dig c))) m ρ' := by
  obtain ⟨ρ1, x1, a1⟩ := s1 C L s j _ m ρ X (stC o) h (decide_eq_true hj)
  obtain ⟨ρ2, x2, a2⟩ := b1_ok C L s j _ m ρ1 X (stC o) c a1 hc hf1 hf2
  have fin : ∀ (o' : Option Int) ρ', (exec C L (.block 1 (.seq body34_b1 (.seq body34_b2 (.seq body34_b3 (.seq body34_b4 body34_b5))))) ⟨ρ1, [], hp34 X (stC o)⟩ = some (.normal, ⟨ρ', [], hp34 X (stC o')⟩)) → At34 s j (stE o') m ρ' →
      ∃ ρ' : Env, exec C L body34 ⟨ρ, [], hp34 X (stC o)⟩ = some (.normal, ⟨ρ', [], hp34 X (stC o')⟩) ∧ At34 s (j + 1) (stE o') m ρ' := by
    intro o' ρ' hx ha
    obtain ⟨ρ3, x3, a3⟩ := s3 C L s j _ m ρ' X (stC o') ha (by omega)
    exact ⟨ρ3, by unfold body34; rw [seqN x1, seqN hx, x3], a3⟩
  cases o with
  | none =>
    obtain ⟨ρ3, x3, a3⟩ := b2_late C L s j m ρ2 X (stC none) a2
    refine fin none ρ3 (blockE ?_) a3
    rw [seqN x2, seqX x3]
  | some n =>
    obtain ⟨n1, n2⟩ : -9223372036854775808 ≤ n ∧ n ≤ 0 := ho
    obtain ⟨ρ3, x3, a3⟩ := b2_go C L s j m ρ2 X (stC (some n)) a2
    have k56 := fun σ => h56 n σ n1 n2
    have k28 := h28 10
    simp only [docStep]
    have hdig : ((Cast.dig c : Nat) : Int) = (c.toNat : Int) - 48 := by
      unfold Cast.dig
      omega
    by_cases q1 : n * 10 < -9223372036854775808
    · rw [if_pos q1]
      unfold subZ at k56
      rw [if_neg (by omega)] at k56
      obtain ⟨ρ4, x4, a4⟩ := b3_go C L s j m ρ3 X n 0 0 _ a3 k28 k56
      obtain ⟨ρ5, x5, a5⟩ := b4_late C L s j m ρ4 X _ a4
      refine fin none ρ5 (blockN ?_) a5
      rw [seqN x2, seqN x3]
      show exec C L _ ⟨ρ3, [], hp34 X [.int .i64 1, .int .i64 n, .str [], .bool false]⟩ = _
      rw [seqN x4, x5]
      rfl
    · rw [if_neg q1]
      unfold subZ at k56
      rw [if_pos (by omega)] at k56
      obtain ⟨ρ4, x4, a4⟩ := b3_go C L s j m ρ3 X n 1 (n * 10) _ a3 k28 k56
      have k57 := fun σ => h57 (n * 10) ((c.toNat : Int) - 48) σ (by omega) (by omega) (by omega) (by omega)
      rw [hdig]
      by_cases q2 : n * 10 - ((c.toNat : Int) - 48) < -9223372036854775808
      · rw [if_pos q2]
        unfold subZ at k57
        rw [if_neg (by omega)] at k57
        obtain ⟨ρ5, x5, a5⟩ := b4_go C L s j m ρ4 X c (n * 10) 0 0 _ a4 hc hf1 hf2 h28 k57
        refine fin none ρ5 (blockN ?_) a5
        rw [seqN x2, seqN x3]
        show exec C L _ ⟨ρ3, [], hp34 X [.int .i64 1, .int .i64 n, .str [], .bool false]⟩ = _
        rw [seqN x4, x5]
        rfl
      · rw [if_neg q2]
        unfold subZ at k57
        rw [if_pos (by omega)] at k57
        obtain ⟨ρ5, x5, a5⟩ := b4_go C L s j m ρ4 X c (n * 10) 1 _ _ a4 hc hf1 hf2 h28 k57
        refine fin (some (n * 10 - ((c.toNat : Int) - 48))) ρ5 (blockN ?_) a5
        rw [seqN x2, seqN x3]
        show exec C L _ ⟨ρ3, [], hp34 X [.int .i64 1, .int .i64 n, .str [], .bool false]⟩ = _
        rw [seqN x4, x5]
        rfl
theorem stop34 (h : At34 s j e m ρ) (hj : j < s.length) (hc : s[j]? = some c) (hf : ¬ (48 ≤ c.toNat ∧ c.toNat ≤ 57)) :
    ∃ ρ' : Env, exec C L body34 ⟨ρ, [], hp34 X l⟩ = some (.ret, ⟨ρ', [], hp34 X l⟩) ∧ ρ'.get 4 = some (.ptr 1 0 0) ∧ ρ'.get 5 = some (.p (.str [50, 50, 48, 49, 56])) := by
  obtain ⟨ρ1, x1, a1⟩ := s1 C L s j _ m ρ X l h (decide_eq_true hj)
  obtain ⟨ρ2, x2, g4, g5⟩ := b1_bad C L s j _ m ρ1 X l c a1 hc hf
  refine ⟨ρ2, ?_, g4, g5⟩
  unfold body34
  rw [seqN x1, seqR (blockR (seqR x2))]
end
theorem loop34 (C : Oracle) (L : Nat) (s : List UInt8) (m : Bool) (X : Obj) (hm : s.length ≤ 1048576)
    (h28 : ∀ x σ, C 28 [.p (.int .i64 x)] σ = some (.ret (.p (val 1 x [] false)), σ))
    (h56 : ∀ n σ, -9223372036854775808 ≤ n → n ≤ 0 → C 56 [.p (val 1 n [] false), .p (val 1 10 [] false)] σ = some (.ret (.p (.tup (subZ (n * 10)))), σ))
    (h57 : ∀ n x σ, -9223372036854775808 ≤ n → n ≤ 0 → 0 ≤ x → x ≤ 9 → C 57 [.p (val 1 n [] false), .p (val 1 x [] false)] σ = some (.ret (.p (.tup (subZ (n - x)))), σ)) :
    ∀ (l : List UInt8) (j f : Nat) (o : Option Int) (ρ : Env), s.drop j = l → j ≤ s.length → l.length < f → Below0 o → At34 s j (stE o) m ρ →
      (figuresOK l = true → ∃ ρ' : Env, iter (exec C L body34) none f ⟨ρ, [], hp34 X (stC o)⟩ = some (.exit 0, ⟨ρ', [], hp34 X (stC (o.bind (Cast.docF (l.map Cast.dig))))⟩) ∧ At34 s s.length (stE (o.bind (Cast.docF (l.map Cast.dig)))) m ρ') ∧
      (figuresOK l = false → ∃ (ρ' : Env) (q : List PV), iter (exec C L body34) none f ⟨ρ, [], hp34 X (stC o)⟩ = some (.ret, ⟨ρ', [], hp34 X q⟩) ∧ ρ'.get 4 = some (.ptr 1 0 0) ∧ ρ'.get 5 = some (.p (.str [50, 50, 48, 49, 56])))
  | [], j, f, o, ρ, hd, hj, hf, ho, h => by
    obtain ⟨f, rfl⟩ : ∃ n, f = n + 1 := ⟨f - 1, by simp at hf; omega⟩
    have e : j = s.length := by
      have := congrArg List.length hd
      simp at this
      omega
    subst e
    refine ⟨fun _ => ?_, fun h => by cases h⟩
    obtain ⟨ρ', x, a⟩ := over34 C L s _ m ρ X (stC o) h
    have ob : o.bind (Cast.docF ([].map Cast.dig)) = o := by cases o <;> rfl
    rw [ob]
    exact ⟨ρ', by simp only [iter, St.keep, x], a⟩
  | c :: r, j, f, o, ρ, hd, hj, hf, ho, h => by
    obtain ⟨f, rfl⟩ : ∃ n, f = n + 1 := ⟨f - 1, by simp at hf; omega⟩
    have hlt : j < s.length := by
      have := congrArg List.length hd
      simp at this
      omega
    have hc : s[j]? = some c := by
      have : (s.drop j)[0]? = some c := by rw [hd]; rfl
      simpa using this
    have hr : s.drop (j + 1) = r := by
      rw [← List.drop_drop, hd]
      rfl
    by_cases hfig : 48 ≤ c.toNat ∧ c.toNat ≤ 57
    · obtain ⟨ρ1, x1, a1⟩ := round34 C L s j m ρ X c o ho h hlt hm hc hfig.1 hfig.2 h28 h56 h57
      have ih := loop34 C L s m X hm h28 h56 h57 r (j + 1) f (docStep o (Cast.dig c)) ρ1 hr (by omega) (by simp at hf; omega) (docStep_below _ _ ho) a1
      have hb : figuresOK (c :: r) = figuresOK r := by simp [figuresOK, hfig]
      rw [hb]
      rw [List.map_cons, docStep_bind]
      constructor
      · intro hk
        obtain ⟨ρ', x, a⟩ := ih.1 hk
        exact ⟨ρ', by simp only [iter, St.keep, x1]; exact x, a⟩
      · intro hk
        obtain ⟨ρ', q, x, a⟩ := ih.2 hk
        exact ⟨ρ', q, by simp only [iter, St.keep, x1]; exact x, a⟩
    · have hb : figuresOK (c :: r) = false := by
        simp only [figuresOK, List.all_cons, Bool.and_eq_false_iff, decide_eq_false_iff_not]
        exact .inl hfig
      refine ⟨(fun h => by rw [hb] at h; cases h), fun _ => ?_⟩
      obtain ⟨ρ', x, a⟩ := stop34 C L s j _ m ρ X (stC o) c h hlt hc hfig
      exact ⟨ρ', stC o, by simp only [iter, St.keep, x], a⟩
end Go.Ab.Cols

/- TypesCasts: the document's number of a word, whole. -/
set_option maxRecDepth 1000000
namespace Go.Ab.Cols
open Go Go.Ab Go.Ab.Names
def p34_1 : ACode := ACode.region [{ dst := some 3, op := AOp.box 2 (Opd.t 1), guard := none }, { dst := some 4, op := AOp.alloc [AV.p (PV.int IntKind.i64 (0)), AV.p (PV.int IntKind.i64 (0)), AV.p (PV.str []), AV.p (PV.bool false)], guard := none }, { dst := some 5, op := AOp.mv (Opd.c (AV.p (PV.str []))), guard := none }]
def p34_2 : ACode := ACode.region [{ dst := some 11, op := AOp.mv (Opd.t 0), guard := none }, { dst := some 12, op := AOp.len true (Opd.t 11), guard := none }, { dst := some 13, op := AOp.bin (Bin.plain BinOp.gtr) (Opd.t 12) (Opd.c (AV.p (PV.int IntKind.i64 (0)))), guard := none }, { dst := some 14, op := AOp.mv (Opd.t 13), guard := none }, { dst := some 15, op := AOp.mv (Opd.t 0), guard := some (14, true) }, { dst := some 16, op := AOp.atStr (Opd.t 15) (Opd.c (AV.p (PV.int IntKind.i64 (0)))), guard := some (14, true) }, { dst := some 17, op := AOp.bin (Bin.plain BinOp.eql) (Opd.t 16) (Opd.c (AV.p (PV.int IntKind.u8 (45)))), guard := some (14, true) }, { dst := some 18, op := AOp.pick (Opd.t 14) (Opd.t 17) (Opd.c (AV.p (PV.bool false))), guard := none }, { dst := some 6, op := AOp.mv (Opd.t 18), guard := none }]
def p34_3 : ACode := (ACode.region [{ dst := some 19, op := AOp.mv (Opd.t 6), guard := none }, { dst := some 20, op := AOp.mv (Opd.t 19), guard := none }, { dst := some 21, op := AOp.mv (Opd.t 0), guard := some (20, false) }, { dst := some 22, op := AOp.len true (Opd.t 21), guard := some (20, false) }, { dst := some 23, op := AOp.bin (Bin.plain BinOp.gtr) (Opd.t 22) (Opd.c (AV.p (PV.int IntKind.i64 (0)))), guard := some (20, false) }, { dst := some 24, op := AOp.mv (Opd.t 23), guard := some (20, false) }, { dst := some 25, op := AOp.mv (Opd.t 0), guard := some (24, true) }, { dst := some 26, op := AOp.atStr (Opd.t 25) (Opd.c (AV.p (PV.int IntKind.i64 (0)))), guard := some (24, true) }, { dst := some 27, op := AOp.bin (Bin.plain BinOp.eql) (Opd.t 26) (Opd.c (AV.p (PV.int IntKind.u8 (43)))), guard := some (24, true) }, { dst := some 28, op := AOp.pick (Opd.t 24) (Opd.t 27) (Opd.c (AV.p (PV.bool false))), guard := some (20, false) }, { dst := some 29, op := AOp.pick (Opd.t 20) (Opd.c (AV.p (PV.bool true))) (Opd.t 28), guard := none }]).seq (ACode.cond (Opd.t 29) (ACode.region [{ dst := some 30, op := AOp.mv (Opd.t 0), guard := none }, { dst := some 31, op := AOp.sliceStr (Opd.t 30) (some (Opd.c (AV.p (PV.int IntKind.i64 (1))))) none, guard := none }, { dst := some 0, op := AOp.mv (Opd.t 31), guard := none }]) ACode.skip)
def p34_4 : ACode := (ACode.region [{ dst := some 32, op := AOp.mv (Opd.t 0), guard := none }, { dst := some 33, op := AOp.len true (Opd.t 32), guard := none }, { dst := some 34, op := AOp.bin (Bin.plain BinOp.eql) (Opd.t 33) (Opd.c (AV.p (PV.int IntKind.i64 (0)))), guard := none }, { dst := some 35, op := AOp.mv (Opd.t 34), guard := none }, { dst := some 36, op := AOp.mv (Opd.t 0), guard := some (35, false) }, { dst := some 37, op := AOp.len true (Opd.t 36), guard := some (35, false) }, { dst := some 38, op := AOp.bin (Bin.plain BinOp.gtr) (Opd.t 37) (Opd.c (AV.p (PV.int IntKind.i64 (400)))), guard := some (35, false) }, { dst := some 39, op := AOp.pick (Opd.t 35) (Opd.c (AV.p (PV.bool true))) (Opd.t 38), guard := none }]).seq (ACode.cond (Opd.t 39) ((ACode.region [{ dst := some 40, op := AOp.build [AV.p (PV.int IntKind.i64 (0)), AV.p (PV.int IntKind.i64 (0)), AV.p (PV.str []), AV.p (PV.bool false)] [], guard := none }, { dst := none, op := AOp.store 4 (Opd.t 4) (Opd.t 40), guard := none }, { dst := some 5, op := AOp.mv (Opd.c (AV.p (PV.str [50, 50, 48, 49, 56]))), guard := none }]).seq ACode.ret) ACode.skip)
def p34_5 : ACode := ACode.region [{ dst := some 41, op := AOp.build [AV.p (PV.int IntKind.i64 (0)), AV.p (PV.int IntKind.i64 (0)), AV.p (PV.str []), AV.p (PV.bool false)] [(0, 1, Opd.c (AV.p (PV.int IntKind.i64 (1))))], guard := none }, { dst := some 7, op := AOp.alloc [AV.p (PV.int IntKind.i64 (0)), AV.p (PV.int IntKind.i64 (0)), AV.p (PV.str []), AV.p (PV.bool false)], guard := none }, { dst := none, op := AOp.store 4 (Opd.t 7) (Opd.t 41), guard := none }]
def p34_6 : ACode := ACode.region [{ dst := some 8, op := AOp.mv (Opd.c (AV.p (PV.str [48, 48, 48, 48, 48]))), guard := none }]
def p34_7 : ACode := (ACode.region [{ dst := some 9, op := AOp.mv (Opd.c (AV.p (PV.int IntKind.i64 (0)))), guard := none }]).seq (ACode.block 0 (ACode.loop none body34))
def p34_8 : ACode := (ACode.region [{ dst := some 80, op := AOp.mv (Opd.t 8), guard := none }, { dst := some 81, op := AOp.bin (Bin.plain BinOp.eql) (Opd.t 80) (Opd.c (AV.p (PV.str [48, 48, 48, 48, 48]))), guard := none }, { dst := some 82, op := AOp.mv (Opd.t 81), guard := none }, { dst := some 83, op := AOp.mv (Opd.t 6), guard := some (82, true) }, { dst := some 84, op := AOp.un UnOp.not (Opd.t 83), guard := some (82, true) }, { dst := some 85, op := AOp.pick (Opd.t 82) (Opd.t 84) (Opd.c (AV.p (PV.bool false))), guard := none }]).seq (ACode.cond (Opd.t 85) (ACode.region [{ dst := some 87, op := AOp.load true 4 (Opd.t 7), guard := none }, { dst := some 88, op := AOp.call (Opd.c (AV.p (PV.fn 58))) [Opd.t 87], guard := none }, { dst := some 86, op := AOp.mv (Opd.t 88), guard := none }, { dst := some 89, op := AOp.extract 0 (Opd.t 86), guard := none }, { dst := some 90, op := AOp.extract 1 (Opd.t 86), guard := none }, { dst := none, op := AOp.store 4 (Opd.t 7) (Opd.t 89), guard := none }, { dst := some 8, op := AOp.mv (Opd.t 90), guard := none }]) ACode.skip)
def p34_9 : ACode := ACode.region [{ dst := some 91, op := AOp.fieldAddr 1 (Opd.t 7), guard := none }, { dst := some 92, op := AOp.load false 1 (Opd.t 91), guard := none }, { dst := some 93, op := AOp.load true 2 (Opd.t 3), guard := none }, { dst := some 94, op := AOp.call (Opd.c (AV.p (PV.fn 29))) [Opd.t 92, Opd.t 93], guard := none }, { dst := some 10, op := AOp.mv (Opd.t 94), guard := none }]
def p34_10 : ACode := (ACode.region [{ dst := some 95, op := AOp.mv (Opd.t 8), guard := none }, { dst := some 96, op := AOp.bin (Bin.plain BinOp.neq) (Opd.t 95) (Opd.c (AV.p (PV.str [48, 48, 48, 48, 48]))), guard := none }, { dst := some 97, op := AOp.mv (Opd.t 96), guard := none }, { dst := some 98, op := AOp.mv (Opd.t 10), guard := some (97, false) }, { dst := some 99, op := AOp.un UnOp.not (Opd.t 98), guard := some (97, false) }, { dst := some 100, op := AOp.pick (Opd.t 97) (Opd.c (AV.p (PV.bool true))) (Opd.t 99), guard := none }]).seq (ACode.cond (Opd.t 100) ((ACode.region [{ dst := some 101, op := AOp.build [AV.p (PV.int IntKind.i64 (0)), AV.p (PV.int IntKind.i64 (0)), AV.p (PV.str []), AV.p (PV.bool false)] [], guard := none }, { dst := none, op := AOp.store 4 (Opd.t 4) (Opd.t 101), guard := none }, { dst := some 5, op := AOp.mv (Opd.c (AV.p (PV.str [50, 50, 48, 48, 51]))), guard := none }]).seq ACode.ret) ACode.skip)
def p34_11 : ACode := ACode.region [{ dst := some 102, op := AOp.load true 4 (Opd.t 7), guard := none }, { dst := none, op := AOp.store 4 (Opd.t 4) (Opd.t 102), guard := none }, { dst := some 5, op := AOp.mv (Opd.c (AV.p (PV.str [48, 48, 48, 48, 48]))), guard := none }]
def p34_r : ACode := (ACode.ret)
theorem p34_eq : lit34.body = .seq p34_1 (.seq p34_2 (.seq p34_3 (.seq p34_4 (.seq p34_5 (.seq p34_6 (.seq p34_7 (.seq p34_8 (.seq p34_9 (.seq p34_10 (.seq p34_11 p34_r)))))))))) := rfl
theorem inR_eq (b n : Int) : inRange b n = inR b n := rfl
theorem null_eq : nullV = null := rfl
def outZ (b : Int) : Option Int → List PV
  | none => [nullV, .str [50, 50, 48, 48, 51]]
  | some v => if inRange b v then [.agg [.int .i64 1, .int .i64 v, .str [], .bool false], .str [48, 48, 48, 48, 48]] else [nullV, .str [50, 50, 48, 48, 51]]
structure Be34 (s : List UInt8) (m : Bool) (ρ : Env) : Prop where
  g0 : ρ.get 0 = some (.p (.str s))
  g4 : ρ.get 4 = some (.ptr 1 0 0)
  g3 : ρ.get 3 = some (.ptr 0 0 0)
  g6 : ρ.get 6 = some (.p (.bool m))
abbrev hpT (b : Int) : Obj := Obj.arr (Cells.pv [.int .i64 b, .int .i64 0]) 0 0
section
variable (C : Oracle) (D : DOracle) (L : Nat) (b : Int) (s : List UInt8) (m : Bool) (ρ : Env)
theorem front34 : ∃ ρ' : Env, exec C L p34_1 ⟨params 0 [.p (.str s), .p (ty b 0)], [], []⟩ = some (.normal, ⟨ρ', [], [hpT b, Zn]⟩) ∧ ρ'.get 0 = some (.p (.str s)) ∧ ρ'.get 4 = some (.ptr 1 0 0) ∧ ρ'.get 3 = some (.ptr 0 0 0) := by
  refine ⟨_, by simp [p34_1, params, ty, exec, runOps, wantedA, stepOp, pureOp, allocOp, readOp, effOp, ev, evs, evO, Env.get_cons, putE, binA, intBin, unA, AV.fit, AV.toCells, partC, partP, mkCells, allP, mkAgg, Cells.len, target, evParts, fillA, AV.cells, splice, spliceC, finA, leaveA, resA, resV, ansV]; rfl, ?_, ?_, ?_⟩ <;> simp [Env.get_cons]
theorem sign34 (h0 : ρ.get 0 = some (.p (.str s))) (h4 : ρ.get 4 = some (.ptr 1 0 0)) (h3 : ρ.get 3 = some (.ptr 0 0 0)) :
    ∃ ρ' : Env, exec C L (.seq p34_2 p34_3) ⟨ρ, [], [hpT b, Zn]⟩ = some (.normal, ⟨ρ', [], [hpT b, Zn]⟩) ∧ Be34 (signW s).2 (signW s).1 ρ' := by
  cases s with
  | nil =>
    refine ⟨_, by simp [p34_2, p34_3, exec, runOps, wantedA, stepOp, pureOp, allocOp, readOp, effOp, ev, evs, evO, Env.get_cons, putE, binA, intBin, unA, AV.fit, AV.toCells, partC, partP, mkCells, allP, mkAgg, Cells.len, target, h0]; rfl, ?_⟩
    constructor <;> simp [Env.get_cons, h0, h4, h3, signW]
  | cons c r =>
    by_cases h45 : c = 45
    · subst h45
      have hp : (0 : Int) < (r.length : Int) + 1 := by omega
      have hq : (1 : Int) ≤ (r.length : Int) + 1 := by omega
      refine ⟨_, by simp [p34_2, p34_3, exec, runOps, wantedA, stepOp, pureOp, allocOp, readOp, effOp, ev, evs, evO, Env.get_cons, putE, binA, intBin, unA, AV.fit, AV.toCells, partC, partP, mkCells, allP, mkAgg, Cells.len, target, atStrA, sliceA, boundsA, boundA, h0, hp, hq]; rfl, ?_⟩
      constructor <;> simp [Env.get_cons, h0, h4, h3, signW]
    · have hp : (0 : Int) < (r.length : Int) + 1 := by omega
      have hq : (1 : Int) ≤ (r.length : Int) + 1 := by omega
      have n45 : ((c.toNat : Int) == 45) = false := by
        rw [beq_eq_false_iff_ne]
        intro hh
        exact h45 (UInt8.toNat_inj.1 (by simpa using Int.ofNat.inj hh))
      by_cases h43 : c = 43
      · subst h43
        refine ⟨_, by simp [p34_2, p34_3, exec, runOps, wantedA, stepOp, pureOp, allocOp, readOp, effOp, ev, evs, evO, Env.get_cons, putE, binA, intBin, unA, AV.fit, AV.toCells, partC, partP, mkCells, allP, mkAgg, Cells.len, target, atStrA, sliceA, boundsA, boundA, h0, hp, hq]; rfl, ?_⟩
        constructor <;> simp [Env.get_cons, h0, h4, h3, signW]
      · have n43 : ((c.toNat : Int) == 43) = false := by
          rw [beq_eq_false_iff_ne]
          intro hh
          exact h43 (UInt8.toNat_inj.1 (by simpa using Int.ofNat.inj hh))
        refine ⟨_, by simp [p34_2, p34_3, exec, runOps, wantedA, stepOp, pureOp, allocOp, readOp, effOp, ev, evs, evO, Env.get_cons, putE, binA, intBin, unA, AV.fit, AV.toCells, partC, partP, mkCells, allP, mkAgg, Cells.len, target, atStrA, h0, hp, n45, n43]; rfl, ?_⟩
        constructor <;> simp [Env.get_cons, h0, h4, h3, signW, h45, h43]
theorem len34_bad (h : Be34 s m ρ) (hb : s = [] ∨ 400 < s.length) :
    ∃ ρ' : Env, exec C L p34_4 ⟨ρ, [], [hpT b, Zn]⟩ = some (.ret, ⟨ρ', [], [hpT b, Zn]⟩) ∧ ρ'.get 4 = some (.ptr 1 0 0) ∧ ρ'.get 5 = some (.p (.str [50, 50, 48, 49, 56])) := by
  by_cases h0 : s = []
  · subst h0
    exact ⟨_, by simp [p34_4, exec, runOps, wantedA, stepOp, pureOp, allocOp, readOp, effOp, ev, evs, evO, Env.get_cons, putE, binA, intBin, unA, AV.fit, AV.toCells, partC, partP, mkCells, allP, mkAgg, Cells.len, target, evParts, fillA, AV.cells, splice, spliceC, finA, leaveA, resA, resV, ansV, h.g0, h.g4]; rfl, by simp [Env.get_cons, h.g4], by simp [Env.get_cons]⟩
  · have h4 : (400 : Int) < (s.length : Int) := by have := hb.resolve_left h0; omega
    have h1 : ((s.length : Int) == 0) = false := by
      rw [beq_eq_false_iff_ne]
      omega
    exact ⟨_, by simp [p34_4, exec, runOps, wantedA, stepOp, pureOp, allocOp, readOp, effOp, ev, evs, evO, Env.get_cons, putE, binA, intBin, unA, AV.fit, AV.toCells, partC, partP, mkCells, allP, mkAgg, Cells.len, target, evParts, fillA, AV.cells, splice, spliceC, finA, leaveA, resA, resV, ansV, h.g0, h.g4, h1, h4]; rfl, by simp [Env.get_cons, h.g4], by simp [Env.get_cons]⟩
theorem len34_ok (h : Be34 s m ρ) (h0 : s ≠ []) (h4 : ¬ 400 < s.length) :
    ∃ ρ' : Env, exec C L (.seq p34_4 (.seq p34_5 p34_6)) ⟨ρ, [], [hpT b, Zn]⟩ = some (.normal, ⟨ρ', [], hp34 (hpT b) (stC (some 0))⟩) ∧ Be34 s m ρ' ∧ ρ'.get 8 = some (.p (.str [48, 48, 48, 48, 48])) ∧ ρ'.get 7 = some (.ptr 2 0 0) := by
  have h1 : ((s.length : Int) == 0) = false := by
    rw [beq_eq_false_iff_ne]
    intro hh
    exact h0 (List.length_eq_zero_iff.1 (by omega))
  have h2 : ¬ (400 : Int) < (s.length : Int) := by omega
  refine ⟨_, by simp [p34_4, p34_5, p34_6, exec, runOps, wantedA, stepOp, pureOp, allocOp, readOp, effOp, ev, evs, evO, Env.get_cons, putE, binA, intBin, unA, AV.fit, AV.toCells, partC, partP, mkCells, allP, mkAgg, Cells.len, target, evParts, fillA, AV.cells, splice, spliceC, finA, leaveA, resA, resV, ansV, h.g0, h.g4, h1, h2, stC]; rfl, ?_, ?_, ?_⟩
  · constructor <;> simp [Env.get_cons, h.g0, h.g4, h.g3, h.g6]
  · simp [Env.get_cons]
  · simp [Env.get_cons]
theorem neg34 (o : Option Int) (j : Nat) (h : At34 s j (stE o) m ρ) (ho : Below0 o)
    (h58 : ∀ n σ, -9223372036854775808 ≤ n → n ≤ 0 → C 58 [.p (val 1 n [] false)] σ = some (.ret (.p (.tup (subZ (-n)))), σ)) (X : Obj) :
    ∃ (ρ' : Env) (o' : Option Int), exec C L p34_8 ⟨ρ, [], hp34 X (stC o)⟩ = some (.normal, ⟨ρ', [], hp34 X (stC o')⟩) ∧ At34 s j (stE o') m ρ' ∧ o' = (match o with
      | none => none
      | some n => if m = true then some n else if n = -9223372036854775808 then none else some (-n)) := by
  cases o with
  | none =>
    refine ⟨_, none, by simp [p34_8, exec, runOps, wantedA, stepOp, pureOp, allocOp, readOp, effOp, ev, evs, evO, Env.get_cons, putE, binA, intBin, unA, AV.fit, AV.toCells, partC, partP, mkCells, allP, mkAgg, Cells.len, target, strBin, h.g8, stE]; rfl, ?_, rfl⟩
    constructor <;> simp [Env.get_cons, h.g0, h.g9, h.g8, h.g7, h.g4, h.g3, h.g6, stE]
  | some n =>
    cases m with
    | true =>
      refine ⟨_, some n, by simp [p34_8, exec, runOps, wantedA, stepOp, pureOp, allocOp, readOp, effOp, ev, evs, evO, Env.get_cons, putE, binA, intBin, unA, AV.fit, AV.toCells, partC, partP, mkCells, allP, mkAgg, Cells.len, target, strBin, h.g8, h.g6, stE]; rfl, ?_, rfl⟩
      constructor <;> simp [Env.get_cons, h.g0, h.g9, h.g8, h.g7, h.g4, h.g3, h.g6, stE]
    | false =>
      obtain ⟨n1, n2⟩ : -9223372036854775808 ≤ n ∧ n ≤ 0 := ho
      have k58 := fun σ => h58 n σ n1 n2
      unfold val at k58
      by_cases hn : n = -9223372036854775808
      · subst hn
        have hz : subZ (- -9223372036854775808) = [.agg [.int .i64 0, .int .i64 0, .str [], .bool false], .str [50, 50, 48, 48, 51]] := by
          unfold subZ
          rw [if_neg (by decide)]
          rfl
        rw [hz] at k58
        refine ⟨_, none, by simp [p34_8, exec, runOps, wantedA, stepOp, pureOp, allocOp, readOp, effOp, ev, evs, evO, Env.get_cons, putE, binA, intBin, unA, AV.fit, AV.toCells, partC, partP, mkCells, allP, mkAgg, Cells.len, target, strBin, h.g8, h.g6, h.g7, stE, stC, -Int.reduceNeg, k58, extractA, spliceC, splice]; rfl, ?_, rfl⟩
        constructor <;> simp [Env.get_cons, h.g0, h.g9, h.g8, h.g7, h.g4, h.g3, h.g6, stE]
      · have hz : subZ (-n) = [.agg [.int .i64 1, .int .i64 (-n), .str [], .bool false], .str [48, 48, 48, 48, 48]] := by
          unfold subZ
          rw [if_pos (by omega)]
          rfl
        rw [hz] at k58
        refine ⟨_, some (-n), by simp [p34_8, exec, runOps, wantedA, stepOp, pureOp, allocOp, readOp, effOp, ev, evs, evO, Env.get_cons, putE, binA, intBin, unA, AV.fit, AV.toCells, partC, partP, mkCells, allP, mkAgg, Cells.len, target, strBin, h.g8, h.g6, h.g7, stE, stC, k58, extractA, spliceC, splice]; rfl, ?_, by simp [hn]⟩
        constructor <;> simp [Env.get_cons, h.g0, h.g9, h.g8, h.g7, h.g4, h.g3, h.g6, stE]
theorem fin34 (o : Option Int) (j : Nat) (h : At34 s j (stE o) m ρ) (h29 : ∀ n σ, C 29 [.p (.int .i64 n), .p (ty b 0)] σ = some (.ret (.p (.bool (inR b n))), σ)) :
    ansV (finX D lit34 (exec C L (.seq p34_9 (.seq p34_10 (.seq p34_11 p34_r))) ⟨ρ, [], hp34 (hpT b) (stC o)⟩)) = some (.tup (outZ b o)) := by
  unfold ty at h29
  unfold outZ
  cases o with
  | none =>
    simp [p34_9, p34_10, p34_11, p34_r, exec, runOps, wantedA, stepOp, pureOp, allocOp, readOp, effOp, ev, evs, evO, Env.get_cons, putE, binA, intBin, unA, AV.fit, AV.toCells, partC, partP, mkCells, allP, mkAgg, Cells.len, target, strBin, h.g8, h.g7, h.g4, h.g3, stE, stC, h29, evParts, fillA, finX, finA, leaveA, resA, resV, lit34, ansV, spliceC, splice, mkTup, nullV]
  | some v =>
    simp only [inR_eq]
    rcases Bool.eq_false_or_eq_true (inR b v) with hr | hr <;>
      simp [p34_9, p34_10, p34_11, p34_r, exec, runOps, wantedA, stepOp, pureOp, allocOp, readOp, effOp, ev, evs, evO, Env.get_cons, putE, binA, intBin, unA, AV.fit, AV.toCells, partC, partP, mkCells, allP, mkAgg, Cells.len, target, strBin, h.g8, h.g7, h.g4, h.g3, stE, stC, h29, hr, evParts, fillA, finX, finA, leaveA, resA, resV, lit34, ansV, spliceC, splice, mkTup, nullV]
end
theorem seq_inv {C : Oracle} {L : Nat} {a b : ACode} {st st' : St} (h : exec C L (.seq a b) st = some (.normal, st')) : ∃ st1, exec C L a st = some (.normal, st1) ∧ exec C L b st1 = some (.normal, st') := by
  simp only [exec] at h
  split at h
  · rename_i st1 hx
    exact ⟨st1, hx, h⟩
  · rename_i hx
    exact absurd h (fun h => hx _ h)
theorem seq2 {C : Oracle} {L : Nat} {a b r : ACode} {st st' : St} (h : exec C L (.seq a b) st = some (.normal, st')) : exec C L (.seq a (.seq b r)) st = exec C L r st' := by
  obtain ⟨st1, h1, h2⟩ := seq_inv h
  rw [seqN h1, seqN h2]
theorem seq3 {C : Oracle} {L : Nat} {a b c r : ACode} {st st' : St} (h : exec C L (.seq a (.seq b c)) st = some (.normal, st')) : exec C L (.seq a (.seq b (.seq c r))) st = exec C L r st' := by
  obtain ⟨st1, h1, h2⟩ := seq_inv h
  rw [seqN h1, seq2 h2]
theorem number34 (b : Int) (hb : b = 1 ∨ b = 2 ∨ b = 3) (s : List UInt8) (hs : s.length ≤ 1048576) (L k : Nat) (hL : 1048580 ≤ L) (σ : Heap) :
    (cAt TC L (k + 4)).1 34 [.p (.str s), .p (ty b 0)] σ = some (.ret (.p (.tup (numZ b s))), σ) := by
  refine call_ans (ps := [.str s, ty b 0]) (n := k + 3) (af := lit34) (fz := true) rfl (by kernel_rfl) ?_ σ
  have h28 := fun x => num28 x L (k + 2)
  have h56 := fun n σ h1 h2 => mul56 n h1 h2 L (k + 1) σ
  have h57 := fun n x σ (h1 : -9223372036854775808 ≤ n) (h2 : n ≤ 0) (h3 : 0 ≤ x) (h4 : x ≤ 9) => sub57 n x h1 (by omega) (by omega) (by omega) L (k + 1) σ
  have h58 := fun n σ (h1 : -9223372036854775808 ≤ n) (h2 : n ≤ 0) => neg58 n h1 (by omega) L k σ
  have h29 := fun n σ => fits29 b hb n (inR b n) rfl L (k + 2) σ
  generalize (cAt TC L (k + 3)).1 = C at h28 h56 h57 h58 h29 ⊢
  generalize (cAt TC L (k + 3)).2 = D
  rw [runFunc_eq, p34_eq]
  obtain ⟨ρ1, x1, a0, a4, a3⟩ := front34 C L b s
  show ansV (finX D lit34 (exec C L _ ⟨params 0 [.p (.str s), .p (ty b 0)], [], []⟩)) = _
  rw [seqN x1]
  obtain ⟨ρ2, x2, a2⟩ := sign34 C L b s ρ1 a0 a4 a3
  rw [seq2 x2]
  have hle : (signW s).2.length ≤ 1048576 := by
    unfold signW
    split
    · simp
    · split
      · show _ ≤ _
        simp at hs ⊢
        omega
      · split
        · show _ ≤ _
          simp at hs ⊢
          omega
        · exact hs
  unfold numZ
  generalize (signW s).2 = r at a2 hle ⊢
  generalize (signW s).1 = m at a2 ⊢
  by_cases hbad : r = [] ∨ 400 < r.length
  · rw [if_pos (by rcases hbad with h | h <;> simp [h])]
    obtain ⟨ρ3, x3, g4, g5⟩ := len34_bad C L b r m ρ2 a2 hbad
    rw [seqR x3]
    simp [finX, finA, leaveA, resA, resV, lit34, ansV, g4, g5, partC, partP, Cells.len, mkTup, allP, nullV]
  · have hne : r ≠ [] := fun h => hbad (.inl h)
    have hl4 : ¬ 400 < r.length := fun h => hbad (.inr h)
    obtain ⟨ρ3, x3, a3, g8, g7⟩ := len34_ok C L b r m ρ2 a2 hne hl4
    rw [seq3 x3]
    have at0 : At34 r 0 (stE (some 0)) m ((9, .p (.int .i64 0)) :: ρ3) := by
      constructor <;> simp [Env.get_cons, a3.g0, a3.g4, a3.g3, a3.g6, g8, g7, stE]
    have hl := loop34 C L r m (hpT b) hle h28 h56 h57 r 0 L (some 0) _ rfl (Nat.zero_le _) (by omega) (by unfold Below0; omega) at0
    cases hf : figuresOK r with
    | false =>
      rw [if_pos (.inr (.inr rfl))]
      obtain ⟨ρ4, q, x4, g4, g5⟩ := hl.2 hf
      have x5 : exec C L p34_7 ⟨ρ3, [], hp34 (hpT b) (stC (some 0))⟩ = some (.ret, ⟨ρ4, [], hp34 (hpT b) q⟩) := by
        unfold p34_7
        rw [seqN (st1 := ⟨(9, .p (.int .i64 0)) :: ρ3, [], hp34 (hpT b) (stC (some 0))⟩) (by simp [exec, runOps, wantedA, stepOp, pureOp, ev, putE])]
        simp only [exec, x4]
      rw [seqR x5]
      simp [finX, finA, leaveA, resA, resV, lit34, ansV, g4, g5, partC, partP, Cells.len, mkTup, allP, nullV]
    | true =>
      rw [if_neg (by simp [hne]; omega)]
      obtain ⟨ρ4, x4, a4⟩ := hl.1 hf
      have x5 : exec C L p34_7 ⟨ρ3, [], hp34 (hpT b) (stC (some 0))⟩ = some (.normal, ⟨ρ4, [], hp34 (hpT b) (stC ((some 0).bind (Cast.docF (r.map Cast.dig))))⟩) := by
        unfold p34_7
        rw [seqN (st1 := ⟨(9, .p (.int .i64 0)) :: ρ3, [], hp34 (hpT b) (stC (some 0))⟩) (by simp [exec, runOps, wantedA, stepOp, pureOp, ev, putE])]
        simp only [exec, x4, if_true]
      rw [seqN x5]
      have hb0 : Below0 ((some 0).bind (Cast.docF (r.map Cast.dig))) := by
        have hh : ∀ (l : List Nat) (o : Option Int), Below0 o → Below0 (o.bind (Cast.docF l)) := by
          intro l
          induction l with
          | nil => intro o ho; cases o <;> exact ho
          | cons d l ih => intro o ho; rw [docStep_bind]; exact ih _ (docStep_below _ _ ho)
        exact hh _ _ (by unfold Below0; omega)
      obtain ⟨ρ6, o', x6, a6, ho⟩ := neg34 C L r m ρ4 _ _ a4 hb0 h58 (hpT b)
      rw [seqN x6, fin34 C D L b r m ρ6 o' _ a6 h29]
      have hd := Cast.docN_eq m (r.map Cast.dig)
      rw [← hd]
      have : o' = Cast.docN m (r.map Cast.dig) := by
        rw [ho]
        rfl
      rw [this]
      cases Cast.docN m (r.map Cast.dig) <;> rfl
end Go.Ab.Cols

/- TypesCasts: a text without blanks at its ends (the document's). -/
set_option maxRecDepth 1000000
namespace Go.Ab.Cols
open Go Go.Ab Go.Ab.Names
def body59 : ACode := (((ACode.region [{ dst := some 6, op := AOp.mv (Opd.t 3), guard := none }, { dst := some 7, op := AOp.bin (Bin.plain BinOp.gtr) (Opd.t 6) (Opd.c (AV.p (PV.int IntKind.i64 (0)))), guard := none }, { dst := some 8, op := AOp.mv (Opd.t 7), guard := none }, { dst := some 9, op := AOp.mv (Opd.t 0), guard := some (8, true) }, { dst := some 10, op := AOp.mv (Opd.t 3), guard := some (8, true) }, { dst := some 11, op := AOp.bin (Bin.plain BinOp.sub) (Opd.t 10) (Opd.c (AV.p (PV.int IntKind.i64 (1)))), guard := some (8, true) }, { dst := some 12, op := AOp.atStr (Opd.t 9) (Opd.t 11), guard := some (8, true) }, { dst := some 13, op := AOp.bin (Bin.plain BinOp.eql) (Opd.t 12) (Opd.c (AV.p (PV.int IntKind.u8 (32)))), guard := some (8, true) }, { dst := some 14, op := AOp.pick (Opd.t 8) (Opd.t 13) (Opd.c (AV.p (PV.bool false))), guard := none }]).seq (ACode.cond (Opd.t 14) ACode.skip (ACode.exit 0))).seq (ACode.block 1 (ACode.region [{ dst := some 15, op := AOp.mv (Opd.t 3), guard := none }, { dst := some 16, op := AOp.bin (Bin.plain BinOp.sub) (Opd.t 15) (Opd.c (AV.p (PV.int IntKind.i64 (1)))), guard := none }, { dst := some 3, op := AOp.mv (Opd.t 16), guard := none }])))
theorem lit59_eq : lit59.body = (ACode.region [{ dst := some 2, op := AOp.mv (Opd.c (AV.p (PV.str []))), guard := none }]).seq ((ACode.region [{ dst := some 4, op := AOp.mv (Opd.t 0), guard := none }, { dst := some 5, op := AOp.len true (Opd.t 4), guard := none }, { dst := some 3, op := AOp.mv (Opd.t 5), guard := none }]).seq ((ACode.block 0 (ACode.loop none body59)).seq ((ACode.region [{ dst := some 17, op := AOp.mv (Opd.t 0), guard := none }, { dst := some 18, op := AOp.mv (Opd.t 3), guard := none }, { dst := some 19, op := AOp.sliceStr (Opd.t 17) none (some (Opd.t 18)), guard := none }, { dst := some 2, op := AOp.mv (Opd.t 19), guard := none }]).seq ACode.ret))) := rfl
def body35 : ACode := (((ACode.region [{ dst := some 5, op := AOp.mv (Opd.t 0), guard := none }, { dst := some 6, op := AOp.len true (Opd.t 5), guard := none }, { dst := some 7, op := AOp.bin (Bin.plain BinOp.gtr) (Opd.t 6) (Opd.c (AV.p (PV.int IntKind.i64 (0)))), guard := none }, { dst := some 8, op := AOp.mv (Opd.t 7), guard := none }, { dst := some 9, op := AOp.mv (Opd.t 0), guard := some (8, true) }, { dst := some 10, op := AOp.atStr (Opd.t 9) (Opd.c (AV.p (PV.int IntKind.i64 (0)))), guard := some (8, true) }, { dst := some 11, op := AOp.bin (Bin.plain BinOp.eql) (Opd.t 10) (Opd.c (AV.p (PV.int IntKind.u8 (32)))), guard := some (8, true) }, { dst := some 12, op := AOp.pick (Opd.t 8) (Opd.t 11) (Opd.c (AV.p (PV.bool false))), guard := none }]).seq (ACode.cond (Opd.t 12) ACode.skip (ACode.exit 0))).seq (ACode.block 1 (ACode.region [{ dst := some 13, op := AOp.mv (Opd.t 0), guard := none }, { dst := some 14, op := AOp.sliceStr (Opd.t 13) (some (Opd.c (AV.p (PV.int IntKind.i64 (1))))) none, guard := none }, { dst := some 0, op := AOp.mv (Opd.t 14), guard := none }])))
theorem lit35_eq : lit35.body = (ACode.region [{ dst := some 2, op := AOp.mv (Opd.c (AV.p (PV.str []))), guard := none }]).seq ((ACode.region [{ dst := some 3, op := AOp.mv (Opd.t 0), guard := none }, { dst := some 4, op := AOp.call (Opd.c (AV.p (PV.fn 59))) [Opd.t 3], guard := none }, { dst := some 0, op := AOp.mv (Opd.t 4), guard := none }]).seq ((ACode.block 0 (ACode.loop none body35)).seq ((ACode.region [{ dst := some 15, op := AOp.mv (Opd.t 0), guard := none }, { dst := some 2, op := AOp.mv (Opd.t 15), guard := none }]).seq ACode.ret))) := rfl
/-- without the blanks at its end -/
abbrev rtrim (s : List UInt8) : List UInt8 := Lib.trimRightB s 32
theorem rtrim_snoc (w : List UInt8) (c : UInt8) : rtrim (w ++ [c]) = if c = 32 then rtrim w else w ++ [c] := by
  unfold rtrim Lib.trimRightB
  rw [List.reverse_append]
  by_cases h : c = 32
  · subst h
    rw [if_pos rfl]
    rfl
  · rw [if_neg h]
    have : ([c].reverse ++ w.reverse).dropWhile (· == 32) = [c].reverse ++ w.reverse := by
      simp [h]
    rw [this]
    simp
section
variable (C : Oracle) (L : Nat) (s : List UInt8) (ρ : Env) (σ : Heap) (n : Nat) (c : UInt8)
theorem stop59 (h0 : ρ.get 0 = some (.p (.str s))) (h3 : ρ.get 3 = some (.p (.int .i64 (n : Int)))) (hn : n ≤ s.length) (hm : s.length ≤ 9223372036854775807) (hs : n = 0 ∨ ∃ c, s[n - 1]? = some c ∧ c ≠ 32) :
    ∃ ρ' : Env, exec C L body59 ⟨ρ, [], σ⟩ = some (.exit 0, ⟨ρ', [], σ⟩) ∧ ρ'.get 0 = some (.p (.str s)) ∧ ρ'.get 3 = some (.p (.int .i64 (n : Int))) := by
  rcases Nat.eq_zero_or_pos n with h | h
  · subst h
    exact ⟨_, by simp [body59, exec, runOps, wantedA, stepOp, pureOp, allocOp, readOp, effOp, ev, evs, evO, Env.get_cons, putE, binA, intBin, unA, AV.fit, AV.toCells, partC, partP, mkCells, allP, mkAgg, Cells.len, target, h0, h3]; rfl, by simp [Env.get_cons, h0], by simp [Env.get_cons, h3]⟩
  · obtain ⟨c, hc, hne⟩ := hs.resolve_left (by omega)
    have hp : (n : Int) > 0 := by omega
    have e1 : IntKind.i64.wrap ((n : Int) - 1) = (n : Int) - 1 := wrap_id _ (by omega) (by omega)
    have hge : (1 : Int) ≤ (n : Int) := by omega
    have ht : ((n : Int) - 1).toNat = n - 1 := by omega
    have hcn : ((c.toNat : Int) == 32) = false := by
      rw [beq_eq_false_iff_ne]
      intro hh
      exact hne (UInt8.toNat_inj.1 (by simpa using Int.ofNat.inj hh))
    exact ⟨_, by simp [body59, exec, runOps, wantedA, stepOp, pureOp, allocOp, readOp, effOp, ev, evs, evO, Env.get_cons, putE, binA, intBin, unA, AV.fit, AV.toCells, partC, partP, mkCells, allP, mkAgg, Cells.len, target, atStrA, h0, h3, hp, h, e1, hge, ht, hc, hcn]; rfl, by simp [Env.get_cons, h0], by simp [Env.get_cons, h3]⟩
theorem go59 (h0 : ρ.get 0 = some (.p (.str s))) (h3 : ρ.get 3 = some (.p (.int .i64 (n : Int)))) (hp0 : 0 < n) (hm : s.length ≤ 9223372036854775807) (hn : n ≤ s.length) (hc : s[n - 1]? = some 32) :
    ∃ ρ' : Env, exec C L body59 ⟨ρ, [], σ⟩ = some (.normal, ⟨ρ', [], σ⟩) ∧ ρ'.get 0 = some (.p (.str s)) ∧ ρ'.get 3 = some (.p (.int .i64 ((n : Int) - 1))) := by
  have hp : (n : Int) > 0 := by omega
  have e1 : IntKind.i64.wrap ((n : Int) - 1) = (n : Int) - 1 := wrap_id _ (by omega) (by omega)
  have hge : (1 : Int) ≤ (n : Int) := by omega
  have ht : ((n : Int) - 1).toNat = n - 1 := by omega
  exact ⟨_, by simp [body59, exec, runOps, wantedA, stepOp, pureOp, allocOp, readOp, effOp, ev, evs, evO, Env.get_cons, putE, binA, intBin, unA, AV.fit, AV.toCells, partC, partP, mkCells, allP, mkAgg, Cells.len, target, atStrA, h0, h3, hp, hp0, e1, hge, ht, hc]; rfl, by simp [Env.get_cons, h0], by simp [Env.get_cons]⟩
theorem stop35 (h0 : ρ.get 0 = some (.p (.str s))) (hs : s = [] ∨ ∃ c r, s = c :: r ∧ c ≠ 32) :
    ∃ ρ' : Env, exec C L body35 ⟨ρ, [], σ⟩ = some (.exit 0, ⟨ρ', [], σ⟩) ∧ ρ'.get 0 = some (.p (.str s)) := by
  rcases hs with rfl | ⟨c, r, rfl, hne⟩
  · exact ⟨_, by simp [body35, exec, runOps, wantedA, stepOp, pureOp, allocOp, readOp, effOp, ev, evs, evO, Env.get_cons, putE, binA, intBin, unA, AV.fit, AV.toCells, partC, partP, mkCells, allP, mkAgg, Cells.len, target, h0]; rfl, by simp [Env.get_cons, h0]⟩
  · have hp : (0 : Int) < (r.length : Int) + 1 := by omega
    have hcn : ((c.toNat : Int) == 32) = false := by
      rw [beq_eq_false_iff_ne]
      intro hh
      exact hne (UInt8.toNat_inj.1 (by simpa using Int.ofNat.inj hh))
    exact ⟨_, by simp [body35, exec, runOps, wantedA, stepOp, pureOp, allocOp, readOp, effOp, ev, evs, evO, Env.get_cons, putE, binA, intBin, unA, AV.fit, AV.toCells, partC, partP, mkCells, allP, mkAgg, Cells.len, target, atStrA, h0, hp, hcn]; rfl, by simp [Env.get_cons, h0]⟩
theorem go35 (r : List UInt8) (h0 : ρ.get 0 = some (.p (.str (32 :: r)))) :
    ∃ ρ' : Env, exec C L body35 ⟨ρ, [], σ⟩ = some (.normal, ⟨ρ', [], σ⟩) ∧ ρ'.get 0 = some (.p (.str r)) := by
  have hp : (0 : Int) < (r.length : Int) + 1 := by omega
  have hq : (1 : Int) ≤ (r.length : Int) + 1 := by omega
  exact ⟨_, by simp [body35, exec, runOps, wantedA, stepOp, pureOp, allocOp, readOp, effOp, ev, evs, evO, Env.get_cons, putE, binA, intBin, unA, AV.fit, AV.toCells, partC, partP, mkCells, allP, mkAgg, Cells.len, target, atStrA, sliceA, boundsA, boundA, h0, hp, hq]; rfl, by simp [Env.get_cons]⟩
end
theorem loop59 (C : Oracle) (L : Nat) (s : List UInt8) (σ : Heap) (hm : s.length ≤ 9223372036854775807) : ∀ (n f : Nat) (ρ : Env), n < f → n ≤ s.length → ρ.get 0 = some (.p (.str s)) → ρ.get 3 = some (.p (.int .i64 (n : Int))) → rtrim (s.take n) = rtrim s →
    ∃ (ρ' : Env) (k : Nat), iter (exec C L body59) none f ⟨ρ, [], σ⟩ = some (.exit 0, ⟨ρ', [], σ⟩) ∧ ρ'.get 0 = some (.p (.str s)) ∧ ρ'.get 3 = some (.p (.int .i64 (k : Int))) ∧ k ≤ s.length ∧ s.take k = rtrim s
  | n, f, ρ, hf, hn, h0, h3, ht => by
    obtain ⟨f, rfl⟩ : ∃ m, f = m + 1 := ⟨f - 1, by omega⟩
    by_cases hs : n = 0 ∨ ∃ c, s[n - 1]? = some c ∧ c ≠ 32
    · obtain ⟨ρ', e, g0, g3⟩ := stop59 C L s ρ σ n h0 h3 hn hm hs
      refine ⟨ρ', n, by simp only [iter, St.keep, e], g0, g3, hn, ?_⟩
      rw [← ht]
      rcases Nat.eq_zero_or_pos n with h | h
      · subst h; rfl
      · obtain ⟨c, hc, hne⟩ := hs.resolve_left (by omega)
        obtain ⟨j, rfl⟩ : ∃ j, n = j + 1 := ⟨n - 1, by omega⟩
        rw [Nat.add_sub_cancel] at hc
        rw [List.take_add_one, hc]
        simp only [Option.toList_some]
        rw [rtrim_snoc, if_neg hne]
    · have hp : 0 < n := by omega
      obtain ⟨j, rfl⟩ : ∃ j, n = j + 1 := ⟨n - 1, by omega⟩
      have hlt : j < s.length := by omega
      have hc : s[j + 1 - 1]? = some 32 := by
        rw [Nat.add_sub_cancel, List.getElem?_eq_getElem hlt]
        by_cases h : s[j] = 32
        · rw [h]
        · exact absurd (.inr ⟨s[j], by rw [Nat.add_sub_cancel, List.getElem?_eq_getElem hlt], h⟩) hs
      obtain ⟨ρ1, e, g0, g3⟩ := go59 C L s ρ σ (j + 1) h0 h3 hp hm hn hc
      rw [Nat.add_sub_cancel] at hc
      have ht' : rtrim (s.take j) = rtrim s := by
        rw [← ht, List.take_add_one, hc]
        simp only [Option.toList_some]
        rw [rtrim_snoc, if_pos rfl]
      obtain ⟨ρ', k, e', q⟩ := loop59 C L s σ hm j f ρ1 (by omega) (by omega) g0 (by rw [g3]; congr 3; omega) ht'
      exact ⟨ρ', k, by simp only [iter, St.keep, e]; exact e', q⟩
theorem words59 (s : List UInt8) (L n : Nat) (hs : s.length < L) (hm : s.length ≤ 9223372036854775807) (σ : Heap) : (cAt TC L (n + 1)).1 59 [.p (.str s)] σ = some (.ret (.p (.str (rtrim s))), σ) := by
  refine call_ans (ps := [.str s]) (n := n) (af := lit59) (fz := true) rfl (by kernel_rfl) ?_ σ
  generalize (cAt TC L n).1 = C
  generalize (cAt TC L n).2 = D
  rw [runFunc_eq, lit59_eq]
  rw [seqN (a := .region _) (by simp [params, exec, runOps, wantedA, stepOp, pureOp, allocOp, readOp, effOp, ev, evs, evO, Env.get_cons, putE, binA, intBin, unA, AV.fit, AV.toCells, partC, partP, mkCells, allP, mkAgg, Cells.len, target]; rfl)]
  rw [seqN (a := .region _) (by simp [exec, runOps, wantedA, stepOp, pureOp, allocOp, readOp, effOp, ev, evs, evO, Env.get_cons, putE, binA, intBin, unA, AV.fit, AV.toCells, partC, partP, mkCells, allP, mkAgg, Cells.len, target]; rfl)]
  obtain ⟨ρ', k, e, g0, g3, hk, ht⟩ := loop59 C L s [] hm s.length L [(3, .p (.int .i64 (s.length : Int))), (5, .p (.int .i64 (s.length : Int))), (4, .p (.str s)), (2, .p (.str [])), (0, .p (.str s))] hs (Nat.le_refl _) (by simp [Env.get_cons]) (by simp [Env.get_cons]) (by rw [List.take_length])
  have e2 : exec C L (.block 0 (.loop none body59)) ⟨[(3, .p (.int .i64 (s.length : Int))), (5, .p (.int .i64 (s.length : Int))), (4, .p (.str s)), (2, .p (.str [])), (0, .p (.str s))], [], []⟩ = some (.normal, ⟨ρ', [], []⟩) := by simp only [exec, e, if_true]
  rw [seqN e2]
  have hki : (k : Int) ≤ (s.length : Int) := by omega
  simp [exec, runOps, wantedA, stepOp, pureOp, allocOp, readOp, effOp, ev, evs, evO, Env.get_cons, putE, binA, intBin, unA, AV.fit, AV.toCells, partC, partP, mkCells, allP, mkAgg, Cells.len, target, sliceA, boundsA, boundA, g0, g3, hk, ht, finX, finA, leaveA, resA, resV, lit59, ansV]
theorem loop35 (C : Oracle) (L : Nat) (σ : Heap) : ∀ (s : List UInt8) (f : Nat) (ρ : Env), s.length < f → ρ.get 0 = some (.p (.str s)) →
    ∃ ρ' : Env, iter (exec C L body35) none f ⟨ρ, [], σ⟩ = some (.exit 0, ⟨ρ', [], σ⟩) ∧ ρ'.get 0 = some (.p (.str (Lib.trimLeftB s 32)))
  | [], f, ρ, hf, h0 => by
    obtain ⟨f, rfl⟩ : ∃ m, f = m + 1 := ⟨f - 1, by simp at hf; omega⟩
    obtain ⟨ρ', e, g0⟩ := stop35 C L [] ρ σ h0 (.inl rfl)
    exact ⟨ρ', by simp only [iter, St.keep, e], g0⟩
  | c :: r, f, ρ, hf, h0 => by
    obtain ⟨f, rfl⟩ : ∃ m, f = m + 1 := ⟨f - 1, by simp at hf; omega⟩
    by_cases hc : c = 32
    · subst hc
      obtain ⟨ρ1, e, g0⟩ := go35 C L ρ σ r h0
      obtain ⟨ρ', e', g'⟩ := loop35 C L σ r f ρ1 (by simp at hf; omega) g0
      refine ⟨ρ', by simp only [iter, St.keep, e]; exact e', ?_⟩
      rw [g']
      simp [Lib.trimLeftB]
    · obtain ⟨ρ', e, g0⟩ := stop35 C L (c :: r) ρ σ h0 (.inr ⟨c, r, rfl, hc⟩)
      refine ⟨ρ', by simp only [iter, St.keep, e], ?_⟩
      rw [g0]
      simp [Lib.trimLeftB, hc]
theorem rtrim_le (s : List UInt8) : (rtrim s).length ≤ s.length := by
  unfold rtrim Lib.trimRightB
  rw [List.length_reverse]
  have := (List.dropWhile_sublist (fun x : UInt8 => x == 32) (l := s.reverse)).length_le
  simpa using this
theorem trimmed35 (s : List UInt8) (L n : Nat) (hs : s.length < L) (hm : s.length ≤ 9223372036854775807) (σ : Heap) : (cAt TC L (n + 2)).1 35 [.p (.str s)] σ = some (.ret (.p (.str (Lib.trimB s 32))), σ) := by
  refine call_ans (ps := [.str s]) (n := n + 1) (af := lit35) (fz := true) rfl (by kernel_rfl) ?_ σ
  have h59 := words59 s L n hs hm
  have hle := rtrim_le s
  generalize (cAt TC L (n + 1)).1 = C at h59 ⊢
  generalize (cAt TC L (n + 1)).2 = D
  have hb : Lib.trimB s 32 = Lib.trimLeftB (rtrim s) 32 := rfl
  rw [hb]
  generalize rtrim s = u at h59 hle ⊢
  rw [runFunc_eq, lit35_eq]
  rw [seqN (a := .region _) (by simp [params, exec, runOps, wantedA, stepOp, pureOp, allocOp, readOp, effOp, ev, evs, evO, Env.get_cons, putE, binA, intBin, unA, AV.fit, AV.toCells, partC, partP, mkCells, allP, mkAgg, Cells.len, target]; rfl)]
  rw [seqN (a := .region _) (by simp [exec, runOps, wantedA, stepOp, pureOp, allocOp, readOp, effOp, ev, evs, evO, Env.get_cons, putE, binA, intBin, unA, AV.fit, AV.toCells, partC, partP, mkCells, allP, mkAgg, Cells.len, target, h59]; rfl)]
  obtain ⟨ρ', e, g0⟩ := loop35 C L [] u L [(0, .p (.str u)), (4, .p (.str u)), (3, .p (.str s)), (2, .p (.str [])), (0, .p (.str s))] (by omega) (by simp [Env.get_cons])
  have e2 : exec C L (.block 0 (.loop none body35)) ⟨[(0, .p (.str u)), (4, .p (.str u)), (3, .p (.str s)), (2, .p (.str [])), (0, .p (.str s))], [], []⟩ = some (.normal, ⟨ρ', [], []⟩) := by simp only [exec, e, if_true]
  rw [seqN e2]
  simp [exec, runOps, wantedA, stepOp, pureOp, allocOp, readOp, effOp, ev, evs, evO, Env.get_cons, putE, binA, intBin, unA, AV.fit, AV.toCells, partC, partP, mkCells, allP, mkAgg, Cells.len, target, g0, finX, finA, leaveA, resA, resV, lit35, ansV]
end Go.Ab.Cols
