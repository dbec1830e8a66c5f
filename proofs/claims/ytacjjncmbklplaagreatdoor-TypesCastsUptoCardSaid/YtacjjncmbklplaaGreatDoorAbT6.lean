/- TypesCasts: the truth of a word: small letters, by the document and by the program. -/
import Derived.Test.YtacjjncmbklplaaGreatDoorAbT3
import Derived.Test.YtacjjncmbklplaaGreatDoorAbY6
set_option linter.unusedSectionVars false
set_option linter.unusedSimpArgs false
set_option linter.unusedVariables false
set_option maxRecDepth 1000000
namespace Go.Ab.Cols
open Go Go.Ab Go.Ab.Names
def body36 : ACode := (((ACode.region [{ dst := some 7, op := AOp.mv (Opd.t 5), guard := none }, { dst := some 8, op := AOp.mv (Opd.t 0), guard := none }, { dst := some 9, op := AOp.len true (Opd.t 8), guard := none }, { dst := some 10, op := AOp.bin (Bin.plain BinOp.lss) (Opd.t 7) (Opd.t 9), guard := none }]).seq (ACode.cond (Opd.t 10) ACode.skip (ACode.exit 0))).seq ((ACode.block 1 ((ACode.region [{ dst := some 13, op := AOp.mv (Opd.t 0), guard := none }, { dst := some 14, op := AOp.mv (Opd.t 5), guard := none }, { dst := some 15, op := AOp.atStr (Opd.t 13) (Opd.t 14), guard := none }, { dst := some 6, op := AOp.mv (Opd.t 15), guard := none }]).seq (((ACode.region [{ dst := some 16, op := AOp.mv (Opd.t 6), guard := none }, { dst := some 17, op := AOp.bin (Bin.plain BinOp.geq) (Opd.t 16) (Opd.c (AV.p (PV.int IntKind.u8 (65)))), guard := none }, { dst := some 18, op := AOp.mv (Opd.t 17), guard := none }, { dst := some 19, op := AOp.mv (Opd.t 6), guard := some (18, true) }, { dst := some 20, op := AOp.bin (Bin.plain BinOp.leq) (Opd.t 19) (Opd.c (AV.p (PV.int IntKind.u8 (90)))), guard := some (18, true) }, { dst := some 21, op := AOp.pick (Opd.t 18) (Opd.t 20) (Opd.c (AV.p (PV.bool false))), guard := none }]).seq (ACode.cond (Opd.t 21) (ACode.region [{ dst := some 22, op := AOp.mv (Opd.t 6), guard := none }, { dst := some 23, op := AOp.bin (Bin.plain BinOp.add) (Opd.t 22) (Opd.c (AV.p (PV.int IntKind.u8 (32)))), guard := none }, { dst := some 6, op := AOp.mv (Opd.t 23), guard := none }]) ACode.skip)).seq (ACode.region [{ dst := some 24, op := AOp.mv (Opd.t 4), guard := none }, { dst := some 25, op := AOp.mv (Opd.t 6), guard := none }, { dst := some 26, op := AOp.convInt IntKind.i32 (Opd.t 25), guard := none }, { dst := some 27, op := AOp.convRune (Opd.t 26), guard := none }, { dst := some 28, op := AOp.bin (Bin.plain BinOp.add) (Opd.t 24) (Opd.t 27), guard := none }, { dst := some 4, op := AOp.mv (Opd.t 28), guard := none }])))).seq (ACode.region [{ dst := some 11, op := AOp.mv (Opd.t 5), guard := none }, { dst := some 12, op := AOp.bin (Bin.plain BinOp.add) (Opd.t 11) (Opd.c (AV.p (PV.int IntKind.i64 (1)))), guard := none }, { dst := some 5, op := AOp.mv (Opd.t 12), guard := none }])))
theorem lit36_eq : lit36.body = (ACode.region [{ dst := some 2, op := AOp.alloc [AV.p (PV.int IntKind.i64 (0)), AV.p (PV.int IntKind.i64 (0)), AV.p (PV.str []), AV.p (PV.bool false)], guard := none }, { dst := some 3, op := AOp.mv (Opd.c (AV.p (PV.str []))), guard := none }]).seq ((ACode.region [{ dst := some 4, op := AOp.mv (Opd.c (AV.p (PV.str []))), guard := none }]).seq (((ACode.region [{ dst := some 5, op := AOp.mv (Opd.c (AV.p (PV.int IntKind.i64 (0)))), guard := none }]).seq (ACode.block 0 (ACode.loop none body36))).seq (((ACode.region [{ dst := some 29, op := AOp.mv (Opd.t 4), guard := none }, { dst := some 30, op := AOp.bin (Bin.plain BinOp.neq) (Opd.t 29) (Opd.c (AV.p (PV.str [116, 114, 117, 101]))), guard := none }, { dst := some 31, op := AOp.mv (Opd.t 30), guard := none }, { dst := some 32, op := AOp.mv (Opd.t 4), guard := some (31, true) }, { dst := some 33, op := AOp.bin (Bin.plain BinOp.neq) (Opd.t 32) (Opd.c (AV.p (PV.str [102, 97, 108, 115, 101]))), guard := some (31, true) }, { dst := some 34, op := AOp.pick (Opd.t 31) (Opd.t 33) (Opd.c (AV.p (PV.bool false))), guard := none }]).seq (ACode.cond (Opd.t 34) ((ACode.region [{ dst := some 35, op := AOp.build [AV.p (PV.int IntKind.i64 (0)), AV.p (PV.int IntKind.i64 (0)), AV.p (PV.str []), AV.p (PV.bool false)] [], guard := none }, { dst := none, op := AOp.store 4 (Opd.t 2) (Opd.t 35), guard := none }, { dst := some 3, op := AOp.mv (Opd.c (AV.p (PV.str [50, 50, 48, 49, 56]))), guard := none }]).seq ACode.ret) ACode.skip)).seq ((ACode.region [{ dst := some 36, op := AOp.mv (Opd.t 4), guard := none }, { dst := some 37, op := AOp.bin (Bin.plain BinOp.eql) (Opd.t 36) (Opd.c (AV.p (PV.str [116, 114, 117, 101]))), guard := none }, { dst := some 38, op := AOp.build [AV.p (PV.int IntKind.i64 (0)), AV.p (PV.int IntKind.i64 (0)), AV.p (PV.str []), AV.p (PV.bool false)] [(0, 1, Opd.c (AV.p (PV.int IntKind.i64 (3)))), (3, 1, Opd.t 37)], guard := none }, { dst := none, op := AOp.store 4 (Opd.t 2) (Opd.t 38), guard := none }, { dst := some 3, op := AOp.mv (Opd.c (AV.p (PV.str [48, 48, 48, 48, 48]))), guard := none }]).seq ACode.ret)))) := rfl
def body32 : ACode := ((ACode.region [{ dst := some 11, op := AOp.bin (Bin.plain BinOp.lss) (Opd.t 10) (Opd.t 9), guard := none }]).seq ((ACode.cond (Opd.t 11) ACode.skip (ACode.exit 0)).seq ((ACode.block 1 ((ACode.region [{ dst := some 12, op := AOp.mv (Opd.t 10), guard := none }, { dst := some 13, op := AOp.idx 1 (Opd.t 8) (Opd.t 10), guard := none }, { dst := some 14, op := AOp.load false 1 (Opd.t 13), guard := none }, { dst := some 4, op := AOp.mv (Opd.t 12), guard := none }, { dst := some 5, op := AOp.mv (Opd.t 14), guard := none }]).seq ((ACode.region [{ dst := some 15, op := AOp.mv (Opd.t 5), guard := none }, { dst := some 16, op := AOp.bin (Bin.plain BinOp.geq) (Opd.t 15) (Opd.c (AV.p (PV.int IntKind.u8 (65)))), guard := none }, { dst := some 17, op := AOp.mv (Opd.t 16), guard := none }, { dst := some 18, op := AOp.mv (Opd.t 5), guard := some (17, true) }, { dst := some 19, op := AOp.bin (Bin.plain BinOp.leq) (Opd.t 18) (Opd.c (AV.p (PV.int IntKind.u8 (90)))), guard := some (17, true) }, { dst := some 20, op := AOp.pick (Opd.t 17) (Opd.t 19) (Opd.c (AV.p (PV.bool false))), guard := none }]).seq (ACode.cond (Opd.t 20) (ACode.region [{ dst := some 21, op := AOp.mv (Opd.t 3), guard := none }, { dst := some 22, op := AOp.mv (Opd.t 4), guard := none }, { dst := some 23, op := AOp.mv (Opd.t 5), guard := none }, { dst := some 24, op := AOp.bin (Bin.plain BinOp.add) (Opd.t 23) (Opd.c (AV.p (PV.int IntKind.u8 (97)))), guard := none }, { dst := some 25, op := AOp.bin (Bin.plain BinOp.sub) (Opd.t 24) (Opd.c (AV.p (PV.int IntKind.u8 (65)))), guard := none }, { dst := some 26, op := AOp.idx 1 (Opd.t 21) (Opd.t 22), guard := none }, { dst := none, op := AOp.store 1 (Opd.t 26) (Opd.t 25), guard := none }]) ACode.skip)))).seq (ACode.region [{ dst := some 27, op := AOp.bin (Bin.plain BinOp.add) (Opd.t 10) (Opd.c (AV.p (PV.int IntKind.i64 (1)))), guard := none }, { dst := some 10, op := AOp.mv (Opd.t 27), guard := none }]))))
theorem lit32_eq : lit32.body = (ACode.region [{ dst := some 2, op := AOp.mv (Opd.c (AV.p (PV.str []))), guard := none }]).seq ((ACode.region [{ dst := some 6, op := AOp.mv (Opd.t 0), guard := none }, { dst := some 7, op := AOp.strBytes (Opd.t 6), guard := none }, { dst := some 3, op := AOp.mv (Opd.t 7), guard := none }]).seq (((ACode.region [{ dst := some 8, op := AOp.mv (Opd.t 3), guard := none }, { dst := some 9, op := AOp.len false (Opd.t 8), guard := none }, { dst := some 10, op := AOp.mv (Opd.c (AV.p (PV.int IntKind.i64 (0)))), guard := none }]).seq (ACode.block 0 (ACode.loop none body32))).seq ((ACode.region [{ dst := some 28, op := AOp.mv (Opd.t 3), guard := none }, { dst := some 29, op := AOp.bytesStr (Opd.t 28), guard := none }, { dst := some 2, op := AOp.mv (Opd.t 29), guard := none }]).seq ACode.ret))) := rfl
/-- what a byte is written as, as a character -/
def utf (c : UInt8) : List UInt8 := (Utf8.encode (c.toNat : Int)).data.toList
def utfOK (n : Nat) : Bool := match (Utf8.encode (n : Int)).data.toList with
  | [a] => decide (n < 128) && decide (a = UInt8.ofNat n)
  | [a, _] => decide (128 ≤ n) && decide (128 ≤ a.toNat)
  | _ => false
theorem utf_all : ((List.range 256).all utfOK) = true := by decide +kernel
theorem utf_ok (c : UInt8) : utfOK c.toNat = true := by
  have := List.all_eq_true.1 utf_all c.toNat (by
    rw [List.mem_range]
    exact c.toNat_lt)
  exact this
theorem utf_low (c : UInt8) (h : c < 128) : utf c = [c] := by
  have hk := utf_ok c
  have h' : c.toNat < 128 := h
  unfold utfOK at hk
  unfold utf
  split at hk
  · rename_i a ha
    rw [ha]
    simp at hk
    rw [hk.2]
  · simp at hk; omega
  · cases hk
theorem utf_high (c : UInt8) (h : ¬ c < 128) : ∃ a r, utf c = a :: r ∧ ¬ a < 128 := by
  have hk := utf_ok c
  have h' : ¬ c.toNat < 128 := h
  unfold utfOK at hk
  unfold utf
  split at hk
  · simp at hk; omega
  · rename_i a r ha
    rw [ha]
    refine ⟨a, [r], rfl, ?_⟩
    simp at hk
    intro hh
    have : a.toNat < 128 := hh
    omega
  · cases hk
theorem utf_len (c : UInt8) : (utf c).length ≤ 2 := by
  have hk := utf_ok c
  unfold utfOK at hk
  unfold utf
  split at hk
  · rename_i a ha; rw [ha]; simp
  · rename_i a r ha; rw [ha]; simp
  · cases hk
theorem low1_up (c : UInt8) (h1 : 65 ≤ c.toNat) (h2 : c.toNat ≤ 90) : Cast.low1 c = c + 32 ∧ ((c + 32).toNat : Int) = (c.toNat : Int) + 32 := by
  constructor
  · unfold Cast.low1
    rw [if_pos ⟨h1, h2⟩]
  · have : (c + 32).toNat = c.toNat + 32 := by
      rw [UInt8.toNat_add]
      simp
      omega
    omega
theorem low1_id (c : UInt8) (h : ¬ (65 ≤ c.toNat ∧ c.toNat ≤ 90)) : Cast.low1 c = c := by
  unfold Cast.low1
  rw [if_neg (fun hh => h ⟨hh.1, hh.2⟩)]
/-- the truth of a word -/
def truthZ (s : List UInt8) : List PV :=
  if Cast.lowP s = [116, 114, 117, 101] then [val 3 0 [] true, done] else if Cast.lowP s = [102, 97, 108, 115, 101] then [val 3 0 [] false, done] else [nullV, .str [50, 50, 48, 49, 56]]
section
variable (C : Oracle) (L : Nat) (s u : List UInt8) (ρ : Env) (σ : Heap) (j : Nat) (c : UInt8)
structure At36 (s : List UInt8) (j : Nat) (u : List UInt8) (ρ : Env) : Prop where
  g0 : ρ.get 0 = some (.p (.str s))
  g5 : ρ.get 5 = some (.p (.int .i64 (j : Int)))
  g4 : ρ.get 4 = some (.p (.str u))
  g2 : ρ.get 2 = some (.ptr 0 0 0)
theorem over36 (h : At36 s s.length u ρ) : ∃ ρ' : Env, exec C L body36 ⟨ρ, [], σ⟩ = some (.exit 0, ⟨ρ', [], σ⟩) ∧ At36 s s.length u ρ' := by
  refine ⟨_, by simp [body36, exec, runOps, wantedA, stepOp, pureOp, allocOp, readOp, effOp, ev, evs, evO, Env.get_cons, putE, binA, intBin, unA, AV.fit, AV.toCells, partC, partP, mkCells, allP, mkAgg, Cells.len, target, h.g0, h.g5]; rfl, ?_⟩
  constructor <;> simp [Env.get_cons, h.g0, h.g5, h.g4, h.g2]
theorem go36 (h : At36 s j u ρ) (hj : decide (j < s.length) = true) (hm : s.length ≤ 1048576) (hc : s[j]? = some c) (hu : u.length ≤ 2 * j) :
    ∃ ρ' : Env, exec C L body36 ⟨ρ, [], σ⟩ = some (.normal, ⟨ρ', [], σ⟩) ∧ At36 s (j + 1) (u ++ utf (Cast.low1 c)) ρ' := by
  have hlt := of_decide_eq_true hj
  have e1 : IntKind.i64.wrap ((j : Int) + 1) = (j : Int) + 1 := wrap_id _ (by omega) (by omega)
  have hl := utf_len (Cast.low1 c)
  by_cases hup : 65 ≤ c.toNat ∧ c.toNat ≤ 90
  · obtain ⟨l1, l2⟩ := low1_up c hup.1 hup.2
    have e2 : IntKind.u8.wrap ((c.toNat : Int) + 32) = (c.toNat : Int) + 32 := by
      simp [IntKind.wrap, IntKind.bits, IntKind.signed]
      omega
    have e3 : IntKind.i32.wrap ((c.toNat : Int) + 32) = (c.toNat : Int) + 32 := by
      simp [IntKind.wrap, IntKind.bits, IntKind.signed]
      omega
    have hu1 : (65 : Int) ≤ (c.toNat : Int) := by omega
    have hu2 : (c.toNat : Int) ≤ 90 := by omega
    have hut : (Utf8.encode ((c.toNat : Int) + 32)).data.toList = utf (Cast.low1 c) := by
      unfold utf
      rw [l1, l2]
    have hlim : u.length + (utf (Cast.low1 c)).length ≤ LIM := by unfold LIM; omega
    generalize utf (Cast.low1 c) = w at hut hlim ⊢
    refine ⟨_, by simp [body36, exec, runOps, wantedA, stepOp, pureOp, allocOp, readOp, effOp, ev, evs, evO, Env.get_cons, putE, binA, intBin, unA, AV.fit, AV.toCells, partC, partP, mkCells, allP, mkAgg, Cells.len, target, strBin, atStrA, h.g0, h.g5, h.g4, hc, -decide_eq_true_eq, hj, e1, e2, e3, hu1, hu2, hut, hlim]; rfl, ?_⟩
    constructor <;> simp [Env.get_cons, h.g0, h.g2]
  · have l1 := low1_id c hup
    have e3 : IntKind.i32.wrap (c.toNat : Int) = (c.toNat : Int) := by
      have := c.toNat_lt
      simp [IntKind.wrap, IntKind.bits, IntKind.signed]
      omega
    have hut : (Utf8.encode (c.toNat : Int)).data.toList = utf (Cast.low1 c) := by
      rw [l1]
      rfl
    have hlim : u.length + (utf (Cast.low1 c)).length ≤ LIM := by unfold LIM; omega
    generalize utf (Cast.low1 c) = w at hut hlim ⊢
    by_cases hu1 : (65 : Int) ≤ (c.toNat : Int)
    · have hu2 : ¬ (c.toNat : Int) ≤ 90 := by omega
      refine ⟨_, by simp [body36, exec, runOps, wantedA, stepOp, pureOp, allocOp, readOp, effOp, ev, evs, evO, Env.get_cons, putE, binA, intBin, unA, AV.fit, AV.toCells, partC, partP, mkCells, allP, mkAgg, Cells.len, target, strBin, atStrA, h.g0, h.g5, h.g4, hc, -decide_eq_true_eq, hj, e1, e3, hu1, hu2, hut, hlim]; rfl, ?_⟩
      constructor <;> simp [Env.get_cons, h.g0, h.g2]
    · refine ⟨_, by simp [body36, exec, runOps, wantedA, stepOp, pureOp, allocOp, readOp, effOp, ev, evs, evO, Env.get_cons, putE, binA, intBin, unA, AV.fit, AV.toCells, partC, partP, mkCells, allP, mkAgg, Cells.len, target, strBin, atStrA, h.g0, h.g5, h.g4, hc, -decide_eq_true_eq, hj, e1, e3, hu1, hut, hlim]; rfl, ?_⟩
      constructor <;> simp [Env.get_cons, h.g0, h.g2]
end
theorem loop36 (C : Oracle) (L : Nat) (s : List UInt8) (σ : Heap) (hm : s.length ≤ 1048576) : ∀ (l : List UInt8) (j f : Nat) (u : List UInt8) (ρ : Env), s.drop j = l → j ≤ s.length → l.length < f → u.length ≤ 2 * j → At36 s j u ρ →
    ∃ ρ' : Env, iter (exec C L body36) none f ⟨ρ, [], σ⟩ = some (.exit 0, ⟨ρ', [], σ⟩) ∧ At36 s s.length (u ++ Cast.lowD utf l) ρ'
  | [], j, f, u, ρ, hd, hj, hf, hu, h => by
    obtain ⟨f, rfl⟩ : ∃ n, f = n + 1 := ⟨f - 1, by simp at hf; omega⟩
    have e : j = s.length := by
      have := congrArg List.length hd
      simp at this
      omega
    subst e
    obtain ⟨ρ', x, a⟩ := over36 C L s u ρ σ h
    refine ⟨ρ', by simp only [iter, St.keep, x], ?_⟩
    simpa [Cast.lowD] using a
  | c :: r, j, f, u, ρ, hd, hj, hf, hu, h => by
    obtain ⟨f, rfl⟩ : ∃ n, f = n + 1 := ⟨f - 1, by simp at hf; omega⟩
    have hlt : j < s.length := by
      have := congrArg List.length hd
      simp at this
      omega
    have hc : s[j]? = some c := by
      have : (s.drop j)[0]? = some c := by rw [hd]; rfl
      simpa using this
    have hr : s.drop (j + 1) = r := by
      rw [← List.drop_drop, hd]
      rfl
    obtain ⟨ρ1, x1, a1⟩ := go36 C L s u ρ σ j c h (decide_eq_true hlt) hm hc hu
    have hl := utf_len (Cast.low1 c)
    obtain ⟨ρ', x, a⟩ := loop36 C L s σ hm r (j + 1) f _ ρ1 hr (by omega) (by simp at hf; omega) (by rw [List.length_append]; omega) a1
    refine ⟨ρ', by simp only [iter, St.keep, x1]; exact x, ?_⟩
    simpa [Cast.lowD] using a
theorem truth36 (s : List UInt8) (hm : s.length ≤ 1048576) (L n : Nat) (hL : 1048580 ≤ L) (σ : Heap) : (cAt TC L (n + 1)).1 36 [.p (.str s)] σ = some (.ret (.p (.tup (truthZ s))), σ) := by
  refine call_ans (ps := [.str s]) (n := n) (af := lit36) (fz := true) rfl (by kernel_rfl) ?_ σ
  generalize (cAt TC L n).1 = C
  generalize (cAt TC L n).2 = D
  rw [runFunc_eq, lit36_eq]
  have ht := Cast.lowD_eq utf utf_low utf_high s [116, 114, 117, 101] (by decide)
  have hf := Cast.lowD_eq utf utf_low utf_high s [102, 97, 108, 115, 101] (by decide)
  rw [seqN (st1 := ⟨[(3, .p (.str [])), (2, .ptr 0 0 0), (0, .p (.str s))], [], [Zn]⟩) (by simp [params, exec, runOps, wantedA, stepOp, pureOp, allocOp, readOp, effOp, ev, evs, evO, Env.get_cons, putE, binA, intBin, unA, AV.fit, AV.toCells, partC, partP, mkCells, allP, mkAgg, Cells.len, target])]
  rw [seqN (st1 := ⟨[(4, .p (.str [])), (3, .p (.str [])), (2, .ptr 0 0 0), (0, .p (.str s))], [], [Zn]⟩) (by simp [exec, runOps, wantedA, stepOp, pureOp, allocOp, readOp, effOp, ev, evs, evO, Env.get_cons, putE, binA, intBin, unA, AV.fit, AV.toCells, partC, partP, mkCells, allP, mkAgg, Cells.len, target])]
  obtain ⟨ρ', e, a⟩ := loop36 C L s [Zn] hm s 0 L [] [(5, .p (.int .i64 0)), (4, .p (.str [])), (3, .p (.str [])), (2, .ptr 0 0 0), (0, .p (.str s))] rfl (Nat.zero_le _) (by omega) (by simp) (by constructor <;> simp [Env.get_cons])
  rw [List.nil_append] at a
  have e2 : exec C L (.seq (.region [{ dst := some 5, op := .mv (.c (.p (.int .i64 0))), guard := none }]) (.block 0 (.loop none body36))) ⟨[(4, .p (.str [])), (3, .p (.str [])), (2, .ptr 0 0 0), (0, .p (.str s))], [], [Zn]⟩ = some (.normal, ⟨ρ', [], [Zn]⟩) := by
    rw [seqN (st1 := ⟨[(5, .p (.int .i64 0)), (4, .p (.str [])), (3, .p (.str [])), (2, .ptr 0 0 0), (0, .p (.str s))], [], [Zn]⟩) (by simp [exec, runOps, wantedA, stepOp, pureOp, allocOp, readOp, effOp, ev, evs, evO, Env.get_cons, putE, binA, intBin, unA, AV.fit, AV.toCells, partC, partP, mkCells, allP, mkAgg, Cells.len, target])]
    simp only [exec, e, if_true]
  rw [seqN e2]
  unfold truthZ
  generalize Cast.lowD utf s = w at a ht hf
  by_cases h1 : w = [116, 114, 117, 101]
  · rw [if_pos (ht.1 h1)]
    subst h1
    simp [exec, runOps, wantedA, stepOp, pureOp, allocOp, readOp, effOp, ev, evs, evO, Env.get_cons, putE, binA, intBin, unA, AV.fit, AV.toCells, partC, partP, mkCells, allP, mkAgg, Cells.len, target, evParts, fillA, AV.cells, splice, spliceC, finA, leaveA, resA, resV, ansV, strBin, a.g4, a.g2, finX, lit36, val, done, mkTup]
  · rw [if_neg (fun h => h1 (ht.2 h))]
    have b1 : (w == [116, 114, 117, 101]) = false := by simpa using h1
    by_cases h2 : w = [102, 97, 108, 115, 101]
    · rw [if_pos (hf.1 h2)]
      subst h2
      simp [exec, runOps, wantedA, stepOp, pureOp, allocOp, readOp, effOp, ev, evs, evO, Env.get_cons, putE, binA, intBin, unA, AV.fit, AV.toCells, partC, partP, mkCells, allP, mkAgg, Cells.len, target, evParts, fillA, AV.cells, splice, spliceC, finA, leaveA, resA, resV, ansV, strBin, a.g4, a.g2, finX, lit36, val, done, mkTup]
    · rw [if_neg (fun h => h2 (hf.2 h))]
      have b2 : (w == [102, 97, 108, 115, 101]) = false := by simpa using h2
      simp [exec, runOps, wantedA, stepOp, pureOp, allocOp, readOp, effOp, ev, evs, evO, Env.get_cons, putE, binA, intBin, unA, AV.fit, AV.toCells, partC, partP, mkCells, allP, mkAgg, Cells.len, target, evParts, fillA, AV.cells, splice, spliceC, finA, leaveA, resA, resV, ansV, strBin, a.g4, a.g2, b1, b2, finX, lit36, nullV, mkTup]
end Go.Ab.Cols
