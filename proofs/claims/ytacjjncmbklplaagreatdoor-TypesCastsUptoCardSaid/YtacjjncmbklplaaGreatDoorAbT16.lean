/- TypesCasts: the rows of the table. -/
import Derived.Test.YtacjjncmbklplaaGreatDoorAbT14
import Derived.Test.YtacjjncmbklplaaGreatDoorAbN8
set_option linter.unusedSectionVars false
set_option linter.unusedSimpArgs false
set_option linter.unusedVariables false
set_option maxRecDepth 1000000
namespace Go.Ab.Cols
open Go Go.Ab Go.Ab.Names Go.Proofs Go.RowKit Go.ChangeShapes Go.WideShapes Go.Proofs.YtacjjncmbklplaaGreatDoor Go.Joins Go.ChangeMaps
/-- ranged, and what it calls -/
noncomputable def TCm (f : Nat) : Option FImpl := match f with
  | 24 => some (.code lit24 true)
  | 37 => some (.code Names.af37 true)
  | _ => none
theorem num37m (n : Int) (L m : Nat) (σ : Heap) : (cAt TCm L (m + 1)).1 37 [.p (.int .i64 n)] σ = some (.ret (.p (val 1 n [] false)), σ) := by
  refine call_ans (ps := [.int .i64 n]) (n := m) (af := Names.af37) (fz := true) rfl (by kernel_rfl) ?_ σ
  kernel_rfl
theorem ranged24m (b : Int) (hb : b = 1 ∨ b = 2 ∨ b = 3) (n : Int) (h1 : -9223372036854775808 ≤ n) (h2 : n ≤ 9223372036854775807) (r : Bool) (hr : inR b n = r) (L m : Nat) (σ : Heap) :
    (cAt TCm L (m + 2)).1 24 [.p (.int .i64 n), .p (ty b 0)] σ = some (.ret (.p (.tup (if r then [val 1 n [] false, done] else [null, outOf]))), σ) := by
  refine call_ans (ps := [.int .i64 n, ty b 0]) (n := m + 1) (af := lit24) (fz := true) rfl (by kernel_rfl) ?_ σ
  unfold inR at hr
  rcases hb with rfl | rfl | rfl
  · have e := sh48 n h1 h2
    rw [if_pos rfl] at hr
    rw [hr] at e
    clear hr
    cases r <;> simp only [Bool.not_true, Bool.not_false] at e
    all_goals
      simp [ty, runFunc, lit24, params, exec, runOps, wantedA, stepOp, pureOp, allocOp, readOp, effOp, ev, Env.get_cons, putE, binA, intBin, intShift, AV.fit, AV.toCells, partC, partP, mkCells, allP, idxArrA, Cells.len, w48, IntKind.bits, -bne_iff_ne, -bne_eq_false_iff_eq, -bne_self_eq_false, e]
      show _ = _
      kernel_rfl
  · have e := sh32 n h1 h2
    rw [if_neg (by decide), if_pos rfl] at hr
    rw [hr] at e
    clear hr
    cases r <;> simp only [Bool.not_true, Bool.not_false] at e
    all_goals
      simp [ty, runFunc, lit24, params, exec, runOps, wantedA, stepOp, pureOp, allocOp, readOp, effOp, ev, Env.get_cons, putE, binA, intBin, intShift, AV.fit, AV.toCells, partC, partP, mkCells, allP, idxArrA, Cells.len, w32, IntKind.bits, -bne_iff_ne, -bne_eq_false_iff_eq, -bne_self_eq_false, e]
      show _ = _
      kernel_rfl
  · have e := sh0 n h1 h2
    rw [if_neg (by decide), if_neg (by decide)] at hr
    subst hr
    simp only [Bool.not_true] at e
    simp [ty, runFunc, lit24, params, exec, runOps, wantedA, stepOp, pureOp, allocOp, readOp, effOp, ev, Env.get_cons, putE, binA, intBin, intShift, AV.fit, AV.toCells, partC, partP, mkCells, allP, idxArrA, Cells.len, w0, IntKind.bits, -bne_iff_ne, -bne_eq_false_iff_eq, -bne_self_eq_false, e]
    show _ = _
    kernel_rfl
theorem tablem_ok : TableOK Tryz.prog Names.G TCm := by
  intro f i h
  unfold TCm at h
  split at h
  · obtain rfl := Option.some.inj h; exact ⟨Tryz.f24, [], Tryz.func24, c24⟩
  · obtain rfl := Option.some.inj h; exact ⟨Tryz.f37, [], Tryz.func37, Names.c37⟩
  · cases h
theorem pure_calls {P : Program} {G : Globs} {T : Table} {w : World} (hT : TableOK P G T) {L n f : Nat} {args : List AV} {v : PV} {σ' : Heap} (hrun : (cAt T L n).1 f args [] = some (.ret (.p v), σ')) {cargs : Array Value}
    (hG : GlobOK (Ex w) w G) (ha : RepL (Ex w) w (fun _ _ => none) args cargs.toList) : Calls P f cargs w fun e w' => (∃ c S', e = .returned c ∧ RepP S' w' v c) ∧ Below w.heap.size w w' := by
  obtain ⟨_, hc⟩ := (table_sound hT L n).1.1 f args [] _ _ hrun (fun _ _ => none) (Ex w) w cargs good_start hG ha
  refine hc.mono fun e w' ⟨μ', S', g, f, r⟩ => ?_
  cases e with
  | returned c =>
    have r : Rep S' w' μ' (.p v) c := r
    exact ⟨⟨c, S', rfl, r.pv⟩, ⟨f.os, f.tape, f.output, f.size, fun k hk => f.keepB k hk (fun ⟨id, o, n, h1, _⟩ => by simp at h1)⟩⟩
  | panicked ch => exact r.elim
  | outgrown => exact r.elim
theorem glob_ex {G : Globs} {S : Nat → Nat → Prop} {w w1 : World} (hG : GlobOK S w G) (sb : ∀ b o, S b o → b < w.heap.size) (hb : Below w.heap.size w w1) : GlobOK (Ex w1) w1 G := by
  have hS : ∀ b o, S b o → Ex w1 b o ∧ w1.cell? ⟨b, o, none⟩ = w.cell? ⟨b, o, none⟩ := fun b o h => ⟨Nat.lt_of_lt_of_le (sb b o h) hb.size, hb.cell (p := ⟨b, o, none⟩) (sb b o h)⟩
  intro g l hl
  obtain ⟨h1, h2, h3⟩ := hG g l hl
  exact ⟨h1.mono hS, (hS _ _ h2).1, (hS _ _ h2).2.trans h3⟩
theorem extP_sound2 {P : Program} {G : Globs} {f : Nat} {g : List PV → Option PV} (hE : Enters P f)
    (h : ∀ ps v, g ps = some v → ∀ S w (cargs : Array Value), (∀ b o, S b o → b < w.heap.size) → GlobOK S w G → RepPL S w ps cargs.toList →
      Calls P f cargs w fun e w' => (∃ c, e = .returned c ∧ ∀ S w', RepP S w' v c) ∧ Below w.heap.size w w') : RawOK P G f (extP g) := by
  intro args σ r σ' hr μ S w cargs hg hG ha
  unfold extP at hr
  split at hr
  · rename_i ps hps
    split at hr
    · rename_i v hv
      simp only [Option.some.injEq, Prod.mk.injEq] at hr
      obtain ⟨rfl, rfl⟩ := hr
      rw [allP_eq hps] at ha
      refine ⟨hE, (h ps v hv S w cargs hg.sb hG ha.toP).mono fun e w' ⟨⟨c, he, hrep⟩, hb⟩ => ?_⟩
      obtain ⟨g1, f1⟩ := below_good hg hb
      exact ⟨μ, S, g1, f1, by rw [he]; exact .p (hrep S w')⟩
    · cases hr
  · cases hr
theorem ranged_calls {S : Nat → Nat → Prop} {w : World} (hG : GlobOK S w Names.G) (sb : ∀ b o, S b o → b < w.heap.size) (b : Int) (hb : b = 1 ∨ b = 2 ∨ b = 3) (n : Int) (h1 : -9223372036854775808 ≤ n) (h2 : n ≤ 9223372036854775807) (w1 : World) (hb1 : Below w.heap.size w w1) :
    Calls Tryz.prog 24 #[.int .i64 n, .agg #[.int .i64 b, .int .i64 0]] w1 fun e w' => (∃ a m y q x, e = .returned (.tuple #[.agg #[.int .i64 a, .int .i64 m, .string y, .bool q], .string x]) ∧ ∀ S w', RepP S w' (.tup (rangedZ b n)) (.tuple #[.agg #[.int .i64 a, .int .i64 m, .string y, .bool q], .string x])) ∧ Below w1.heap.size w1 w' := by
  refine (pure_calls tablem_ok (ranged24m b hb n h1 h2 (inR b n) rfl 0 0 []) (glob_ex hG sb hb1) (.cons (.p (.int _ _)) (.cons (.p ?_) .nil))).mono fun e w' ⟨⟨c, S', he, hr⟩, hk⟩ => ⟨?_, hk⟩
  · exact .agg (.cons (.int _ _) (.cons (.int _ _) .nil)) (by simp [one])
  · have key : ∀ (a m : Int) (xl : List UInt8), RepP S' w' (.tup [val a m [] false, .str xl]) c → (∃ (x : ByteArray), c = .tuple #[.agg #[.int .i64 a, .int .i64 m, .string ⟨#[]⟩, .bool false], .string x] ∧ x.data.toList = xl) := by
      intro a m xl h
      cases h with
      | @tup _ cvs h =>
        obtain ⟨cl⟩ := cvs
        cases h with
        | cons ha ht =>
          cases ht with
          | cons hx hn =>
            cases hn
            cases hx with
            | @str _ x hx =>
              cases ha with
              | @agg _ arr ha _ =>
                obtain ⟨al⟩ := arr
                cases ha with
                | cons e0 r0 => cases r0 with
                  | cons e1 r1 => cases r1 with
                    | cons e2 r2 => cases r2 with
                      | cons e3 r3 =>
                        cases r3
                        cases e0; cases e1; cases e3
                        cases e2 with
                        | @str _ z hz =>
                          have : z = ⟨#[]⟩ := by have := mk_list _ _ hz; simpa using this
                          subst this
                          exact ⟨x, rfl, hx⟩
    unfold rangedZ
    have hi : inRange b n = inR b n := rfl
    rw [hi]
    cases hh : inR b n with
    | true =>
      rw [hh] at hr
      obtain ⟨x, rfl, hx⟩ := key 1 n _ hr
      exact ⟨1, n, ⟨#[]⟩, false, x, he, fun S w' => .tup (.cons (.agg (.cons (.int _ _) (.cons (.int _ _) (.cons (.str rfl) (.cons (.bool _) .nil)))) (by simp [one])) (.cons (.str hx) .nil))⟩
    | false =>
      rw [hh] at hr
      obtain ⟨x, rfl, hx⟩ := key 0 0 _ hr
      exact ⟨0, 0, ⟨#[]⟩, false, x, he, fun S w' => .tup (.cons (.agg (.cons (.int _ _) (.cons (.int _ _) (.cons (.str rfl) (.cons (.bool _) .nil)))) (by simp [one])) (.cons (.str hx) .nil))⟩
theorem num_ok : RawOK Tryz.prog Names.G 33 (extP numO) := by
  refine extP_sound2 ⟨Tryz.f33, _, Tryz.func33, rfl, by decide⟩ ?_
  intro ps v hv S w cargs sb hG hr
  unfold numO at hv
  split at hv
  · rename_i s k b j z
    split at hv
    · rename_i hc
      obtain ⟨rfl, rfl, hb, rfl, hl⟩ := hc
      obtain rfl := Option.some.inj hv
      obtain ⟨cl⟩ := cargs
      simp only at hr
      cases hr with
      | cons r1 hr =>
        cases hr with
        | cons r2 hr =>
          cases hr
          cases r1 with
          | @str _ s' h1 =>
            subst h1
            cases r2 with
            | @agg _ arr ha _ =>
              obtain ⟨al⟩ := arr
              cases ha with
              | cons e0 q0 => cases q0 with
                | cons e1 q1 =>
                  cases q1
                  cases e0; cases e1
                  have hss : s'.size ≤ 1048576 := by rw [Lib.size_eq]; exact hl
                  obtain ⟨hS1, c, hc, _, hrep⟩ := (hG 1 _ rfl).1.get (i := 0) rfl
                  have hS1 : 1 < w.heap.size := sb _ _ hS1
                  have hc : w.cell? ⟨1, 0, none⟩ = some c := hc
                  cases hrep with
                  | @iface _ _ cv hp =>
                    cases hp with
                    | @vptr _ pb po hcells =>
                      cases hn : Cast.numN (signW s'.data.toList).1 ((signW s'.data.toList).2.map Cast.dig) with
                      | some v =>
                        have hbd : -9223372036854775808 ≤ v ∧ v ≤ 9223372036854775807 := by
                          unfold Cast.numN at hn
                          split at hn
                          · split at hn
                            · obtain rfl := Option.some.inj hn; omega
                            · cases hn
                          · split at hn
                            · obtain rfl := Option.some.inj hn; omega
                            · cases hn
                        refine num_walk_ok s' hss b w 158 _ hc hS1 v (fun _ => hn) (fun hg w1 => ?_) (fun w1 hb1 => ranged_calls hG sb b hb v hbd.1 hbd.2 w1 hb1)
                        have hp := parse_good hg
                        rw [hn] at hp
                        refine (Any.strconv_ParseInt_10_at64_ok lays174 s' (by omega) v hp w1).mono fun e w' hw => ⟨hw.1, ?_⟩
                        rcases hw.2 with rfl | ⟨t, rfl⟩
                        · exact Below.refl _ _
                        · exact Go.Joins.below_bytesWorld _ _ _ _ (Nat.le_refl _)
                      | none =>
                        refine num_walk_out s' hss b w ⟨pb, po, none⟩ hc hS1 (fun _ => hn) (fun hg w1 hc1 => ?_)
                        have hp := parse_good hg
                        rw [hn] at hp
                        refine (Any.strconv_ParseInt_10_at64_range lays174 s' (by omega) hp _ w1 hc1 (.inr ⟨_, _, rfl⟩)).mono fun e w' ⟨N, he, h2, h3, h4⟩ => ⟨⟨_, N, he, ?_⟩, h4⟩
                        unfold World.cell?
                        simp [h3]
    · cases hv
  · cases hv
end Go.Ab.Cols
