/- Operations that ask for no memory: all of them. -/
import Derived.Test.YtikebbklkiodlaaDoorAbA6
import Derived.Lib.UnsafeStr
set_option linter.unusedSectionVars false
set_option linter.unusedSimpArgs false
set_option linter.unusedVariables false
namespace Go.Ab
variable [Marks]
variable {S S' : Nat → Nat → Prop} {w w' : World} {μ μ' : Nat → Nat → Option (Nat × Nat)} {P : Program} {G : Globs}

theorem run_alloc_fields {fs : List Field} {pl : List (Nat × Nat)} (h : fieldPlaces P fs = some pl) (w' : World) :
    (fs.mapM (fun f => do pure (f.offset, ← sizeOf f.type) : Field → Sem (Nat × Nat))).run P w' = .ok pl w' := by
  induction fs generalizing pl with
  | nil => simp [fieldPlaces] at h; subst h; rfl
  | cons f r ih =>
    simp only [fieldPlaces] at h
    split at h
    · rename_i s l hs hl
      obtain rfl := Option.some.inj h
      simp only [List.mapM_cons, Sem.run_bind, run_size hs, Result.andThen_ok, Sem.run_pure, ih hl]
    · cases h

theorem zero_rep {t : Nat} {z : List AV} (h : P_zero P t = some z) (S : Nat → Nat → Prop) (w : World) (μ : Nat → Nat → Option (Nat × Nat)) :
    ∃ i c, P.info? t = some i ∧ i.zero = some c ∧ RepL S w μ z c.cells.toList ∧ ∀ x ∈ c.cells.toList, one x = true := by
  unfold P_zero at h
  split at h
  · rename_i i hi
    split at h
    · rename_i v hv
      obtain ⟨h1, h2⟩ := cellsAV_rep (S := S) (w := w) (μ := μ) h
      exact ⟨i, v, hi, hv, h1, h2⟩
    · cases h
  · cases h

section
variable {ρ : Env} {a : Act} (hE : EnvOK S w μ ρ a.tmps) (hG : GlobOK S w G)
include hE hG

theorem pure_builtin {b : Builtin} {tys : Array Nat} {args : Array Operand} {ao : AOp} {v : AV} (hc : cBuiltin P G b tys.toList args.toList = some ao) (hv : pureOp ρ ao = some v)
    (type : TypeId) (cs : Array Bool) (w' : World) : ∃ c, (builtin b tys type cs (args.map a.eval)).run P w' = .ok (.value c) w' ∧ Rep S w μ v c := by
  obtain ⟨tys⟩ := tys
  obtain ⟨args⟩ := args
  unfold cBuiltin at hc
  split at hc
  · -- len
    rename_i t x h1 h2
    simp only at h1 h2
    subst h1 h2
    split at hc
    · rename_i hu
      simp only [Option.map_eq_some_iff] at hc
      obtain ⟨y, hy, rfl⟩ := hc
      simp only [pureOp] at hv
      split at hv
      · rename_i u hu'
        have hr := ev_rep hE hG hy hu'
        split at hv
        · obtain rfl := Option.some.inj hv
          obtain ⟨s, hs, rfl⟩ := hr.str
          refine ⟨.int .i64 s.size, ?_, .p (.int _ _)⟩
          simp [builtin, Builtin.len_, hs, run_underlying hu, goInt]
        all_goals first | cases hv | (rename_i hh; cases hh) | skip
        all_goals simp_all
      · cases hv
    · rename_i e hu
      simp only [Option.map_eq_some_iff] at hc
      obtain ⟨y, hy, rfl⟩ := hc
      simp only [pureOp] at hv
      split at hv
      · rename_i u hu'
        have hr := ev_rep hE hG hy hu'
        split at hv
        · rename_i h1; simp_all
        · cases hv
        · cases hv
        · rename_i v' b' hns hb
          split at hv
          · rename_i n hn
            obtain rfl := Option.some.inj hv
            obtain ⟨ad, c, hs⟩ := lenA_rep hn hr (fun s e => hns s (by simp_all))
            exact ⟨.int .i64 n, by simp [builtin, Builtin.len_, hs, run_underlying hu, goInt], .p (.int _ _)⟩
          · cases hv
      · cases hv
    · rename_i n e hu
      obtain rfl := Option.some.inj hc
      simp only [pureOp, Option.some.injEq] at hv
      subst hv
      exact ⟨.int .i64 n, by simp [builtin, Builtin.len_, run_underlying hu, goInt], .p (.int _ _)⟩
    · cases hc
  · -- append
    split at hc
    · split at hc
      · split at hc <;> first | (obtain rfl := Option.some.inj hc; simp [pureOp] at hv; done) | cases hc
      · cases hc
    · cases hc
  · -- copy
    split at hc
    · split at hc
      · obtain rfl := Option.some.inj hc; simp [pureOp] at hv
      · cases hc
    · cases hc
  · -- clear
    split at hc
    · split at hc
      · obtain rfl := Option.some.inj hc; simp [pureOp] at hv
      · cases hc
    · cases hc
  · -- max
    simp only [Option.map_eq_some_iff] at hc
    obtain ⟨ys, hys, rfl⟩ := hc
    simp only [pureOp] at hv
    split at hv
    · rename_i x r hxr
      have hr := evs_rep hE hG hys hxr
      obtain ⟨c, cl, e, h2, h3⟩ : ∃ c cl, args.map a.eval = c :: cl ∧ Rep S w μ x c ∧ RepL S w μ r cl := by
        generalize args.map a.eval = l at hr
        cases hr with | cons h hs => exact ⟨_, _, rfl, h, hs⟩
      obtain ⟨c', hc', hrep⟩ := maxA_rep (P := P) hv h2 h3 w'
      refine ⟨c', ?_, hrep⟩
      simp only [if_true] at hc'
      simp [builtin, Builtin.max_, e, hc']
    · cases hv
  · -- min
    simp only [Option.map_eq_some_iff] at hc
    obtain ⟨ys, hys, rfl⟩ := hc
    simp only [pureOp] at hv
    split at hv
    · rename_i x r hxr
      have hr := evs_rep hE hG hys hxr
      obtain ⟨c, cl, e, h2, h3⟩ : ∃ c cl, args.map a.eval = c :: cl ∧ Rep S w μ x c ∧ RepL S w μ r cl := by
        generalize args.map a.eval = l at hr
        cases hr with | cons h hs => exact ⟨_, _, rfl, h, hs⟩
      obtain ⟨c', hc', hrep⟩ := maxA_rep (P := P) hv h2 h3 w'
      refine ⟨c', ?_, hrep⟩
      simp only [Bool.false_eq_true, if_false] at hc'
      simp [builtin, Builtin.min_, e, hc']
    · cases hv
  · simp only [Option.map_eq_some_iff] at hc
    obtain ⟨ys, hys, rfl⟩ := hc
    simp [pureOp] at hv
  · obtain rfl := Option.some.inj hc
    simp [pureOp] at hv
  · -- unsafe.SliceData
    rename_i x h1
    simp only at h1
    subst h1
    simp only [Option.map_eq_some_iff] at hc
    obtain ⟨y, hy, rfl⟩ := hc
    simp only [pureOp] at hv
    split at hv
    · rename_i he
      obtain rfl := Option.some.inj hv
      have e := (ev_rep hE hG hy he).nil0_inv
      exact ⟨.pointer none, by simp [builtin, e, Lib.run_unsafeSliceData_nil], .p .nilptr⟩
    · rename_i id ver off n esz he
      obtain rfl := Option.some.inj hv
      obtain ⟨b, m, cap, k1, k2, k3, e⟩ := (ev_rep hE hG hy he).slA
      exact ⟨.pointer (some ⟨b, off, none⟩), by simp [builtin, e, Lib.run_unsafeSliceData_row _ _ _ _ _ _ (show cap ≠ 0 by omega)], .ptr k1⟩
    · cases hv
  · -- unsafe.String
    split at hc
    · split at hc
      · split at hc
        · obtain rfl := Option.some.inj hc; simp [pureOp] at hv
        · cases hc
      · cases hc
    · cases hc
  · cases hc

theorem pure_sound {o : Oper} {ao : AOp} {v : AV} (hc : cOp P G o.op = some ao) (hv : pureOp ρ ao = some v) (w' : World) :
    ∃ c, (execOp a.eval o).run P w' = .ok (.value c) w' ∧ Rep S w μ v c := by
  obtain ⟨dst, op, oty, pos, after, guard⟩ := o
  simp only at hc
  cases op with
  | move x =>
    simp only [cOp, Option.map_eq_some_iff] at hc
    obtain ⟨y, hy, rfl⟩ := hc
    exact ⟨a.eval x, by simp [execOp], ev_rep hE hG hy hv⟩
  | assign x =>
    simp only [cOp, Option.map_eq_some_iff] at hc
    obtain ⟨y, hy, rfl⟩ := hc
    exact ⟨a.eval x, by simp [execOp], ev_rep hE hG hy hv⟩
  | pick c x y =>
    simp only [cOp] at hc
    split at hc
    · rename_i c' x' y' h1 h2 h3
      obtain rfl := Option.some.inj hc
      simp only [pureOp] at hv
      split at hv
      · rename_i b hb
        have hb' := (ev_rep hE hG h1 hb).bool
        cases b with
        | true => exact ⟨a.eval x, by simp [execOp, hb', asBool], ev_rep hE hG h2 (by simpa using hv)⟩
        | false => exact ⟨a.eval y, by simp [execOp, hb', asBool], ev_rep hE hG h3 (by simpa using hv)⟩
      · cases hv
    · cases hc
  | alloc e =>
    simp only [cOp, Option.map_eq_some_iff] at hc
    obtain ⟨y, hy, rfl⟩ := hc
    simp [pureOp] at hv
  | box e x =>
    simp only [cOp] at hc
    split at hc
    · obtain rfl := Option.some.inj hc; simp [pureOp] at hv
    · cases hc
  | build t parts =>
    simp only [cOp] at hc
    have key : ∀ (place : Nat → Option (Nat × Nat)) (z : List AV) (ps : List (Nat × Nat × Opd)), P_zero P t = some z → cParts P G place parts.toList = some ps → ao = .build z ps →
        ∃ c cs, (zeroValue t).run P w' = .ok c w' ∧ Instr.fill place c.cells (parts.map fun (i, x) => (i, a.eval x)).toList = some cs ∧ Rep S w μ v (.agg cs) := by
      intro place z ps hz hps hao
      subst hao
      simp only [pureOp] at hv
      split at hv
      · rename_i vs hvs
        simp only [Option.map_eq_some_iff] at hv
        obtain ⟨out, hout, rfl⟩ := hv
        obtain ⟨i, c, hi, hzc, hr, h1⟩ := zero_rep hz S w μ
        obtain ⟨cs', e1, e2, e3, _⟩ := fillA_rep hE hG hps hvs hout hr h1
        refine ⟨c, cs', by simp [zeroValue, typeInfo, hi, hzc], ?_, mkAgg_rep e2 e3⟩
        rw [← e1]
        congr 1
        simp
      · cases hv
    split at hc
    · rename_i fs z hu hz
      split at hc
      · rename_i pl hpl
        simp only [Option.map_eq_some_iff] at hc
        obtain ⟨ps, hps, rfl⟩ := hc
        obtain ⟨c, cs, e1, e2, e3⟩ := key _ _ _ hz hps rfl
        refine ⟨.agg cs, ?_, e3⟩
        have hpl' := run_alloc_fields hpl w'
        simp only [execOp, Instr.build, Sem.run_bind, e1, Result.andThen_ok, run_underlying hu]
        rw [show (fs.mapM fun f => do pure (f.offset, ← sizeOf f.type) : Sem (Array (Nat × Nat))).run P w' = .ok pl.toArray w' from by
          rw [Array.mapM_eq_mapM_toList]; simp only [Sem.run_map, hpl']; rfl]
        simp only [Result.andThen_ok, List.getElem?_toArray]
        rw [e2]
        simp
      · cases hc
    · rename_i n e z hu hz
      split at hc
      · rename_i s hs
        simp only [Option.map_eq_some_iff] at hc
        obtain ⟨ps, hps, rfl⟩ := hc
        obtain ⟨c, cs, e1, e2, e3⟩ := key _ _ _ hz hps rfl
        refine ⟨.agg cs, ?_, e3⟩
        simp only [execOp, Instr.build, Sem.run_bind, e1, Result.andThen_ok, run_underlying hu, run_size hs]
        rw [e2]
        simp
      · cases hc
    · cases hc
  | buildSlice t len parts =>
    simp only [cOp] at hc
    split at hc
    · split at hc
      · split at hc
        · simp only [Option.map_eq_some_iff] at hc
          obtain ⟨y, hy, rfl⟩ := hc
          simp [pureOp] at hv
        · cases hc
      · cases hc
    · cases hc
  | load t x =>
    simp only [cOp] at hc
    split at hc
    · obtain rfl := Option.some.inj hc; simp [pureOp] at hv
    · cases hc
  | store t x y =>
    simp only [cOp] at hc
    split at hc
    · obtain rfl := Option.some.inj hc; simp [pureOp] at hv
    · cases hc
  | nilCheck x =>
    simp only [cOp, Option.map_eq_some_iff] at hc
    obtain ⟨y, hy, rfl⟩ := hc
    simp only [pureOp] at hv
    refine ⟨a.eval x, ?_, ?_⟩
    · have key : ∀ c, ((∃ ad, c = .pointer (some ad)) ∨ (∃ f x y, c = .func (.func f) x y) ∨ ∃ t y, c = .iface t y) → a.eval x = c →
          (execOp a.eval { dst := dst, op := .nilCheck x, type := oty, pos := pos, after := after, guard := guard }).run P w' = .ok (.value c) w' := by
        rintro c (⟨ad, rfl⟩ | ⟨f, x, y, rfl⟩ | ⟨t, y, rfl⟩) h <;> simp [execOp, h]
      split at hv
      case h_7 => cases hv
      · rename_i hu
        obtain ⟨b, n, _, e⟩ := (ev_rep hE hG hy hu).ptrA
        exact key _ (.inl ⟨_, e⟩) rfl
      · rename_i hu
        obtain ⟨b, n, e, _⟩ := (ev_rep hE hG hy hu).vptrP
        exact key _ (.inl ⟨_, e⟩) rfl
      · rename_i hu
        have hr := ev_rep hE hG hy hu
        refine key _ (.inr (.inl ?_)) rfl
        generalize a.eval x = c at hr
        cases hr
        exact ⟨_, _, _, rfl⟩
      · rename_i hu
        have hr := (ev_rep hE hG hy hu).pv
        refine key _ (.inr (.inl ?_)) rfl
        generalize a.eval x = c at hr
        cases hr
        exact ⟨_, _, _, rfl⟩
      · rename_i hu
        have hr := (ev_rep hE hG hy hu).pv
        refine key _ (.inr (.inr ?_)) rfl
        generalize a.eval x = c at hr
        cases hr
        exact ⟨_, _, rfl⟩
      · rename_i hu
        have hr := ev_rep hE hG hy hu
        refine key _ (.inr (.inr ?_)) rfl
        generalize a.eval x = c at hr
        cases hr
        exact ⟨_, _, rfl⟩
    · split at hv
      case h_7 => cases hv
      all_goals
        rename_i hu
        have hr := ev_rep hE hG hy hu
        obtain rfl := Option.some.inj hv
        exact hr
  | binOp op t x y yt =>
    simp only [cOp] at hc
    split at hc
    · rename_i b x' y' hb h1 h2
      obtain rfl := Option.some.inj hc
      simp only [pureOp] at hv
      split at hv
      · rename_i u u' hu hu'
        obtain ⟨c, hc, hr⟩ := binA_rep hb hv (ev_rep hE hG h1 hu) (ev_rep hE hG h2 hu') w'
        refine ⟨c, ?_, hr⟩
        simp only [execOp]
        rw [Sem.run_bind, hc]
        rfl
      · cases hv
    · cases hc
  | unOp u t x =>
    simp only [cOp, Option.map_eq_some_iff] at hc
    obtain ⟨y, hy, rfl⟩ := hc
    simp only [pureOp] at hv
    split at hv
    · rename_i u' hu
      obtain ⟨c, hc, hr⟩ := unA_rep (P := P) hv (ev_rep hE hG hy hu) w'
      exact ⟨c, by simp [execOp, hc], hr⟩
    · cases hv
  | convert s d x =>
    simp only [cOp] at hc
    split at hc
    · rename_i k k' y h1 h2 hy
      obtain rfl := Option.some.inj hc
      simp only [pureOp] at hv
      split at hv
      · rename_i k2 n hn
        obtain rfl := Option.some.inj hv
        have e := (ev_rep hE hG hy hn).int
        exact ⟨.int k' (k'.wrap n), by simp [execOp, e, convert, run_underlying h1, run_underlying h2, Conv.intToInt], .p (.int _ _)⟩
      · cases hv
    · rename_i k y h1 h2 hy
      obtain rfl := Option.some.inj hc
      simp only [pureOp] at hv
      split at hv
      · rename_i k2 n hn
        obtain rfl := Option.some.inj hv
        have e := (ev_rep hE hG hy hn).int
        exact ⟨.string (Utf8.encode n), by simp [execOp, e, convert, run_underlying h1, run_underlying h2, Conv.intToString], .p (.str rfl)⟩
      · cases hv
    · rename_i y h1 h2 hy
      obtain rfl := Option.some.inj hc
      simp only [pureOp] at hv
      split at hv
      · rename_i l hl
        obtain rfl := Option.some.inj hv
        obtain ⟨s, e, rfl⟩ := (ev_rep hE hG hy hl).str
        exact ⟨.string s, by simp [execOp, e, convert, run_underlying h1, run_underlying h2], .p (.str rfl)⟩
      · cases hv
    · split at hc
      · obtain rfl := Option.some.inj hc; simp [pureOp] at hv
      · cases hc
    · split at hc
      · obtain rfl := Option.some.inj hc; simp [pureOp] at hv
      · cases hc
    · cases hc
  | sliceToArrayPointer d x => simp [cOp] at hc
  | makeInterface t x =>
    simp only [cOp] at hc
    split at hc
    · cases hc
    · rename_i d hni hd
      simp only [Option.map_eq_some_iff] at hc
      obtain ⟨y, hy, rfl⟩ := hc
      have run : (execOp a.eval { dst := dst, op := .makeInterface t x, type := oty, pos := pos, after := after, guard := guard }).run P w' = .ok (.value (.iface t (a.eval x))) w' := by
        cases d <;> first | exact absurd rfl (hni _) | simp [execOp, Instr.makeInterface, run_underlying hd]
      simp only [pureOp] at hv
      split at hv
      · rename_i u hu
        obtain rfl := Option.some.inj hv
        exact ⟨_, run, .p (.iface (ev_rep hE hG hy hu).pv)⟩
      · rename_i u _ hu
        obtain rfl := Option.some.inj hv
        exact ⟨_, run, .iface (ev_rep hE hG hy hu)⟩
      · cases hv
    · cases hc
  | makeFunc f first caps =>
    cases f with
    | func f =>
      simp only [cOp] at hc
      split at hc
      · rename_i x y h1 h2
        obtain rfl := Option.some.inj hc
        have run : (execOp a.eval { dst := dst, op := .makeFunc (.func f) first caps, type := oty, pos := pos, after := after, guard := guard }).run P w' = .ok (.value (.func (.func f) (first.map a.eval) (caps.map a.eval))) w' := by
          simp [execOp, Instr.makeFunc]
        simp only [pureOp] at hv
        split at hv
        · rename_i e1 e2
          obtain rfl := Option.some.inj hv
          have r1 := evs_rep hE hG h1 e1
          have r2 := evs_rep hE hG h2 e2
          refine ⟨_, run, ?_⟩
          have l1 := r1.length
          have l2 := r2.length
          have f1 : first = #[] := by simpa using l1.symm
          have f2 : caps = #[] := by simpa using l2.symm
          subst f1 f2
          exact .p (by simpa using RepP.fn f)
        · rename_i u v' _ e1 e2
          obtain rfl := Option.some.inj hv
          have r1 := evs_rep hE hG h1 e1
          have r2 := evs_rep hE hG h2 e2
          exact ⟨_, run, .clo (by simpa using r1) (by simpa using r2)⟩
        · cases hv
      · cases hc
    | _ => simp [cOp] at hc
  | makeMap t r => simp [cOp] at hc
  | makeChan t s => simp [cOp] at hc
  | makeSlice t l c =>
    simp only [cOp] at hc
    split at hc
    · split at hc
      · obtain rfl := Option.some.inj hc; simp [pureOp] at hv
      · cases hc
    · cases hc
  | slice t x lo hi mx =>
    simp only [cOp] at hc
    split at hc
    · rename_i h1
      split at hc
      · rename_i x' lo' hi' hx hlo hhi
        obtain rfl := Option.some.inj hc
        simp only [pureOp] at hv
        split at hv
        · rename_i s l h hu hl hh
          obtain ⟨sb, e, hs⟩ := (ev_rep hE hG hx hu).str
          obtain ⟨c, hc, hr⟩ := sliceA_str (P := P) h1 hs hv (evO_rep hE hG hlo hl) (evO_rep hE hG hhi hh) w'
          exact ⟨c, by simp [execOp, e, hc], hr⟩
        · cases hv
      · cases hc
    · rename_i e h1
      split at hc
      · rename_i s x' lo' hi' hs hx hlo hhi
        obtain rfl := Option.some.inj hc
        simp only [pureOp] at hv
        split at hv
        · rename_i u l h hu hl hh
          have rx := ev_rep hE hG hx hu
          split at hv
          · cases hv
          · rename_i hns
            obtain ⟨c, hc, hr⟩ := sliceA_slice (P := P) h1 hs hv rx (evO_rep hE hG hlo hl) (evO_rep hE hG hhi hh) w' hns
            exact ⟨c, by simp [execOp, hc], hr⟩
        · cases hv
      · cases hc
    · split at hc
      · obtain rfl := Option.some.inj hc; simp [pureOp] at hv
      · cases hc
    · rename_i e m h1
      split at hc
      · rename_i s lo hi hs
        split at hc
        · rename_i x' lo' hi' m' hx hlo hhi hm
          obtain rfl := Option.some.inj hc
          simp only [pureOp] at hv
          split at hv
          · rename_i u k1 k2 k3 hu e1 e2 e3
            have rx := ev_rep hE hG hx hu
            have r1 := (ev_rep hE hG hlo e1).int
            have r2 := (ev_rep hE hG hhi e2).int
            have r3 := (ev_rep hE hG hm e3).int
            have hsl : v = .e0 ∧ ∃ ad n c, a.eval x = .slice ad n c := by
              split at hv
              · exact ⟨(Option.some.inj hv).symm, let ⟨_, _, e, _⟩ := rx.vslP; ⟨_, _, _, e⟩⟩
              · exact ⟨(Option.some.inj hv).symm, let ⟨_, _, _, _, _, _, e⟩ := rx.slA; ⟨_, _, _, e⟩⟩
              · refine ⟨(Option.some.inj hv).symm, ?_⟩
                generalize a.eval x = c at rx
                cases rx
                exact ⟨_, _, _, rfl⟩
              · refine ⟨(Option.some.inj hv).symm, ?_⟩
                generalize a.eval x = c at rx
                cases rx
                exact ⟨_, _, _, rfl⟩
              · cases hv
            obtain ⟨rfl, ad, n, c, hsl⟩ := hsl
            exact ⟨.slice ad 0 0, by simp [execOp, hsl, r1, r2, r3, Instr.sliceAt, run_underlying h1, Instr.slice, Instr.sliceBounds, Instr.sliceBound, asIntOf, run_size hs], .e0 ad⟩
          · cases hv
        · cases hc
      · cases hc
    · cases hc
  | fieldAddr t x f =>
    simp only [cOp] at hc
    split at hc
    · rename_i fs hu
      split at hc
      · rename_i fl hf
        split at hc
        · rename_i s y hs hy
          split at hc
          · cases hc
          · rename_i hs0
            obtain rfl := Option.some.inj hc
            have run : ∀ ad, a.eval x = .pointer (some ad) → (execOp a.eval { dst := dst, op := .fieldAddr t x f, type := oty, pos := pos, after := after, guard := guard }).run P w' = .ok (.value (.pointer (some (ad.add fl.offset)))) w' := by
              intro ad h
              simp [execOp, Instr.fieldAt, h, run_underlying hu, hf, Instr.sureAddr, fieldPlace, run_size hs, hs0]
            simp only [pureOp] at hv
            split at hv
            · rename_i id ver o hu'
              obtain rfl := Option.some.inj hv
              obtain ⟨b, n, hμ, e⟩ := (ev_rep hE hG hy hu').ptrA
              exact ⟨_, run _ e, by rw [Addr_add]; exact .ptr hμ⟩
            · rename_i cs hu'
              obtain rfl := Option.some.inj hv
              obtain ⟨b, o, e, hcs⟩ := (ev_rep hE hG hy hu').vptrP
              exact ⟨_, run _ e, by rw [Addr_add]; exact .p (.vptr (hcs.drop _))⟩
            · cases hv
        · cases hc
      · cases hc
    · cases hc
  | field t x f =>
    simp only [cOp] at hc
    split at hc
    · rename_i fs hu
      split at hc
      · rename_i fl hf
        split at hc
        · rename_i s ag y hs hag hy
          obtain rfl := Option.some.inj hc
          simp only [pureOp] at hv
          split at hv
          · rename_i cs hu'
            simp only [Option.map_eq_some_iff] at hv
            obtain ⟨z, hz, rfl⟩ := hv
            obtain ⟨cx, e, hcs, h1⟩ := (ev_rep hE hG hy hu').aggP
            obtain ⟨c, hc, hr, _⟩ := partP_rep (P := P) hag hs hz hcs h1 w'
            exact ⟨c, by simp [execOp, Instr.field, run_underlying hu, hf, e, asAgg, hc], .p hr⟩
          · rename_i cs hu'
            obtain ⟨cx, e, hcs, h1⟩ := (ev_rep hE hG hy hu').aggA
            obtain ⟨c, hc, hr⟩ := partC_av (P := P) hag hs hv hcs h1 w'
            exact ⟨c, by simp [execOp, Instr.field, run_underlying hu, hf, e, asAgg, hc], hr⟩
          · cases hv
        · cases hc
      · cases hc
    · cases hc
  | indexAddr t x i =>
    simp only [cOp] at hc
    split at hc
    · rename_i e hu
      split at hc
      · rename_i s x' i' hs hx hi
        obtain rfl := Option.some.inj hc
        simp only [pureOp] at hv
        split at hv
        · rename_i u u' h1 h2
          obtain ⟨c, hc, hr⟩ := idxA_rep (P := P) hu hs hv (ev_rep hE hG hx h1) (ev_rep hE hG hi h2) w'
          exact ⟨c, by simp [execOp, hc], hr⟩
        · cases hv
      · cases hc
    · rename_i n e hu
      split at hc
      · rename_i s x' i' hs hx hi
        obtain rfl := Option.some.inj hc
        simp only [pureOp] at hv
        split at hv
        · rename_i u u' h1 h2
          obtain ⟨c, hc, hr⟩ := idxArrA_rep (P := P) hu hs hv (ev_rep hE hG hx h1) (ev_rep hE hG hi h2) w'
          exact ⟨c, by simp [execOp, hc], hr⟩
        · cases hv
      · cases hc
    · cases hc
  | index t x i =>
    simp only [cOp] at hc
    split at hc
    · rename_i hu
      split at hc
      · rename_i x' i' hx hi
        obtain rfl := Option.some.inj hc
        simp only [pureOp] at hv
        split at hv
        · rename_i u u' h1 h2
          obtain ⟨c, hc, hr⟩ := atStrA_rep (P := P) hu hv (ev_rep hE hG hx h1) (ev_rep hE hG hi h2) w'
          exact ⟨c, by simp [execOp, hc], hr⟩
        · cases hv
      · cases hc
    · rename_i n e hu
      split at hc
      · rename_i s ag x' i' hs hag hx hi
        obtain rfl := Option.some.inj hc
        simp only [pureOp] at hv
        split at hv
        · rename_i u u' h1 h2
          obtain ⟨c, hc, hr⟩ := atArrA_rep (P := P) hu hs hag hv (ev_rep hE hG hx h1) (ev_rep hE hG hi h2) w'
          exact ⟨c, by simp [execOp, hc], hr⟩
        · cases hv
      · cases hc
    · cases hc
  | range t x =>
    simp only [cOp] at hc
    split at hc
    · simp only [Option.map_eq_some_iff] at hc
      obtain ⟨y, hy, rfl⟩ := hc
      simp [pureOp] at hv
    · cases hc
  | next x s =>
    cases s with
    | true =>
      simp only [cOp, Option.map_eq_some_iff] at hc
      obtain ⟨y, hy, rfl⟩ := hc
      simp [pureOp] at hv
    | false => simp [cOp] at hc
  | typeAssert x xt t ok =>
    simp only [cOp] at hc
    split at hc
    · cases hc
    · rename_i d hu hni
      split at hc
      · rename_i i hi
        split at hc
        · rename_i z hz
          split at hc
          · rename_i z' y hz' hy
            obtain rfl := Option.some.inj hc
            simp only [pureOp] at hv
            split at hv
            · rename_i u hu'
              obtain ⟨c, hc, hr⟩ := assertA_rep (P := P) (xt := xt) (fun ms e => by rw [hni] at e; exact hu ms (Option.some.inj e)) (by rw [hni]; rfl) hi hz (constAV_rep hz') hv (ev_rep hE hG hy hu') w'
              exact ⟨c, by simp [execOp, hc], hr⟩
            · cases hv
          · cases hc
        · cases hc
      · cases hc
    · cases hc
  | extract x i =>
    simp only [cOp, Option.map_eq_some_iff] at hc
    obtain ⟨y, hy, rfl⟩ := hc
    simp only [pureOp] at hv
    split at hv
    · rename_i u hu
      obtain ⟨c, hc, hr⟩ := extractA_rep (P := P) hv (ev_rep hE hG hy hu) w'
      exact ⟨c, by simp [execOp, hc], hr⟩
    · cases hv
  | panic x =>
    simp only [cOp, Option.map_eq_some_iff] at hc
    obtain ⟨y, hy, rfl⟩ := hc
    simp [pureOp] at hv
  | call c =>
    obtain ⟨callee, args, tys⟩ := c
    cases callee with
    | builtin b =>
      simp only [cOp] at hc
      obtain ⟨c, h1, h2⟩ := pure_builtin hE hG hc hv oty (args.map fun | .const _ => true | _ => false) w'
      exact ⟨c, by simp only [execOp, resolve, invoke, Sem.run_bind, Sem.run_pure, Result.andThen_ok]; exact h1, h2⟩
    | value f =>
      simp only [cOp] at hc
      split at hc
      · obtain rfl := Option.some.inj hc; simp [pureOp] at hv
      · cases hc
    | invoke r m => simp [cOp] at hc
  | defer c =>
    obtain ⟨callee, args, tys⟩ := c
    cases callee with
    | value f =>
      simp only [cOp] at hc
      split at hc
      · obtain rfl := Option.some.inj hc; simp [pureOp] at hv
      · cases hc
    | _ => simp [cOp] at hc
  | _ => simp [cOp] at hc

end

end Go.Ab
