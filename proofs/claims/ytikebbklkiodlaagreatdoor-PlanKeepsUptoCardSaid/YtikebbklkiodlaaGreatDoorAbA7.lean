/- A7 -/
import Derived.Test.YtikebbklkiodlaaGreatDoorAbA5
import Derived.Lib.UnsafeStr
import Derived.Lib.ConvBytes
import Derived.IntWalk
set_option maxRecDepth 1000000
set_option linter.all false
namespace Go.Ab
variable [Q4]
variable {S S' : Nat -> Nat -> Prop} {w w' : World} {μ μ' : Nat -> Nat -> Option (Nat × Nat)} {P : Program} {G : Bx}
theorem y4 {fs : List Field} {pl : List (Nat × Nat)} (h : Sj P fs = some pl) (w' : World) :
   (fs.mapM (fun f => do pure (f.offset, <- sizeOf f.type) : Field -> Sem (Nat × Nat))).run P w' = .ok pl w' := by
 induction fs generalizing pl with
 | nil => simp [Sj] at h; subst h; rfl
 | cons f r ih =>
   simp only [Sj] at h
   split at h
   · rename_i s l hs hl
     obtain rfl := Option.some.inj h
     simp only [List.mapM_cons, Sem.run_bind, Kr hs, Result.andThen_ok, Sem.run_pure, ih hl]
   · cases h
theorem xw {t : Nat} {z : List AV} (h : Qh4 P t = some z) (S : Nat -> Nat -> Prop) (w : World) (μ : Nat -> Nat -> Option (Nat × Nat)) :
   ∃ i c, P.info? t = some i /\ i.zero = some c /\ RepL S w μ z c.cells.toList /\ ∀ x ∈ c.cells.toList, one x = true := by
 unfold Qh4 at h
 split at h
 · rename_i i hi
   split at h
   · rename_i v hv
     obtain ⟨h1, h2⟩ := Qbo (S := S) (w := w) (μ := μ) h
     exact ⟨i, v, hi, hv, h1, h2⟩
   · cases h
 · cases h
section
variable {M : Env} {a : Act} (hE : EnvOK S w μ M a.tmps) (hG : GlobOK S w G)
include hE hG
theorem Qf2 {b : Builtin} {tys : Array Nat} {args : Array Operand} {ao : AOp} {v : AV} (hc : L2 P G b tys.toList args.toList = some ao) (hv : G2 M ao = some v)
   (type : TypeId) (cs : Array Bool) (w' : World) : ∃ c, (builtin b tys type cs (args.map a.eval)).run P w' = .ok (.value c) w' /\ Rep S w μ v c := by
 obtain ⟨tys⟩ := tys
 obtain ⟨args⟩ := args
 unfold L2 at hc
 split at hc
 · -- len
   rename_i t x h1 h2
   simp only at h1 h2
   subst h1 h2
   split at hc
   · rename_i hu
     simp only [Option.map_eq_some_iff] at hc
     obtain ⟨y, hy, rfl⟩ := hc
     simp only [G2] at hv
     split at hv
     · rename_i u hu'
       have hr := Jn hE hG hy hu'
       split at hv
       · obtain rfl := Option.some.inj hv
         obtain ⟨s, hs, rfl⟩ := hr.str
         refine ⟨.int .i64 s.size, ?_, .p (.int _ _)⟩
         simp [builtin, Builtin.len_, hs, run_underlying hu, goInt]
       all_goals first | cases hv | (rename_i hh; cases hh) | skip
       all_goals simp_all
     · cases hv
   · rename_i e hu
     simp only [Option.map_eq_some_iff] at hc
     obtain ⟨y, hy, rfl⟩ := hc
     simp only [G2] at hv
     split at hv
     · rename_i u hu'
       have hr := Jn hE hG hy hu'
       split at hv
       · rename_i h1; simp_all
       · cases hv
       · cases hv
       · rename_i v' b' hns hb
         split at hv
         · rename_i n hn
           obtain rfl := Option.some.inj hv
           obtain ⟨ad, c, hs⟩ := Qsd hn hr (fun s e => hns s (by simp_all))
           exact ⟨.int .i64 n, by simp [builtin, Builtin.len_, hs, run_underlying hu, goInt], .p (.int _ _)⟩
         · cases hv
     · cases hv
   · rename_i n e hu
     obtain rfl := Option.some.inj hc
     simp only [G2, Option.some.injEq] at hv
     subst hv
     exact ⟨.int .i64 n, by simp [builtin, Builtin.len_, run_underlying hu, goInt], .p (.int _ _)⟩
   · cases hc
 · -- append
   split at hc
   · split at hc
     · split at hc <;> first | (obtain rfl := Option.some.inj hc; simp [G2] at hv; done) | cases hc
     · cases hc
   · cases hc
 · -- copy
   split at hc
   · split at hc
     · obtain rfl := Option.some.inj hc; simp [G2] at hv
     · cases hc
   · cases hc
 · -- clear
   split at hc
   · split at hc
     · obtain rfl := Option.some.inj hc; simp [G2] at hv
     · cases hc
   · cases hc
 · -- max
   simp only [Option.map_eq_some_iff] at hc
   obtain ⟨ys, hys, rfl⟩ := hc
   simp only [G2] at hv
   split at hv
   · rename_i x r hxr
     have hr := W6 hE hG hys hxr
     obtain ⟨c, cl, e, h2, h3⟩ : ∃ c cl, args.map a.eval = c :: cl /\ Rep S w μ x c /\ RepL S w μ r cl := by
       generalize args.map a.eval = l at hr
       cases hr with | cons h hs => exact ⟨_, _, rfl, h, hs⟩
     obtain ⟨c', hc', hrep⟩ := Qj9 (P := P) hv h2 h3 w'
     refine ⟨c', ?_, hrep⟩
     simp only [if_true] at hc'
     simp [builtin, Builtin.max_, e, hc']
   · cases hv
 · -- min
   simp only [Option.map_eq_some_iff] at hc
   obtain ⟨ys, hys, rfl⟩ := hc
   simp only [G2] at hv
   split at hv
   · rename_i x r hxr
     have hr := W6 hE hG hys hxr
     obtain ⟨c, cl, e, h2, h3⟩ : ∃ c cl, args.map a.eval = c :: cl /\ Rep S w μ x c /\ RepL S w μ r cl := by
       generalize args.map a.eval = l at hr
       cases hr with | cons h hs => exact ⟨_, _, rfl, h, hs⟩
     obtain ⟨c', hc', hrep⟩ := Qj9 (P := P) hv h2 h3 w'
     refine ⟨c', ?_, hrep⟩
     simp only [Bool.false_eq_true, if_false] at hc'
     simp [builtin, Builtin.min_, e, hc']
   · cases hv
 · simp only [Option.map_eq_some_iff] at hc
   obtain ⟨ys, hys, rfl⟩ := hc
   simp [G2] at hv
 · obtain rfl := Option.some.inj hc
   simp [G2] at hv
 · -- unsafe.SliceData
   rename_i x h1
   simp only at h1
   subst h1
   simp only [Option.map_eq_some_iff] at hc
   obtain ⟨y, hy, rfl⟩ := hc
   simp only [G2] at hv
   split at hv
   · rename_i he
     obtain rfl := Option.some.inj hv
     have e := (Jn hE hG hy he).nil0_inv
     exact ⟨.pointer none, by simp [builtin, e, Lib.run_unsafeSliceData_nil], .p .nilptr⟩
   · rename_i id ver off n esz he
     obtain rfl := Option.some.inj hv
     obtain ⟨b, m, cap, k1, k2, k3, e⟩ := (Jn hE hG hy he).slA
     exact ⟨.pointer (some ⟨b, off, none⟩), by simp [builtin, e, Lib.run_unsafeSliceData_row _ _ _ _ _ _ (show cap ≠ 0 by omega)], .ptr k1⟩
   · cases hv
 · -- unsafe.String
   split at hc
   · split at hc
     · split at hc
       · obtain rfl := Option.some.inj hc; simp [G2] at hv
       · cases hc
     · cases hc
   · cases hc
 · cases hc
theorem Qcp {o : Oper} {ao : AOp} {v : AV} (hc : cOp P G o.op = some ao) (hv : G2 M ao = some v) (w' : World) :
   ∃ c, (execOp a.eval o).run P w' = .ok (.value c) w' /\ Rep S w μ v c := by
 obtain ⟨dst, op, oty, pos, after, guard⟩ := o
 simp only at hc
 cases op with
 | move x =>
   simp only [cOp, Option.map_eq_some_iff] at hc
   obtain ⟨y, hy, rfl⟩ := hc
   exact ⟨a.eval x, by simp [execOp], Jn hE hG hy hv⟩
 | assign x =>
   simp only [cOp, Option.map_eq_some_iff] at hc
   obtain ⟨y, hy, rfl⟩ := hc
   exact ⟨a.eval x, by simp [execOp], Jn hE hG hy hv⟩
 | pick c x y =>
   simp only [cOp] at hc
   split at hc
   · rename_i c' x' y' h1 h2 h3
     obtain rfl := Option.some.inj hc
     simp only [G2] at hv
     split at hv
     · rename_i b hb
       have hb' := (Jn hE hG h1 hb).bool
       cases b with
       | true => exact ⟨a.eval x, by simp [execOp, hb', asBool], Jn hE hG h2 (by simpa using hv)⟩
       | false => exact ⟨a.eval y, by simp [execOp, hb', asBool], Jn hE hG h3 (by simpa using hv)⟩
     · cases hv
   · cases hc
 | alloc e =>
   simp only [cOp, Option.map_eq_some_iff] at hc
   obtain ⟨y, hy, rfl⟩ := hc
   simp [G2] at hv
 | box e x =>
   simp only [cOp] at hc
   split at hc
   · obtain rfl := Option.some.inj hc; simp [G2] at hv
   · cases hc
 | build t parts =>
   simp only [cOp] at hc
   have key : ∀ (place : Nat -> Option (Nat × Nat)) (z : List AV) (ps : List (Nat × Nat × Opd)), Qh4 P t = some z -> yd P G place parts.toList = some ps -> ao = .build z ps ->
       ∃ c cs, (zeroValue t).run P w' = .ok c w' /\ Instr.fill place c.cells (parts.map fun (i, x) => (i, a.eval x)).toList = some cs /\ Rep S w μ v (.agg cs) := by
     intro place z ps hz hps hao
     subst hao
     simp only [G2] at hv
     split at hv
     · rename_i vs hvs
       simp only [Option.map_eq_some_iff] at hv
       obtain ⟨out, hout, rfl⟩ := hv
       obtain ⟨i, c, hi, hzc, hr, h1⟩ := xw hz S w μ
       obtain ⟨cs', e1, e2, e3, _⟩ := Qbg hE hG hps hvs hout hr h1
       refine ⟨c, cs', by simp [zeroValue, typeInfo, hi, hzc], ?_, za e2 e3⟩
       rw [<- e1]
       congr 1
       simp
     · cases hv
   split at hc
   · rename_i fs z hu hz
     split at hc
     · rename_i pl hpl
       simp only [Option.map_eq_some_iff] at hc
       obtain ⟨ps, hps, rfl⟩ := hc
       obtain ⟨c, cs, e1, e2, e3⟩ := key _ _ _ hz hps rfl
       refine ⟨.agg cs, ?_, e3⟩
       have hpl' := y4 hpl w'
       simp only [execOp, Instr.build, Sem.run_bind, e1, Result.andThen_ok, run_underlying hu]
       rw [show (fs.mapM fun f => do pure (f.offset, <- sizeOf f.type) : Sem (Array (Nat × Nat))).run P w' = .ok pl.toArray w' from by
         rw [Array.mapM_eq_mapM_toList]; simp only [Sem.run_map, hpl']; rfl]
       simp only [Result.andThen_ok, List.getElem?_toArray]
       rw [e2]
       simp
     · cases hc
   · rename_i n e z hu hz
     split at hc
     · rename_i s hs
       simp only [Option.map_eq_some_iff] at hc
       obtain ⟨ps, hps, rfl⟩ := hc
       obtain ⟨c, cs, e1, e2, e3⟩ := key _ _ _ hz hps rfl
       refine ⟨.agg cs, ?_, e3⟩
       simp only [execOp, Instr.build, Sem.run_bind, e1, Result.andThen_ok, run_underlying hu, Kr hs]
       rw [e2]
       simp
     · cases hc
   · cases hc
 | buildSlice t len parts =>
   simp only [cOp] at hc
   split at hc
   · split at hc
     · split at hc
       · simp only [Option.map_eq_some_iff] at hc
         obtain ⟨y, hy, rfl⟩ := hc
         simp [G2] at hv
       · cases hc
     · cases hc
   · cases hc
 | load t x =>
   simp only [cOp] at hc
   split at hc
   · obtain rfl := Option.some.inj hc; simp [G2] at hv
   · cases hc
 | store t x y =>
   simp only [cOp] at hc
   split at hc
   · obtain rfl := Option.some.inj hc; simp [G2] at hv
   · cases hc
 | nilCheck x =>
   simp only [cOp, Option.map_eq_some_iff] at hc
   obtain ⟨y, hy, rfl⟩ := hc
   simp only [G2] at hv
   refine ⟨a.eval x, ?_, ?_⟩
   · have key : ∀ c, ((∃ ad, c = .pointer (some ad)) ∨ (∃ f x y, c = .func (.func f) x y) ∨ ∃ t y, c = .iface t y) -> a.eval x = c ->
         (execOp a.eval { dst := dst, op := .nilCheck x, type := oty, pos := pos, after := after, guard := guard }).run P w' = .ok (.value c) w' := by
       rintro c (⟨ad, rfl⟩ | ⟨f, x, y, rfl⟩ | ⟨t, y, rfl⟩) h <;> simp [execOp, h]
     split at hv
     case h_7 => cases hv
     · rename_i hu
       obtain ⟨b, n, _, e⟩ := (Jn hE hG hy hu).ptrA
       exact key _ (.inl ⟨_, e⟩) rfl
     · rename_i hu
       obtain ⟨b, n, e, _⟩ := (Jn hE hG hy hu).vptrP
       exact key _ (.inl ⟨_, e⟩) rfl
     · rename_i hu
       have hr := Jn hE hG hy hu
       refine key _ (.inr (.inl ?_)) rfl
       generalize a.eval x = c at hr
       cases hr
       exact ⟨_, _, _, rfl⟩
     · rename_i hu
       have hr := (Jn hE hG hy hu).pv
       refine key _ (.inr (.inl ?_)) rfl
       generalize a.eval x = c at hr
       cases hr
       exact ⟨_, _, _, rfl⟩
     · rename_i hu
       have hr := (Jn hE hG hy hu).pv
       refine key _ (.inr (.inr ?_)) rfl
       generalize a.eval x = c at hr
       cases hr
       exact ⟨_, _, rfl⟩
     · rename_i hu
       have hr := Jn hE hG hy hu
       refine key _ (.inr (.inr ?_)) rfl
       generalize a.eval x = c at hr
       cases hr
       exact ⟨_, _, rfl⟩
   · split at hv
     case h_7 => cases hv
     all_goals
       rename_i hu
       have hr := Jn hE hG hy hu
       obtain rfl := Option.some.inj hv
       exact hr
 | binOp op t x y yt =>
   simp only [cOp] at hc
   split at hc
   · rename_i b x' y' hb h1 h2
     obtain rfl := Option.some.inj hc
     simp only [G2] at hv
     split at hv
     · rename_i u u' hu hu'
       obtain ⟨c, hc, hr⟩ := Qtc hb hv (Jn hE hG h1 hu) (Jn hE hG h2 hu') w'
       refine ⟨c, ?_, hr⟩
       simp only [execOp]
       rw [Sem.run_bind, hc]
       rfl
     · cases hv
   · cases hc
 | unOp u t x =>
   simp only [cOp, Option.map_eq_some_iff] at hc
   obtain ⟨y, hy, rfl⟩ := hc
   simp only [G2] at hv
   split at hv
   · rename_i u' hu
     obtain ⟨c, hc, hr⟩ := Qzk (P := P) hv (Jn hE hG hy hu) w'
     exact ⟨c, by simp [execOp, hc], hr⟩
   · cases hv
 | convert s d x =>
   simp only [cOp] at hc
   split at hc
   · rename_i k k' y h1 h2 hy
     obtain rfl := Option.some.inj hc
     simp only [G2] at hv
     split at hv
     · rename_i k2 n hn
       obtain rfl := Option.some.inj hv
       have e := (Jn hE hG hy hn).int
       exact ⟨.int k' (k'.wrap n), by simp [execOp, e, convert, run_underlying h1, run_underlying h2, Conv.intToInt], .p (.int _ _)⟩
     · cases hv
   · rename_i k y h1 h2 hy
     obtain rfl := Option.some.inj hc
     simp only [G2] at hv
     split at hv
     · rename_i k2 n hn
       obtain rfl := Option.some.inj hv
       have e := (Jn hE hG hy hn).int
       exact ⟨.string (Utf8.encode n), by simp [execOp, e, convert, run_underlying h1, run_underlying h2, Conv.intToString], .p (.str rfl)⟩
     · cases hv
   · rename_i y h1 h2 hy
     obtain rfl := Option.some.inj hc
     simp only [G2] at hv
     split at hv
     · rename_i l hl
       obtain rfl := Option.some.inj hv
       obtain ⟨s, e, rfl⟩ := (Jn hE hG hy hl).str
       exact ⟨.string s, by simp [execOp, e, convert, run_underlying h1, run_underlying h2], .p (.str rfl)⟩
     · cases hv
   · split at hc
     · obtain rfl := Option.some.inj hc; simp [G2] at hv
     · cases hc
   · split at hc
     · obtain rfl := Option.some.inj hc; simp [G2] at hv
     · cases hc
   · cases hc
 | sliceToArrayPointer d x => simp [cOp] at hc
 | makeInterface t x =>
   simp only [cOp] at hc
   split at hc
   · cases hc
   · rename_i d hni hd
     simp only [Option.map_eq_some_iff] at hc
     obtain ⟨y, hy, rfl⟩ := hc
     have run : (execOp a.eval { dst := dst, op := .makeInterface t x, type := oty, pos := pos, after := after, guard := guard }).run P w' = .ok (.value (.iface t (a.eval x))) w' := by
       cases d <;> first | exact absurd rfl (hni _) | simp [execOp, Instr.makeInterface, run_underlying hd]
     simp only [G2] at hv
     split at hv
     · rename_i u hu
       obtain rfl := Option.some.inj hv
       exact ⟨_, run, .p (.iface (Jn hE hG hy hu).pv)⟩
     · rename_i u _ hu
       obtain rfl := Option.some.inj hv
       exact ⟨_, run, .iface (Jn hE hG hy hu)⟩
     · cases hv
   · cases hc
 | makeFunc f first caps =>
   cases f with
   | func f =>
     simp only [cOp] at hc
     split at hc
     · rename_i x y h1 h2
       obtain rfl := Option.some.inj hc
       have run : (execOp a.eval { dst := dst, op := .makeFunc (.func f) first caps, type := oty, pos := pos, after := after, guard := guard }).run P w' = .ok (.value (.func (.func f) (first.map a.eval) (caps.map a.eval))) w' := by
         simp [execOp, Instr.makeFunc]
       simp only [G2] at hv
       split at hv
       · rename_i e1 e2
         obtain rfl := Option.some.inj hv
         have r1 := W6 hE hG h1 e1
         have r2 := W6 hE hG h2 e2
         refine ⟨_, run, ?_⟩
         have l1 := r1.length
         have l2 := r2.length
         have f1 : first = #[] := by simpa using l1.symm
         have f2 : caps = #[] := by simpa using l2.symm
         subst f1 f2
         exact .p (by simpa using RepP.fn f)
       · rename_i u v' _ e1 e2
         obtain rfl := Option.some.inj hv
         have r1 := W6 hE hG h1 e1
         have r2 := W6 hE hG h2 e2
         exact ⟨_, run, .clo (by simpa using r1) (by simpa using r2)⟩
       · cases hv
     · cases hc
   | _ => simp [cOp] at hc
 | makeMap t r => simp [cOp] at hc
 | makeChan t s => simp [cOp] at hc
 | makeSlice t l c =>
   simp only [cOp] at hc
   split at hc
   · split at hc
     · obtain rfl := Option.some.inj hc; simp [G2] at hv
     · cases hc
   · cases hc
 | slice t x lo hi mx =>
   simp only [cOp] at hc
   split at hc
   · rename_i h1
     split at hc
     · rename_i x' lo' hi' hx hlo hhi
       obtain rfl := Option.some.inj hc
       simp only [G2] at hv
       split at hv
       · rename_i s l h hu hl hh
         obtain ⟨sb, e, hs⟩ := (Jn hE hG hx hu).str
         obtain ⟨c, hc, hr⟩ := Qm3 (P := P) h1 hs hv (jh hE hG hlo hl) (jh hE hG hhi hh) w'
         exact ⟨c, by simp [execOp, e, hc], hr⟩
       · cases hv
     · cases hc
   · rename_i e h1
     split at hc
     · rename_i s x' lo' hi' hs hx hlo hhi
       obtain rfl := Option.some.inj hc
       simp only [G2] at hv
       split at hv
       · rename_i u l h hu hl hh
         have rx := Jn hE hG hx hu
         split at hv
         · cases hv
         · rename_i hns
           obtain ⟨c, hc, hr⟩ := Qhq (P := P) h1 hs hv rx (jh hE hG hlo hl) (jh hE hG hhi hh) w' hns
           exact ⟨c, by simp [execOp, hc], hr⟩
       · cases hv
     · cases hc
   · split at hc
     · obtain rfl := Option.some.inj hc; simp [G2] at hv
     · cases hc
   · rename_i e m h1
     split at hc
     · rename_i s lo hi hs
       split at hc
       · rename_i x' lo' hi' m' hx hlo hhi hm
         obtain rfl := Option.some.inj hc
         simp only [G2] at hv
         split at hv
         · rename_i u k1 k2 k3 hu e1 e2 e3
           have rx := Jn hE hG hx hu
           have r1 := (Jn hE hG hlo e1).int
           have r2 := (Jn hE hG hhi e2).int
           have r3 := (Jn hE hG hm e3).int
           have hsl : v = .e0 /\ ∃ ad n c, a.eval x = .slice ad n c := by
             split at hv
             · exact ⟨(Option.some.inj hv).symm, let ⟨_, _, e, _⟩ := rx.vslP; ⟨_, _, _, e⟩⟩
             · exact ⟨(Option.some.inj hv).symm, let ⟨_, _, _, _, _, _, e⟩ := rx.slA; ⟨_, _, _, e⟩⟩
             · refine ⟨(Option.some.inj hv).symm, ?_⟩
               generalize a.eval x = c at rx
               cases rx
               exact ⟨_, _, _, rfl⟩
             · refine ⟨(Option.some.inj hv).symm, ?_⟩
               generalize a.eval x = c at rx
               cases rx
               exact ⟨_, _, _, rfl⟩
             · cases hv
           obtain ⟨rfl, ad, n, c, hsl⟩ := hsl
           exact ⟨.slice ad 0 0, by simp [execOp, hsl, r1, r2, r3, Instr.sliceAt, run_underlying h1, Instr.slice, Instr.sliceBounds, Instr.sliceBound, asIntOf, Kr hs], .e0 ad⟩
         · cases hv
       · cases hc
     · cases hc
   · cases hc
 | fieldAddr t x f =>
   simp only [cOp] at hc
   split at hc
   · rename_i fs hu
     split at hc
     · rename_i fl hf
       split at hc
       · rename_i s y hs hy
         split at hc
         · cases hc
         · rename_i hs0
           obtain rfl := Option.some.inj hc
           have run : ∀ ad, a.eval x = .pointer (some ad) -> (execOp a.eval { dst := dst, op := .fieldAddr t x f, type := oty, pos := pos, after := after, guard := guard }).run P w' = .ok (.value (.pointer (some (ad.add fl.offset)))) w' := by
             intro ad h
             simp [execOp, Instr.fieldAt, h, run_underlying hu, hf, Instr.sureAddr, fieldPlace, Kr hs, hs0]
           simp only [G2] at hv
           split at hv
           · rename_i id ver o hu'
             obtain rfl := Option.some.inj hv
             obtain ⟨b, n, hμ, e⟩ := (Jn hE hG hy hu').ptrA
             exact ⟨_, run _ e, by rw [M7]; exact .ptr hμ⟩
           · rename_i cs hu'
             obtain rfl := Option.some.inj hv
             obtain ⟨b, o, e, hcs⟩ := (Jn hE hG hy hu').vptrP
             exact ⟨_, run _ e, by rw [M7]; exact .p (.vptr (hcs.drop _))⟩
           · cases hv
       · cases hc
     · cases hc
   · cases hc
 | field t x f =>
   simp only [cOp] at hc
   split at hc
   · rename_i fs hu
     split at hc
     · rename_i fl hf
       split at hc
       · rename_i s ag y hs hag hy
         obtain rfl := Option.some.inj hc
         simp only [G2] at hv
         split at hv
         · rename_i cs hu'
           simp only [Option.map_eq_some_iff] at hv
           obtain ⟨z, hz, rfl⟩ := hv
           obtain ⟨cx, e, hcs, h1⟩ := (Jn hE hG hy hu').aggP
           obtain ⟨c, hc, hr, _⟩ := zg (P := P) hag hs hz hcs h1 w'
           exact ⟨c, by simp [execOp, Instr.field, run_underlying hu, hf, e, asAgg, hc], .p hr⟩
         · rename_i cs hu'
           obtain ⟨cx, e, hcs, h1⟩ := (Jn hE hG hy hu').aggA
           obtain ⟨c, hc, hr⟩ := Qjx (P := P) hag hs hv hcs h1 w'
           exact ⟨c, by simp [execOp, Instr.field, run_underlying hu, hf, e, asAgg, hc], hr⟩
         · cases hv
       · cases hc
     · cases hc
   · cases hc
 | indexAddr t x i =>
   simp only [cOp] at hc
   split at hc
   · rename_i e hu
     split at hc
     · rename_i s x' i' hs hx hi
       obtain rfl := Option.some.inj hc
       simp only [G2] at hv
       split at hv
       · rename_i u u' h1 h2
         obtain ⟨c, hc, hr⟩ := Qsr (P := P) hu hs hv (Jn hE hG hx h1) (Jn hE hG hi h2) w'
         exact ⟨c, by simp [execOp, hc], hr⟩
       · cases hv
     · cases hc
   · rename_i n e hu
     split at hc
     · rename_i s x' i' hs hx hi
       obtain rfl := Option.some.inj hc
       simp only [G2] at hv
       split at hv
       · rename_i u u' h1 h2
         obtain ⟨c, hc, hr⟩ := Qin (P := P) hu hs hv (Jn hE hG hx h1) (Jn hE hG hi h2) w'
         exact ⟨c, by simp [execOp, hc], hr⟩
       · cases hv
     · cases hc
   · cases hc
 | index t x i =>
   simp only [cOp] at hc
   split at hc
   · rename_i hu
     split at hc
     · rename_i x' i' hx hi
       obtain rfl := Option.some.inj hc
       simp only [G2] at hv
       split at hv
       · rename_i u u' h1 h2
         obtain ⟨c, hc, hr⟩ := Qm8 (P := P) hu hv (Jn hE hG hx h1) (Jn hE hG hi h2) w'
         exact ⟨c, by simp [execOp, hc], hr⟩
       · cases hv
     · cases hc
   · rename_i n e hu
     split at hc
     · rename_i s ag x' i' hs hag hx hi
       obtain rfl := Option.some.inj hc
       simp only [G2] at hv
       split at hv
       · rename_i u u' h1 h2
         obtain ⟨c, hc, hr⟩ := Qm4 (P := P) hu hs hag hv (Jn hE hG hx h1) (Jn hE hG hi h2) w'
         exact ⟨c, by simp [execOp, hc], hr⟩
       · cases hv
     · cases hc
   · cases hc
 | range t x =>
   simp only [cOp] at hc
   split at hc
   · simp only [Option.map_eq_some_iff] at hc
     obtain ⟨y, hy, rfl⟩ := hc
     simp [G2] at hv
   · cases hc
 | next x s =>
   cases s with
   | true =>
     simp only [cOp, Option.map_eq_some_iff] at hc
     obtain ⟨y, hy, rfl⟩ := hc
     simp [G2] at hv
   | false => simp [cOp] at hc
 | typeAssert x xt t ok =>
   simp only [cOp] at hc
   split at hc
   · cases hc
   · rename_i d hu hni
     split at hc
     · rename_i i hi
       split at hc
       · rename_i z hz
         split at hc
         · rename_i z' y hz' hy
           obtain rfl := Option.some.inj hc
           simp only [G2] at hv
           split at hv
           · rename_i u hu'
             obtain ⟨c, hc, hr⟩ := Qi3 (P := P) (xt := xt) (fun ms e => by rw [hni] at e; exact hu ms (Option.some.inj e)) (by rw [hni]; rfl) hi hz (Qcf hz') hv (Jn hE hG hy hu') w'
             exact ⟨c, by simp [execOp, hc], hr⟩
           · cases hv
         · cases hc
       · cases hc
     · cases hc
   · cases hc
 | extract x i =>
   simp only [cOp, Option.map_eq_some_iff] at hc
   obtain ⟨y, hy, rfl⟩ := hc
   simp only [G2] at hv
   split at hv
   · rename_i u hu
     obtain ⟨c, hc, hr⟩ := Qho (P := P) hv (Jn hE hG hy hu) w'
     exact ⟨c, by simp [execOp, hc], hr⟩
   · cases hv
 | panic x =>
   simp only [cOp, Option.map_eq_some_iff] at hc
   obtain ⟨y, hy, rfl⟩ := hc
   simp [G2] at hv
 | call c =>
   obtain ⟨callee, args, tys⟩ := c
   cases callee with
   | builtin b =>
     simp only [cOp] at hc
     obtain ⟨c, h1, h2⟩ := Qf2 hE hG hc hv oty (args.map fun | .const _ => true | _ => false) w'
     exact ⟨c, by simp only [execOp, resolve, invoke, Sem.run_bind, Sem.run_pure, Result.andThen_ok]; exact h1, h2⟩
   | value f =>
     simp only [cOp] at hc
     split at hc
     · obtain rfl := Option.some.inj hc; simp [G2] at hv
     · cases hc
   | invoke r m => simp [cOp] at hc
 | defer c =>
   obtain ⟨callee, args, tys⟩ := c
   cases callee with
   | value f =>
     simp only [cOp] at hc
     split at hc
     · obtain rfl := Option.some.inj hc; simp [G2] at hv
     · cases hc
   | _ => simp [cOp] at hc
 | _ => simp [cOp] at hc
end
end Go.Ab
namespace Go.Ab
variable [Q4]
variable {S S' : Nat -> Nat -> Prop} {w w' w1 : World} {μ μ' : Nat -> Nat -> Option (Nat × Nat)} {P : Program} {G : Bx} {σ σ' : Heap}
def ext (μ : Nat -> Nat -> Option (Nat × Nat)) (id ver : Nat) (x : Nat × Nat) : Nat -> Nat -> Option (Nat × Nat) :=
 fun i v => if i = id /\ v = ver then some x else μ i v
theorem Gx (μ : Nat -> Nat -> Option (Nat × Nat)) (id ver : Nat) (x : Nat × Nat) : ext μ id ver x id ver = some x := by simp [ext]
theorem Bt {id ver i v : Nat} {x : Nat × Nat} (h : ¬ (i = id /\ v = ver)) : ext μ id ver x i v = μ i v := by simp [ext, h]
theorem E7 {b o : Nat} (h : w'.heap[b]? = w.heap[b]?) : w'.cell? ⟨b, o, none⟩ = w.cell? ⟨b, o, none⟩ := by
 simp [World.cell?, h]
theorem ObjOK.mono {id : Nat} {o : Obj} (h : ObjOK S w μ id o) (hS : ∀ b o, S b o -> S' b o /\ w'.cell? ⟨b, o, none⟩ = w.cell? ⟨b, o, none⟩)
   (hμ : ∀ id ver x, μ id ver = some x -> μ' id ver = some x) (hb : ∀ b n, μ id o.ver = some (b, n) -> w'.heap[b]? = w.heap[b]?)
   (hN : ∀ b n, o.live = true -> μ id o.ver = some (b, n) -> ∀ j, S' b j -> S b j) : ObjOK S' w' μ' id o := by
 cases o with
 | arr c ver wm ty =>
   obtain ⟨b, n, h1, vs, e, lo, hi, h2, h3, h4, h5, h6, h7⟩ := h
   refine ⟨b, n, hμ _ _ _ h1, vs, e, lo, hi, (hb b n h1).trans h2, h3, h4, fun j v hv => ?_, fun j hj hjn => ⟨fun hs => (h6 j hj hjn).1 (hN b n rfl h1 j hs), (h6 j hj hjn).2⟩, h7⟩
   obtain ⟨cv, hc, h1, hr⟩ := h5 j v hv
   exact ⟨cv, hc, h1, hr.mono hS hμ⟩
 | iter s pos =>
   obtain ⟨b, n, cs, h1, h2, h3⟩ := h
   exact ⟨b, n, cs, hμ _ _ _ h1, (hb b n h1).trans h2, h3⟩
 | loop k ts c st =>
   obtain ⟨b, n, rec, h1, h2, h3, h4, h5⟩ := h
   exact ⟨b, n, rec, hμ _ _ _ h1, (hb b n h1).trans h2, h3, h4, fun j t v ht hj => (h5 j t v ht hj).mono hS hμ⟩
 | mark =>
   obtain ⟨b, n, h1, h2⟩ := h
   exact ⟨b, n, hμ _ _ _ h1, (hb b n h1).trans h2⟩
 | none => trivial
theorem ObjOK.block {id : Nat} {o : Obj} (h : ObjOK S w μ id o) (hl : o.live = true) : ∃ b n, μ id o.ver = some (b, n) /\ b < w.heap.size := by
 cases o with
 | arr c ver wm ty =>
   obtain ⟨b, n, h1, vs, e, lo, hi, h2, _⟩ := h
   exact ⟨b, n, h1, (Array.getElem?_eq_some_iff.1 h2).1⟩
 | iter s pos =>
   obtain ⟨b, n, cs, h1, h2, _⟩ := h
   exact ⟨b, n, h1, (Array.getElem?_eq_some_iff.1 h2).1⟩
 | loop k ts c st =>
   obtain ⟨b, n, rec, h1, h2, _⟩ := h
   exact ⟨b, n, h1, (Array.getElem?_eq_some_iff.1 h2).1⟩
 | mark =>
   obtain ⟨b, n, h1, h2⟩ := h
   exact ⟨b, n, h1, (Array.getElem?_eq_some_iff.1 h2).1⟩
 | none => cases hl
structure SameOut (w w' : World) : Prop where
 os : w'.os = w.os
 tape : w'.tape = w.tape
 output : w'.output = w.output
theorem Xc {o : Obj} {n : Nat} (hg : Good μ S w σ) (hold : ∀ b, b < w.heap.size -> w1.heap[b]? = w.heap[b]?) (hsz : w1.heap.size = w.heap.size + 1) (ho : SameOut w w1) (hv : o.ver = 0)
   (hobj : ObjOK S w1 (ext μ σ.length 0 (w.heap.size, n)) σ.length o) :
   Good (ext μ σ.length 0 (w.heap.size, n)) S w1 (σ ++ [o]) /\ Frm μ S w σ (ext μ σ.length 0 (w.heap.size, n)) S w1 (σ ++ [o]) := by
 have hS : ∀ b o, S b o -> S b o /\ w1.cell? ⟨b, o, none⟩ = w.cell? ⟨b, o, none⟩ := fun b o h => ⟨h, E7 (hold b (hg.sb b o h))⟩
 have hfresh : ∀ v, μ σ.length v = none := by
   intro v
   cases h : μ σ.length v with
   | none => rfl
   | some x => obtain ⟨o, ho, _⟩ := hg.old _ _ _ h; simp at ho
 have hμ : ∀ id ver x, μ id ver = some x -> ext μ σ.length 0 (w.heap.size, n) id ver = some x := by
   intro id ver x h
   rw [Bt]
   · exact h
   · rintro ⟨rfl, rfl⟩; rw [hfresh] at h; cases h
 have hget : ∀ id o', (σ ++ [o])[id]? = some o' -> (id < σ.length /\ σ[id]? = some o') ∨ (id = σ.length /\ o' = o) := by
   intro id o' h
   by_cases hid : id < σ.length
   · rw [List.getElem?_append_left hid] at h; exact .inl ⟨hid, h⟩
   · rw [List.getElem?_append_right (by omega)] at h
     have : id - σ.length = 0 := by
       rcases Nat.eq_zero_or_pos (id - σ.length) with h0 | h0
       · exact h0
       · rw [List.getElem?_eq_none (by simp; omega)] at h; cases h
     rw [this] at h
     exact .inr ⟨by omega, (Option.some.inj h).symm⟩
 have hne : ∀ id o' b m, σ[id]? = some o' -> o'.live = true -> ext μ σ.length 0 (w.heap.size, n) id o'.ver = some (b, m) -> b < w.heap.size := by
   intro id o' b m h1 h2 h3
   have hid : id < σ.length := (List.getElem?_eq_some_iff.1 h1).1
   rw [Bt (by omega)] at h3
   obtain ⟨_, _, _, hx⟩ := hg.old _ _ _ h3
   exact hx
 refine ⟨⟨?_, ?_, ?_, ?_⟩, ⟨ho.os, ho.tape, ho.output, by omega, hS, fun b hb _ => hold b hb, fun b o h => .inl h, ?_, hμ⟩⟩
 · intro id o' h
   rcases hget id o' h with ⟨hid, h⟩ | ⟨rfl, rfl⟩
   · exact (hg.obj id o' h).mono hS hμ (fun b m hb => hold b (by obtain ⟨_, _, _, hx⟩ := hg.old _ _ _ hb; exact hx)) (fun _ _ _ _ _ h => h)
   · exact hobj
 · intro id id' o1 o2 b m m' h1 h2 l1 l2 e1 e2
   rcases hget id o1 h1 with ⟨hid, g1⟩ | ⟨i1, j1⟩ <;> rcases hget id' o2 h2 with ⟨hid', g2⟩ | ⟨i2, j2⟩
   · rw [Bt (by omega)] at e1 e2
     exact hg.inj _ _ _ _ _ _ _ g1 g2 l1 l2 e1 e2
   · have := hne _ _ _ _ g1 l1 e1
     rw [i2, j2, hv, Gx] at e2
     cases e2
     omega
   · have := hne _ _ _ _ g2 l2 e2
     rw [i1, j1, hv, Gx] at e1
     cases e1
     omega
   · omega
 · intro id ver x h
   by_cases hid : id = σ.length /\ ver = 0
   · obtain ⟨rfl, rfl⟩ := hid
     rw [Gx] at h
     cases h
     exact ⟨o, by simp, by omega, by simp [hsz]⟩
   · rw [Bt hid] at h
     obtain ⟨o', h1, h2, h3⟩ := hg.old _ _ _ h
     exact ⟨o', by rw [List.getElem?_append_left (List.getElem?_eq_some_iff.1 h1).1]; exact h1, h2, by omega⟩
 · intro b o h
   have := hg.sb b o h
   omega
 · rintro b ⟨id, o', m, h1, h2, h3⟩
   rcases hget id o' h1 with ⟨hid, h1⟩ | ⟨rfl, rfl⟩
   · rw [Bt (by omega)] at h3
     exact .inl ⟨id, o', m, h1, h2, h3⟩
   · rw [hv, Gx] at h3
     cases h3
     exact .inr (Nat.le_refl _)
theorem Mu (w : World) (o : Go.Obj) (b : Nat) (hb : b < w.heap.size) : (w.alloc o).heap[b]? = w.heap[b]? := by
 show (w.heap.push o)[b]? = _
 rw [Array.getElem?_push, if_neg (by omega)]
theorem Lx (w : World) (o : Go.Obj) : (w.alloc o).heap[w.heap.size]? = some o := by
 show (w.heap.push o)[w.heap.size]? = _
 simp
theorem Fe (w : World) (o : Go.Obj) : (w.alloc o).heap.size = w.heap.size + 1 := by
 show (w.heap.push o).size = _
 simp
theorem zw {c : Q1} {vs : Array Value} {e lo hi n : Nat} {id ver b wm : Nat} (hb : w1.heap[b]? = some (.cells vs e (lo, hi))) (hμ : μ id ver = some (b, n)) (hn : vs.size = n)
   (hl : c.len <= n) (hr : RepL S w1 μ c.toList (vs.toList.take c.len)) (h1 : ∀ x ∈ vs.toList.take c.len, one x = true) (hs : ∀ j, ¬ S b j) (hf : hi <= lo ∨ n <= lo) {ty : Option Nat} (hty : ∀ t, ty = some t -> e = t /\ (hi = lo ∨ hi <= wm) := by first | (intro _ h; cases h; done) | (intro _ h; cases h; exact ⟨rfl, .inl rfl⟩)) : ObjOK S w1 μ id (.arr c ver wm ty) := by
 refine ⟨b, n, hμ, vs, e, lo, hi, hb, hn, hl, fun j v hv => ?_, fun j _ hjn => ⟨hs j, by omega⟩, hty⟩
 rw [Q1.get?_toList] at hv
 obtain ⟨cv, hc, hrep⟩ := hr.get hv
 refine ⟨cv, ?_, h1 cv (List.mem_of_getElem? hc), hrep⟩
 rw [List.getElem?_take] at hc
 split at hc
 · simpa using hc
 · cases hc
theorem Qul {l : List UInt8} : RepL S w μ ((l.map fun b => PV.int .u8 b.toNat).map .p) (l.map fun b => Value.int .u8 b.toNat) := by
 induction l with
 | nil => exact .nil
 | cons b r ih => exact .cons (.p (.int _ _)) ih
theorem P6 {z : List AV} {zc : List Value} (h : RepL S w μ z zc) (n : Nat) : RepL S w μ (Zo z n) (List.replicate n zc).flatten := by
 unfold Zo
 induction n with
 | zero => exact .nil
 | succ n ih => simp only [List.replicate_succ, List.flatten_cons]; exact h.append ih
theorem R6 (z : List AV) (n : Nat) : (repZ z n).toList = Zo z n := by
 unfold repZ
 split
 · rename_i v h
   rw [wn h]
   simp [Q1.toList, Zo]
 · exact By _
theorem Xv (z : Array Value) (n : Nat) (hz : 0 < z.size) : ((Array.range (n * z.size)).map fun i => z[i % z.size]!).toList = (List.replicate n z.toList).flatten := by
 apply List.ext_getElem?
 intro i
 simp only [Array.toList_map, List.getElem?_map, Array.toList_range]
 have hfl : ∀ (n i : Nat), ((List.replicate n z.toList).flatten)[i]? = if i < n * z.size then z.toList[i % z.size]? else none := by
   intro n
   induction n with
   | zero => intro i; simp
   | succ n ih =>
     intro i
     rw [List.replicate_succ, List.flatten_cons]
     by_cases h : i < z.size
     · rw [List.getElem?_append_left (by simpa using h), if_pos (by rw [Nat.succ_mul]; omega), Nat.mod_eq_of_lt h]
     · rw [List.getElem?_append_right (by simpa using h), ih]
       simp only [Array.length_toList]
       rw [Nat.mod_eq_sub_mod (by omega : i ≥ z.size)]
       by_cases h2 : i - z.size < n * z.size
       · rw [if_pos h2, if_pos (by rw [Nat.succ_mul]; omega)]
       · rw [if_neg h2, if_neg (by rw [Nat.succ_mul]; omega)]
 rw [hfl]
 by_cases h : i < n * z.size
 · rw [if_pos h]
   have hm : i % z.size < z.size := Nat.mod_lt _ hz
   simp [h, hm]
 · rw [if_neg h]
   simp [h]
theorem Xl {e sz : Nat} {z : List AV} (h : yf P e = some (sz, z)) (S : Nat -> Nat -> Prop) (w : World) (μ : Nat -> Nat -> Option (Nat × Nat)) :
   ∃ i c, P.info? e = some i /\ i.size = sz /\ i.zero = some c /\ 0 < sz /\ z.length = sz /\ i.bytes <= 4096 /\ RepL S w μ z c.cells.toList /\ c.cells.size = sz /\ ∀ x ∈ c.cells.toList, one x = true := by
 unfold yf at h
 split at h
 · rename_i i hi
   split at h
   · rename_i v hv
     split at h
     · rename_i z' hz
       split at h
       · rename_i hcond
         simp only [Option.some.injEq, Prod.mk.injEq] at h
         obtain ⟨rfl, rfl⟩ := h
         obtain ⟨h1, h2⟩ := Qbo (S := S) (w := w) (μ := μ) hz
         exact ⟨i, v, hi, rfl, hv, hcond.1, hcond.2.1, hcond.2.2, h1, by have := h1.length; simp at this; omega, h2⟩
       · cases h
     · cases h
   · cases h
 · cases h
theorem P0 {zc : List Value} (h : ∀ x ∈ zc, one x = true) (n : Nat) : ∀ x ∈ (List.replicate n zc).flatten, one x = true := by
 intro x hx
 simp only [List.mem_flatten, List.mem_replicate] at hx
 obtain ⟨l, ⟨_, rfl⟩, hx⟩ := hx
 exact h x hx
section
variable {M : Env} {a : Act} (hE : EnvOK S w μ M a.tmps) (hG : GlobOK S w G) (hg : Good μ S w σ)
include hE hG hg
def Made (P : Program) (S : Nat -> Nat -> Prop) (w : World) (μ : Nat -> Nat -> Option (Nat × Nat)) (σ : Heap) (e : Sem Next) (ob : Obj) (f : Nat -> AV) : Prop :=
 ∃ c w1 n, e.run P w = .ok (.value c) w1 /\ Good (ext μ σ.length 0 (w.heap.size, n)) S w1 (σ ++ [ob]) /\ Frm μ S w σ (ext μ σ.length 0 (w.heap.size, n)) S w1 (σ ++ [ob]) /\
   Rep S w1 (ext μ σ.length 0 (w.heap.size, n)) (f σ.length) c
omit hE hG in
theorem wg {e : Sem Next} {c : Q1} {vs : Array Value} {et lo hi : Nat} {f : Nat -> AV} {cv : Value} {w1 : World}
   (hrun : e.run P w = .ok (.value cv) w1) (hold : ∀ b, b < w.heap.size -> w1.heap[b]? = w.heap[b]?) (hsz : w1.heap.size = w.heap.size + 1)
   (hb : w1.heap[w.heap.size]? = some (.cells vs et (lo, hi))) (ho : SameOut w w1) (hl : c.len <= vs.size)
   (hr : RepL S w μ c.toList (vs.toList.take c.len)) (h1 : ∀ x ∈ vs.toList.take c.len, one x = true) (hf : hi <= lo ∨ vs.size <= lo)
   (hv : Rep S w1 (ext μ σ.length 0 (w.heap.size, vs.size)) (f σ.length) cv) {ty : Option Nat} (hty : ∀ t, ty = some t -> et = t /\ (hi = lo ∨ hi <= 0) := by first | (intro _ h; cases h; done) | (intro _ h; cases h; exact ⟨rfl, .inl rfl⟩)) : Made P S w μ σ e (.arr c 0 0 ty) f := by
 have hS : ∀ b o, S b o -> S b o /\ w1.cell? ⟨b, o, none⟩ = w.cell? ⟨b, o, none⟩ := by
   intro b o h
   exact ⟨h, E7 (hold b (hg.sb b o h))⟩
 have hμ : ∀ id ver x, μ id ver = some x -> ext μ σ.length 0 (w.heap.size, vs.size) id ver = some x := by
   intro id ver x h
   rw [Bt]
   · exact h
   · rintro ⟨rfl, rfl⟩
     obtain ⟨o, ho, _⟩ := hg.old _ _ _ h
     simp at ho
 obtain ⟨g1, g2⟩ := Xc (o := .arr c 0 0 ty) (n := vs.size) hg hold hsz ho rfl
   (zw hb (Gx _ _ _ _) rfl hl (hr.mono hS hμ) h1 (fun j hs => absurd (hg.sb _ _ hs) (by omega)) hf hty)
 exact ⟨cv, w1, vs.size, hrun, g1, g2, hv⟩
omit hg in
theorem Qp0 {o : Oper} {z : List AV} {len s : Nat} {ps : List (Nat × Nat × Opd)} {vs : List (Nat × Nat × AV)} {out : List AV} (hc : cOp P G o.op = some (.buildSlice z len s ps)) (hvs : Uw M ps = some vs) (hout : Qe7 (Zo z len) vs = some out) :
   ∃ (cs : Array Value) (e : TypeId), (execOp a.eval o).run P w = .ok (.value (.slice (some ⟨w.heap.size, 0, none⟩) len len)) (w.alloc (.cells cs e)) /\ RepL S w μ out cs.toList /\ ∀ x ∈ cs.toList, one x = true := by
 obtain ⟨dst, op, oty, pos, after, guard⟩ := o
 simp only at hc
 cases op <;> simp only [cOp] at hc
 case buildSlice t len' parts =>
   split at hc
   · rename_i e hu
     split at hc
     · rename_i s' z' hel
       split at hc
       · rename_i hlim
         simp only [Option.map_eq_some_iff] at hc
         obtain ⟨ps', hps, hpe⟩ := hc
         cases hpe
         obtain ⟨i, c, hi, hs, hzc, h0, hzl, hby, hr, hcs, h1⟩ := Xl hel S w μ
         have hrep := P6 hr len
         have hbase : ((Array.range (len * c.cells.size)).map fun i => c.cells[i % c.cells.size]!).toList = (List.replicate len c.cells.toList).flatten := Xv _ _ (by omega)
         rw [<- hbase] at hrep
         obtain ⟨cs', e1, e2, e3, e4⟩ := Qbg hE hG hps hvs hout hrep (by rw [hbase]; exact P0 h1 _)
         have hsz : cs'.size = len * s := by rw [e4]; simp [hcs]
         have hrun : (execOp a.eval { dst := dst, op := .buildSlice t len parts, type := oty, pos := pos, after := after, guard := guard }).run P w =
             .ok (.value (.slice (some ⟨w.heap.size, 0, none⟩) len len)) (w.alloc (.cells cs' e)) := by
           have hparts : (parts.map fun (i, x) => (i, a.eval x)).toList = parts.toList.map fun x => (x.1, a.eval x.2) := by rw [Array.toList_map]
           have hsize : (sizeOf e).run P w = .ok s w := by simp [sizeOf, typeInfo, hi, hs]
           simp only [execOp, Instr.buildSlice, Sem.run_bind, run_underlying hu, Result.andThen_ok, hsize]
           rw [if_neg (by omega)]
           by_cases hl0 : len * s = 0
           · have harr : (Array.range (len * s)).map (fun x => (#[] : Array Value)[x % (#[] : Array Value).size]!) = (Array.range (len * c.cells.size)).map fun i => c.cells[i % c.cells.size]! := by
               rw [hcs, hl0]; simp
             rw [if_pos hl0]
             simp only [Sem.run_bind, Sem.run_pure, Result.andThen_ok, harr, hparts, e1]
             simp [newRow]
           · have hz : (zeroValue e).run P w = .ok c w := by simp [zeroValue, typeInfo, hi, hzc]
             rw [if_neg hl0]
             have harr : (Array.range (len * s)).map (fun x => c.cells[x % c.cells.size]!) = (Array.range (len * c.cells.size)).map fun i => c.cells[i % c.cells.size]! := by rw [hcs]
             simp only [Sem.run_bind, hz, Sem.run_pure, Result.andThen_ok, harr, hparts, e1]
             simp [newRow]
         exact ⟨cs', e, hrun, e2, e3⟩
       · cases hc
     · cases hc
   · cases hc
 all_goals exact absurd hc (by repeat' (first | contradiction | split | simp | unfold L2))
theorem Qi1 {o : Oper} {ao : AOp} {ob : Obj} {f : Nat -> AV} (hc : cOp P G o.op = some ao) (hv : Jp M ao = some (ob, f)) : Made P S w μ σ (execOp a.eval o) ob f := by
 obtain ⟨dst, op, oty, pos, after, guard⟩ := o
 simp only at hc
 have noPure : ∀ x, ao = x -> Jp M x = some (ob, f) := fun x h => h ▸ hv
 cases op with
 | alloc t =>
   simp only [cOp, Option.map_eq_some_iff] at hc
   obtain ⟨z, hz, rfl⟩ := hc
   simp only [Jp, Option.some.injEq, Prod.mk.injEq] at hv
   obtain ⟨rfl, rfl⟩ := hv
   obtain ⟨i, c, hi, hzc, hr, h1⟩ := xw hz S w μ
   have hl : (Kp z).len = c.cells.size := by rw [Q1.len_toList, By, hr.length, Array.length_toList]
   refine wg hg (cv := .pointer (some ⟨w.heap.size, 0, none⟩)) (w1 := w.alloc (.cells c.cells t)) (vs := c.cells) (et := t) (lo := 0) (hi := 0)
     (by simp [execOp, Instr.alloc, zeroValue, typeInfo, hi, hzc, newVar, newRow]) (Mu _ _) (Fe _ _) (Lx _ _) ⟨rfl, rfl, rfl⟩ (by omega) ?_ ?_ (.inl (Nat.le_refl _)) ?_
   · rw [By, hl, <- Array.length_toList, List.take_length]; exact hr
   · rw [hl, <- Array.length_toList, List.take_length]; exact h1
   · exact .ptr (Gx _ _ _ _)
 | box t x =>
   simp only [cOp] at hc
   split at hc
   · rename_i n y hn hy
     obtain rfl := Option.some.inj hc
     simp only [Jp] at hv
     split at hv
     · rename_i v hv'
       split at hv
       · rename_i hcond
         simp only [Option.some.injEq, Prod.mk.injEq] at hv
         obtain ⟨rfl, rfl⟩ := hv
         obtain ⟨hr, h1⟩ := Qam (Jn hE hG hy hv') hcond.1
         have hl : v.toCells.len = (a.eval x).cells.size := by rw [Q1.len_toList, Pr, hr.length, Array.length_toList]
         refine wg hg (cv := .pointer (some ⟨w.heap.size, 0, none⟩)) (w1 := w.alloc (.cells (a.eval x).cells t)) (vs := (a.eval x).cells) (et := t) (lo := 0) (hi := 0)
           (by simp [execOp, Instr.box, newVar, newRow]) (Mu _ _) (Fe _ _) (Lx _ _) ⟨rfl, rfl, rfl⟩ (by omega) ?_ ?_ (.inl (Nat.le_refl _)) ?_
         · rw [Pr, hl, <- Array.length_toList, List.take_length]; exact hr
         · rw [hl, <- Array.length_toList, List.take_length]; exact h1
         · exact .ptr (Gx _ _ _ _)
       · cases hv
     · cases hv
   · cases hc
 | buildSlice t len parts =>
   simp only [cOp] at hc
   split at hc
   · rename_i e hu
     split at hc
     · rename_i s z hel
       split at hc
       · rename_i hlim
         simp only [Option.map_eq_some_iff] at hc
         obtain ⟨ps, hps, rfl⟩ := hc
         simp only [Jp] at hv
         split at hv
         · rename_i vs hvs
           split at hv
           · rename_i out hout
             simp only [Option.some.injEq, Prod.mk.injEq] at hv
             obtain ⟨rfl, rfl⟩ := hv
             obtain ⟨i, c, hi, hs, hzc, h0, hzl, hby, hr, hcs, h1⟩ := Xl hel S w μ
             have hrep := P6 hr len
             have hbase : ((Array.range (len * c.cells.size)).map fun i => c.cells[i % c.cells.size]!).toList = (List.replicate len c.cells.toList).flatten := Xv _ _ (by omega)
             rw [<- hbase] at hrep
             obtain ⟨cs', e1, e2, e3, e4⟩ := Qbg hE hG hps hvs hout hrep (by rw [hbase]; exact P0 h1 _)
             have hsz : cs'.size = len * s := by rw [e4]; simp [hcs]
             have hl : (Kp out).len = cs'.size := by rw [Q1.len_toList, By, e2.length, Array.length_toList]
             have hrun : (execOp a.eval { dst := dst, op := .buildSlice t len parts, type := oty, pos := pos, after := after, guard := guard }).run P w =
                 .ok (.value (.slice (some ⟨w.heap.size, 0, none⟩) len len)) (w.alloc (.cells cs' e)) := by
               have hparts : (parts.map fun (i, x) => (i, a.eval x)).toList = parts.toList.map fun x => (x.1, a.eval x.2) := by rw [Array.toList_map]
               have hsize : (sizeOf e).run P w = .ok s w := by simp [sizeOf, typeInfo, hi, hs]
               simp only [execOp, Instr.buildSlice, Sem.run_bind, run_underlying hu, Result.andThen_ok, hsize]
               rw [if_neg (by omega)]
               by_cases hl0 : len * s = 0
               · have harr : (Array.range (len * s)).map (fun x => (#[] : Array Value)[x % (#[] : Array Value).size]!) = (Array.range (len * c.cells.size)).map fun i => c.cells[i % c.cells.size]! := by
                   rw [hcs, hl0]; simp
                 rw [if_pos hl0]
                 simp only [Sem.run_bind, Sem.run_pure, Result.andThen_ok, harr, hparts, e1]
                 simp [newRow]
               · have hz : (zeroValue e).run P w = .ok c w := by simp [zeroValue, typeInfo, hi, hzc]
                 rw [if_neg hl0]
                 have harr : (Array.range (len * s)).map (fun x => c.cells[x % c.cells.size]!) = (Array.range (len * c.cells.size)).map fun i => c.cells[i % c.cells.size]! := by rw [hcs]
                 simp only [Sem.run_bind, hz, Sem.run_pure, Result.andThen_ok, harr, hparts, e1]
                 simp [newRow]
             refine wg hg (vs := cs') (et := e) (lo := 0) (hi := 0) hrun (Mu _ _) (Fe _ _) (Lx _ _) ⟨rfl, rfl, rfl⟩ (by omega) ?_ ?_ (.inl (Nat.le_refl _)) ?_
             · rw [By, hl, <- Array.length_toList, List.take_length]; exact e2
             · rw [hl, <- Array.length_toList, List.take_length]; exact e3
             · exact .sl (Gx _ _ _ _) (Nat.le_refl _) (by omega)
           · cases hv
         · cases hv
       · cases hc
     · cases hc
   · cases hc
 | convert s d x =>
   simp only [cOp] at hc
   split at hc
   · obtain rfl := Option.some.inj hc; simp [Jp] at hv
   · obtain rfl := Option.some.inj hc; simp [Jp] at hv
   · obtain rfl := Option.some.inj hc; simp [Jp] at hv
   · rename_i e y h1 h2 hy
     split at hc
     · rename_i z he hel
       obtain rfl := Option.some.inj hc
       simp only [Jp] at hv
       split at hv
       · rename_i l hl
         split at hv
         · rename_i hlim
           simp only [Option.some.injEq, Prod.mk.injEq] at hv
           obtain ⟨rfl, rfl⟩ := hv
           obtain ⟨sb, hsb, rfl⟩ := (Jn hE hG hy hl).str
           have hcap : sb.size <= grownCap w sb.size 0 e := by simp only [grownCap, Question.cut]; omega
           have hsize : (Lib.bytesCells w e sb).size = grownCap w sb.size 0 e := by
             have : sb.data.size = sb.size := rfl
             simp [Lib.bytesCells]; omega
           have htake : (Lib.bytesCells w e sb).toList.take sb.data.toList.length = sb.data.toList.map fun b => Value.int .u8 b.toNat := by
             simp [Lib.bytesCells]
           have hlen : (Q1.pv (sb.data.toList.map fun b => PV.int .u8 b.toNat)).len = sb.data.toList.length := by simp [Q1.len]
           have hsl : sb.size = sb.data.toList.length := rfl
           refine wg hg (cv := .slice (some ⟨w.heap.size, 0, none⟩) sb.size (grownCap w sb.size 0 e)) (w1 := Lib.bytesWorld w e sb) (vs := Lib.bytesCells w e sb) (et := e) (lo := (Lib.bytesCells w e sb).size) (hi := (Lib.bytesCells w e sb).size + 1)
             (by simp [execOp, hsb, Lib.run_convert_string_bytes w s d e sb h1 h2 he]) (Lib.bytesWorld_at_old w e sb) (Lib.bytesWorld_size w e sb) (Lib.bytesWorld_at_new w e sb) ⟨rfl, rfl, rfl⟩ (by rw [hlen, hsize, <- hsl]; exact hcap) ?_ ?_ (.inr (Nat.le_refl _)) ?_
           · rw [hlen, htake]; exact Qul
           · rw [hlen, htake]; intro x hx; simp only [List.mem_map] at hx; obtain ⟨b, _, rfl⟩ := hx; rfl
           · exact .sl (Gx _ _ _ _) hcap (by omega)
         · cases hv
       · cases hv
     · cases hc
   · split at hc
     · obtain rfl := Option.some.inj hc; simp [Jp] at hv
     · cases hc
   · cases hc
 | makeSlice t l c =>
   simp only [cOp] at hc
   split at hc
   · rename_i e hu
     split at hc
     · rename_i s z l' c' hel hl' hc'
       obtain rfl := Option.some.inj hc
       simp only [Jp] at hv
       split at hv
       · rename_i kl l1 kc c1 hl1 hc1
         split at hv
         · rename_i hcond
           simp only [Option.some.injEq, Prod.mk.injEq] at hv
           obtain ⟨rfl, rfl⟩ := hv
           obtain ⟨i, zc, hi, hs, hzc, h0, hzl, hby, hr, hcs, h1⟩ := Xl hel S w μ
           have r1 := (Jn hE hG hl' hl1).int
           have r2 := (Jn hE hG hc' hc1).int
           have hb := Xv zc.cells c1.toNat (by omega)
           have hrep := P6 hr c1.toNat
           rw [<- hb] at hrep
           have hsz : ((Array.range (c1.toNat * zc.cells.size)).map fun i => zc.cells[i % zc.cells.size]!).size = c1.toNat * s := by simp [hcs]
           have hlen : (repZ z c1.toNat).len = c1.toNat * s := by rw [Q1.len_toList, R6, hrep.length, Array.length_toList, hsz]
           have hw : ∀ x : Int, 0 <= x -> x <= LIM -> IntKind.i64.wrap x = x := by
             intro x h1 h2
             simp only [LIM] at h2
             exact IntWalk.i64_in _ (by omega)
           have hrun : (execOp a.eval { dst := dst, op := .makeSlice t l c, type := oty, pos := pos, after := after, guard := guard }).run P w =
               .ok (.value (.slice (some ⟨w.heap.size, 0, none⟩) l1.toNat c1.toNat)) (w.alloc (.cells ((Array.range (c1.toNat * zc.cells.size)).map fun i => zc.cells[i % zc.cells.size]!) e)) := by
             have hl : IntKind.i64.wrap l1 = l1 := hw _ hcond.1 (by omega)
             have hcw : IntKind.i64.wrap c1 = c1 := hw _ (by omega) hcond.2.2
             have hbig : ¬ (i.bytes * c1 > 2 ^ 48) := by
               have : (i.bytes : Int) * c1 <= 4096 * 4294967296 := by
                 have h3 := hcond.2.2
                 simp only [LIM] at h3
                 exact Int.mul_le_mul (by omega) (by omega) (by omega) (by omega)
               omega
             have hinfo : (typeInfo e).run P w = .ok i w := by simp [typeInfo, hi]
             have hsize : (sizeOf e).run P w = .ok s w := by simp [sizeOf, typeInfo, hi, hs]
             have hask : (askRoom (c1.toNat * i.bytes)).run P w = .ok () w := by
               unfold askRoom
               split <;> rfl
             simp only [execOp, Instr.makeSlice, Sem.run_bind, run_underlying hu, Result.andThen_ok, r1, r2, asInt, asIntOf, Sem.run_pure, hinfo, hl, hcw]
             rw [if_neg (by simp; omega)]
             simp only [Sem.run_bind, hask, Result.andThen_ok, hsize]
             by_cases hn : c1.toNat * s = 0
             · rw [if_pos hn]
               have harr : (Array.range (c1.toNat * s)).map (fun x => (#[] : Array Value)[x % (#[] : Array Value).size]!) = (Array.range (c1.toNat * zc.cells.size)).map fun i => zc.cells[i % zc.cells.size]! := by
                 rw [hcs, hn]; simp
               simp only [Sem.run_bind, Sem.run_pure, Result.andThen_ok, harr]
               simp [newRow]
             · rw [if_neg hn]
               have hz : (zeroValue e).run P w = .ok zc w := by simp [zeroValue, typeInfo, hi, hzc]
               simp only [Sem.run_bind, hz, Sem.run_pure, Result.andThen_ok]
               rw [hcs]
               simp [newRow]
           refine wg hg (et := e) (lo := 0) (hi := 0) hrun (Mu _ _) (Fe _ _) (Lx _ _) ⟨rfl, rfl, rfl⟩ (by rw [hsz, hlen]; exact Nat.le_refl _) ?_ ?_ (.inl (Nat.le_refl _)) ?_
           · rw [R6, hlen, <- hsz, <- Array.length_toList, List.take_length]; exact hrep
           · rw [hlen, <- hsz, <- Array.length_toList, List.take_length, hb]; exact P0 h1 _
           · exact .sl (Gx _ _ _ _) (by omega) (by omega)
         · cases hv
       · cases hv
     · cases hc
   · cases hc
 | range t x =>
   simp only [cOp] at hc
   split at hc
   · rename_i hu
     simp only [Option.map_eq_some_iff] at hc
     obtain ⟨y, hy, rfl⟩ := hc
     simp only [Jp] at hv
     split at hv
     · rename_i l hl
       simp only [Option.some.injEq, Prod.mk.injEq] at hv
       obtain ⟨rfl, rfl⟩ := hv
       obtain ⟨sb, hsb, rfl⟩ := (Jn hE hG hy hl).str
       obtain ⟨g1, g2⟩ := Xc (w1 := w.alloc (.stringIter sb 0)) (o := .iter sb.data.toList 0) (n := 0) hg (Mu _ _) (Fe _ _) ⟨rfl, rfl, rfl⟩ rfl
         ⟨w.heap.size, 0, sb, Gx _ _ _ _, Lx _ _, rfl⟩
       refine ⟨.pointer (some ⟨w.heap.size, 0, none⟩), w.alloc (.stringIter sb 0), 0, ?_, g1, g2, .ptr (Gx _ _ _ _)⟩
       simp [execOp, Instr.range, run_underlying hu, hsb]
     · cases hv
   · cases hc
 | move x => simp only [cOp, Option.map_eq_some_iff] at hc; obtain ⟨y, hy, rfl⟩ := hc; simp [Jp] at hv
 | assign x => simp only [cOp, Option.map_eq_some_iff] at hc; obtain ⟨y, hy, rfl⟩ := hc; simp [Jp] at hv
 | pick c x y =>
   simp only [cOp] at hc
   split at hc
   · obtain rfl := Option.some.inj hc; simp [Jp] at hv
   · cases hc
 | build t parts =>
   simp only [cOp] at hc
   split at hc
   · split at hc
     · simp only [Option.map_eq_some_iff] at hc; obtain ⟨y, hy, rfl⟩ := hc; simp [Jp] at hv
     · cases hc
   · split at hc
     · simp only [Option.map_eq_some_iff] at hc; obtain ⟨y, hy, rfl⟩ := hc; simp [Jp] at hv
     · cases hc
   · cases hc
 | load t x =>
   simp only [cOp] at hc
   split at hc
   · obtain rfl := Option.some.inj hc; simp [Jp] at hv
   · cases hc
 | store t x y =>
   simp only [cOp] at hc
   split at hc
   · obtain rfl := Option.some.inj hc; simp [Jp] at hv
   · cases hc
 | nilCheck x => simp only [cOp, Option.map_eq_some_iff] at hc; obtain ⟨y, hy, rfl⟩ := hc; simp [Jp] at hv
 | binOp op t x y yt =>
   simp only [cOp] at hc
   split at hc
   · obtain rfl := Option.some.inj hc; simp [Jp] at hv
   · cases hc
 | unOp u t x => simp only [cOp, Option.map_eq_some_iff] at hc; obtain ⟨y, hy, rfl⟩ := hc; simp [Jp] at hv
 | sliceToArrayPointer d x => simp [cOp] at hc
 | makeInterface t x =>
   simp only [cOp] at hc
   split at hc
   · cases hc
   · simp only [Option.map_eq_some_iff] at hc; obtain ⟨y, hy, rfl⟩ := hc; simp [Jp] at hv
   · cases hc
 | makeFunc f first caps =>
   cases f with
   | func f =>
     simp only [cOp] at hc
     split at hc
     · obtain rfl := Option.some.inj hc; simp [Jp] at hv
     · cases hc
   | _ => simp [cOp] at hc
 | makeMap t r => simp [cOp] at hc
 | makeChan t s => simp [cOp] at hc
 | slice t x lo hi mx =>
   simp only [cOp] at hc
   split at hc
   · split at hc
     · obtain rfl := Option.some.inj hc; simp [Jp] at hv
     · cases hc
   · split at hc
     · obtain rfl := Option.some.inj hc; simp [Jp] at hv
     · cases hc
   · split at hc
     · obtain rfl := Option.some.inj hc; simp [Jp] at hv
     · cases hc
   · split at hc
     · split at hc
       · obtain rfl := Option.some.inj hc; simp [Jp] at hv
       · cases hc
     · cases hc
   · cases hc
 | fieldAddr t x f =>
   simp only [cOp] at hc
   split at hc
   · split at hc
     · split at hc
       · split at hc
         · cases hc
         · obtain rfl := Option.some.inj hc; simp [Jp] at hv
       · cases hc
     · cases hc
   · cases hc
 | field t x f =>
   simp only [cOp] at hc
   split at hc
   · split at hc
     · split at hc
       · obtain rfl := Option.some.inj hc; simp [Jp] at hv
       · cases hc
     · cases hc
   · cases hc
 | indexAddr t x i =>
   simp only [cOp] at hc
   split at hc
   · split at hc
     · obtain rfl := Option.some.inj hc; simp [Jp] at hv
     · cases hc
   · split at hc
     · obtain rfl := Option.some.inj hc; simp [Jp] at hv
     · cases hc
   · cases hc
 | index t x i =>
   simp only [cOp] at hc
   split at hc
   · split at hc
     · obtain rfl := Option.some.inj hc; simp [Jp] at hv
     · cases hc
   · split at hc
     · obtain rfl := Option.some.inj hc; simp [Jp] at hv
     · cases hc
   · cases hc
 | next x s =>
   cases s with
   | true => simp only [cOp, Option.map_eq_some_iff] at hc; obtain ⟨y, hy, rfl⟩ := hc; simp [Jp] at hv
   | false => simp [cOp] at hc
 | typeAssert x xt t ok =>
   simp only [cOp] at hc
   split at hc
   · cases hc
   · split at hc
     · split at hc
       · split at hc
         · obtain rfl := Option.some.inj hc; simp [Jp] at hv
         · cases hc
       · cases hc
     · cases hc
   · cases hc
 | extract x i => simp only [cOp, Option.map_eq_some_iff] at hc; obtain ⟨y, hy, rfl⟩ := hc; simp [Jp] at hv
 | panic x => simp only [cOp, Option.map_eq_some_iff] at hc; obtain ⟨y, hy, rfl⟩ := hc; simp [Jp] at hv
 | call c =>
   obtain ⟨callee, args, tys⟩ := c
   cases callee with
   | builtin b =>
     simp only [cOp] at hc
     unfold L2 at hc
     split at hc
     · split at hc
       · simp only [Option.map_eq_some_iff] at hc; obtain ⟨y, hy, rfl⟩ := hc; simp [Jp] at hv
       · simp only [Option.map_eq_some_iff] at hc; obtain ⟨y, hy, rfl⟩ := hc; simp [Jp] at hv
       · obtain rfl := Option.some.inj hc; simp [Jp] at hv
       · cases hc
     · split at hc
       · split at hc
         · split at hc <;> first | (obtain rfl := Option.some.inj hc; simp [Jp] at hv; done) | cases hc
         · cases hc
       · cases hc
     · split at hc
       · split at hc
         · obtain rfl := Option.some.inj hc; simp [Jp] at hv
         · cases hc
       · cases hc
     · split at hc
       · split at hc
         · obtain rfl := Option.some.inj hc; simp [Jp] at hv
         · cases hc
       · cases hc
     · simp only [Option.map_eq_some_iff] at hc; obtain ⟨y, hy, rfl⟩ := hc; simp [Jp] at hv
     · simp only [Option.map_eq_some_iff] at hc; obtain ⟨y, hy, rfl⟩ := hc; simp [Jp] at hv
     · simp only [Option.map_eq_some_iff] at hc; obtain ⟨y, hy, rfl⟩ := hc; simp [Jp] at hv
     · obtain rfl := Option.some.inj hc; simp [Jp] at hv
     · simp only [Option.map_eq_some_iff] at hc; obtain ⟨y, hy, rfl⟩ := hc; simp [Jp] at hv
     · split at hc
       · split at hc
         · split at hc
           · obtain rfl := Option.some.inj hc; simp [Jp] at hv
           · cases hc
         · cases hc
       · cases hc
     · cases hc
   | value f =>
     simp only [cOp] at hc
     split at hc
     · obtain rfl := Option.some.inj hc; simp [Jp] at hv
     · cases hc
   | invoke r m => simp [cOp] at hc
 | defer c =>
   obtain ⟨callee, args, tys⟩ := c
   cases callee with
   | value f =>
     simp only [cOp] at hc
     split at hc
     · obtain rfl := Option.some.inj hc; simp [Jp] at hv
     · cases hc
   | _ => simp [cOp] at hc
 | _ => simp [cOp] at hc
end
end Go.Ab
