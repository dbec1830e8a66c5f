/- Operations that read; the elements of slices and strings. -/
import Derived.Test.YtikebbklkiodlaaDoorAbA9
import Derived.Laws.BytesArg
set_option linter.unusedSectionVars false
set_option linter.unusedSimpArgs false
set_option linter.unusedVariables false
namespace Go.Ab
variable [Marks]
variable {S S' : Nat → Nat → Prop} {w w' w1 : World} {μ μ' : Nat → Nat → Option (Nat × Nat)} {P : Program} {G : Globs} {σ σ' : Heap}

/-- where a value's elements lie -/
inductive Elems (w : World) : Value → Nat → List Value → Prop
  | str (s : ByteArray) : Elems w (.string s) s.size (s.data.toList.map fun b => .int .u8 b.toNat)
  | none (a : Option Addr) (cap : Nat) : Elems w (.slice a 0 cap) 0 []
  | at_ {b o n cap : Nat} {vs : List Value} (h : ∀ (j : Nat) x, vs[j]? = some x → w.cell? ⟨b, o + j, Option.none⟩ = some x) : Elems w (.slice (some ⟨b, o, Option.none⟩) n cap) n vs

theorem cells_list {cells : List PV} {b o : Nat} (hr : RepCells S w cells b o) :
    ∃ vs : List Value, RepPL S w cells vs ∧ (∀ x ∈ vs, one x = true) ∧ ∀ j x, vs[j]? = some x → w.cell? ⟨b, o + j, none⟩ = some x := by
  induction cells generalizing o with
  | nil => exact ⟨[], .nil, by simp, by simp⟩
  | cons c r ih =>
    cases hr with
    | cons hS hc h1 h hs =>
      obtain ⟨vs, a1, a2, a3⟩ := ih hs
      refine ⟨_ :: vs, .cons h a1, by intro x hx; cases hx with | head => exact h1 | tail _ hx => exact a2 x hx, ?_⟩
      intro j x hx
      cases j with
      | zero => simp at hx; subst hx; simpa using hc
      | succ j => have := a3 j x (by simpa using hx); rwa [show o + 1 + j = o + (j + 1) from by omega] at this

theorem elemsA_rep {esz n : Nat} {x : AV} {c : Cells} {cx : Value} (hg : ∀ (id : Nat) (o : Obj), σ[id]? = some o → ObjOK S w μ id o) (h : elemsA σ esz x = some (n, c)) (hx : Rep S w μ x cx) :
    ∃ vs, Elems w cx n vs ∧ RepL S w μ c.toList vs ∧ (∀ y ∈ vs, one y = true) ∧ vs.length = n * esz := by
  unfold elemsA at h
  split at h
  · rename_i s
    split at h
    · rename_i h1
      simp only [Option.some.injEq, Prod.mk.injEq] at h
      obtain ⟨rfl, rfl⟩ := h
      obtain ⟨sb, rfl, rfl⟩ := hx.str
      refine ⟨_, .str sb, pv_one, ?_, by simp [h1]⟩
      intro y hy
      simp only [List.mem_map] at hy
      obtain ⟨_, _, rfl⟩ := hy
      rfl
    · cases h
  · rename_i cells m
    split at h
    · rename_i hlen
      simp only [Option.some.injEq, Prod.mk.injEq] at h
      obtain ⟨rfl, rfl⟩ := h
      obtain ⟨a, cap, rfl, hcap, ⟨rfl, rfl⟩ | ⟨b, o, rfl, hcs⟩⟩ := hx.vslP
      · exact ⟨[], .none _ _, .nil, by simp, by simp⟩
      · obtain ⟨vs, h1, h2, h3⟩ := cells_list hcs
        exact ⟨vs, .at_ h3, .of_pv h1, h2, by rw [← h1.length]; exact hlen⟩
    · cases h
  · rename_i id ver off m e
    split at h
    · rename_i he
      subst he
      split at h
      · rename_i c' v wm ty0 hob
        split at h
        · rename_i hcond
          obtain ⟨rfl, hroom⟩ := hcond
          simp only [Option.some.injEq, Prod.mk.injEq] at h
          obtain ⟨rfl, rfl⟩ := h
          obtain ⟨b, nn, cap, hμ, hl, hc, rfl⟩ := hx.slA
          obtain ⟨b', n', vs, et, lo, hi, h1, h2, h3, h4, h5, h6, h7⟩ := (hg id _ hob).cells
          rw [hμ] at h1
          cases h1
          refine ⟨((vs.toList.take c'.len).drop off).take (m * e), .at_ ?_, ?_, oneP_sub h6 _ _, ?_⟩
          · intro j x hj
            rw [List.getElem?_take] at hj
            split at hj
            · rw [List.getElem?_drop, List.getElem?_take] at hj
              split at hj
              · rw [cell_in h2]
                simpa using hj
              · cases hj
            · cases hj
          · rw [takeC_toList, dropC_toList]
            exact (h5.drop _).take _
          · have : vs.toList.length = vs.size := Array.length_toList
            simp only [List.length_take, List.length_drop]
            omega
        · cases h
      · cases h
    · cases h
  · simp only [Option.some.injEq, Prod.mk.injEq] at h
    obtain ⟨rfl, rfl⟩ := h
    cases hx
    exact ⟨[], .none _ _, .nil, by simp, by simp⟩
  · simp only [Option.some.injEq, Prod.mk.injEq] at h
    obtain ⟨rfl, rfl⟩ := h
    cases hx
    exact ⟨[], .none _ _, .nil, by simp, by simp⟩
  · cases h

theorem Elems.lenOf {cx : Value} {n : Nat} {vs : List Value} (h : Elems w cx n vs) (w' : World) : (Builtin.lenOf cx).run P w' = .ok n w' := by
  cases h <;> rfl
theorem Elems.first {cx : Value} {n m esz : Nat} {vs : List Value} (h : Elems w cx n vs) (hl : vs.length = n * esz) (hm : m ≤ n) (h1 : ∀ s, cx = .string s → esz = 1) :
    (Builtin.firstCells esz m cx).run P w = .ok (vs.take (m * esz)).toArray w := by
  cases h with
  | str s =>
    have := h1 s rfl
    subst this
    simp only [Builtin.firstCells, Sem.run_pure, Nat.mul_one]
    congr 1
    apply Array.ext'
    simp
  | none a cap =>
    obtain rfl : m = 0 := by omega
    cases a <;> simp [Builtin.firstCells, loadCells, loadCellsFrom]
  | at_ h =>
    rename_i b o cap
    have hlm : (vs.take (m * esz)).length = m * esz := by
      have : m * esz ≤ n * esz := Nat.mul_le_mul_right _ hm
      simp; omega
    have := run_loadCells (P := P) (w := w) (b := b) (o := o) (vs.take (m * esz)) (fun j x hx => by
      rw [List.getElem?_take] at hx
      split at hx
      · exact h j x hx
      · cases hx)
    rw [hlm] at this
    simpa [Builtin.firstCells] using this

theorem bytesOfP_int {l : List PV} {s : List UInt8} (h : bytesOfP l = some s) : ∃ ns : List Int, l = ns.map (PV.int .u8) ∧ s = ns.map fun n => UInt8.ofNat n.toNat := by
  induction l generalizing s with
  | nil => simp [bytesOfP] at h; subst h; exact ⟨[], rfl, rfl⟩
  | cons v r ih =>
    unfold bytesOfP at h
    split at h
    · simp_all
    · rename_i n r' heq
      injection heq with e1 e2
      subst e1 e2
      split at h
      · rename_i l' hl
        obtain rfl := Option.some.inj h
        obtain ⟨ns, rfl, rfl⟩ := ih hl
        exact ⟨n :: ns, rfl, rfl⟩
      · cases h
    · cases h

section
variable {ρ : Env} {a : Act} (hE : EnvOK S w μ ρ a.tmps) (hG : GlobOK S w G) (hg : ∀ (id : Nat) (o : Obj), σ[id]? = some o → ObjOK S w μ id o)
include hE hG hg

theorem read_sound {o : Oper} {ao : AOp} {v : AV} (hc : cOp P G o.op = some ao) (hv : readOp ρ σ ao = some v) :
    ∃ c, (execOp a.eval o).run P w = .ok (.value c) w ∧ Rep S w μ v c := by
  obtain ⟨dst, op, oty, pos, after, guard⟩ := o
  simp only at hc
  cases op with
  | load t x =>
    simp only [cOp] at hc
    split at hc
    · rename_i ag n y hag hn hy
      obtain rfl := Option.some.inj hc
      simp only [readOp] at hv
      split at hv
      · rename_i id ver off hev
        obtain ⟨b, m, hμ, e⟩ := (ev_rep hE hG hy hev).ptrA
        split at hv
        · rename_i c vr wm ty0 hob
          split at hv
          · rename_i hvr
            subst hvr
            obtain ⟨b', n', vs, et, lo, hi, h1, h2, h3, h4, h5, h6, h7⟩ := (hg id _ hob).cells
            rw [hμ] at h1
            cases h1
            obtain ⟨cv, r1, r2⟩ := loadVar_rep (P := P) (o := 0) hag hn hv h5 h6 (fun j x hj => by
              rw [cell_in h2]
              rw [List.getElem?_take] at hj
              split at hj
              · simpa using hj
              · cases hj)
            refine ⟨cv, ?_, r2⟩
            rw [Nat.zero_add] at r1
            simp [execOp, Instr.loadAt, e, Instr.sureAddr, r1]
          · cases hv
        · cases hv
      · rename_i cells hev
        simp only [Option.map_eq_some_iff] at hv
        obtain ⟨z, hz, rfl⟩ := hv
        obtain ⟨b, o, e, hcs⟩ := (ev_rep hE hG hy hev).vptrP
        obtain ⟨cv, r1, r2⟩ := loadVar_vptr (P := P) hag hn hz hcs
        exact ⟨cv, by simp [execOp, Instr.loadAt, e, Instr.sureAddr, r1], .p r2⟩
      · cases hv
    · cases hc
  | convert s d x =>
    simp only [cOp] at hc
    split at hc
    · obtain rfl := Option.some.inj hc; simp [readOp] at hv
    · obtain rfl := Option.some.inj hc; simp [readOp] at hv
    · obtain rfl := Option.some.inj hc; simp [readOp] at hv
    · split at hc
      · obtain rfl := Option.some.inj hc; simp [readOp] at hv
      · cases hc
    · rename_i e y hs hd hy
      split at hc
      · rename_i he
        obtain rfl := Option.some.inj hc
        simp only [readOp] at hv
        split at hv
        · rename_i u hu
          have hr := ev_rep hE hG hy hu
          split at hv
          · cases hv
          · rename_i hns
            split at hv
            · rename_i n l hel
              simp only [Option.map_eq_some_iff] at hv
              obtain ⟨str, hstr, rfl⟩ := hv
              obtain ⟨ns, rfl, rfl⟩ := bytesOfP_int hstr
              obtain ⟨vs, e1, e2, e3, e4⟩ := elemsA_rep hg hel hr
              have hvs : vs = ns.map (Value.int .u8) := by
                clear e1 e3 e4 hel hstr
                have e2' : RepPL S w (ns.map (PV.int .u8)) vs := e2.to_pv
                clear e2
                induction ns generalizing vs with
                | nil => cases e2'; rfl
                | cons n r ih => cases e2' with | cons h hs => rw [h.int_inv, ih _ hs]; rfl
              generalize hcx : a.eval x = cx at e1 hr
              cases e1 with
              | str sb => 
                exfalso
                cases hr with
                | p h => cases h with
                  | str => exact hns _ rfl
                  | ssym => simp [elemsA] at hel
                | dead => simp [elemsA] at hel
              | none a' cap =>
                obtain rfl : ns = [] := by simpa using hvs.symm
                refine ⟨.string ByteArray.empty, ?_, .p (.str rfl)⟩
                simp only [execOp, Sem.run_bind]
                rw [hcx, run_convert_bytes_string w s d e _ _ _ hs he hd]
                cases a' with
                | none => simp [Conv.bytesToString]
                | some ad => simp [Conv.bytesToString, loadCells, loadCellsFrom]
              | at_ h =>
                rename_i b o cap
                subst hvs
                refine ⟨.string (strOfNums ns), ?_, .p (.str (by simp [strOfNums]))⟩
                simp only [execOp, Sem.run_bind]
                rw [hcx, run_convert_bytes_arg w s e hs he b o n cap ns (by simpa using e4) (fun i hi => h i _ (by
                  have : i < ns.length := by have := e4; simp at this; omega
                  simp [List.getD, this])) d hd]
                rfl
            · cases hv
        · cases hv
      · cases hc
    · cases hc
  | slice t x lo hi mx =>
    simp only [cOp] at hc
    split at hc
    · split at hc
      · obtain rfl := Option.some.inj hc; simp [readOp] at hv
      · cases hc
    · split at hc
      · obtain rfl := Option.some.inj hc; simp [readOp] at hv
      · cases hc
    · rename_i n e hu
      split at hc
      · rename_i s x' lo' hi' hs hx hlo hhi
        obtain rfl := Option.some.inj hc
        simp only [readOp] at hv
        split at hv
        · rename_i id ver off l h e1 e2 e3
          split at hv
          · rename_i c vr wm ty0 hob
            split at hv
            · rename_i hcond
              obtain ⟨rfl, hroom⟩ := hcond
              split at hv
              · rename_i l' h' hb
                have rx := ev_rep hE hG hx e1
                obtain ⟨b', n', vs, et, lo, hi, h1, h2, h3, h4, h5, h6, h7⟩ := (hg id _ hob).cells
                obtain ⟨c, r1, r2⟩ := sliceArr_rep (P := P) (v := v) hu hs hb (by split at hv <;> simp_all) rx (fun b m hm => by rw [h1] at hm; cases hm; omega) (evO_rep hE hG hlo e2) (evO_rep hE hG hhi e3) w
                exact ⟨c, by simp [execOp, r1], r2⟩
              · cases hv
            · cases hv
          · cases hv
        · cases hv
      · cases hc
    · split at hc
      · split at hc
        · obtain rfl := Option.some.inj hc; simp [readOp] at hv
        · cases hc
      · cases hc
    · cases hc
  | move x => simp only [cOp, Option.map_eq_some_iff] at hc; obtain ⟨y, hy, rfl⟩ := hc; simp [readOp] at hv
  | assign x => simp only [cOp, Option.map_eq_some_iff] at hc; obtain ⟨y, hy, rfl⟩ := hc; simp [readOp] at hv
  | pick c x y =>
    simp only [cOp] at hc
    split at hc
    · obtain rfl := Option.some.inj hc; simp [readOp] at hv
    · cases hc
  | alloc t => simp only [cOp, Option.map_eq_some_iff] at hc; obtain ⟨y, hy, rfl⟩ := hc; simp [readOp] at hv
  | box t x =>
    simp only [cOp] at hc
    split at hc
    · obtain rfl := Option.some.inj hc; simp [readOp] at hv
    · cases hc
  | build t parts =>
    simp only [cOp] at hc
    split at hc
    · split at hc
      · simp only [Option.map_eq_some_iff] at hc; obtain ⟨y, hy, rfl⟩ := hc; simp [readOp] at hv
      · cases hc
    · split at hc
      · simp only [Option.map_eq_some_iff] at hc; obtain ⟨y, hy, rfl⟩ := hc; simp [readOp] at hv
      · cases hc
    · cases hc
  | buildSlice t len parts =>
    simp only [cOp] at hc
    split at hc
    · split at hc
      · split at hc
        · simp only [Option.map_eq_some_iff] at hc; obtain ⟨y, hy, rfl⟩ := hc; simp [readOp] at hv
        · cases hc
      · cases hc
    · cases hc
  | store t x y =>
    simp only [cOp] at hc
    split at hc
    · obtain rfl := Option.some.inj hc; simp [readOp] at hv
    · cases hc
  | nilCheck x => simp only [cOp, Option.map_eq_some_iff] at hc; obtain ⟨y, hy, rfl⟩ := hc; simp [readOp] at hv
  | binOp op t x y yt =>
    simp only [cOp] at hc
    split at hc
    · obtain rfl := Option.some.inj hc; simp [readOp] at hv
    · cases hc
  | unOp u t x => simp only [cOp, Option.map_eq_some_iff] at hc; obtain ⟨y, hy, rfl⟩ := hc; simp [readOp] at hv
  | sliceToArrayPointer d x => simp [cOp] at hc
  | makeInterface t x =>
    simp only [cOp] at hc
    split at hc
    · cases hc
    · simp only [Option.map_eq_some_iff] at hc; obtain ⟨y, hy, rfl⟩ := hc; simp [readOp] at hv
    · cases hc
  | makeFunc f first caps =>
    cases f with
    | func f =>
      simp only [cOp] at hc
      split at hc
      · obtain rfl := Option.some.inj hc; simp [readOp] at hv
      · cases hc
    | _ => simp [cOp] at hc
  | makeMap t r => simp [cOp] at hc
  | makeChan t s => simp [cOp] at hc
  | makeSlice t l c =>
    simp only [cOp] at hc
    split at hc
    · split at hc
      · obtain rfl := Option.some.inj hc; simp [readOp] at hv
      · cases hc
    · cases hc
  | fieldAddr t x f =>
    simp only [cOp] at hc
    split at hc
    · split at hc
      · split at hc
        · split at hc
          · cases hc
          · obtain rfl := Option.some.inj hc; simp [readOp] at hv
        · cases hc
      · cases hc
    · cases hc
  | field t x f =>
    simp only [cOp] at hc
    split at hc
    · split at hc
      · split at hc
        · obtain rfl := Option.some.inj hc; simp [readOp] at hv
        · cases hc
      · cases hc
    · cases hc
  | indexAddr t x i =>
    simp only [cOp] at hc
    split at hc
    · split at hc
      · obtain rfl := Option.some.inj hc; simp [readOp] at hv
      · cases hc
    · split at hc
      · obtain rfl := Option.some.inj hc; simp [readOp] at hv
      · cases hc
    · cases hc
  | index t x i =>
    simp only [cOp] at hc
    split at hc
    · split at hc
      · obtain rfl := Option.some.inj hc; simp [readOp] at hv
      · cases hc
    · split at hc
      · obtain rfl := Option.some.inj hc; simp [readOp] at hv
      · cases hc
    · cases hc
  | range t x =>
    simp only [cOp] at hc
    split at hc
    · simp only [Option.map_eq_some_iff] at hc; obtain ⟨y, hy, rfl⟩ := hc; simp [readOp] at hv
    · cases hc
  | next x s =>
    cases s with
    | true => simp only [cOp, Option.map_eq_some_iff] at hc; obtain ⟨y, hy, rfl⟩ := hc; simp [readOp] at hv
    | false => simp [cOp] at hc
  | typeAssert x xt t ok =>
    simp only [cOp] at hc
    split at hc
    · cases hc
    · split at hc
      · split at hc
        · split at hc
          · obtain rfl := Option.some.inj hc; simp [readOp] at hv
          · cases hc
        · cases hc
      · cases hc
    · cases hc
  | extract x i => simp only [cOp, Option.map_eq_some_iff] at hc; obtain ⟨y, hy, rfl⟩ := hc; simp [readOp] at hv
  | panic x => simp only [cOp, Option.map_eq_some_iff] at hc; obtain ⟨y, hy, rfl⟩ := hc; simp [readOp] at hv
  | call c =>
    obtain ⟨callee, args, tys⟩ := c
    cases callee with
    | builtin b =>
      simp only [cOp] at hc
      unfold cBuiltin at hc
      split at hc
      · split at hc
        · simp only [Option.map_eq_some_iff] at hc; obtain ⟨y, hy, rfl⟩ := hc; simp [readOp] at hv
        · simp only [Option.map_eq_some_iff] at hc; obtain ⟨y, hy, rfl⟩ := hc; simp [readOp] at hv
        · obtain rfl := Option.some.inj hc; simp [readOp] at hv
        · cases hc
      · split at hc
        · split at hc
          · split at hc <;> first | (obtain rfl := Option.some.inj hc; simp [readOp] at hv; done) | cases hc
          · cases hc
        · cases hc
      · split at hc
        · split at hc
          · obtain rfl := Option.some.inj hc; simp [readOp] at hv
          · cases hc
        · cases hc
      · split at hc
        · split at hc
          · obtain rfl := Option.some.inj hc; simp [readOp] at hv
          · cases hc
        · cases hc
      · simp only [Option.map_eq_some_iff] at hc; obtain ⟨y, hy, rfl⟩ := hc; simp [readOp] at hv
      · simp only [Option.map_eq_some_iff] at hc; obtain ⟨y, hy, rfl⟩ := hc; simp [readOp] at hv
      · simp only [Option.map_eq_some_iff] at hc; obtain ⟨y, hy, rfl⟩ := hc; simp [readOp] at hv
      · obtain rfl := Option.some.inj hc; simp [readOp] at hv
      · simp only [Option.map_eq_some_iff] at hc; obtain ⟨y, hy, rfl⟩ := hc; simp [readOp] at hv
      · split at hc
        · split at hc
          · split at hc
            · obtain rfl := Option.some.inj hc; simp [readOp] at hv
            · cases hc
          · cases hc
        · cases hc
      · cases hc
    | value f =>
      simp only [cOp] at hc
      split at hc
      · obtain rfl := Option.some.inj hc; simp [readOp] at hv
      · cases hc
    | invoke r m => simp [cOp] at hc
  | defer c =>
    obtain ⟨callee, args, tys⟩ := c
    cases callee with
    | value f =>
      simp only [cOp] at hc
      split at hc
      · obtain rfl := Option.some.inj hc; simp [readOp] at hv
      · cases hc
    | _ => simp [cOp] at hc
  | _ => simp [cOp] at hc
end

end Go.Ab
