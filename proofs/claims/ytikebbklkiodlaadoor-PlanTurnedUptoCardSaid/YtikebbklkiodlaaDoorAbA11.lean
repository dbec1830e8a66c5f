/- Operations that write: stores, appends, copies. -/
import Derived.Test.YtikebbklkiodlaaDoorAbA10
set_option linter.unusedSectionVars false
set_option linter.unusedSimpArgs false
set_option linter.unusedVariables false
namespace Go.Ab
variable [Marks]
variable {S S' : Nat → Nat → Prop} {w w' w1 : World} {μ μ' : Nat → Nat → Option (Nat × Nat)} {P : Program} {G : Globs} {σ σ' : Heap}

/-- what an operation answers that goes on -/
inductive Goes : Next → Value → Prop
  | value (c : Value) : Goes (.value c) c
  | skip : Goes .skip undef

def Acts (P : Program) (S : Nat → Nat → Prop) (w : World) (μ : Nat → Nat → Option (Nat × Nat)) (σ : Heap) (e : Sem Next) (v : AV) (σ' : Heap) : Prop :=
  ∃ nx c w1 μ', e.run P w = .ok nx w1 ∧ Goes nx c ∧ Good μ' S w1 σ' ∧ Frm μ S w σ μ' S w1 σ' ∧ Rep S w1 μ' v c

theorem Frm.refl (μ : Nat → Nat → Option (Nat × Nat)) (S : Nat → Nat → Prop) (w : World) (σ : Heap) : Frm μ S w σ μ S w σ :=
  ⟨rfl, rfl, rfl, Nat.le_refl _, fun _ _ h => ⟨h, rfl⟩, fun _ _ _ => rfl, fun _ _ h => .inl h, fun _ h => .inl h, fun _ _ _ h => h⟩

theorem next_bound (newLen oldCap : Nat) (h : oldCap < newLen) : Builtin.nextslicecap newLen oldCap ≤ 2 * newLen + 1024 := by
  have grow : ∀ (r c : Nat), c ≤ newLen + newLen → Builtin.growBy newLen r c ≤ 2 * newLen + 1024 := by
    intro r
    induction r with
    | zero => intro c hc; simp only [Builtin.growBy]; omega
    | succ r ih =>
      intro c hc
      simp only [Builtin.growBy]
      split
      · omega
      · by_cases hb : c + (c + 768) / 4 ≤ newLen + newLen
        · exact ih _ hb
        · cases r with
          | zero => simp only [Builtin.growBy]; omega
          | succ r => simp only [Builtin.growBy]; rw [if_pos (by omega)]; omega
  unfold Builtin.nextslicecap
  split
  · omega
  · split
    · omega
    · exact grow 4 oldCap (by omega)

theorem zeroCells_list (z : Array Value) (n : Nat) (hz : 0 < z.size) : (Builtin.zeroCells z n).toList = (List.replicate n z.toList).flatten := range_zero z n hz

/-- the cells of an object changed, in its block -/
theorem set_cells {id ver wm off : Nat} {c c' : Cells} {ver' : Nat} {b n e lo hi : Nat} {vs vs1 : Array Value} {new : List Value} {nc : List AV} (hg : Good μ S w σ) {ty : Option Nat} (hid : σ[id]? = some (.arr c ver wm ty))
    (hμ : μ id ver = some (b, n)) (hb : w.heap[b]? = some (.cells vs e (lo, hi))) (hn : vs.size = n) (_hcl : c.len ≤ n)
    (hw : w1.heap[b]? = some (.cells vs1 e (lo, hi))) (hvs : vs1.toList = splice vs.toList off new) (hroom : off + new.length ≤ n) (hblk : ∀ b', b' ≠ b → w1.heap[b']? = w.heap[b']?)
    (hsz : w1.heap.size = w.heap.size) (ho : SameOut w w1) (hwm : wm ≤ off)
    (hnew : RepL S w μ nc new) (h1 : ∀ x ∈ new, one x = true)
    (hc' : ∀ j v, c'.get? j = some v → (j < off ∧ c.get? j = some v) ∨ (off ≤ j ∧ j < off + new.length ∧ nc[j - off]? = some v) ∨ (off + new.length ≤ j ∧ c.get? j = some v)) (hcl' : c'.len ≤ n)
    (hver : ver' = ver ∨ ver' = ver + 1) {ty' : Option Nat} (hty : ty' = ty ∨ ty' = none := by first | exact .inl rfl | exact .inr rfl) :
    ∃ μ', Good μ' S w1 (σ.set id (.arr c' ver' wm ty')) ∧ Frm μ S w σ μ' S w1 (σ.set id (.arr c' ver' wm ty')) ∧ μ' id ver' = some (b, n) := by
  have hob := hg.obj id _ hid
  obtain ⟨b2, n2, h2, vs2, e2, lo2, hi2, h3, h4, h5, h6, h7, h8⟩ := hob
  rw [hμ] at h2
  cases h2
  rw [hb] at h3
  cases h3
  have hvl : vs.toList.length = vs.size := Array.length_toList
  let μ' := ext μ id ver' (b, n)
  have hμ' : ∀ i v x, μ i v = some x → μ' i v = some x := by
    intro i v x h
    by_cases hi : i = id ∧ v = ver'
    · obtain ⟨rfl, rfl⟩ := hi
      rcases hver with rfl | rfl
      · rw [hμ] at h; cases h; exact ext_self _ _ _ _
      · obtain ⟨o, ho, hv, _⟩ := hg.old _ _ _ h
        rw [hid] at ho
        cases ho
        simp [Obj.ver] at hv
        omega
    · show ext μ id ver' (b, n) i v = some x
      rw [ext_other hi]; exact h
  have hS : ∀ bb j, S bb j → w1.cell? ⟨bb, j, none⟩ = w.cell? ⟨bb, j, none⟩ := by
    intro bb j h
    by_cases hbb : bb = b
    · subst hbb
      rw [cell_in hw, cell_in hb]
      have hj : ¬ (wm ≤ j ∧ j < n) := fun hj => (h7 j hj.1 hj.2).1 h
      rw [← Array.getElem?_toList, hvs, splice_get _ _ _ _ (by omega)]
      by_cases hjn : j < n
      · rw [if_pos (by omega)]; simp
      · have hsz1 : vs.toList.length = vs.size := Array.length_toList
        rw [if_neg (by omega), if_neg (by omega)]; simp
    · exact cell_of_heap (hblk bb hbb)
  have hbs : b < w.heap.size := (Array.getElem?_eq_some_iff.1 hb).1
  have hobj : ObjOK S w1 μ' id (.arr c' ver' wm ty') := by
    refine ⟨b, n, ext_self _ _ _ _, vs1, e, lo, hi, hw, ?_, hcl', ?_, fun j hj hjn => h7 j hj hjn, fun t ht => (by rcases hty with rfl | rfl; exact h8 t ht; cases ht)⟩
    · rw [← hn, ← Array.length_toList, hvs, splice_length _ _ _ (by omega), Array.length_toList]
    · intro j v hv
      have hmono : ∀ {v c}, Rep S w μ v c → Rep S w1 μ' v c := fun h => h.mono (fun b o h => ⟨h, hS b o h⟩) hμ'
      have hat : vs1[j]? = (splice vs.toList off new)[j]? := by rw [← hvs]; simp
      rw [splice_get _ _ _ _ (by omega)] at hat
      rcases hc' j v hv with ⟨hj, hv⟩ | ⟨hj, hj2, hv⟩ | ⟨hj, hv⟩
      · obtain ⟨cv, k1, k2, k3⟩ := h6 j v hv
        exact ⟨cv, by rw [hat, if_pos hj]; simpa using k1, k2, hmono k3⟩
      · obtain ⟨cv, k1, k3⟩ := hnew.get hv
        exact ⟨cv, by rw [hat, if_neg (by omega), if_pos hj2]; exact k1, h1 cv (List.mem_of_getElem? k1), hmono k3⟩
      · obtain ⟨cv, k1, k2, k3⟩ := h6 j v hv
        exact ⟨cv, by rw [hat, if_neg (by omega), if_neg (by omega)]; simpa using k1, k2, hmono k3⟩
  obtain ⟨g1, g2⟩ := good_set (w1 := w1) (μ' := μ') (o' := .arr c' ver' wm ty') (b' := b) (n' := n) hg hid rfl hμ (ext_self _ _ _ _) (.inl rfl) hμ' (fun i v hi => ext_other (by intro h; exact hi h.1)) (by
    intro v x h
    by_cases hv : v = ver'
    · subst hv
      rw [show μ' id v = _ from ext_self _ _ _ _] at h
      cases h
      exact ⟨Nat.le_refl _, by rw [hsz]; exact hbs⟩
    · rw [show μ' id v = μ id v from ext_other (by intro h; exact hv h.2)] at h
      obtain ⟨o, ho, hv2, hx⟩ := hg.old _ _ _ h
      rw [hid] at ho
      cases ho
      simp only [Obj.ver] at hv2 ⊢
      exact ⟨by omega, by omega⟩) (by omega) (fun bb _ hne => hblk bb hne) hS hobj ho
  exact ⟨μ', g1, g2, ext_self _ _ _ _⟩

theorem get?_lt {c : Cells} {j : Nat} {v : AV} (h : c.get? j = some v) : j < c.len := by
  rw [Cells.get?_toList] at h
  rw [Cells.len_toList]
  exact (List.getElem?_eq_some_iff.1 h).1

theorem spliceC_get {c d : Cells} {off j : Nat} {v : AV} (hr : off + d.len ≤ c.len) (h : (spliceC c off d).get? j = some v) :
    (j < off ∧ c.get? j = some v) ∨ (off ≤ j ∧ j < off + d.len ∧ d.toList[j - off]? = some v) ∨ (off + d.len ≤ j ∧ c.get? j = some v) := by
  rw [Cells.get?_toList, spliceC_toList, splice_get _ _ _ _ (by rw [← Cells.len_toList, ← Cells.len_toList]; exact hr), ← Cells.len_toList] at h
  rw [Cells.get?_toList]
  split at h
  · exact .inl ⟨by assumption, h⟩
  · split at h
    · exact .inr (.inl ⟨by omega, by assumption, h⟩)
    · exact .inr (.inr ⟨by omega, h⟩)
theorem spliceC_len {c d : Cells} {off : Nat} (hr : off + d.len ≤ c.len) : (spliceC c off d).len = c.len := by
  rw [Cells.len_toList, spliceC_toList, splice_length _ _ _ (by rw [← Cells.len_toList, ← Cells.len_toList]; exact hr), ← Cells.len_toList]

theorem Elems.drawn {cx : Value} {n : Nat} {vs : List Value} (h : Elems w cx n vs) (k : Nat) : Elems { w with drawn := k } cx n vs := by
  cases h with
  | str s => exact .str s
  | none a cap => exact .none a cap
  | at_ h => exact .at_ h

/-- what is asked of an append's element type and of its second argument: n elements, their cells -/
structure AppArgs (P : Program) (w : World) (t u e : Nat) (i : TypeInfo) (zc : Value) (cx : Value) (n : Nat) (new : List Value) : Prop where
  ht : P.underlying t = some (.slice e)
  hi : P.info? e = some i
  hz : i.zero = some zc
  zs : zc.cells.size = i.size
  pos : 0 < i.size
  by_ : i.bytes ≤ 4096
  len : new.length = n * i.size
  small : n ≤ LIM
  second : ((∃ d, P.underlying u = some d ∧ (∀ k, d ≠ .int k)) ∧ Elems w cx n new ∧ (∀ s, cx = .string s → i.size = 1)) ∨
    ((∃ k, P.underlying u = some (.int k)) ∧ (∃ k, cx = .int k n) ∧ new = (List.replicate n zc.cells.toList).flatten)

theorem AppArgs.inplace {t u e n sLen sCap : Nat} {i : TypeInfo} {zc cx : Value} {new : List Value} (h : AppArgs P w t u e i zc cx n new) (base : Option Addr) (hcap : sLen + n ≤ sCap)
    {w1 : World} (hst : (match base with | some ad => storeCells (ad.add (sLen * i.size)) new | none => pure () : Sem Unit).run P w = .ok () w1) (ty : TypeId) :
    (Builtin.append_ #[t, u] ty #[.slice base sLen sCap, cx]).run P w = .ok (.slice base (sLen + n) sCap) w1 := by
  have hsize : (sizeOf e).run P w = .ok i.size w := by simp [sizeOf, typeInfo, h.hi]
  have hinfo : (typeInfo e).run P w = .ok i w := by simp [typeInfo, h.hi]
  have hzv : (zeroValue e).run P w = .ok zc w := by simp [zeroValue, typeInfo, h.hi, h.hz]
  rcases h.second with ⟨⟨d, hd, hni⟩, hel, hstr⟩ | ⟨⟨k, hk⟩, ⟨k2, rfl⟩, hnew⟩
  · have hfirst := hel.first (P := P) h.len (Nat.le_refl n) hstr
    rw [← h.len, List.take_length] at hfirst
    have hz : (match (generalizing := false) d with | .int _ => true | _ => false) = false := by cases d <;> first | rfl | exact absurd rfl (hni _)
    simp only [Builtin.append_, List.getElem?_toArray, List.getElem?_cons_zero, List.getElem?_cons_succ, Sem.run_bind, run_underlying h.ht, Result.andThen_ok, hsize, run_underlying hd, Sem.run_pure]
    simp only [Bool.false_eq_true, if_false, hel.lenOf, Result.andThen_ok, Bool.not_false, if_true, hcap, Sem.run_bind, hfirst]
    cases base with
    | none =>
      simp only [Sem.run_pure] at hst
      cases hst
      simp
    | some ad =>
      simp only at hst
      simp [hst]
  · have hw : IntKind.i64.wrap (n : Int) = n := IntWalk.i64_in _ (by have := h.small; simp only [LIM] at this; omega)
    have hsm : ¬ ((n : Int) * i.bytes > 2 ^ 48) := by
      have h1 : (n : Int) * i.bytes ≤ 4294967296 * 4096 := by
        have := h.small
        have := h.by_
        simp only [LIM] at *
        exact Int.mul_le_mul (by omega) (by omega) (by omega) (by omega)
      omega
    simp only [Builtin.append_, List.getElem?_toArray, List.getElem?_cons_zero, List.getElem?_cons_succ, Sem.run_bind, run_underlying h.ht, Result.andThen_ok, hsize, run_underlying hk, Sem.run_pure, if_true,
      asInt, asIntOf, hw, hinfo, hsm, if_false, Bool.not_true, Bool.false_eq_true, Int.toNat_natCast, show ¬ ((n : Int) < 0) from by omega, hcap]
    have happ : ((if n * i.size = 0 then pure #[] else do pure (Builtin.zeroCells (← zeroValue e).cells n)) : Sem (Array Value)).run P w = .ok new.toArray w := by
      split
      · rename_i h0
        have : new = [] := by rw [← List.length_eq_zero_iff]; rw [h.len]; exact h0
        subst this
        rfl
      · simp only [Sem.run_bind, hzv, Result.andThen_ok, Sem.run_pure]
        congr 1
        apply Array.ext'
        rw [zeroCells_list _ _ (by have := h.zs; have := h.pos; omega), hnew]
    simp only [happ, Result.andThen_ok]
    cases base with
    | none =>
      simp only [Sem.run_pure] at hst
      cases hst
      simp
    | some ad =>
      simp only at hst
      simp [hst]

theorem AppArgs.moved {t u e n sLen sCap : Nat} {i : TypeInfo} {zc cx : Value} {new old : List Value} (h : AppArgs P w t u e i zc cx n new) (base : Option Addr) (hcap : sCap < sLen + n) (hsm : sLen + n ≤ LIM)
    (hold : Elems w (.slice base sLen sCap) sLen old) (hol : old.length = sLen * i.size) (ty : TypeId) :
    ∃ cap rest, sLen + n ≤ cap ∧ (old ++ new ++ rest : List Value).length = cap * i.size ∧
      (Builtin.append_ #[t, u] ty #[.slice base sLen sCap, cx]).run P w = .ok (.slice (some ⟨w.heap.size, 0, none⟩) (sLen + n) cap) ({ w with drawn := w.drawn + 1 }.alloc (.cells (old ++ new ++ rest).toArray e)) := by
  have hsize : ∀ w, (sizeOf e).run P w = .ok i.size w := by simp [sizeOf, typeInfo, h.hi]
  have hinfo : ∀ w, (typeInfo e).run P w = .ok i w := by simp [typeInfo, h.hi]
  have hzv : ∀ w, (zeroValue e).run P w = .ok zc w := by simp [zeroValue, typeInfo, h.hi, h.hz]
  have hnot : ¬ (sLen + n ≤ sCap) := by omega
  have hbig : ¬ (((sLen + n : Nat) : Int) > IntKind.i64.max ∧ (False ∨ i.bytes = 0)) := by simp only [LIM] at hsm; simp only [IntKind.max_i64]; omega
  have hbig2 : ¬ (((sLen + n : Nat) : Int) > IntKind.i64.max ∧ (True ∨ i.bytes = 0)) := by simp only [LIM] at hsm; simp only [IntKind.max_i64]; omega
  have hnext : ¬ (Builtin.nextslicecap (sLen + n) sCap * i.bytes > 2 ^ 48) := by
    have h1 := next_bound (sLen + n) sCap hcap
    have h2 : Builtin.nextslicecap (sLen + n) sCap * i.bytes ≤ (2 * 4294967296 + 1024) * 4096 := by
      have := h.by_
      simp only [LIM] at hsm
      exact Nat.mul_le_mul (by omega) this
    omega
  have hchoose : ∀ w : World, (choose (.appendCap (sLen + n) sCap e)).run P w = .ok (sLen + n + w.tape w.drawn (.appendCap (sLen + n) sCap e) % (2 ^ 63 - (sLen + n))) { w with drawn := w.drawn + 1 } := by
    intro w
    simp [choose, Sem.run, Question.forced, Question.cut]
  have hask : ∀ (m : Nat) (w : World), (askRoom m).run P w = .ok () w := by
    intro m w
    unfold askRoom
    split <;> rfl
  generalize hcapv : sLen + n + w.tape w.drawn (.appendCap (sLen + n) sCap e) % (2 ^ 63 - (sLen + n)) = cap at *
  have hz0 : 0 < zc.cells.size := by have := h.zs; have := h.pos; omega
  have hoe := (hold.drawn (w.drawn + 1)).first (P := P) (esz := i.size) hol (Nat.le_refl sLen) (by intro s hs; cases hs)
  rw [← hol, List.take_length] at hoe
  refine ⟨cap, (List.replicate (cap - (sLen + n)) zc.cells.toList).flatten, by omega, ?_, ?_⟩
  · have hfl : ∀ k, ((List.replicate k zc.cells.toList).flatten).length = k * i.size := by
      intro k
      have := h.zs
      simp [this]
    rw [List.length_append, List.length_append, hol, h.len, hfl, ← Nat.add_mul, ← Nat.add_mul]
    congr 1
    omega
  · have hrow : ∀ (x : Array Value), x.toList = old ++ new ++ (List.replicate (cap - (sLen + n)) zc.cells.toList).flatten → x = (old ++ new ++ (List.replicate (cap - (sLen + n)) zc.cells.toList).flatten).toArray := by
      intro x hx; rw [← hx]
    rcases h.second with ⟨⟨d, hd, hni⟩, hel, hstr⟩ | ⟨⟨k, hk⟩, ⟨k2, rfl⟩, hnew⟩
    · have hfirst := (hel.drawn (w.drawn + 1)).first (P := P) h.len (Nat.le_refl n) hstr
      rw [← h.len, List.take_length] at hfirst
      have hz : (match (generalizing := false) d with | .int _ => true | _ => false) = false := by cases d <;> first | rfl | exact absurd rfl (hni _)
      simp only [Builtin.append_, List.getElem?_toArray, List.getElem?_cons_zero, List.getElem?_cons_succ, Sem.run_bind, run_underlying h.ht, Result.andThen_ok, hsize, run_underlying hd, Sem.run_pure]
      simp only [Bool.false_eq_true, if_false, hel.lenOf, Result.andThen_ok, Bool.not_false, if_true, hnot, Sem.run_bind, hinfo]
      rw [if_neg hbig]
      simp only [Sem.run_bind, hinfo, Result.andThen_ok]
      rw [if_neg hnext]
      simp only [Sem.run_bind, hchoose, hcapv, Result.andThen_ok, hinfo, hask, hoe, hfirst, hzv, Sem.run_pure]
      rw [hrow (old.toArray ++ new.toArray ++ Builtin.zeroCells zc.cells (cap - (sLen + n))) (by simp [zeroCells_list _ _ hz0])]
      simp [newRow]
    · have hw : IntKind.i64.wrap (n : Int) = n := IntWalk.i64_in _ (by have := h.small; simp only [LIM] at this; omega)
      have hsm : ¬ ((n : Int) * i.bytes > 2 ^ 48) := by
        have h1 : (n : Int) * i.bytes ≤ 4294967296 * 4096 := by
          have := h.small
          have := h.by_
          simp only [LIM] at *
          exact Int.mul_le_mul (by omega) (by omega) (by omega) (by omega)
        omega
      have happ : ∀ w : World, ((if n * i.size = 0 then pure #[] else do pure (Builtin.zeroCells (← zeroValue e).cells n)) : Sem (Array Value)).run P w = .ok new.toArray w := by
        intro w
        split
        · rename_i h0
          have : new = [] := by rw [← List.length_eq_zero_iff]; rw [h.len]; exact h0
          subst this
          rfl
        · simp only [Sem.run_bind, hzv, Result.andThen_ok, Sem.run_pure]
          congr 1
          apply Array.ext'
          rw [zeroCells_list _ _ hz0, hnew]
      simp only [Builtin.append_, List.getElem?_toArray, List.getElem?_cons_zero, List.getElem?_cons_succ, Sem.run_bind, run_underlying h.ht, Result.andThen_ok, hsize, run_underlying hk, Sem.run_pure, if_true,
        asInt, asIntOf, hw, hinfo, hsm, if_false, Bool.not_true, Bool.false_eq_true, Int.toNat_natCast, show ¬ ((n : Int) < 0) from by omega, hnot]
      rw [if_neg hbig2]
      simp only [Sem.run_bind, hinfo, Result.andThen_ok]
      rw [if_neg hnext]
      simp only [Sem.run_bind, hchoose, hcapv, Result.andThen_ok, hinfo, hask, hoe, happ, hzv, Sem.run_pure]
      rw [hrow (old.toArray ++ new.toArray ++ Builtin.zeroCells zc.cells (cap - (sLen + n))) (by simp [zeroCells_list _ _ hz0])]
      simp [newRow]

section
variable {ρ : Env} {a : Act} (hE : EnvOK S w μ ρ a.tmps) (hG : GlobOK S w G) (hg : Good μ S w σ)
include hE hG hg

theorem store_sound {o : Oper} {n : Nat} {x y : Opd} {v : AV} {t : Nat} {ox ov : Operand} (ho : o.op = .store t ox ov) (hn : P_size P t = some n) (hx : cOpd G ox = some x) (hy : cOpd G ov = some y)
    (hv : effOp ρ σ (.store n x y) = some (v, σ')) : Acts P S w μ σ (execOp a.eval o) v σ' := by
  obtain ⟨dst, op, oty, pos, after, guard⟩ := o
  simp only at ho
  subst ho
  simp only [effOp] at hv
  split at hv
  · rename_i id ver off v' he hv'
    obtain ⟨b, m, hμ, e⟩ := (ev_rep hE hG hx he).ptrA
    have hr := ev_rep hE hG hy hv'
    split at hv
    · rename_i c vr wm ty0 hob
      split at hv
      · rename_i hcond
        obtain ⟨hfit, rfl, hlen, hwm, hroom⟩ := hcond
        simp only [Option.some.injEq, Prod.mk.injEq] at hv
        obtain ⟨rfl, rfl⟩ := hv
        obtain ⟨hcr, h1⟩ := cells_rep hr hfit
        obtain ⟨b', n', vs, et, lo, hi, e1, e2, e3, e4, e5, e6, e7⟩ := (hg.obj id _ hob).cells
        rw [hμ] at e1
        cases e1
        have hsz : (a.eval ov).cells.toList.length = n := by rw [← hcr.length, ← toCells_toList, ← Cells.len_toList, hlen]
        obtain ⟨w1, vs1, r1, r2, r3, r4, r5, r6⟩ := run_storeCells (P := P) (o := off) (a.eval ov).cells.toList w vs 0 e2 (by omega) (fun j hj1 hj2 => (e7 j (by omega) (by omega)).2) h1
        obtain ⟨μ', g1, g2, g3⟩ := set_cells (c' := spliceC c off v'.toCells) (ver' := vr) (nc := v'.cells) hg hob hμ e2 e3 e4 r2 r3 (by omega) r4 r5 r6 hwm hcr h1 (by
          intro j v hv
          rcases spliceC_get (by omega) hv with h | h | h
          · exact .inl h
          · rw [toCells_toList] at h
            exact .inr (.inl ⟨h.1, by omega, h.2.2⟩)
          · exact .inr (.inr ⟨by omega, h.2⟩)) (by rw [spliceC_len (by omega)]; exact e4) (.inl rfl)
        refine ⟨.skip, undef, w1, μ', ?_, .skip, g1, g2, .p .undef⟩
        have hsz' : (a.eval ov).cells.size = n := by rw [← Array.length_toList]; exact hsz
        simp only [execOp, Instr.storeAt, e, Instr.sureAddr, Sem.run_bind, Sem.run_pure, Result.andThen_ok, storeVar, run_size hn]
        rw [if_neg (by simp [hsz'])]
        simp only [r1, Result.andThen_ok]
      · cases hv
    · cases hv
  · cases hv

end

end Go.Ab
