/- What closing texts share: cells read out of the memory, variables laid, and the form's last condition. -/
import Derived.Test.YtikebbklkiodlaaDoorAbA23
import Derived.Deep.Strs
import Derived.FnData
import Derived.OpenShut
import Derived.WalkKit
import Derived.ProofKit
import Derived.Deep.DeepHandedRow
import Derived.Deep.DeepWitnessRowRef
import Derived.Lay
import Derived.ChangeSame
import Derived.MakeChecks
set_option linter.unusedSectionVars false
set_option linter.unusedSimpArgs false
set_option linter.unusedVariables false
set_option maxRecDepth 100000
namespace Go.Ab
variable [Marks]
open Go Go.Ab Go.ChangeShapes Go.WideShapes Go.RowKit Go.Deep

theorem repCells_get {w : World} {b : Nat} : ∀ (ps : List PV) (o : Nat), (∀ (j : Nat) v, ps[j]? = some v → ∃ c, w.cell? ⟨b, o + j, none⟩ = some c ∧ one c = true ∧ RepP (Ex w) w v c) → RepCells (Ex w) w ps b o
  | [], o, _ => .nil b o
  | p :: r, o, h => by
    obtain ⟨c, h1, h2, h3⟩ := h 0 p rfl
    refine .cons (ex_of h1) h1 h2 h3 (repCells_get r (o + 1) fun j v hj => ?_)
    have := h (j + 1) v (by simpa using hj)
    rwa [show o + (j + 1) = o + 1 + j from by omega] at this

theorem glob_row {P : Program} {W : World} {n : String} {g : Nat} {cs : Array Value} {l : List PV} (h1 : P.globalNamed n = some g) (h3 : W.var? P n = some cs) (hlen : cs.size = l.length) (hne : 0 < l.length)
    (hc : ∀ (j : Nat) v, l[j]? = some v → ∃ c, cs[j]? = some c ∧ one c = true ∧ RepP (Ex W) W v c) : RepCells (Ex W) W l g 0 ∧ Ex W g l.length ∧ W.cell? ⟨g, l.length, none⟩ = none := by
  have hcell : ∀ (j : Nat) v, l[j]? = some v → ∃ c, W.cell? ⟨g, 0 + j, none⟩ = some c ∧ one c = true ∧ RepP (Ex W) W v c := by
    intro j v hj
    obtain ⟨c, k1, k2, k3⟩ := hc j v hj
    exact ⟨c, by rw [Nat.zero_add, World.var?_cell h1 h3 j]; exact k1, k2, k3⟩
  refine ⟨repCells_get _ _ hcell, ?_, ?_⟩
  · obtain ⟨c, k1, _⟩ := hcell 0 l[0] (by simp)
    exact Ex.lt (ex_of k1)
  · rw [World.var?_cell h1 h3]
    simp [hlen]

theorem three {α : Type} {l : List α} (h : l.length = 3) : ∃ a b c, l = [a, b, c] := by
  cases l with
  | nil => cases h
  | cons a l => cases l with
    | nil => cases h
    | cons b l => cases l with
      | nil => cases h
      | cons c l => cases l with
        | nil => exact ⟨a, b, c, rfl⟩
        | cons d l => simp at h

theorem laid_at {P : Program} {w : World} {n : String} {d : DataW Unit} : ∀ {l : List (String × DataW Unit)} {ps : List MemPlace}, DataW.LaidVars P w l ps → (n, d) ∈ l →
    ∃ (g : Nat) (t : TypeId) (cs : Array Value) (fuel : Nat) (p : List MemPlace), P.globalNamed n = some g ∧ (P.globals[g]?).map (·.type) = some t ∧ w.var? P n = some cs ∧ DataW.trod (fun _ => ()) P w 0 (fun _ => true) false fuel t cs.toList = some (d, p)
  | [], _, _, hm => by cases hm
  | (n', d') :: r, ps, h, hm => by
    obtain ⟨g, t, cs, fuel, p, q, h1, h2, h3, h4, h5, _⟩ := h
    rcases List.mem_cons.1 hm with he | hm
    · cases he
      exact ⟨g, t, cs, fuel, p, h1, h2, h3, h4⟩
    · exact laid_at h5 hm

theorem post_of_kept {H : Type} {enc : TypeId × Value → H} {P : Program} {f : Func} {s : ChangeSpec} {apart fresh handsOn again : Bool} {W W' : World} {args : Array Value} {v : Value} {ds gs : List (DataW H)} {before pa pv : List MemPlace}
    (hW : DataW.Whole enc P f.params.toList s.vars apart W args.toList ds gs before)
    (hres : ∀ (b : Nat) (sp : Nat → Bool) (hd : Bool), DataW.TrodAll enc P W' b sp hd f.resultTypes.toList (v.resultList f.resultTypes.size) (s.fn H (ds ++ gs)).results [])
    (hargs : ∀ sp : Nat → Bool, (∀ p ∈ before, sp p.block = true) → DataW.TrodAll enc P W' 0 sp true f.params.toList args.toList (s.fn H (ds ++ gs)).args pa)
    (hvars : ∀ sp : Nat → Bool, (∀ p ∈ before, sp p.block = true) → DataW.TrodVars enc P W' sp s.vars (s.fn H (ds ++ gs)).vars pv)
    (hps : before = pa ++ pv) (hk : Kept W W')
    (hok : ∀ (j : Nat) (t : TypeId) (r : Value), f.resultTypes[j]? = some t → (v.resultList f.resultTypes.size)[j]? = some r → Value.okWide P W' .any 0 t r) :
    s.post enc P f apart fresh handsOn again W args v W' := by
  have hlt := hW.lt
  have hold : ∀ p ∈ before, (fun b => decide (b < W.heap.size)) p.block = true := fun p hp => by simpa using hlt p hp
  refine ⟨ds, gs, before, [], pa, pv, hW, hres _ _ _, hargs _ hold, hvars _ hold, World.keptBut_mono (fun p hp => ⟨hp, ?_⟩) (hk.but (· ∈ before)), fun _ => ?_⟩
  · rw [hps, List.mem_append] at hp
    exact Or.inr hp
  · obtain ⟨_, _, _, _, _, hz, hn⟩ := hW
    refine ⟨hok, _, _, ([] ++ pa) ++ pv, ⟨[] ++ pa, pv, trodAll_append (hargs _ (fun _ _ => rfl)) (hres _ _ _), hvars _ (fun _ _ => rfl), rfl, ?_, ?_⟩, ?_⟩
    · intro b off hp
      have hmem : MemPlace.cell b off ∈ before := by rw [hps]; simpa using hp
      rw [hk.frozen _ (show b < W.heap.size from hlt _ hmem)]
      exact hz b off hmem
    · intro ha
      have := hn ha
      rw [hps] at this
      simpa using this
    · intro p hp _
      rw [hps]
      simpa using hp

end Go.Ab

/- Arguments of slices and structs, however deep, as pure values. -/
set_option maxRecDepth 100000
namespace Go.Ab
variable [Marks]
open Go Go.Ab Go.ChangeShapes Go.WideShapes Go.RowKit Go.Deep

/-- what the data of a type look like as pure cells -/
inductive OfT (P : Program) : TypeId → List PV → Prop
  | bool {t : TypeId} (h : P.underlying t = some .bool) (b : Bool) : OfT P t [.bool b]
  | int {t : TypeId} {k : IntKind} (h : P.underlying t = some (.int k)) (n : Int) (hw : (Lit.int k n).wf = true) : OfT P t [.int k n]
  | str {t : TypeId} (h : P.underlying t = some .string) (s : List UInt8) (hl : s.length ≤ maxLen) : OfT P t [.str s]
  | sl {t e : TypeId} (h : P.underlying t = some (.slice e)) (rows : List (List PV)) (hr : ∀ r ∈ rows, OfT P e r) (hl : ∀ r ∈ rows, r.length = P.cellsOf e) (hm : rows.length ≤ maxLen) : OfT P t [.vsl rows.flatten rows.length]
  | struct {t : TypeId} {fs : Array Field} (h : P.underlying t = some (.struct fs)) (parts : List (List PV)) (hn : parts.length = fs.toList.length) (hp : ∀ (i : Nat) (f : Field) (r : List PV), fs.toList[i]? = some f → parts[i]? = some r → OfT P f.type r) (hl : ∀ (i : Nat) (f : Field) (r : List PV), fs.toList[i]? = some f → parts[i]? = some r → r.length = P.cellsOf f.type) : OfT P t parts.flatten

/-- fields one behind the other -/
def inRow (P : Program) : Nat → List Field → Option Nat
  | o, [] => some o
  | o, f :: r => if f.offset = o then inRow P (o + P.cellsOf f.type) r else none
/-- types of scalars, and of slices and structs of such -/
def closedB (P : Program) (T : List TypeId) : Bool := T.all fun t => match P.underlying t with
  | some .bool => P.cellsOf t == 1
  | some (.int _) => P.cellsOf t == 1
  | some .string => P.cellsOf t == 1
  | some (.slice e) => P.cellsOf t == 1 && T.contains e && !(P.cellsOf e == 0)
  | some (.struct fs) => (match inRow P 0 fs.toList with
    | some n => n == P.cellsOf t
    | none => false) && fs.toList.all fun f => T.contains f.type
  | _ => false

theorem choose_list {α β : Type} (R : α → β → Prop) : ∀ (l : List α), (∀ x ∈ l, ∃ y, R x y) → ∃ m : List β, m.length = l.length ∧ ∀ (i : Nat) x y, l[i]? = some x → m[i]? = some y → R x y
  | [], _ => ⟨[], rfl, fun i x y h => by simp at h⟩
  | x :: l, h => by
    obtain ⟨y, hy⟩ := h x (by simp)
    obtain ⟨m, h1, h2⟩ := choose_list R l fun z hz => h z (List.mem_cons_of_mem _ hz)
    refine ⟨y :: m, by simp [h1], fun i a b ha hb => ?_⟩
    cases i with
    | zero =>
      simp only [List.getElem?_cons_zero, Option.some.injEq] at ha hb
      subst ha hb
      exact hy
    | succ i => exact h2 i a b (by simpa using ha) (by simpa using hb)

theorem flatten_get {α : Type} {n : Nat} : ∀ (rows : List (List α)) (j : Nat) (v : α), (∀ r ∈ rows, r.length = n) → rows.flatten[j]? = some v → ∃ (i k : Nat) (r : List α), rows[i]? = some r ∧ r[k]? = some v ∧ j = i * n + k ∧ k < n
  | [], j, v, _, h => by simp at h
  | r :: rows, j, v, hl, h => by
    rw [List.flatten_cons] at h
    by_cases hj : j < r.length
    · rw [List.getElem?_append_left hj] at h
      exact ⟨0, j, r, rfl, h, by simp, by rw [← hl r (by simp)]; exact hj⟩
    · rw [List.getElem?_append_right (by omega)] at h
      obtain ⟨i, k, r', h1, h2, h3, h4⟩ := flatten_get rows _ v (fun x hx => hl x (List.mem_cons_of_mem _ hx)) h
      have := hl r (by simp)
      exact ⟨i + 1, k, r', by simpa using h1, h2, by rw [Nat.succ_mul]; omega, h4⟩

section
variable {H : Type} {enc : TypeId × Value → H} {P : Program} {w : World} {base : Nat} {spare : Nat → Bool} {held : Bool}

/-- fields' cells, one behind the other -/
theorem fields_rep {S : Nat → Nat → Prop} (cs : List Value) (n : Nat) : ∀ (fl : List Field) (o : Nat) (parts : List (List PV)), inRow P o fl = some n → n = cs.length → parts.length = fl.length →
    (∀ (i : Nat) (f : Field) (r : List PV), fl[i]? = some f → parts[i]? = some r → RepPL S w r ((cs.drop f.offset).take (P.cellsOf f.type)) ∧ r.length = P.cellsOf f.type) → RepPL S w parts.flatten (cs.drop o)
  | [], o, parts, h, hn, hp, _ => by
    simp only [inRow, Option.some.injEq] at h
    subst h
    rw [hn, List.drop_length]
    cases parts with
    | nil => exact .nil
    | cons => simp at hp
  | f :: fl, o, parts, h, hn, hp, hr => by
    simp only [inRow] at h
    split at h
    · rename_i ho
      cases parts with
      | nil => simp at hp
      | cons p parts =>
        obtain ⟨h1, h2⟩ := hr 0 f p rfl rfl
        have ih := fields_rep cs n fl (o + P.cellsOf f.type) parts h hn (by simpa using hp) fun i g r hg hrr => hr (i + 1) g r (by simpa using hg) (by simpa using hrr)
        rw [ho] at h1
        rw [List.flatten_cons, ← List.take_append_drop (P.cellsOf f.type) (cs.drop o), List.drop_drop]
        exact h1.append ih
    · cases h

theorem ones_of (cs : List Value) (n : Nat) : ∀ (fl : List Field) (o : Nat), inRow P o fl = some n → n = cs.length → (∀ (i : Nat) (f : Field), fl[i]? = some f → ∀ c ∈ (cs.drop f.offset).take (P.cellsOf f.type), one c = true) → ∀ c ∈ cs.drop o, one c = true
  | [], o, h, hn, _ => by
    simp only [inRow, Option.some.injEq] at h
    subst h
    rw [hn, List.drop_length]
    simp
  | f :: fl, o, h, hn, hr => by
    simp only [inRow] at h
    split at h
    · rename_i ho
      have ih := ones_of cs n fl (o + P.cellsOf f.type) h hn fun i g hg => hr (i + 1) g (by simpa using hg)
      have h0 := hr 0 f rfl
      rw [ho] at h0
      intro c hc
      rw [← List.take_append_drop (P.cellsOf f.type) (cs.drop o), List.drop_drop] at hc
      rcases List.mem_append.1 hc with hc | hc
      · exact h0 c hc
      · exact ih c hc
    · cases h

theorem trod_rep {T : List TypeId} (hT : closedB P T = true) : ∀ (fuel : Nat) (t : TypeId) (cs : List Value) (x : DataW H × List MemPlace), t ∈ T → DataW.trod enc P w base spare held fuel t cs = some x →
    ∃ ps : List PV, RepPL (Ex w) w ps cs ∧ (∀ c ∈ cs, one c = true) ∧ OfT P t ps ∧ ps.length = P.cellsOf t := by
  intro fuel
  induction fuel with
  | zero => intro t cs x _ h; simp [DataW.trod] at h
  | succ fuel ih =>
    intro t cs x ht h
    have hcl := List.all_eq_true.1 hT t ht
    cases hu : P.underlying t with
    | none => rw [hu] at hcl; simp at hcl
    | some u =>
      rw [hu] at hcl
      cases u with
      | bool =>
        obtain ⟨b, rfl, _⟩ := DataW.trod_bool hu h
        exact ⟨[.bool b], .cons (.bool _) .nil, by simp [one], .bool hu b, by simpa using (beq_iff_eq.1 hcl).symm⟩
      | int k =>
        obtain ⟨n, rfl, _, hw⟩ := DataW.trod_int hu h
        exact ⟨[.int k n], .cons (.int _ _) .nil, by simp [one], .int hu n hw, by simpa using (beq_iff_eq.1 hcl).symm⟩
      | string =>
        obtain ⟨s, rfl, _, hs⟩ := DataW.trod_string hu h
        have hl : s.data.toList.length ≤ maxLen := by
          have : s.size = s.data.toList.length := by simp only [Array.length_toList]; rfl
          omega
        exact ⟨[.str s.data.toList], .cons (.str rfl) .nil, by simp [one], .str hu _ hl, by simpa using (beq_iff_eq.1 hcl).symm⟩
      | slice e =>
        simp only [Bool.and_eq_true, List.contains_iff_mem, Bool.not_eq_true', beq_eq_false_iff_ne, beq_iff_eq] at hcl
        obtain ⟨⟨hc1, he⟩, hc0⟩ := hcl
        have hsl : (cs = [.slice none 0 0]) ∨ ∃ (a : Addr) (len cap : Nat), cs = [.slice (some a) len cap] ∧ len ≤ cap ∧ cap ≤ maxLen ∧ ∀ i, i < len → ∃ l y, w.cells? base (a.add (i * P.cellsOf e)) (P.cellsOf e) = some l ∧ DataW.trod enc P w base spare held fuel e l = some y := by
          rcases DataW.trod_slice hu h with ⟨h1, _⟩ | ⟨a, len, cap, elems, rest, n, hn, h1, _, _, h2, h3, h4, h5, _⟩
          · exact .inl h1
          · obtain rfl : fuel = n := by omega
            refine .inr ⟨a, len, cap, h1, h2, h3, fun i hi => ?_⟩
            have h6 := h5 i hi
            have : i < elems.length := by omega
            rw [List.getElem?_eq_getElem this] at h6
            obtain ⟨l, g1, g2⟩ := Option.bind_eq_some_iff.1 h6
            exact ⟨l, _, g1, g2⟩
        rcases hsl with rfl | ⟨a, len, cap, rfl, hlc, hcm, hel⟩
        · exact ⟨[.vsl [] 0], .cons (.vsl0 _ _) .nil, by simp [one], .sl hu [] (by simp) (by simp) (by simp), by simpa using hc1.symm⟩
        · obtain ⟨rows, hrl, hrr⟩ := choose_list (fun (i : Nat) (r : List PV) => ∃ l, w.cells? base (a.add (i * P.cellsOf e)) (P.cellsOf e) = some l ∧ RepPL (Ex w) w r l ∧ (∀ c ∈ l, one c = true) ∧ OfT P e r ∧ r.length = P.cellsOf e) (List.range len) (by
            intro i hi
            obtain ⟨l, y, h1, h2⟩ := hel i (List.mem_range.1 hi)
            obtain ⟨ps, g1, g2, g3, g4⟩ := ih e l y he h2
            exact ⟨ps, l, h1, g1, g2, g3, g4⟩)
          rw [List.length_range] at hrl
          have hrow : ∀ (i : Nat) r, rows[i]? = some r → ∃ l, w.cells? base (a.add (i * P.cellsOf e)) (P.cellsOf e) = some l ∧ RepPL (Ex w) w r l ∧ (∀ c ∈ l, one c = true) ∧ OfT P e r ∧ r.length = P.cellsOf e := by
            intro i r hr
            have hi : i < len := by rw [← hrl]; exact (List.getElem?_eq_some_iff.1 hr).1
            exact hrr i i r (List.getElem?_range hi) hr
          have hmem : ∀ r ∈ rows, OfT P e r ∧ r.length = P.cellsOf e := by
            intro r hr
            obtain ⟨i, hi⟩ := List.getElem?_of_mem hr
            obtain ⟨l, _, _, _, g3, g4⟩ := hrow i r hi
            exact ⟨g3, g4⟩
          refine ⟨[.vsl rows.flatten rows.length], .cons ?_ .nil, by simp [one], .sl hu rows (fun r hr => (hmem r hr).1) (fun r hr => (hmem r hr).2) (by omega), by simpa using hc1.symm⟩
          rw [hrl]
          rcases Nat.eq_zero_or_pos len with h0 | h0
          · subst h0
            have : rows = [] := List.length_eq_zero_iff.1 hrl
            subst this
            exact .vsl0 _ _
          · have hne : P.cellsOf e ≠ 0 := hc0
            -- the address is a plain one
            obtain ⟨b, o, spot⟩ := a
            obtain ⟨l0, _, q1, _⟩ := hel 0 h0
            obtain ⟨_, q3, q4⟩ := World.cells?_some q1
            have q5 := q4 0 (by omega)
            have hl0 : 0 < l0.length := by omega
            rw [List.getElem?_eq_getElem hl0] at q5
            simp only [Nat.zero_mul, Addr.add, if_true] at q5
            obtain rfl : spot = none := World.cell?_spot q5
            refine .vsl hlc (repCells_get _ _ fun j v hj => ?_)
            obtain ⟨i, k, r, h1, h2, rfl, h4⟩ := flatten_get (n := P.cellsOf e) rows j v (fun r hr => (hmem r hr).2) hj
            obtain ⟨l, m1, m2, m3, _, m5⟩ := hrow i r h1
            obtain ⟨_, n2, n3⟩ := World.cells?_some m1
            obtain ⟨c, e1, e2⟩ := m2.get h2
            have e3 := n3 k h4
            rw [e1] at e3
            refine ⟨c, ?_, m3 c (List.mem_of_getElem? e1), e2⟩
            rw [← e3]
            congr 1
            unfold Addr.add
            split <;> split <;> simp_all <;> omega
      | struct fs =>
        simp only [Bool.and_eq_true] at hcl
        obtain ⟨hrow, hfs⟩ := hcl
        split at hrow
        · rename_i n hn
          obtain ⟨xs, m, hm, _, hlen, hxl, hxs⟩ := DataW.trod_struct hu h
          obtain rfl : fuel = m := by omega
          obtain ⟨parts, hpl, hpp⟩ := choose_list (fun (f : Field) (r : List PV) => RepPL (Ex w) w r ((cs.drop f.offset).take (P.cellsOf f.type)) ∧ (∀ c ∈ (cs.drop f.offset).take (P.cellsOf f.type), one c = true) ∧ OfT P f.type r ∧ r.length = P.cellsOf f.type) fs.toList (by
            intro f hf
            obtain ⟨i, hi⟩ := List.getElem?_of_mem hf
            have hi' : fs[i]? = some f := by simpa using hi
            have hlt : i < xs.length := by rw [hxl]; exact (Array.getElem?_eq_some_iff.1 hi').1
            have hx := hxs i f hi'
            rw [List.getElem?_eq_getElem hlt] at hx
            exact ih f.type _ _ (by simpa using List.all_eq_true.1 hfs f hf) hx)
          have hr := fields_rep (S := Ex w) (w := w) cs n fs.toList 0 parts hn (by rw [hlen]; exact beq_iff_eq.1 hrow) hpl fun i f r hf hr => ⟨(hpp i f r hf hr).1, (hpp i f r hf hr).2.2.2⟩
          rw [List.drop_zero] at hr
          refine ⟨parts.flatten, hr, ?_, .struct hu parts hpl (fun i f r hf hr => (hpp i f r hf hr).2.2.1) (fun i f r hf hr => (hpp i f r hf hr).2.2.2), by rw [hr.length, hlen]⟩
          exact ones_of cs n fs.toList 0 hn (by rw [hlen]; exact beq_iff_eq.1 hrow) (fun i f hf => by
            have hi : i < parts.length := by rw [hpl]; exact (List.getElem?_eq_some_iff.1 hf).1
            exact (hpp i f parts[i] hf (by simp [hi])).2.1)
        · cases hrow
      | invalid => simp at hcl
      | float _ => simp at hcl
      | complex _ => simp at hcl
      | unsafePointer => simp at hcl
      | _ => simp at hcl
end

section
variable {P : Program} {t : TypeId} {ps : List PV}
theorem OfT.of_bool (h : OfT P t ps) (ht : P.underlying t = some .bool) : ∃ b, ps = [.bool b] := by
  cases h with
  | bool _ b => exact ⟨b, rfl⟩
  | int h => rw [ht] at h; cases h
  | str h => rw [ht] at h; cases h
  | sl h => rw [ht] at h; cases h
  | struct h => rw [ht] at h; cases h
theorem OfT.of_int {k : IntKind} (h : OfT P t ps) (ht : P.underlying t = some (.int k)) : ∃ n, ps = [.int k n] ∧ (Lit.int k n).wf = true := by
  cases h with
  | bool h => rw [ht] at h; cases h
  | int h n hw => rw [ht] at h; cases h; exact ⟨n, rfl, hw⟩
  | str h => rw [ht] at h; cases h
  | sl h => rw [ht] at h; cases h
  | struct h => rw [ht] at h; cases h
theorem OfT.of_str (h : OfT P t ps) (ht : P.underlying t = some .string) : ∃ s, ps = [.str s] ∧ s.length ≤ maxLen := by
  cases h with
  | bool h => rw [ht] at h; cases h
  | int h => rw [ht] at h; cases h
  | str h s hl => exact ⟨s, rfl, hl⟩
  | sl h => rw [ht] at h; cases h
  | struct h => rw [ht] at h; cases h
theorem OfT.of_sl {e : TypeId} (h : OfT P t ps) (ht : P.underlying t = some (.slice e)) : ∃ rows : List (List PV), ps = [.vsl rows.flatten rows.length] ∧ (∀ r ∈ rows, OfT P e r) ∧ (∀ r ∈ rows, r.length = P.cellsOf e) ∧ rows.length ≤ maxLen := by
  cases h with
  | bool h => rw [ht] at h; cases h
  | int h => rw [ht] at h; cases h
  | str h => rw [ht] at h; cases h
  | sl h rows h1 h2 h3 => rw [ht] at h; cases h; exact ⟨rows, rfl, h1, h2, h3⟩
  | struct h => rw [ht] at h; cases h
theorem OfT.of_struct {fs : Array Field} (h : OfT P t ps) (ht : P.underlying t = some (.struct fs)) : ∃ parts : List (List PV), ps = parts.flatten ∧ parts.length = fs.toList.length ∧ ∀ (i : Nat) (f : Field) (r : List PV), fs.toList[i]? = some f → parts[i]? = some r → OfT P f.type r := by
  cases h with
  | bool h => rw [ht] at h; cases h
  | int h => rw [ht] at h; cases h
  | str h => rw [ht] at h; cases h
  | sl h => rw [ht] at h; cases h
  | struct h parts h1 h2 h3 => rw [ht] at h; cases h; exact ⟨parts, rfl, h1, h2⟩
theorem OfT.of_struct3 {f0 f1 f2 : Field} (h : OfT P t ps) (ht : P.underlying t = some (.struct #[f0, f1, f2])) : ∃ p0 p1 p2 : List PV, ps = p0 ++ (p1 ++ p2) ∧ OfT P f0.type p0 ∧ OfT P f1.type p1 ∧ OfT P f2.type p2 := by
  obtain ⟨parts, rfl, h1, h2⟩ := h.of_struct ht
  match parts, h1 with
  | [p0, p1, p2], _ => exact ⟨p0, p1, p2, by simp, h2 0 f0 p0 rfl rfl, h2 1 f1 p1 rfl rfl, h2 2 f2 p2 rfl rfl⟩
theorem OfT.of_struct4 {f0 f1 f2 f3 : Field} (h : OfT P t ps) (ht : P.underlying t = some (.struct #[f0, f1, f2, f3])) : ∃ p0 p1 p2 p3 : List PV, ps = p0 ++ (p1 ++ (p2 ++ p3)) ∧ OfT P f0.type p0 ∧ OfT P f1.type p1 ∧ OfT P f2.type p2 ∧ OfT P f3.type p3 := by
  obtain ⟨parts, rfl, h1, h2⟩ := h.of_struct ht
  match parts, h1 with
  | [p0, p1, p2, p3], _ => exact ⟨p0, p1, p2, p3, by simp, h2 0 f0 p0 rfl rfl, h2 1 f1 p1 rfl rfl, h2 2 f2 p2 rfl rfl, h2 3 f3 p3 rfl rfl⟩
theorem drop_flatten {α : Type} {n : Nat} : ∀ (rows : List (List α)) (i : Nat) (r : List α), (∀ r ∈ rows, r.length = n) → rows[i]? = some r → (rows.flatten.drop (i * n)).take n = r ∧ i * n + n ≤ rows.flatten.length
  | [], i, r, _, h => by simp at h
  | x :: rows, i, r, hl, h => by
    have hx := hl x (by simp)
    cases i with
    | zero =>
      simp only [List.getElem?_cons_zero, Option.some.injEq] at h
      subst h
      simp [← hx]
    | succ i =>
      obtain ⟨h1, h2⟩ := drop_flatten rows i r (fun y hy => hl y (List.mem_cons_of_mem _ hy)) (by simpa using h)
      rw [Nat.succ_mul]
      constructor
      · rw [List.flatten_cons, show i * n + n = x.length + i * n from by omega, List.drop_append, List.drop_of_length_le (by omega), List.nil_append, Nat.add_sub_cancel_left]
        exact h1
      · rw [List.flatten_cons, List.length_append]
        omega
end

end Go.Ab
