/- Arguments of slices and structs, however deep, as pure values, and how many letters and scalars they hold. -/
import Derived.Test.YtikebbklkiodlaaDoorAbE3
set_option linter.unusedSectionVars false
set_option linter.unusedSimpArgs false
set_option linter.unusedVariables false
set_option maxRecDepth 100000
namespace Go.Ab
variable [Marks]
open Go Go.Ab Go.ChangeShapes Go.WideShapes Go.RowKit Go.Deep
mutual
/-- how many letters and scalars lie in a value -/
def szP : PV → Nat
  | .str s => s.length + 1
  | .agg l => szL l
  | .vsl l _ => szL l
  | _ => 1
def szL : List PV → Nat
  | [] => 0
  | v :: r => szP v + szL r
end
theorem szL_app : ∀ (a b : List PV), szL (a ++ b) = szL a + szL b
  | [], b => by simp [szL]
  | v :: r, b => by simp only [List.cons_append, szL, szL_app r b]; omega
/-- a measure of data that counts their letters -/
structure BulkOK {H : Type} (B : DataW H → Nat) : Prop where
  str : ∀ l : List UInt8, l.length + 1 ≤ B (.lit (.string l))
  lit : ∀ l : Lit, 1 ≤ B (.lit l)
  sl : ∀ es rs : List (DataW H), (es.map B).sum ≤ B (.slice es rs)
  agg : ∀ ps : List (DataW H), (ps.map B).sum ≤ B (.agg ps)
theorem szL_rows {H : Type} {B : DataW H → Nat} : ∀ (rows : List (List PV)) (ds : List (DataW H)), rows.length = ds.length → (∀ (i : Nat) r d, rows[i]? = some r → ds[i]? = some d → szL r ≤ B d) → szL rows.flatten ≤ (ds.map B).sum
  | [], _, _, _ => by simp [szL]
  | r :: rows, [], h, _ => by simp at h
  | r :: rows, d :: ds, hl, h => by
    have ih := szL_rows rows ds (by simpa using hl) (fun i r d hr hd => h (i + 1) r d (by simpa using hr) (by simpa using hd))
    have h0 := h 0 r d rfl rfl
    simp only [List.flatten_cons, szL_app, List.map_cons, List.sum_cons]
    omega
section
variable {H : Type} {enc : TypeId × Value → H} {P : Program} {w : World} {base : Nat} {spare : Nat → Bool} {held : Bool}
theorem trod_repB {B : DataW H → Nat} (hB : BulkOK B) {T : List TypeId} (hT : closedB P T = true) : ∀ (fuel : Nat) (t : TypeId) (cs : List Value) (x : DataW H × List MemPlace), t ∈ T → DataW.trod enc P w base spare held fuel t cs = some x →
    ∃ ps : List PV, RepPL (Ex w) w ps cs ∧ (∀ c ∈ cs, one c = true) ∧ OfT P t ps ∧ ps.length = P.cellsOf t ∧ szL ps ≤ B x.1 := by
  intro fuel
  induction fuel with
  | zero => intro t cs x _ h; simp [DataW.trod] at h
  | succ fuel ih =>
    intro t cs x ht h
    have hcl := List.all_eq_true.1 hT t ht
    cases hu : P.underlying t with
    | none => rw [hu] at hcl; simp at hcl
    | some u =>
      rw [hu] at hcl
      cases u with
      | bool =>
        obtain ⟨b, rfl, rfl⟩ := DataW.trod_bool hu h
        exact ⟨[.bool b], .cons (.bool _) .nil, by simp [one], .bool hu b, by simpa using (beq_iff_eq.1 hcl).symm, by simpa [szL, szP] using hB.lit _⟩
      | int k =>
        obtain ⟨n, rfl, rfl, hw⟩ := DataW.trod_int hu h
        exact ⟨[.int k n], .cons (.int _ _) .nil, by simp [one], .int hu n hw, by simpa using (beq_iff_eq.1 hcl).symm, by simpa [szL, szP] using hB.lit _⟩
      | string =>
        obtain ⟨s, rfl, rfl, hs⟩ := DataW.trod_string hu h
        have hl : s.data.toList.length ≤ maxLen := by
          have : s.size = s.data.toList.length := by simp only [Array.length_toList]; rfl
          omega
        exact ⟨[.str s.data.toList], .cons (.str rfl) .nil, by simp [one], .str hu _ hl, by simpa using (beq_iff_eq.1 hcl).symm, by simpa [szL, szP] using hB.str s.data.toList⟩
      | slice e =>
        simp only [Bool.and_eq_true, List.contains_iff_mem, Bool.not_eq_true', beq_eq_false_iff_ne, beq_iff_eq] at hcl
        obtain ⟨⟨hc1, he⟩, hc0⟩ := hcl
        have hsl : (cs = [.slice none 0 0]) ∨ ∃ (a : Addr) (len cap : Nat) (es : List (DataW H)), cs = [.slice (some a) len cap] ∧ len ≤ cap ∧ cap ≤ maxLen ∧ es.length = len ∧ (es.map B).sum ≤ B x.1 ∧
            ∀ i, i < len → ∃ l y, w.cells? base (a.add (i * P.cellsOf e)) (P.cellsOf e) = some l ∧ DataW.trod enc P w base spare held fuel e l = some y ∧ es[i]? = some y.1 := by
          rcases DataW.trod_slice hu h with ⟨h1, _⟩ | ⟨a, len, cap, elems, rest, n, hn, h1, hx, _, h2, h3, h4, h5, _⟩
          · exact .inl h1
          · obtain rfl : fuel = n := by omega
            refine .inr ⟨a, len, cap, elems.map (·.1), h1, h2, h3, by simpa using h4, by rw [hx]; exact hB.sl _ _, fun i hi => ?_⟩
            have h6 := h5 i hi
            have : i < elems.length := by omega
            rw [List.getElem?_eq_getElem this] at h6
            obtain ⟨l, g1, g2⟩ := Option.bind_eq_some_iff.1 h6
            exact ⟨l, _, g1, g2, by rw [List.getElem?_map, List.getElem?_eq_getElem this]; rfl⟩
        rcases hsl with rfl | ⟨a, len, cap, es, rfl, hlc, hcm, hesl, hess, hel⟩
        · exact ⟨[.vsl [] 0], .cons (.vsl0 _ _) .nil, by simp [one], .sl hu [] (by simp) (by simp) (by simp), by simpa using hc1.symm, by simp [szL, szP]⟩
        · obtain ⟨rows, hrl, hrr⟩ := choose_list (fun (i : Nat) (r : List PV) => ∃ l, w.cells? base (a.add (i * P.cellsOf e)) (P.cellsOf e) = some l ∧ RepPL (Ex w) w r l ∧ (∀ c ∈ l, one c = true) ∧ OfT P e r ∧ r.length = P.cellsOf e ∧ ∃ d, es[i]? = some d ∧ szL r ≤ B d) (List.range len) (by
            intro i hi
            obtain ⟨l, y, h1, h2, h7⟩ := hel i (List.mem_range.1 hi)
            obtain ⟨ps, g1, g2, g3, g4, g5⟩ := ih e l y he h2
            exact ⟨ps, l, h1, g1, g2, g3, g4, y.1, h7, g5⟩)
          rw [List.length_range] at hrl
          have hrow : ∀ (i : Nat) r, rows[i]? = some r → ∃ l, w.cells? base (a.add (i * P.cellsOf e)) (P.cellsOf e) = some l ∧ RepPL (Ex w) w r l ∧ (∀ c ∈ l, one c = true) ∧ OfT P e r ∧ r.length = P.cellsOf e ∧ ∃ d, es[i]? = some d ∧ szL r ≤ B d := by
            intro i r hr
            have hi : i < len := by rw [← hrl]; exact (List.getElem?_eq_some_iff.1 hr).1
            exact hrr i i r (List.getElem?_range hi) hr
          have hmem : ∀ r ∈ rows, OfT P e r ∧ r.length = P.cellsOf e := by
            intro r hr
            obtain ⟨i, hi⟩ := List.getElem?_of_mem hr
            obtain ⟨l, _, _, _, g3, g4, _⟩ := hrow i r hi
            exact ⟨g3, g4⟩
          have hsz : szL rows.flatten ≤ B x.1 := by
            refine Nat.le_trans (szL_rows rows es (by rw [hrl, hesl]) fun i r d hr hd => ?_) hess
            obtain ⟨_, _, _, _, _, _, d', h1, h2⟩ := hrow i r hr
            rw [hd] at h1
            obtain rfl := Option.some.inj h1
            exact h2
          refine ⟨[.vsl rows.flatten rows.length], .cons ?_ .nil, by simp [one], .sl hu rows (fun r hr => (hmem r hr).1) (fun r hr => (hmem r hr).2) (by omega), by simpa using hc1.symm, by simpa [szL, szP] using hsz⟩
          rw [hrl]
          rcases Nat.eq_zero_or_pos len with h0 | h0
          · subst h0
            have : rows = [] := List.length_eq_zero_iff.1 hrl
            subst this
            exact .vsl0 _ _
          · have hne : P.cellsOf e ≠ 0 := hc0
            -- the address is a plain one
            obtain ⟨b, o, spot⟩ := a
            obtain ⟨l0, _, q1, _, _⟩ := hel 0 h0
            obtain ⟨_, q3, q4⟩ := World.cells?_some q1
            have q5 := q4 0 (by omega)
            have hl0 : 0 < l0.length := by omega
            rw [List.getElem?_eq_getElem hl0] at q5
            simp only [Nat.zero_mul, Addr.add, if_true] at q5
            obtain rfl : spot = none := World.cell?_spot q5
            refine .vsl hlc (repCells_get _ _ fun j v hj => ?_)
            obtain ⟨i, k, r, h1, h2, rfl, h4⟩ := flatten_get (n := P.cellsOf e) rows j v (fun r hr => (hmem r hr).2) hj
            obtain ⟨l, m1, m2, m3, _, m5, _⟩ := hrow i r h1
            obtain ⟨_, n2, n3⟩ := World.cells?_some m1
            obtain ⟨c, e1, e2⟩ := m2.get h2
            have e3 := n3 k h4
            rw [e1] at e3
            refine ⟨c, ?_, m3 c (List.mem_of_getElem? e1), e2⟩
            rw [← e3]
            congr 1
            unfold Addr.add
            split <;> split <;> simp_all <;> omega
      | struct fs =>
        simp only [Bool.and_eq_true] at hcl
        obtain ⟨hrow, hfs⟩ := hcl
        split at hrow
        · rename_i n hn
          obtain ⟨xs, m, hm, hx0, hlen, hxl, hxs⟩ := DataW.trod_struct hu h
          obtain rfl : fuel = m := by omega
          obtain ⟨parts, hpl, hpp⟩ := choose_list (fun (i : Nat) (r : List PV) => ∀ f, fs.toList[i]? = some f → RepPL (Ex w) w r ((cs.drop f.offset).take (P.cellsOf f.type)) ∧ (∀ c ∈ (cs.drop f.offset).take (P.cellsOf f.type), one c = true) ∧ OfT P f.type r ∧ r.length = P.cellsOf f.type ∧ ∃ d, (xs.map (·.1))[i]? = some d ∧ szL r ≤ B d) (List.range fs.toList.length) (by
            intro i hi
            have hi := List.mem_range.1 hi
            have hif : fs.toList[i]? = some fs.toList[i] := List.getElem?_eq_getElem hi
            generalize fs.toList[i] = f at hif
            have hi' : fs[i]? = some f := by simpa using hif
            have hlt : i < xs.length := by rw [hxl]; exact (Array.getElem?_eq_some_iff.1 hi').1
            have hx := hxs i f hi'
            rw [List.getElem?_eq_getElem hlt] at hx
            obtain ⟨ps, g1, g2, g3, g4, g5⟩ := ih f.type _ _ (by simpa using List.all_eq_true.1 hfs f (List.mem_of_getElem? hif)) hx
            refine ⟨ps, fun f' hf' => ?_⟩
            rw [hif] at hf'
            obtain rfl := Option.some.inj hf'
            exact ⟨g1, g2, g3, g4, _, by rw [List.getElem?_map, List.getElem?_eq_getElem hlt]; rfl, g5⟩)
          rw [List.length_range] at hpl
          have hpp : ∀ (i : Nat) f r, fs.toList[i]? = some f → parts[i]? = some r → RepPL (Ex w) w r ((cs.drop f.offset).take (P.cellsOf f.type)) ∧ (∀ c ∈ (cs.drop f.offset).take (P.cellsOf f.type), one c = true) ∧ OfT P f.type r ∧ r.length = P.cellsOf f.type ∧ ∃ d, (xs.map (·.1))[i]? = some d ∧ szL r ≤ B d := fun i f r hf hr =>
            hpp i i r (List.getElem?_range (List.getElem?_eq_some_iff.1 hf).1) hr f hf
          have hr := fields_rep (S := Ex w) (w := w) cs n fs.toList 0 parts hn (by rw [hlen]; exact beq_iff_eq.1 hrow) hpl fun i f r hf hr => ⟨(hpp i f r hf hr).1, (hpp i f r hf hr).2.2.2.1⟩
          rw [List.drop_zero] at hr
          refine ⟨parts.flatten, hr, ?_, .struct hu parts hpl (fun i f r hf hr => (hpp i f r hf hr).2.2.1) (fun i f r hf hr => (hpp i f r hf hr).2.2.2.1), by rw [hr.length, hlen], ?_⟩
          rotate_left
          · rw [hx0]
            refine Nat.le_trans (szL_rows parts (xs.map (·.1)) (by rw [hpl]; simpa using hxl.symm) fun i r d hr hd => ?_) (hB.agg _)
            have hi : i < fs.toList.length := by rw [← hpl]; exact (List.getElem?_eq_some_iff.1 hr).1
            obtain ⟨_, _, _, _, d', h1, h2⟩ := hpp i _ r (List.getElem?_eq_getElem hi) hr
            rw [hd] at h1
            obtain rfl := Option.some.inj h1
            exact h2
          exact ones_of cs n fs.toList 0 hn (by rw [hlen]; exact beq_iff_eq.1 hrow) (fun i f hf => by
            have hi : i < parts.length := by rw [hpl]; exact (List.getElem?_eq_some_iff.1 hf).1
            exact (hpp i f parts[i] hf (by simp [hi])).2.1)
        · cases hrow
      | invalid => simp at hcl
      | float _ => simp at hcl
      | complex _ => simp at hcl
      | unsafePointer => simp at hcl
      | _ => simp at hcl
end
section
variable {H : Type} {enc : TypeId × Value → H} {P : Program} {W W' : World} {base b : Nat} {spare : Nat → Bool} {held : Bool} {t : TypeId} {v : Value} {d : DataW H} {ps : List MemPlace} {r : Reach}
theorem open_structB {B : DataW H → Nat} (hB : BulkOK B) {T : List TypeId} {fs : Array Field} (hT : closedB P T = true) (ht : t ∈ T) (hu : P.underlying t = some (.struct fs)) (hv : Value.okWide P W r b t v) (h : DataW.Trod enc P W base spare held t v d ps) :
    ∃ cs vs, v = .agg cs ∧ Rep (Ex W) W (fun _ _ => none) (.p (.agg vs)) v ∧ OfT P t vs ∧ szL vs ≤ B d := by
  unfold Value.okWide at hv
  rw [hu] at hv
  obtain ⟨cs, rfl, _, _⟩ := hv
  obtain ⟨n, hn⟩ := h
  obtain ⟨vs, h1, h2, h3, _, h5⟩ := trod_repB hB hT n t cs.toList _ ht hn
  exact ⟨cs, vs, rfl, .p (.agg h1 h2), h3, h5⟩
theorem open_sliceB {B : DataW H → Nat} (hB : BulkOK B) {T : List TypeId} {e : TypeId} (hT : closedB P T = true) (ht : t ∈ T) (hu : P.underlying t = some (.slice e)) (hv : Value.okWide P W r b t v) (h : DataW.Trod enc P W base spare held t v d ps) :
    ∃ u, Rep (Ex W) W (fun _ _ => none) (.p u) v ∧ OfT P t [u] ∧ szL [u] ≤ B d := by
  obtain ⟨n, hn⟩ := h
  obtain ⟨vs, h1, h2, h3, _, h5⟩ := trod_repB hB hT n t _ _ ht hn
  obtain ⟨rows, rfl, _, _, _⟩ := h3.of_sl hu
  have hvc : ∃ c, v.cells.toList = [c] ∧ v = c := by
    unfold Value.okWide at hv
    rw [hu] at hv
    simp only [Cell.okWide, Cell.ok, hu] at hv
    cases v <;> first | exact ⟨_, rfl, rfl⟩ | (simp at hv)
  obtain ⟨c, hc, rfl⟩ := hvc
  rw [hc] at h1
  cases h1 with
  | cons h1 _ => exact ⟨_, .p h1, h3, h5⟩
end
end Go.Ab
