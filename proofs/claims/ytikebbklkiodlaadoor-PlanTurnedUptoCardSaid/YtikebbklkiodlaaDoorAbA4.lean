/- Constants, operands, and operations that ask for no memory: the abstract ones say what the model does. -/
import Derived.Test.YtikebbklkiodlaaDoorAbA3
import Derived.Laws.Slices
import Derived.Laws.Strings
set_option linter.unusedSectionVars false
set_option linter.unusedSimpArgs false
set_option linter.unusedVariables false
namespace Go.Ab
variable [Marks]
variable {S S' : Nat → Nat → Prop} {w w' : World} {μ μ' : Nat → Nat → Option (Nat × Nat)} {P : Program} {G : Globs}

def EnvOK (S : Nat → Nat → Prop) (w : World) (μ : Nat → Nat → Option (Nat × Nat)) (ρ : Env) (tmps : Array Value) : Prop :=
  ∀ t v, ρ.get t = some v → Rep S w μ v (tmps.getD t undef)
def GlobOK (S : Nat → Nat → Prop) (w : World) (G : Globs) : Prop := ∀ g l, G g = some l → RepCells S w l g 0 ∧ S g l.length ∧ w.cell? ⟨g, l.length, none⟩ = none

theorem Rep.oneP {v : PV} {c : Value} (h : RepP S w v c) (hf : (AV.p v).fit = true) : (∃ cs, v = .agg cs) ∨ one c = true := by
  cases h <;> first | exact .inr rfl | (exact .inl ⟨_, rfl⟩) | simp [AV.fit] at hf

theorem constLeaf_rep {c : Value} {v : AV} (h : constLeaf c = some v) : Rep S w μ v c ∧ one c = true := by
  unfold constLeaf at h
  split at h <;> first
    | (obtain rfl := Option.some.inj h; exact ⟨by first | exact .nil0 | (refine .p ?_; exact .str rfl) | (refine .p ?_; constructor), rfl⟩)
    | cases h
    | (split at h
       · rename_i x y hxy
         obtain ⟨h1, h2⟩ := hxy
         obtain rfl := Option.some.inj h
         obtain rfl : x = #[] := by simpa using h1
         obtain rfl : y = #[] := by simpa using h2
         exact ⟨.p (.fn _), rfl⟩
       · cases h)

theorem constLeaves_rep {cs : List Value} {vs : List AV} (h : constLeaves cs = some vs) : RepL S w μ vs cs ∧ ∀ c ∈ cs, one c = true := by
  induction cs generalizing vs with
  | nil => simp [constLeaves] at h; subst h; exact ⟨.nil, by simp⟩
  | cons c r ih =>
    simp only [constLeaves] at h
    split at h
    · rename_i a l ha hl
      obtain rfl := Option.some.inj h
      obtain ⟨h1, h2⟩ := constLeaf_rep (S := S) (w := w) (μ := μ) ha
      obtain ⟨h3, h4⟩ := ih hl
      exact ⟨.cons h1 h3, by intro x hx; cases hx with | head => exact h2 | tail _ hx => exact h4 x hx⟩
    · cases h

theorem allP_some {l : List AV} {ps : List PV} (h : allP l = some ps) : l = ps.map .p := by
  induction l generalizing ps with
  | nil => simp [allP] at h; subst h; rfl
  | cons v r ih =>
    simp only [allP] at h
    split at h
    · split at h
      · rename_i vs hv
        obtain rfl := Option.some.inj h
        simp [ih hv]
      · cases h
    · cases h

theorem mkAgg_rep {l : List AV} {cs : Array Value} (h : RepL S w μ l cs.toList) (h1 : ∀ c ∈ cs.toList, one c = true) : Rep S w μ (mkAgg l) (.agg cs) := by
  unfold mkAgg
  split
  · rename_i ps hp
    rw [allP_some hp] at h
    exact .p (.agg h.to_pv h1)
  · exact .agg h h1
theorem mkTup_rep {l : List AV} {cs : Array Value} (h : RepL S w μ l cs.toList) : Rep S w μ (mkTup l) (.tuple cs) := by
  unfold mkTup
  split
  · rename_i ps hp
    rw [allP_some hp] at h
    exact .p (.tup h.to_pv)
  · exact .tup h

theorem constAV_rep {c : Value} {v : AV} (h : constAV c = some v) : Rep S w μ v c := by
  unfold constAV at h
  split at h
  · rename_i cs
    cases hl : constLeaves cs.toList with
    | none => rw [hl] at h; cases h
    | some l =>
      rw [hl] at h
      obtain rfl := Option.some.inj h
      obtain ⟨h1, h2⟩ := constLeaves_rep (S := S) (w := w) (μ := μ) hl
      exact mkAgg_rep h1 h2
  · rename_i t x
    split at h
    · rename_i y hy
      obtain rfl := Option.some.inj h
      have := (constLeaf_rep (S := S) (w := w) (μ := μ) hy).1
      cases this with | p h => exact .p (.iface h)
    · cases h
  · split at h
    · rename_i x hx
      obtain rfl := Option.some.inj h
      obtain rfl : x = #[] := by simpa using hx
      exact .p .undef
    · cases h
  · exact (constLeaf_rep h).1

theorem cellsAV_rep {c : Value} {l : List AV} (h : cellsAV c = some l) : RepL S w μ l c.cells.toList ∧ ∀ x ∈ c.cells.toList, one x = true := by
  unfold cellsAV at h
  split at h
  · exact constLeaves_rep h
  · rename_i x
    cases hl : constLeaf c with
    | none => rw [hl] at h; cases h
    | some l =>
      rw [hl] at h
      obtain rfl := Option.some.inj h
      obtain ⟨h1, h2⟩ := constLeaf_rep (S := S) (w := w) (μ := μ) hl
      have : c.cells = #[c] := by cases c <;> first | rfl | exact absurd rfl (x _)
      rw [this]
      exact ⟨.cons h1 .nil, by simpa using h2⟩

section
variable {ρ : Env} {a : Act} (hE : EnvOK S w μ ρ a.tmps) (hG : GlobOK S w G)
include hE hG
theorem ev_rep {o : Operand} {x : Opd} {v : AV} (hc : cOpd G o = some x) (hv : ev ρ x = some v) : Rep S w μ v (a.eval o) := by
  cases o with
  | tmp t => obtain rfl := Option.some.inj hc; exact hE t v hv
  | const c =>
    simp only [cOpd, Option.map_eq_some_iff] at hc
    obtain ⟨y, hy, rfl⟩ := hc
    obtain rfl := Option.some.inj hv
    exact constAV_rep hy
  | global g =>
    simp only [cOpd, Option.map_eq_some_iff] at hc
    obtain ⟨y, hy, rfl⟩ := hc
    obtain rfl := Option.some.inj hv
    exact .p (.vptr (hG g y hy).1)
  | func f => obtain rfl := Option.some.inj hc; obtain rfl := Option.some.inj hv; exact .p (.fn f)
theorem evs_rep {o : List Operand} {x : List Opd} {v : List AV} (hc : cOpds G o = some x) (hv : evs ρ x = some v) : RepL S w μ v (o.map a.eval) := by
  induction o generalizing x v with
  | nil => obtain rfl := Option.some.inj hc; obtain rfl := Option.some.inj hv; exact .nil
  | cons y r ih =>
    simp only [cOpds] at hc
    split at hc
    · rename_i p l hp hl
      obtain rfl := Option.some.inj hc
      simp only [evs] at hv
      split at hv
      · rename_i u us hu hus
        obtain rfl := Option.some.inj hv
        exact .cons (ev_rep hE hG hp hu) (ih hl hus)
      · cases hv
    · cases hc
theorem evO_rep {o : Option Operand} {x : Option Opd} {v : Option AV} (hc : cOpdO G o = some x) (hv : evO ρ x = some v) :
    (v = none ∧ o.map a.eval = none) ∨ ∃ u c, v = some u ∧ o.map a.eval = some c ∧ Rep S w μ u c := by
  cases o with
  | none => obtain rfl := Option.some.inj hc; obtain rfl := Option.some.inj hv; exact .inl ⟨rfl, rfl⟩
  | some y =>
    simp only [cOpdO, Option.map_eq_some_iff] at hc
    obtain ⟨p, hp, rfl⟩ := hc
    simp only [evO, Option.map_eq_some_iff] at hv
    obtain ⟨u, hu, rfl⟩ := hv
    exact .inr ⟨u, _, rfl, rfl, ev_rep hE hG hp hu⟩
end

/-- bytes -/
theorem toList_data (s : ByteArray) : s.toList = s.data.toList := ByteArray.toList_eq s
theorem str_of {l : List UInt8} {s : ByteArray} (h : s.data.toList = l) : s.size = l.length := by
  subst h; rfl

theorem mkCells_toList (l : List AV) : (mkCells l).toList = l := by
  unfold mkCells
  split
  · rename_i ps hp; rw [allP_some hp]; rfl
  · rfl
theorem Cells.get?_toList (c : Cells) (i : Nat) : c.get? i = c.toList[i]? := by cases c <;> simp [Cells.get?, Cells.toList]
theorem Cells.len_toList (c : Cells) : c.len = c.toList.length := by cases c <;> simp [Cells.len, Cells.toList]
theorem takeC_toList (c : Cells) (n : Nat) : (takeC c n).toList = c.toList.take n := by cases c <;> simp [takeC, Cells.toList]
theorem dropC_toList (c : Cells) (n : Nat) : (dropC c n).toList = c.toList.drop n := by cases c <;> simp [dropC, Cells.toList]
theorem catC_toList (c d : Cells) : (catC c d).toList = c.toList ++ d.toList := by cases c <;> cases d <;> simp [catC, Cells.toList]
theorem spliceC_toList (c d : Cells) (off : Nat) : (spliceC c off d).toList = splice c.toList off d.toList := by
  cases c <;> cases d <;> first | exact mkCells_toList _ | simp [spliceC, Cells.toList, splice, List.map_take, List.map_drop]
theorem toCells_toList (v : AV) : v.toCells.toList = v.cells := by
  unfold AV.toCells AV.cells
  split <;> simp [Cells.toList]
  split <;> simp_all

end Go.Ab
