/- From a run of the interpreter to a call; library functions whose contract is known. -/
import Derived.Test.YtacjjncmbklplaaGreatDoorAbA22
import Derived.ChangeSame
set_option linter.unusedSectionVars false
set_option linter.unusedSimpArgs false
set_option linter.unusedVariables false
namespace Go.Ab
open Go.RowKit
variable {S S' : Nat → Nat → Prop} {w w' w1 : World} {μ μ' μ2 : Nat → Nat → Option (Nat × Nat)} {P : Program} {G : Globs} {σ σ' : Heap}

/-- a function whose contract says what it answers, for pure arguments -/
def extP (g : List PV → Option PV) (as : List AV) (σ : Heap) : Option (CRes × Heap) :=
  match allP as with
  | some ps => match g ps with
    | some v => some (.ret (.p v), σ)
    | none => none
  | none => none

theorem allP_eq : ∀ {as : List AV} {ps : List PV}, allP as = some ps → as = ps.map .p
  | [], ps, h => by simp [allP] at h; subst h; rfl
  | v :: r, ps, h => by
    cases v <;> simp only [allP] at h <;> first | cases h | skip
    split at h
    · rename_i l hl
      obtain rfl := Option.some.inj h
      rw [allP_eq hl]; rfl
    · cases h

theorem extP_sound {f : Nat} {g : List PV → Option PV} (hE : Enters P f)
    (h : ∀ ps v, g ps = some v → ∀ S w (cargs : Array Value), GlobOK S w G → RepPL S w ps cargs.toList →
      Calls P f cargs w fun e w' => (∃ c, e = .returned c ∧ ∀ S w', RepP S w' v c) ∧ Below w.heap.size w w') : RawOK P G f (extP g) := by
  intro args σ r σ' hr μ S w cargs hg hG ha
  unfold extP at hr
  split at hr
  · rename_i ps hps
    split at hr
    · rename_i v hv
      simp only [Option.some.injEq, Prod.mk.injEq] at hr
      obtain ⟨rfl, rfl⟩ := hr
      rw [allP_eq hps] at ha
      refine ⟨hE, (h ps v hv S w cargs hG ha.toP).mono fun e w' ⟨⟨c, he, hrep⟩, hb⟩ => ?_⟩
      obtain ⟨g1, f1⟩ := below_good hg hb
      exact ⟨μ, S, g1, f1, by rw [he]; exact .p (hrep S w')⟩
    · cases hr
  · cases hr

/-- the cells that are there when the call begins -/
def Ex (w : World) (b _o : Nat) : Prop := b < w.heap.size
theorem Ex.lt {b o : Nat} (h : Ex w b o) : b < w.heap.size := h
theorem ex_of {b o : Nat} {c : Value} (h : w.cell? ⟨b, o, none⟩ = some c) : Ex w b o := by
  unfold World.cell? at h
  cases hb : w.heap[b]? with
  | none => rw [hb] at h; simp at h
  | some x => exact (Array.getElem?_eq_some_iff.1 hb).1

theorem good_start : Good (fun _ _ => none) (Ex w) w [] where
  obj := fun id o h => by simp at h
  inj := fun id id' o o' b n n' h => by simp at h
  old := fun id ver x h => by cases h
  sb := fun b o h => Ex.lt h

/-- what was there is as it was -/
structure Kept (w w' : World) : Prop where
  os : w'.os = w.os
  output : w'.output = w.output
  size : w.heap.size ≤ w'.heap.size
  blk : ∀ b, b < w.heap.size → w'.heap[b]? = w.heap[b]?
theorem kept_of (h : Frm (fun _ _ => none) (Ex w) w [] μ' S' w' σ') : Kept w w' :=
  ⟨h.os, h.output, h.size, fun b hb => h.keepB b hb (fun ⟨id, o, n, h1, _⟩ => by simp at h1)⟩
theorem Kept.but (h : Kept w w') (may : MemPlace → Prop) : w.keptBut w' may := by
  refine ⟨h.os, h.output, fun i hi => ?_⟩
  rw [h.blk i hi]
  cases w.heap[i]? with
  | none => rfl
  | some o => cases o <;> simp
theorem Kept.frozen (h : Kept w w') (a : Addr) (ha : a.block < w.heap.size) : w'.frozen? a = w.frozen? a := by
  unfold World.frozen?
  rw [h.blk _ ha]
theorem Kept.cell (h : Kept w w') {a : Addr} (ha : a.block < w.heap.size) : w'.cell? a = w.cell? a := by
  unfold World.cell?
  rw [h.blk _ ha]

/-- a law that the interpreter answers with true -/
theorem law_calls {T : Table} (hT : TableOK P G T) {L n f : Nat} {args : List AV} (hrun : (cAt T L n).1 f args [] = some (.ret (.p (.bool true)), σ')) {cargs : Array Value}
    (hG : GlobOK (Ex w) w G) (ha : RepL (Ex w) w (fun _ _ => none) args cargs.toList) : Calls P f cargs w fun e w' => e = .returned (.bool true) ∧ Kept w w' := by
  obtain ⟨_, hc⟩ := (table_sound hT L n).1.1 f args [] _ _ hrun (fun _ _ => none) (Ex w) w cargs good_start hG ha
  refine hc.mono fun e w' ⟨μ', S', g, f, r⟩ => ?_
  cases e with
  | returned c =>
    have r : Rep S' w' μ' (.p (.bool true)) c := r
    exact ⟨by rw [r.bool], kept_of f⟩
  | panicked ch => exact r.elim
  | outgrown => exact r.elim

end Go.Ab
