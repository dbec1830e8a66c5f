/- From a run of the interpreter to a call; library functions whose contract is known. -/
import Derived.Test.YtikebbklkiodlaaDoorAbA22
import Derived.ChangeSame
set_option linter.unusedSectionVars false
set_option linter.unusedSimpArgs false
set_option linter.unusedVariables false
namespace Go.Ab
variable [Marks]
open Go.RowKit
variable {S S' : Nat → Nat → Prop} {w w' w1 : World} {μ μ' μ2 : Nat → Nat → Option (Nat × Nat)} {P : Program} {G : Globs} {σ σ' : Heap}

/-- a function whose contract says what it answers, for pure arguments -/
def extP (g : List PV → Option PV) (as : List AV) (σ : Heap) : Option (CRes × Heap) :=
  match allP as with
  | some ps => match g ps with
    | some v => some (.ret (.p v), σ)
    | none => none
  | none => none

theorem allP_eq : ∀ {as : List AV} {ps : List PV}, allP as = some ps → as = ps.map .p
  | [], ps, h => by simp [allP] at h; subst h; rfl
  | v :: r, ps, h => by
    cases v <;> simp only [allP] at h <;> first | cases h | skip
    split at h
    · rename_i l hl
      obtain rfl := Option.some.inj h
      rw [allP_eq hl]; rfl
    · cases h

theorem extP_sound {f : Nat} {g : List PV → Option PV} (hE : Enters P f)
    (h : ∀ ps v, g ps = some v → ∀ S w (cargs : Array Value), GlobOK S w G → RepPL S w ps cargs.toList →
      Calls P f cargs w fun e w' => (∃ c, e = .returned c ∧ ∀ S w', RepP S w' v c) ∧ Below w.heap.size w w') : RawOK P G f (extP g) := by
  intro args σ r σ' hr μ S w cargs hg hG ha
  unfold extP at hr
  split at hr
  · rename_i ps hps
    split at hr
    · rename_i v hv
      simp only [Option.some.injEq, Prod.mk.injEq] at hr
      obtain ⟨rfl, rfl⟩ := hr
      rw [allP_eq hps] at ha
      refine ⟨hE, (h ps v hv S w cargs hG ha.toP).mono fun e w' ⟨⟨c, he, hrep⟩, hb⟩ => ?_⟩
      obtain ⟨g1, f1⟩ := below_good hg hb
      exact ⟨μ, S, g1, f1, by rw [he]; exact .p (hrep S w')⟩
    · cases hr
  · cases hr

/-- the cells that are there when the call begins -/
def Ex (w : World) (b _o : Nat) : Prop := b < w.heap.size
theorem Ex.lt {b o : Nat} (h : Ex w b o) : b < w.heap.size := h
theorem ex_of {b o : Nat} {c : Value} (h : w.cell? ⟨b, o, none⟩ = some c) : Ex w b o := by
  unfold World.cell? at h
  cases hb : w.heap[b]? with
  | none => rw [hb] at h; simp at h
  | some x => exact (Array.getElem?_eq_some_iff.1 hb).1

theorem good_start : Good (fun _ _ => none) (Ex w) w [] where
  obj := fun id o h => by simp at h
  inj := fun id id' o o' b n n' h => by simp at h
  old := fun id ver x h => by cases h
  sb := fun b o h => Ex.lt h

/-- what was there is as it was -/
structure Kept (w w' : World) : Prop where
  os : w'.os = w.os
  tape : w'.tape = w.tape
  output : w'.output = w.output
  size : w.heap.size ≤ w'.heap.size
  blk : ∀ b, b < w.heap.size → w'.heap[b]? = w.heap[b]?
theorem kept_of (h : Frm (fun _ _ => none) (Ex w) w [] μ' S' w' σ') : Kept w w' :=
  ⟨h.os, h.tape, h.output, h.size, fun b hb => h.keepB b hb (fun ⟨id, o, n, h1, _⟩ => by simp at h1)⟩
theorem Kept.below (h : Kept w w') : Below w.heap.size w w' := ⟨h.os, h.tape, h.output, h.size, h.blk⟩
theorem Kept.but (h : Kept w w') (may : MemPlace → Prop) : w.keptBut w' may := by
  refine ⟨h.os, h.output, fun i hi => ?_⟩
  rw [h.blk i hi]
  cases w.heap[i]? with
  | none => rfl
  | some o => cases o <;> simp
theorem Kept.frozen (h : Kept w w') (a : Addr) (ha : a.block < w.heap.size) : w'.frozen? a = w.frozen? a := by
  unfold World.frozen?
  rw [h.blk _ ha]
theorem Kept.cell (h : Kept w w') {a : Addr} (ha : a.block < w.heap.size) : w'.cell? a = w.cell? a := by
  unfold World.cell?
  rw [h.blk _ ha]

/-- a law that the interpreter answers with true -/
theorem law_calls {T : Table} (hM : RoundsOf P G) (hT : TableOK P G T) {L n f : Nat} {args : List AV} (hfn : f ≠ 4294967295) (hrun : (cAt T L n).1 f args [] = some (.ret (.p (.bool true)), σ')) {cargs : Array Value}
    (hG : GlobOK (Ex w) w G) (ha : RepL (Ex w) w (fun _ _ => none) args cargs.toList) : Calls P f cargs w fun e w' => e = .returned (.bool true) ∧ Kept w w' := by
  obtain ⟨_, hc⟩ := (table_sound hM hT L n).1.1.1 f args [] _ _ hrun hfn (fun _ _ => none) (Ex w) w cargs good_start hG ha
  refine hc.mono fun e w' ⟨μ', S', g, f, r⟩ => ?_
  cases e with
  | returned c =>
    have r : Rep S' w' μ' (.p (.bool true)) c := r
    exact ⟨by rw [r.bool], kept_of f⟩
  | panicked ch => exact r.elim
  | outgrown => exact r.elim

end Go.Ab

/- Calls with pure arguments and a pure answer. -/
namespace Go.Ab
variable [Marks]
variable {σ σ' σr : Heap}

theorem frzA_pure {tl : List Nat} {d : Nat} : ∀ (ps : List PV) (σ : Heap), frzA tl (d + 1) σ (ps.map .p) = (ps.map .p, σ)
  | [], σ => rfl
  | p :: r, σ => by simp only [List.map_cons, frzA, frz, frzA_pure r σ]
theorem idsL_pure : ∀ (ps : List PV), idsL (ps.map .p) = []
  | [] => rfl
  | p :: r => by simp only [List.map_cons, idsL, idsV, idsL_pure r, List.append_nil]
theorem renL_pure {g : Nat → Nat → Option (Nat × Nat)} : ∀ (ps : List PV), renL g (ps.map .p) = ps.map .p
  | [] => rfl
  | p :: r => by simp only [List.map_cons, renL, renV, renL_pure r]
theorem touch_pure (ps : List PV) (σ : Heap) : touch σ (ps.map .p) = [] := by
  unfold touch
  rw [idsL_pure]
  rfl
theorem inner_pure {g : List AV → Heap → Option (CRes × Heap)} {ps : List PV} {v : PV} (h : g (ps.map .p) [] = some (.ret (.p v), σr)) (σ : Heap) :
    innerW g (ps.map .p) σ [] = some (.ret (.p v), σ) := by
  unfold innerW
  have h1 : (uniq [] && inOK [] σ.length) = true := rfl
  have h2 : shrinkH [] σ = [] := rfl
  have h3 : outL ([] : List (Nat × Nat)).length (.ret (.p v)) σr = [] := rfl
  simp only [h1, h2, renL_pure, h, h3]
  have h4 : (uniq [] && backOK [] (shrinkH [] σr)) = true := rfl
  simp only [h4, renR, renV]
  have h5 : shrinkH [] σr = [] := rfl
  rw [h5]
  have h6 : mergeH [] σ [] = σ := by simp [mergeH, putBack]
  rw [h6]
theorem wrap_pure {g : List AV → Heap → Option (CRes × Heap)} {fz : Bool} {ps : List PV} {v : PV} (h : g (ps.map .p) [] = some (.ret (.p v), σr)) (σ : Heap) :
    wrapF g fz (ps.map .p) σ = some (.ret (.p v), σ) := by
  unfold wrapF
  cases fz with
  | false =>
    simp only [touch_pure, List.all_nil]
    exact inner_pure h σ
  | true =>
    simp only [frzA_pure, touch_pure, List.all_nil]
    exact inner_pure h σ
/-- a call of a function of the table -/
theorem call_pure {T : Table} {L n f : Nat} {af : AFunc} {fz : Bool} {ps : List PV} {v : PV} (hT : T f = some (.code af fz)) (hf : fits af (ps.map .p) = true)
    (h : runFunc (cAt T L n).1 (cAt T L n).2 L af (ps.map .p) [] = some (.ret (.p v), σr)) (σ : Heap) : (cAt T L (n + 1)).1 f (ps.map .p) σ = some (.ret (.p v), σ) := by
  simp only [cAt, callT, hT]
  exact wrap_pure (by unfold runCode; rw [hf]; exact h) σ

def ansV : Option (CRes × Heap) → Option PV
  | some (.ret (.p v), _) => some v
  | _ => none
theorem ans_of {x : Option (CRes × Heap)} {v : PV} (h : ansV x = some v) : ∃ σr, x = some (.ret (.p v), σr) := by
  unfold ansV at h
  split at h
  · rename_i u σr
    obtain rfl := Option.some.inj h
    exact ⟨σr, rfl⟩
  · cases h
theorem call_ans {T : Table} {L n f : Nat} {af : AFunc} {fz : Bool} {ps : List PV} {v : PV} (hT : T f = some (.code af fz)) (hf : fits af (ps.map .p) = true)
    (h : ansV (runFunc (cAt T L n).1 (cAt T L n).2 L af (ps.map .p) []) = some v) (σ : Heap) : (cAt T L (n + 1)).1 f (ps.map .p) σ = some (.ret (.p v), σ) := by
  obtain ⟨σr, h⟩ := ans_of h
  exact call_pure hT hf h σ

end Go.Ab
