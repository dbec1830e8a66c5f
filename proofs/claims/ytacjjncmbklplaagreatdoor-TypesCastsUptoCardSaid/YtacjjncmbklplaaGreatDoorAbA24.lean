/- Calls with pure arguments and a pure answer. -/
import Derived.Test.YtacjjncmbklplaaGreatDoorAbA23
set_option linter.unusedSectionVars false
set_option linter.unusedSimpArgs false
set_option linter.unusedVariables false
namespace Go.Ab
variable {σ σ' σr : Heap}

theorem frzA_pure {tl : List Nat} {d : Nat} : ∀ (ps : List PV) (σ : Heap), frzA tl (d + 1) σ (ps.map .p) = (ps.map .p, σ)
  | [], σ => rfl
  | p :: r, σ => by simp only [List.map_cons, frzA, frz, frzA_pure r σ]
theorem idsL_pure : ∀ (ps : List PV), idsL (ps.map .p) = []
  | [] => rfl
  | p :: r => by simp only [List.map_cons, idsL, idsV, idsL_pure r, List.append_nil]
theorem renL_pure {g : Nat → Nat → Option (Nat × Nat)} : ∀ (ps : List PV), renL g (ps.map .p) = ps.map .p
  | [] => rfl
  | p :: r => by simp only [List.map_cons, renL, renV, renL_pure r]
theorem touch_pure (ps : List PV) (σ : Heap) : touch σ (ps.map .p) = [] := by
  unfold touch
  rw [idsL_pure]
  rfl
theorem inner_pure {g : List AV → Heap → Option (CRes × Heap)} {ps : List PV} {v : PV} (h : g (ps.map .p) [] = some (.ret (.p v), σr)) (σ : Heap) :
    innerW g (ps.map .p) σ [] = some (.ret (.p v), σ) := by
  unfold innerW
  have h1 : (uniq [] && inOK [] σ.length) = true := rfl
  have h2 : shrinkH [] σ = [] := rfl
  have h3 : outL ([] : List (Nat × Nat)).length (.ret (.p v)) σr = [] := rfl
  simp only [h1, h2, renL_pure, h, h3]
  have h4 : (uniq [] && backOK [] (shrinkH [] σr)) = true := rfl
  simp only [h4, renR, renV]
  have h5 : shrinkH [] σr = [] := rfl
  rw [h5]
  have h6 : mergeH [] σ [] = σ := by simp [mergeH, putBack]
  rw [h6]
theorem wrap_pure {g : List AV → Heap → Option (CRes × Heap)} {fz : Bool} {ps : List PV} {v : PV} (h : g (ps.map .p) [] = some (.ret (.p v), σr)) (σ : Heap) :
    wrapF g fz (ps.map .p) σ = some (.ret (.p v), σ) := by
  unfold wrapF
  cases fz with
  | false =>
    simp only [touch_pure, List.all_nil]
    exact inner_pure h σ
  | true =>
    simp only [frzA_pure, touch_pure, List.all_nil]
    exact inner_pure h σ
/-- a call of a function of the table -/
theorem call_pure {T : Table} {L n f : Nat} {af : AFunc} {fz : Bool} {ps : List PV} {v : PV} (hT : T f = some (.code af fz)) (hf : fits af (ps.map .p) = true)
    (h : runFunc (cAt T L n).1 (cAt T L n).2 L af (ps.map .p) [] = some (.ret (.p v), σr)) (σ : Heap) : (cAt T L (n + 1)).1 f (ps.map .p) σ = some (.ret (.p v), σ) := by
  simp only [cAt, callT, hT]
  exact wrap_pure (by unfold runCode; rw [hf]; exact h) σ

def ansV : Option (CRes × Heap) → Option PV
  | some (.ret (.p v), _) => some v
  | _ => none
theorem ans_of {x : Option (CRes × Heap)} {v : PV} (h : ansV x = some v) : ∃ σr, x = some (.ret (.p v), σr) := by
  unfold ansV at h
  split at h
  · rename_i u σr
    obtain rfl := Option.some.inj h
    exact ⟨σr, rfl⟩
  · cases h
theorem call_ans {T : Table} {L n f : Nat} {af : AFunc} {fz : Bool} {ps : List PV} {v : PV} (hT : T f = some (.code af fz)) (hf : fits af (ps.map .p) = true)
    (h : ansV (runFunc (cAt T L n).1 (cAt T L n).2 L af (ps.map .p) []) = some v) (σ : Heap) : (cAt T L (n + 1)).1 f (ps.map .p) σ = some (.ret (.p v), σ) := by
  obtain ⟨σr, h⟩ := ans_of h
  exact call_pure hT hf h σ

end Go.Ab
