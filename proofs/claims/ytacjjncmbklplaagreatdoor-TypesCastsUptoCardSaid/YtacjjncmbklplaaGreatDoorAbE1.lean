/- What closing texts share: cells read out of the memory, variables laid, and the form's last condition. -/
import Derived.Test.YtacjjncmbklplaaGreatDoorAbA24
import Derived.Deep.Strs
import Derived.FnData
import Derived.OpenShut
import Derived.WalkKit
import Derived.ProofKit
import Derived.Deep.DeepHandedRow
import Derived.Deep.DeepWitnessRowRef
import Derived.Lay
import Derived.ChangeSame
import Derived.MakeChecks
set_option linter.unusedSectionVars false
set_option linter.unusedSimpArgs false
set_option linter.unusedVariables false
set_option maxRecDepth 100000
namespace Go.Ab
open Go Go.Ab Go.ChangeShapes Go.WideShapes Go.RowKit Go.Deep

theorem repCells_get {w : World} {b : Nat} : ∀ (ps : List PV) (o : Nat), (∀ (j : Nat) v, ps[j]? = some v → ∃ c, w.cell? ⟨b, o + j, none⟩ = some c ∧ one c = true ∧ RepP (Ex w) w v c) → RepCells (Ex w) w ps b o
  | [], o, _ => .nil b o
  | p :: r, o, h => by
    obtain ⟨c, h1, h2, h3⟩ := h 0 p rfl
    refine .cons (ex_of h1) h1 h2 h3 (repCells_get r (o + 1) fun j v hj => ?_)
    have := h (j + 1) v (by simpa using hj)
    rwa [show o + (j + 1) = o + 1 + j from by omega] at this

theorem glob_row {P : Program} {W : World} {n : String} {g : Nat} {cs : Array Value} {l : List PV} (h1 : P.globalNamed n = some g) (h3 : W.var? P n = some cs) (hlen : cs.size = l.length) (hne : 0 < l.length)
    (hc : ∀ (j : Nat) v, l[j]? = some v → ∃ c, cs[j]? = some c ∧ one c = true ∧ RepP (Ex W) W v c) : RepCells (Ex W) W l g 0 ∧ Ex W g l.length ∧ W.cell? ⟨g, l.length, none⟩ = none := by
  have hcell : ∀ (j : Nat) v, l[j]? = some v → ∃ c, W.cell? ⟨g, 0 + j, none⟩ = some c ∧ one c = true ∧ RepP (Ex W) W v c := by
    intro j v hj
    obtain ⟨c, k1, k2, k3⟩ := hc j v hj
    exact ⟨c, by rw [Nat.zero_add, World.var?_cell h1 h3 j]; exact k1, k2, k3⟩
  refine ⟨repCells_get _ _ hcell, ?_, ?_⟩
  · obtain ⟨c, k1, _⟩ := hcell 0 l[0] (by simp)
    exact Ex.lt (ex_of k1)
  · rw [World.var?_cell h1 h3]
    simp [hlen]

theorem three {α : Type} {l : List α} (h : l.length = 3) : ∃ a b c, l = [a, b, c] := by
  cases l with
  | nil => cases h
  | cons a l => cases l with
    | nil => cases h
    | cons b l => cases l with
      | nil => cases h
      | cons c l => cases l with
        | nil => exact ⟨a, b, c, rfl⟩
        | cons d l => simp at h

theorem laid_at {P : Program} {w : World} {n : String} {d : DataW Unit} : ∀ {l : List (String × DataW Unit)} {ps : List MemPlace}, DataW.LaidVars P w l ps → (n, d) ∈ l →
    ∃ (g : Nat) (t : TypeId) (cs : Array Value) (fuel : Nat) (p : List MemPlace), P.globalNamed n = some g ∧ (P.globals[g]?).map (·.type) = some t ∧ w.var? P n = some cs ∧ DataW.trod (fun _ => ()) P w 0 (fun _ => true) false fuel t cs.toList = some (d, p)
  | [], _, _, hm => by cases hm
  | (n', d') :: r, ps, h, hm => by
    obtain ⟨g, t, cs, fuel, p, q, h1, h2, h3, h4, h5, _⟩ := h
    rcases List.mem_cons.1 hm with he | hm
    · cases he
      exact ⟨g, t, cs, fuel, p, h1, h2, h3, h4⟩
    · exact laid_at h5 hm

theorem post_of_kept {H : Type} {enc : TypeId × Value → H} {P : Program} {f : Func} {s : ChangeSpec} {apart fresh handsOn again : Bool} {W W' : World} {args : Array Value} {v : Value} {ds gs : List (DataW H)} {before pa pv : List MemPlace}
    (hW : DataW.Whole enc P f.params.toList s.vars apart W args.toList ds gs before)
    (hres : ∀ (b : Nat) (sp : Nat → Bool) (hd : Bool), DataW.TrodAll enc P W' b sp hd f.resultTypes.toList (v.resultList f.resultTypes.size) (s.fn H (ds ++ gs)).results [])
    (hargs : ∀ sp : Nat → Bool, (∀ p ∈ before, sp p.block = true) → DataW.TrodAll enc P W' 0 sp true f.params.toList args.toList (s.fn H (ds ++ gs)).args pa)
    (hvars : ∀ sp : Nat → Bool, (∀ p ∈ before, sp p.block = true) → DataW.TrodVars enc P W' sp s.vars (s.fn H (ds ++ gs)).vars pv)
    (hps : before = pa ++ pv) (hk : Kept W W')
    (hok : ∀ (j : Nat) (t : TypeId) (r : Value), f.resultTypes[j]? = some t → (v.resultList f.resultTypes.size)[j]? = some r → Value.okWide P W' .any 0 t r) :
    s.post enc P f apart fresh handsOn again W args v W' := by
  have hlt := hW.lt
  have hold : ∀ p ∈ before, (fun b => decide (b < W.heap.size)) p.block = true := fun p hp => by simpa using hlt p hp
  refine ⟨ds, gs, before, [], pa, pv, hW, hres _ _ _, hargs _ hold, hvars _ hold, World.keptBut_mono (fun p hp => ⟨hp, ?_⟩) (hk.but (· ∈ before)), fun _ => ?_⟩
  · rw [hps, List.mem_append] at hp
    exact Or.inr hp
  · obtain ⟨_, _, _, _, _, hz, hn⟩ := hW
    refine ⟨hok, _, _, ([] ++ pa) ++ pv, ⟨[] ++ pa, pv, trodAll_append (hargs _ (fun _ _ => rfl)) (hres _ _ _), hvars _ (fun _ _ => rfl), rfl, ?_, ?_⟩, ?_⟩
    · intro b off hp
      have hmem : MemPlace.cell b off ∈ before := by rw [hps]; simpa using hp
      rw [hk.frozen _ (show b < W.heap.size from hlt _ hmem)]
      exact hz b off hmem
    · intro ha
      have := hn ha
      rw [hps] at this
      simpa using this
    · intro p hp _
      rw [hps]
      simpa using hp

end Go.Ab
