/- Calls: the arguments frozen, the call's own heap, and the table of functions. -/
import Derived.Test.YtacjjncmbklplaaGreatDoorAbA21
set_option linter.unusedSectionVars false
set_option linter.unusedSimpArgs false
set_option linter.unusedVariables false
namespace Go.Ab
variable {S S' : Nat → Nat → Prop} {w w' w1 : World} {μ μ' μ2 : Nat → Nat → Option (Nat × Nat)} {P : Program} {G : Globs} {σ σ' : Heap}

def frzA (tl : List Nat) (d : Nat) : Heap → List AV → List AV × Heap
  | σ, [] => ([], σ)
  | σ, v :: r => match frz tl d σ v with
    | some (p, σ1) => match frzA tl d σ1 r with
      | (l, σ2) => (.p p :: l, σ2)
    | none => match frzA tl d σ r with
      | (l, σ2) => (v :: l, σ2)

theorem frzA_sound {tl : List Nat} {d : Nat} : ∀ (l : List AV) (σ : Heap) μ S, Good μ S w σ → ∀ cs, RepL S w μ l cs → ∃ S', Good μ S' w (frzA tl d σ l).2 ∧ Frm μ S w σ μ S' w (frzA tl d σ l).2 ∧ RepL S' w μ (frzA tl d σ l).1 cs
  | [], σ, μ, S, hg, cs, hr => ⟨S, hg, .refl _ _ _ _, hr⟩
  | v :: r, σ, μ, S, hg, cs, hr => by
    cases hr with
    | cons hv hs =>
      simp only [frzA]
      split
      · rename_i p σ1 h1
        obtain ⟨S1, g1, f1, r1⟩ := frz_sound d _ _ _ _ h1 μ S hg _ hv
        obtain ⟨S2, g2, f2, r2⟩ := frzA_sound (tl := tl) (d := d) r σ1 μ S1 g1 _ (hs.mono f1.keepS f1.mu)
        exact ⟨S2, g2, f1.trans f2, .cons (.p (r1.mono f2.keepS)) r2⟩
      · obtain ⟨S2, g2, f2, r2⟩ := frzA_sound (tl := tl) (d := d) r σ μ S hg _ hs
        exact ⟨S2, g2, f2, .cons (hv.mono f2.keepS f2.mu) r2⟩

def versO (σ : Heap) (id : Nat) : Nat := match σ[id]? with
  | some o => o.ver
  | none => 0
def listOf (σ : Heap) (ids : List Nat) : List (Nat × Nat) := ids.map fun id => (id, versO σ id)
def keepK (k : Nat) : List (Nat × Nat) := (List.range k).map fun i => (i, 0)
def renR (g : Nat → Nat → Option (Nat × Nat)) : CRes → CRes
  | .ret v => .ret (renV g v)
  | .pan v => .pan (renV g v)
def resIds : CRes → List Nat
  | .ret v => idsV v
  | .pan v => idsV v
def outL (k : Nat) (r : CRes) (σr : Heap) : List (Nat × Nat) :=
  keepK k ++ listOf σr ((collect σr 100 (List.range k ++ resIds r) []).filter fun id => !(Nat.blt id k))

def innerW (g : List AV → Heap → Option (CRes × Heap)) (as : List AV) (σ : Heap) (L : List (Nat × Nat)) : Option (CRes × Heap) :=
  match uniq L && inOK L σ.length with
  | true => match g (renL (fwd L) as) (shrinkH L σ) with
    | some (r, σr) => match uniq (outL L.length r σr) && backOK L (shrinkH (outL L.length r σr) σr) with
      | true => some (renR (bwd L σ.length) (renR (fwd (outL L.length r σr)) r), mergeH L σ (shrinkH (outL L.length r σr) σr))
      | false => none
    | none => none
  | false => none
def wrapF (g : List AV → Heap → Option (CRes × Heap)) (fz : Bool) (as : List AV) (σ : Heap) : Option (CRes × Heap) :=
  match (match fz with
    | true => frzA (touch σ as) 9 σ as
    | false => (as, σ)) with
  | (as1, σ1) => match (touch σ1 as1).all fun x => (touch σ as).contains x with
    | true => innerW g as1 σ1 (listOf σ1 (touch σ1 as1))
    | false => none

/-- a raw function tells what calls of f do -/
def RawOK (P : Program) (G : Globs) (f : Nat) (g : List AV → Heap → Option (CRes × Heap)) : Prop :=
  ∀ args σ r σ', g args σ = some (r, σ') → ∀ μ S w (cargs : Array Value), Good μ S w σ → GlobOK S w G → RepL S w μ args cargs.toList →
    Enters P f ∧ Calls P f cargs w fun e w' => ∃ μ' S', Good μ' S' w' σ' ∧ Frm μ S w σ μ' S' w' σ' ∧ ResRep S' w' μ' r e

theorem renR_rep {g : Nat → Nat → Option (Nat × Nat)} (hg : ∀ id ver x i v, μ id ver = some x → g id ver = some (i, v) → μ' i v = some x) {r : CRes} {e : Ending} (h : ResRep S w μ r e) : ResRep S w μ' (renR g r) e := by
  cases r <;> cases e <;> first | exact h.elim | skip
  · exact renV_rep hg h
  · obtain ⟨c, h1, h2⟩ := h
    exact ⟨c, h1, renV_rep hg h2⟩

theorem keepK_get {k i : Nat} (h : i < k) : (keepK k)[i]? = some (i, 0) := by
  unfold keepK
  rw [List.getElem?_map, List.getElem?_range h]
  rfl

theorem inner_sound {f : Nat} {g : List AV → Heap → Option (CRes × Heap)} (hgo : RawOK P G f g) {as : List AV} {L : List (Nat × Nat)} {r : CRes} (h : innerW g as σ L = some (r, σ'))
    {cargs : Array Value} (hg : Good μ S w σ) (hG : GlobOK S w G) (ha : RepL S w μ as cargs.toList) :
    Enters P f ∧ Calls P f cargs w fun e w' => ∃ μ' S', Good μ' S' w' σ' ∧ Frm μ S w σ μ' S' w' σ' ∧ ResRep S' w' μ' r e := by
  unfold innerW at h
  split at h
  · rename_i hck
    simp only [Bool.and_eq_true] at hck
    have hu := uniq_spec hck.1
    split at h
    · rename_i r1 σr hr
      split at h
      · rename_i hck2
        simp only [Bool.and_eq_true] at hck2
        have hu2 := uniq_spec hck2.1
        simp only [Option.some.injEq, Prod.mk.injEq] at h
        obtain ⟨rfl, rfl⟩ := h
        obtain ⟨he, hcalls⟩ := hgo _ _ _ _ hr (shMu L μ) S w cargs (shrink_good hu hg) hG (renL_rep (fun _ _ _ _ _ h1 h2 => fwd_mu h1 h2) ha)
        refine ⟨he, hcalls.mono fun e w' ⟨μr, S', g1, f1, r1'⟩ => ?_⟩
        have g2 := shrink_good hu2 g1
        have f2 : Frm (shMu L μ) S w (shrinkH L σ) (shMu (outL L.length r1 σr) μr) S' w' (shrinkH (outL L.length r1 σr) σr) := by
          have hdom : ∀ b, Dom (shMu (outL L.length r1 σr) μr) (shrinkH (outL L.length r1 σr) σr) b → Dom μr σr b := by
            intro b ⟨i, o, n, h1, h2, h3⟩
            obtain ⟨id, v, o0, _, k2, k3, k4, _⟩ := shrink_dom h1 h2 h3
            exact ⟨id, o0, n, k2, k3, k4⟩
          refine ⟨f1.os, f1.tape, f1.output, f1.size, f1.keepS, f1.keepB, f1.newS, fun b hb => f1.newD b (hdom b hb), fun i ver x hx => ?_⟩
          have hi : i < L.length := by
            unfold shMu at hx
            split at hx
            · rename_i hL; exact (List.getElem?_eq_some_iff.1 hL).1
            · cases hx
          have h1 := f1.mu _ _ _ hx
          unfold shMu
          have h2 : (outL L.length r1 σr)[i]? = some (i, 0) := by
            unfold outL
            rw [List.getElem?_append_left (by simpa [keepK] using hi)]
            exact keepK_get hi
          rw [h2]
          simp only [Nat.zero_add]
          exact h1
        obtain ⟨g3, f3⟩ := merge_sound hu hck.2 hck2.2 hg g2 f2
        refine ⟨_, S', g3, f3, ?_⟩
        refine renR_rep (fun i ver x id v h1 h2 => bwd_mu hu hck.2 h1 h2) ?_
        exact renR_rep (fun _ _ _ _ _ h1 h2 => fwd_mu h1 h2) r1'
      · cases h
    · cases h
  · cases h

theorem wrap_sound {f : Nat} {g : List AV → Heap → Option (CRes × Heap)} (hgo : RawOK P G f g) {fz : Bool} : RawOK P G f (wrapF g fz) := by
  intro args σ r σ' h μ S w cargs hg hG ha
  unfold wrapF at h
  cases fz with
  | false =>
    simp only at h
    split at h
    · exact inner_sound hgo h hg hG ha
    · cases h
  | true =>
    simp only at h
    split at h
    case h_2 => cases h
    obtain ⟨S1, g1, f1, r1⟩ := frzA_sound (tl := touch σ args) (d := 9) args σ μ S hg _ ha
    obtain ⟨he, hcalls⟩ := inner_sound hgo h g1 (hG.mono f1.keepS) r1
    exact ⟨he, hcalls.mono fun e w' ⟨μ', S', k1, k2, k3⟩ => ⟨μ', S', k1, f1.trans k2, k3⟩⟩

theorem frzA_wr {tl : List Nat} {d id : Nat} (hid : id ∉ tl) : ∀ (l : List AV) (σ : Heap), (frzA tl d σ l).2.length = σ.length ∧ (frzA tl d σ l).2[id]? = σ[id]?
  | [], σ => ⟨rfl, rfl⟩
  | v :: r, σ => by
    simp only [frzA]
    split
    · rename_i p σ1 h1
      obtain ⟨a1, a2⟩ := frz_wr hid _ _ _ _ _ h1
      obtain ⟨b1, b2⟩ := frzA_wr (d := d) hid r σ1
      exact ⟨b1.trans a1, b2.trans a2⟩
    · exact frzA_wr (d := d) hid r σ
theorem inner_wr {g : List AV → Heap → Option (CRes × Heap)} {as : List AV} {L : List (Nat × Nat)} {r : CRes} (h : innerW g as σ L = some (r, σ')) {id : Nat} (hlt : id < σ.length) (hid : ∀ (i b : Nat), L[i]? ≠ some (id, b)) : σ'[id]? = σ[id]? := by
  unfold innerW at h
  split at h
  · split at h
    · split at h
      · simp only [Option.some.injEq, Prod.mk.injEq] at h
        rw [← h.2]
        unfold mergeH
        rw [List.getElem?_append_left (by rw [putBack_length]; exact hlt), putBack_other hid]
      · cases h
    · cases h
  · cases h
theorem wrap_wr {g : List AV → Heap → Option (CRes × Heap)} {fz : Bool} {as : List AV} {r : CRes} (h : wrapF g fz as σ = some (r, σ')) {id : Nat} (hlt : id < σ.length) (hid : id ∉ touch σ as) : σ'[id]? = σ[id]? := by
  have key : ∀ (as1 : List AV) (σ1 : Heap), (match (touch σ1 as1).all fun x => (touch σ as).contains x with
      | true => innerW g as1 σ1 (listOf σ1 (touch σ1 as1))
      | false => none) = some (r, σ') → id < σ1.length → σ'[id]? = σ1[id]? := by
    intro as1 σ1 h hlt1
    split at h
    · rename_i hall
      refine inner_wr h hlt1 fun i b hi => hid ?_
      have hm := List.mem_of_getElem? hi
      unfold listOf at hm
      obtain ⟨x, hx, he⟩ := List.mem_map.1 hm
      simp only [Prod.mk.injEq] at he
      obtain ⟨rfl, _⟩ := he
      simp only [List.all_eq_true] at hall
      simpa using hall x hx
    · cases h
  unfold wrapF at h
  cases fz with
  | false => exact key as σ h hlt
  | true =>
    obtain ⟨a1, a2⟩ := frzA_wr (d := 9) hid as σ
    exact (key _ _ h (by rw [a1]; exact hlt)).trans a2

inductive FImpl where
  | code (af : AFunc) (fz : Bool)
  | rcv (rf : RFunc)
  | ext (o : List AV → Heap → Option (CRes × Heap)) (fz : Bool)
abbrev Table := Nat → Option FImpl

def runCode (C : Oracle) (D : DOracle) (L : Nat) (af : AFunc) (as : List AV) (σ : Heap) : Option (CRes × Heap) :=
  match fits af as with
  | true => runFunc C D L af as σ
  | false => none
def callT (T : Table) (C : Oracle) (D : DOracle) (L : Nat) (f : Nat) (as : List AV) (σ : Heap) : Option (CRes × Heap) :=
  match T f with
  | some (.code af fz) => wrapF (runCode C D L af) fz as σ
  | some (.ext o fz) => wrapF o fz as σ
  | _ => none
def defT (T : Table) (C : Oracle) (L : Nat) (f : Nat) (as : List AV) (σ : Heap) (m : Option AV) : Option (Option AV × Heap) :=
  match T f with
  | some (.code af _) => match fits af as with
    | true => runDef C L af as σ m
    | false => none
  | some (.rcv rf) => match decide (as.length ≤ rf.ntmps) with
    | true => runRec C L rf as σ m
    | false => none
  | _ => none
def cAt (T : Table) (L : Nat) : Nat → Oracle × DOracle
  | 0 => (fun _ _ _ => none, fun _ _ _ _ => none)
  | n + 1 => (callT T (cAt T L n).1 (cAt T L n).2 L, defT T (cAt T L n).1 L)

/-- each row of the table is the program's -/
def RowOK (P : Program) (G : Globs) (f : Nat) : FImpl → Prop
  | .code af _ => ∃ fn hints, P.funcs[f]? = some fn ∧ cFunc P G hints fn = some af
  | .rcv rf => ∃ fn hints, P.funcs[f]? = some fn ∧ cRec P G hints fn = some rf
  | .ext o _ => RawOK P G f o
def TableOK (P : Program) (G : Globs) (T : Table) : Prop := ∀ f i, T f = some i → RowOK P G f i

theorem table_sound {T : Table} (hT : TableOK P G T) (L : Nat) : ∀ n, OracleOK P G (cAt T L n).1 ∧ DOracleOK P G (cAt T L n).2
  | 0 => ⟨⟨fun _ _ _ _ _ h => by simp [cAt] at h, fun _ _ _ _ _ h => by simp [cAt] at h⟩, fun _ _ _ _ _ _ h => by simp [cAt] at h⟩
  | n + 1 => by
    obtain ⟨hC, hD⟩ := table_sound hT L n
    refine ⟨⟨?_, ?_⟩, ?_⟩
    · intro f args σ r σ' h
      simp only [cAt, callT] at h
      split at h
      · rename_i af fz hf
        obtain ⟨fn, hints, h1, h2⟩ := hT f _ hf
        refine wrap_sound (g := runCode (cAt T L n).1 (cAt T L n).2 L af) ?_ args σ r σ' h
        intro args σ r σ' h μ S w cargs hg hG ha
        unfold runCode at h
        split at h
        · rename_i hfit
          exact func_sound hC hD h1 h2 hfit h hg hG ha
        · cases h
      · rename_i o fz hf
        have : RawOK P G f o := hT f _ hf
        exact wrap_sound this args σ r σ' h
      · cases h
    · intro f args σ r σ' h id hlt hid
      simp only [cAt, callT] at h
      split at h
      · exact wrap_wr h hlt hid
      · exact wrap_wr h hlt hid
      · cases h
    · intro f args σ m m' σ' h μ S w cargs u hg hG ha hu
      simp only [cAt, defT] at h
      split at h
      · rename_i af fz hf
        obtain ⟨fn, hints, h1, h2⟩ := hT f _ hf
        split at h
        · rename_i hfit
          exact def_sound hC h1 h2 hfit h hg hG ha hu
        · cases h
      · rename_i rf hf
        obtain ⟨fn, hints, h1, h2⟩ := hT f _ hf
        split at h
        · rename_i hfit
          exact rec_sound hC h1 h2 (by simpa using hfit) h hg hG ha hu
        · cases h
      · cases h

end Go.Ab
