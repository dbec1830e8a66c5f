/- Calls: the arguments frozen, the call's own heap, and the table of functions. -/
import Derived.Test.YtikebbklkiodlaaDoorAbA21
set_option linter.unusedSectionVars false
set_option linter.unusedSimpArgs false
set_option linter.unusedVariables false
namespace Go.Ab
variable [Marks]
variable {S S' : Nat → Nat → Prop} {w w' w1 : World} {μ μ' μ2 : Nat → Nat → Option (Nat × Nat)} {P : Program} {G : Globs} {σ σ' : Heap}

def frzA (tl : List Nat) (d : Nat) : Heap → List AV → List AV × Heap
  | σ, [] => ([], σ)
  | σ, v :: r => match frz tl d σ v with
    | some (p, σ1) => match frzA tl d σ1 r with
      | (l, σ2) => (.p p :: l, σ2)
    | none => match frzA tl d σ r with
      | (l, σ2) => (v :: l, σ2)

theorem frzA_sound {tl : List Nat} {d : Nat} : ∀ (l : List AV) (σ : Heap) μ S, Good μ S w σ → ∀ cs, RepL S w μ l cs → ∃ S', Good μ S' w (frzA tl d σ l).2 ∧ Frm μ S w σ μ S' w (frzA tl d σ l).2 ∧ RepL S' w μ (frzA tl d σ l).1 cs
  | [], σ, μ, S, hg, cs, hr => ⟨S, hg, .refl _ _ _ _, hr⟩
  | v :: r, σ, μ, S, hg, cs, hr => by
    cases hr with
    | cons hv hs =>
      simp only [frzA]
      split
      · rename_i p σ1 h1
        obtain ⟨S1, g1, f1, r1⟩ := frz_sound d _ _ _ _ h1 μ S hg _ hv
        obtain ⟨S2, g2, f2, r2⟩ := frzA_sound (tl := tl) (d := d) r σ1 μ S1 g1 _ (hs.mono f1.keepS f1.mu)
        exact ⟨S2, g2, f1.trans f2, .cons (.p (r1.mono f2.keepS)) r2⟩
      · obtain ⟨S2, g2, f2, r2⟩ := frzA_sound (tl := tl) (d := d) r σ μ S hg _ hs
        exact ⟨S2, g2, f2, .cons (hv.mono f2.keepS f2.mu) r2⟩

def versO (σ : Heap) (id : Nat) : Nat := match σ[id]? with
  | some o => o.ver
  | none => 0
def listOf (σ : Heap) (ids : List Nat) : List (Nat × Nat) := ids.map fun id => (id, versO σ id)
def keepK (k : Nat) : List (Nat × Nat) := (List.range k).map fun i => (i, 0)
def renR (g : Nat → Nat → Option (Nat × Nat)) : CRes → CRes
  | .ret v => .ret (renV g v)
  | .pan v => .pan (renV g v)
def resIds : CRes → List Nat
  | .ret v => idsV v
  | .pan v => idsV v
def outL (k : Nat) (r : CRes) (σr : Heap) : List (Nat × Nat) :=
  keepK k ++ listOf σr ((collect σr 100 (List.range k ++ resIds r) []).filter fun id => !(Nat.blt id k))

def innerW (g : List AV → Heap → Option (CRes × Heap)) (as : List AV) (σ : Heap) (L : List (Nat × Nat)) : Option (CRes × Heap) :=
  match uniq L && inOK L σ.length with
  | true => match g (renL (fwd L) as) (shrinkH L σ) with
    | some (r, σr) => match uniq (outL L.length r σr) && backOK L (shrinkH (outL L.length r σr) σr) with
      | true => some (renR (bwd L σ.length) (renR (fwd (outL L.length r σr)) r), mergeH L σ (shrinkH (outL L.length r σr) σr))
      | false => none
    | none => none
  | false => none
def wrapF (g : List AV → Heap → Option (CRes × Heap)) (fz : Bool) (as : List AV) (σ : Heap) : Option (CRes × Heap) :=
  match (match fz with
    | true => frzA (touch σ as) 9 σ as
    | false => (as, σ)) with
  | (as1, σ1) => match (touch σ1 as1).all fun x => (touch σ as).contains x with
    | true => innerW g as1 σ1 (listOf σ1 (touch σ1 as1))
    | false => none

def MonoK (K : Array Value → World → (Ending → World → Prop) → Prop) : Prop := ∀ (cargs : Array Value) (w : World) (R R' : Ending → World → Prop), (∀ e w', R e w' → R' e w') → K cargs w R → K cargs w R'
/-- a raw function tells what calls of a kind do -/
def RawK (K : Array Value → World → (Ending → World → Prop) → Prop) (G : Globs) (g : List AV → Heap → Option (CRes × Heap)) : Prop :=
  ∀ args σ r σ', g args σ = some (r, σ') → ∀ μ S w (cargs : Array Value), Good μ S w σ → GlobOK S w G → RepL S w μ args cargs.toList →
    K cargs w fun e w' => ∃ μ' S', Good μ' S' w' σ' ∧ Frm μ S w σ μ' S' w' σ' ∧ ResRep S' w' μ' r e
/-- a raw function tells what calls of f do -/
def RawOK (P : Program) (G : Globs) (f : Nat) (g : List AV → Heap → Option (CRes × Heap)) : Prop :=
  ∀ args σ r σ', g args σ = some (r, σ') → ∀ μ S w (cargs : Array Value), Good μ S w σ → GlobOK S w G → RepL S w μ args cargs.toList →
    Enters P f ∧ Calls P f cargs w fun e w' => ∃ μ' S', Good μ' S' w' σ' ∧ Frm μ S w σ μ' S' w' σ' ∧ ResRep S' w' μ' r e

theorem renR_rep {g : Nat → Nat → Option (Nat × Nat)} (hg : ∀ id ver x i v, μ id ver = some x → g id ver = some (i, v) → μ' i v = some x) {r : CRes} {e : Ending} (h : ResRep S w μ r e) : ResRep S w μ' (renR g r) e := by
  cases r <;> cases e <;> first | exact h.elim | skip
  · exact renV_rep hg h
  · obtain ⟨c, h1, h2⟩ := h
    exact ⟨c, h1, renV_rep hg h2⟩

theorem keepK_get {k i : Nat} (h : i < k) : (keepK k)[i]? = some (i, 0) := by
  unfold keepK
  rw [List.getElem?_map, List.getElem?_range h]
  rfl

theorem innerK {K : Array Value → World → (Ending → World → Prop) → Prop} (hK : MonoK K) {g : List AV → Heap → Option (CRes × Heap)} (hgo : RawK K G g) {as : List AV} {L : List (Nat × Nat)} {r : CRes} (h : innerW g as σ L = some (r, σ'))
    {cargs : Array Value} (hg : Good μ S w σ) (hG : GlobOK S w G) (ha : RepL S w μ as cargs.toList) :
    K cargs w fun e w' => ∃ μ' S', Good μ' S' w' σ' ∧ Frm μ S w σ μ' S' w' σ' ∧ ResRep S' w' μ' r e := by
  unfold innerW at h
  split at h
  · rename_i hck
    simp only [Bool.and_eq_true] at hck
    have hu := uniq_spec hck.1
    split at h
    · rename_i r1 σr hr
      split at h
      · rename_i hck2
        simp only [Bool.and_eq_true] at hck2
        have hu2 := uniq_spec hck2.1
        simp only [Option.some.injEq, Prod.mk.injEq] at h
        obtain ⟨rfl, rfl⟩ := h
        have hcalls := hgo _ _ _ _ hr (shMu L μ) S w cargs (shrink_good hu hg) hG (renL_rep (fun _ _ _ _ _ h1 h2 => fwd_mu h1 h2) ha)
        refine hK _ _ _ _ (fun e w' ⟨μr, S', g1, f1, r1'⟩ => ?_) hcalls
        have g2 := shrink_good hu2 g1
        have f2 : Frm (shMu L μ) S w (shrinkH L σ) (shMu (outL L.length r1 σr) μr) S' w' (shrinkH (outL L.length r1 σr) σr) := by
          have hdom : ∀ b, Dom (shMu (outL L.length r1 σr) μr) (shrinkH (outL L.length r1 σr) σr) b → Dom μr σr b := by
            intro b ⟨i, o, n, h1, h2, h3⟩
            obtain ⟨id, v, o0, _, k2, k3, k4, _⟩ := shrink_dom h1 h2 h3
            exact ⟨id, o0, n, k2, k3, k4⟩
          refine ⟨f1.os, f1.tape, f1.output, f1.size, f1.keepS, f1.keepB, f1.newS, fun b hb => f1.newD b (hdom b hb), fun i ver x hx => ?_⟩
          have hi : i < L.length := by
            unfold shMu at hx
            split at hx
            · rename_i hL; exact (List.getElem?_eq_some_iff.1 hL).1
            · cases hx
          have h1 := f1.mu _ _ _ hx
          unfold shMu
          have h2 : (outL L.length r1 σr)[i]? = some (i, 0) := by
            unfold outL
            rw [List.getElem?_append_left (by simpa [keepK] using hi)]
            exact keepK_get hi
          rw [h2]
          simp only [Nat.zero_add]
          exact h1
        obtain ⟨g3, f3⟩ := merge_sound hu hck.2 hck2.2 hg g2 f2
        refine ⟨_, S', g3, f3, ?_⟩
        refine renR_rep (fun i ver x id v h1 h2 => bwd_mu hu hck.2 h1 h2) ?_
        exact renR_rep (fun _ _ _ _ _ h1 h2 => fwd_mu h1 h2) r1'
      · cases h
    · cases h
  · cases h

theorem wrapK {K : Array Value → World → (Ending → World → Prop) → Prop} (hK : MonoK K) {g : List AV → Heap → Option (CRes × Heap)} (hgo : RawK K G g) {fz : Bool} : RawK K G (wrapF g fz) := by
  intro args σ r σ' h μ S w cargs hg hG ha
  unfold wrapF at h
  cases fz with
  | false =>
    simp only at h
    split at h
    · exact innerK hK hgo h hg hG ha
    · cases h
  | true =>
    simp only at h
    split at h
    case h_2 => cases h
    obtain ⟨S1, g1, f1, r1⟩ := frzA_sound (tl := touch σ args) (d := 9) args σ μ S hg _ ha
    have hcalls := innerK hK hgo h g1 (hG.mono f1.keepS) r1
    exact hK _ _ _ _ (fun e w' ⟨μ', S', k1, k2, k3⟩ => ⟨μ', S', k1, f1.trans k2, k3⟩) hcalls

theorem wrap_sound {f : Nat} {g : List AV → Heap → Option (CRes × Heap)} (hgo : RawOK P G f g) {fz : Bool} : RawOK P G f (wrapF g fz) :=
  wrapK (K := fun cargs w R => Enters P f ∧ Calls P f cargs w R) (fun _ _ _ _ h ⟨h1, h2⟩ => ⟨h1, h2.mono h⟩) hgo

theorem frzA_wr {tl : List Nat} {d id : Nat} (hid : id ∉ tl) : ∀ (l : List AV) (σ : Heap), (frzA tl d σ l).2.length = σ.length ∧ (frzA tl d σ l).2[id]? = σ[id]?
  | [], σ => ⟨rfl, rfl⟩
  | v :: r, σ => by
    simp only [frzA]
    split
    · rename_i p σ1 h1
      obtain ⟨a1, a2⟩ := frz_wr hid _ _ _ _ _ h1
      obtain ⟨b1, b2⟩ := frzA_wr (d := d) hid r σ1
      exact ⟨b1.trans a1, b2.trans a2⟩
    · exact frzA_wr (d := d) hid r σ
theorem inner_wr {g : List AV → Heap → Option (CRes × Heap)} {as : List AV} {L : List (Nat × Nat)} {r : CRes} (h : innerW g as σ L = some (r, σ')) {id : Nat} (hlt : id < σ.length) (hid : ∀ (i b : Nat), L[i]? ≠ some (id, b)) : σ'[id]? = σ[id]? := by
  unfold innerW at h
  split at h
  · split at h
    · split at h
      · simp only [Option.some.injEq, Prod.mk.injEq] at h
        rw [← h.2]
        unfold mergeH
        rw [List.getElem?_append_left (by rw [putBack_length]; exact hlt), putBack_other hid]
      · cases h
    · cases h
  · cases h
theorem wrap_wr {g : List AV → Heap → Option (CRes × Heap)} {fz : Bool} {as : List AV} {r : CRes} (h : wrapF g fz as σ = some (r, σ')) {id : Nat} (hlt : id < σ.length) (hid : id ∉ touch σ as) : σ'[id]? = σ[id]? := by
  have key : ∀ (as1 : List AV) (σ1 : Heap), (match (touch σ1 as1).all fun x => (touch σ as).contains x with
      | true => innerW g as1 σ1 (listOf σ1 (touch σ1 as1))
      | false => none) = some (r, σ') → id < σ1.length → σ'[id]? = σ1[id]? := by
    intro as1 σ1 h hlt1
    split at h
    · rename_i hall
      refine inner_wr h hlt1 fun i b hi => hid ?_
      have hm := List.mem_of_getElem? hi
      unfold listOf at hm
      obtain ⟨x, hx, he⟩ := List.mem_map.1 hm
      simp only [Prod.mk.injEq] at he
      obtain ⟨rfl, _⟩ := he
      simp only [List.all_eq_true] at hall
      simpa using hall x hx
    · cases h
  unfold wrapF at h
  cases fz with
  | false => exact key as σ h hlt
  | true =>
    obtain ⟨a1, a2⟩ := frzA_wr (d := 9) hid as σ
    exact (key _ _ h (by rw [a1]; exact hlt)).trans a2

/-- a round: the parameters, then what was known where the loop began -/
def rndEnv : List Nat → List AV → Env → Env
  | p :: ps, v :: vs, ρ => rndEnv ps vs ((p, v) :: ρ)
  | _, _, ρ => ρ
def zipE : List Nat → List AV → Env
  | t :: ts, v :: vs => (t, v) :: zipE ts vs
  | _, _ => []
def endR (id : Nat) (ex : AExit) (σ : Heap) : Option (CRes × Heap) :=
  match σ[id]? with
    | some (.loop k ts c .busy) => match ex with
      | .normal => some (.ret (.p (.bool true)), σ.set id (.loop k ts c .ready))
      | .ret => some (.ret (.p (.bool false)), σ.set id (.loop k ts c (.done .ret)))
      | .exit i => some (.ret (.p (.bool false)), σ.set id (.loop k ts c (.done (.exit i))))
      | .pan _ => none
    | _ => none
def runRound (C : Oracle) (L : Nat) (as : List AV) (σ : Heap) : Option (CRes × Heap) := match as with
  | .yld id :: args => match σ[id]? with
    | some (.loop (ps, xa, xb) ts c .ready) => match Nat.beq ps.length args.length with
      | true => match exec C L xa ⟨rndEnv ps args (zipE ts c.toList), [], σ⟩ with
        | some (.normal, st1) => match st1.heap[id]? with
          | some (.loop k1 ts1 c1 .ready) => match exec C L xb ⟨st1.env, st1.defers, st1.heap.set id (.loop k1 ts1 c1 .busy)⟩ with
            | some (ex, st2) => endR id ex st2.heap
            | none => none
          | _ => none
        | _ => none
      | false => none
    | _ => none
  | _ => none

theorem zipE_get : ∀ {ts : List Nat} {vs : List AV} {t : Nat} {v : AV}, (zipE ts vs).get t = some v → ∃ j : Nat, ts[j]? = some t ∧ vs[j]? = some v
  | [], _, t, v, h => by simp [zipE, Env.get] at h
  | _ :: _, [], t, v, h => by simp [zipE, Env.get] at h
  | x :: ts, u :: vs, t, v, h => by
    simp only [zipE, Env.get_cons] at h
    split at h
    · rename_i he
      subst he
      exact ⟨0, rfl, by simpa using h⟩
    · obtain ⟨j, h1, h2⟩ := zipE_get h
      exact ⟨j + 1, by simpa using h1, by simpa using h2⟩

theorem rnd_env {N : Nat} : ∀ (ps : List Nat) (vs : List AV) (cs : List Value) (ρ : Env) (tmps : Array Value), ps.all (· < N) = true → ps.length = vs.length → RepL S w μ vs cs → tmps.size = N → EnvOK S w μ ρ tmps →
    EnvOK S w μ (rndEnv ps vs ρ) ((ps.zip cs).foldl (fun t (p, v) => t.setIfInBounds p v) tmps) ∧ ((ps.zip cs).foldl (fun t (p, v) => t.setIfInBounds p v) tmps).size = N
  | [], [], cs, ρ, tmps, _, _, hr, hs, hE => ⟨by simpa [rndEnv] using hE, by simpa using hs⟩
  | [], _ :: _, _, _, _, _, h, _, _, _ => by simp at h
  | _ :: _, [], _, _, _, _, h, _, _, _ => by simp at h
  | p :: ps, v :: vs, cs, ρ, tmps, hp, hl, hr, hs, hE => by
    cases hr with
    | cons h1 h2 =>
      rename_i c cs
      simp only [List.all_cons, Bool.and_eq_true, decide_eq_true_eq] at hp
      simp only [List.zip_cons_cons, List.foldl_cons, rndEnv]
      refine rnd_env ps vs cs _ _ hp.2 (by simpa using hl) h2 (by simpa using hs) ?_
      intro t u ht
      rw [Env.get_cons] at ht
      split at ht
      · rename_i he
        subst he
        obtain rfl := Option.some.inj ht
        have : (tmps.setIfInBounds p c).getD p undef = c := by simp [hs, hp.1]
        rw [this]; exact h1
      · rename_i hne
        have : (tmps.setIfInBounds p c).getD t undef = tmps.getD t undef := by simp [hne]
        rw [this]; exact hE t u ht

theorem zipFold (ps : Array Nat) (as : Array Value) (tmps : Array Value) : (ps.zip as).foldl (fun t (p, v) => t.setIfInBounds p v) tmps = (ps.toList.zip as.toList).foldl (fun t (p, v) => t.setIfInBounds p v) tmps := by
  rw [← Array.foldl_toList, Array.toList_zip]

theorem round_sound {C : Oracle} (hM : RoundsOf P G) (hC : OracleOK P G C) {L : Nat} : RawK (RoundC P) G (runRound C L) := by
  intro args σ r σ' h μ S w cargs hg hG ha
  unfold runRound at h
  split at h
  case h_2 => cases h
  rename_i id args
  split at h
  case h_2 => cases h
  rename_i ps xa xb ts c hob
  split at h
  case h_2 => cases h
  rename_i hlen
  have hlen := Nat.eq_of_beq_eq_true hlen
  obtain ⟨cl⟩ := cargs
  simp only at ha
  cases ha with
  | cons hy ha =>
    rename_i c0 cs
    cases hy with
    | yld hmu =>
      rename_i b nb
      obtain ⟨b', n', rec, q1, q2, q3, q4, q5⟩ := hg.obj id _ hob
      rw [hmu] at q1
      cases q1
      obtain ⟨e1, e2, e3, e4, h1, h2, h3, h4, e5, e6⟩ := (hM _ _ _ _ _).1 q4
      simp only at e1 e3 e4 e5 e6
      have hsz : cs.toArray.size = rec.params.size := by
        have := ha.length
        have h6 : rec.params.size = ps.length := by rw [← e1]; simp
        simp; omega
      refine ⟨b, cs.toArray, by simp, rec.fn, _, rec.assign, rec.body, run_yield q2 hsz, fun n => roundIn_of_wpIn trivial ?_⟩
      rw [zipFold, e1]
      have hE0 : EnvOK S w μ (zipE ts c.toList) rec.tmps := by
        intro t v ht
        obtain ⟨j, k1, k2⟩ := zipE_get ht
        exact q5 j t v k1 (by rw [Cells.get?_toList]; exact k2)
      obtain ⟨hE1, hs1⟩ := rnd_env ps args cs (zipE ts c.toList) rec.tmps (by rw [← e1]; exact e2) hlen ha rfl hE0
      split at h
      case h_2 => cases h
      rename_i st1 hx1
      have hst0 : StOK G rec.tmps.size μ S w ⟨rndEnv ps args (zipE ts c.toList), [], σ⟩ { tmps := (ps.zip cs).foldl (fun t (p, v) => t.setIfInBounds p v) rec.tmps, defers := [] } := ⟨hE1, hG, hg, hs1, trivial⟩
      refine wpIn_mono (exec_sound (r := some b) (n := n) hM hC L _ _ _ _ e5 (.inr e3) _ _ _ hx1 _ w μ S hst0) fun e a1 w1 ⟨μ1, S1, p1, p2, p3⟩ => ?_
      cases e <;> first | exact p1.elim | skip
      simp only [Exit.then]
      split at h
      case h_2 => cases h
      rename_i k1 ts1 c1 hob1
      have hmu1 := p3.mu _ _ _ hmu
      obtain ⟨b1, n1, rec1, t1, t2, t3, t4, t5⟩ := p2.good.obj id _ hob1
      rw [hmu1] at t1
      cases t1
      obtain ⟨g2, f2⟩ := loop_set (st' := .busy) p2.good hob1 hmu1 t2 .busy rec1.pending ⟨rfl, t3.2⟩
      refine ⟨_, run_beginRound t2 t3.1, ?_⟩
      split at h
      case h_2 => cases h
      rename_i ex st2 hx2
      have hst2 := p2.step g2 f2
      refine wpIn_mono (exec_sound (r := some b) (n := n) hM hC L _ _ _ _ e6 (.inr e4) _ _ _ hx2 a1 _ μ1 S1 hst2) fun e a2 w2 ⟨μ2, S2, p4, p5, p6⟩ => ?_
      have f12 := (p3.trans f2).trans p6
      unfold endR at h
      split at h
      case h_2 => cases h
      rename_i k2 ts2 c2 hob2
      have hmu2 := f12.mu _ _ _ hmu
      obtain ⟨b2, n2, rec2, u1, u2, u3, u4, u5⟩ := p5.good.obj id _ hob2
      rw [hmu2] at u1
      cases u1
      cases ex with
      | pan v => cases h
      | normal =>
        cases e <;> first | exact p4.elim | skip
        simp only [Option.some.injEq, Prod.mk.injEq] at h
        obtain ⟨rfl, rfl⟩ := h
        obtain ⟨g3, f3⟩ := loop_set (st' := .ready) p5.good hob2 hmu2 u2 .ready none ⟨rfl, rfl⟩
        exact ⟨_, _, run_endRound none u2, μ2, S2, g3, f12.trans f3, .p (.bool _)⟩
      | ret =>
        cases e <;> first | exact p4.elim | skip
        simp only [Option.some.injEq, Prod.mk.injEq] at h
        obtain ⟨rfl, rfl⟩ := h
        obtain ⟨g3, f3⟩ := loop_set (st' := .done .ret) p5.good hob2 hmu2 u2 .done (some .ret) ⟨rfl, rfl⟩
        exact ⟨_, _, run_endRound (some .ret) u2, μ2, S2, g3, f12.trans f3, .p (.bool _)⟩
      | exit i =>
        cases e <;> first | exact p4.elim | skip
        obtain rfl := p4
        simp only [Option.some.injEq, Prod.mk.injEq] at h
        obtain ⟨rfl, rfl⟩ := h
        obtain ⟨g3, f3⟩ := loop_set (st' := .done (.exit i)) p5.good hob2 hmu2 u2 .done (some (.exit i)) ⟨rfl, rfl⟩
        exact ⟨_, _, run_endRound (some (.exit i)) u2, μ2, S2, g3, f12.trans f3, .p (.bool _)⟩

inductive FImpl where
  | rnd
  | raw (af : AFunc)
  /-- its answer is frozen: nobody writes what it made -/
  | ans (af : AFunc)
  | code (af : AFunc) (fz : Bool)
  | rcv (rf : RFunc)
  | ext (o : List AV → Heap → Option (CRes × Heap)) (fz : Bool)
abbrev Table := Nat → Option FImpl

def runCode (C : Oracle) (D : DOracle) (L : Nat) (af : AFunc) (as : List AV) (σ : Heap) : Option (CRes × Heap) :=
  match fits af as with
  | true => runFunc C D L af as σ
  | false => none
def frzAns (g : List AV → Heap → Option (CRes × Heap)) (as : List AV) (σ : Heap) : Option (CRes × Heap) := match g as σ with
  | some (.ret v, σ1) => match frz (List.range σ1.length) 9 σ1 v with
    | some (p, σ2) => some (.ret (.p p), σ2)
    | none => none
  | r => r
theorem frzAns_sound {f : Nat} {g : List AV → Heap → Option (CRes × Heap)} (hgo : RawOK P G f g) : RawOK P G f (frzAns g) := by
  intro args σ r σ' h μ S w cargs hg hG ha
  unfold frzAns at h
  split at h
  · rename_i v σ1 h1
    split at h
    · rename_i p σ2 h2
      simp only [Option.some.injEq, Prod.mk.injEq] at h
      obtain ⟨rfl, rfl⟩ := h
      obtain ⟨he, hc⟩ := hgo _ _ _ _ h1 μ S w cargs hg hG ha
      refine ⟨he, hc.mono fun e w' ⟨μ', S', g1, f1, r1⟩ => ?_⟩
      cases e with
      | returned c =>
        have r1 : Rep S' w' μ' v c := r1
        obtain ⟨S2, g2, f2, r2⟩ := frz_sound 9 _ _ _ _ h2 μ' S' g1 _ r1
        exact ⟨μ', S2, g2, f1.trans f2, .p r2⟩
      | panicked ch => exact r1.elim
      | outgrown => exact r1.elim
    · cases h
  · exact hgo _ _ _ _ h μ S w cargs hg hG ha
def callT (T : Table) (C : Oracle) (D : DOracle) (L : Nat) (f : Nat) (as : List AV) (σ : Heap) : Option (CRes × Heap) :=
  match T f with
  | some (.code af fz) => wrapF (runCode C D L af) fz as σ
  | some (.ext o fz) => wrapF o fz as σ
  | some .rnd => match Marks.raw 4294967295 with
    | true => runRound C L as σ
    | false => wrapF (runRound C L) false as σ
  | some (.raw af) => runCode C D L af as σ
  | some (.ans af) => wrapF (frzAns (runCode C D L af)) true as σ
  | _ => none
def defT (T : Table) (C : Oracle) (L : Nat) (f : Nat) (as : List AV) (σ : Heap) (m : Option AV) : Option (Option AV × Heap) :=
  match T f with
  | some (.code af _) => match fits af as with
    | true => runDef C L af as σ m
    | false => none
  | some (.rcv rf) => match decide (as.length ≤ rf.ntmps) with
    | true => runRec C L rf as σ m
    | false => none
  | _ => none
def cAt (T : Table) (L : Nat) : Nat → Oracle × DOracle
  | 0 => (fun _ _ _ => none, fun _ _ _ _ => none)
  | n + 1 => (callT T (cAt T L n).1 (cAt T L n).2 L, defT T (cAt T L n).1 L)

/-- each row of the table is the program's -/
def RowOK (P : Program) (G : Globs) (f : Nat) : FImpl → Prop
  | .code af _ => f ≠ 4294967295 ∧ ∃ fn hints, P.funcs[f]? = some fn ∧ cFunc P G hints fn = some af
  | .rcv rf => ∃ fn hints, P.funcs[f]? = some fn ∧ cRec P G hints fn = some rf
  | .ext o _ => f ≠ 4294967295 ∧ RawOK P G f o
  | .rnd => f = 4294967295
  | .ans af => f ≠ 4294967295 ∧ ∃ fn hints, P.funcs[f]? = some fn ∧ cFunc P G hints fn = some af
  | .raw af => f ≠ 4294967295 ∧ Marks.raw f = true ∧ ∃ fn hints, P.funcs[f]? = some fn ∧ cFunc P G hints fn = some af
def TableOK (P : Program) (G : Globs) (T : Table) : Prop := ∀ f i, T f = some i → RowOK P G f i

theorem table_sound {T : Table} (hM : RoundsOf P G) (hT : TableOK P G T) (L : Nat) : ∀ n, OracleOK P G (cAt T L n).1 ∧ DOracleOK P G (cAt T L n).2
  | 0 => ⟨⟨⟨fun _ _ _ _ _ h => by simp [cAt] at h, fun _ _ _ _ h => by simp [cAt] at h⟩, fun _ _ _ _ _ h => by simp [cAt] at h⟩, fun _ _ _ _ _ _ h => by simp [cAt] at h⟩
  | n + 1 => by
    obtain ⟨hC, hD⟩ := table_sound hM hT L n
    refine ⟨⟨⟨?_, ?_⟩, ?_⟩, ?_⟩
    · intro f args σ r σ' h hfn
      simp only [cAt, callT] at h
      split at h
      · rename_i af fz hf
        obtain ⟨_, fn, hints, h1, h2⟩ := hT f _ hf
        refine wrap_sound (g := runCode (cAt T L n).1 (cAt T L n).2 L af) ?_ args σ r σ' h
        intro args σ r σ' h μ S w cargs hg hG ha
        unfold runCode at h
        split at h
        · rename_i hfit
          exact func_sound hM hC hD h1 h2 hfit h hg hG ha
        · cases h
      · rename_i o fz hf
        have : RawOK P G f o := (hT f _ hf).2
        exact wrap_sound this args σ r σ' h
      · rename_i hf
        exact absurd (hT f _ hf) hfn
      · rename_i af hf
        obtain ⟨_, _, fn, hints, h1, h2⟩ := hT f _ hf
        unfold runCode at h
        split at h
        · rename_i hfit
          exact fun μ S w cargs hg hG ha => func_sound hM hC hD h1 h2 hfit h hg hG ha
        · cases h
      · rename_i af hf
        obtain ⟨_, fn, hints, h1, h2⟩ := hT f _ hf
        refine wrap_sound (g := frzAns (runCode (cAt T L n).1 (cAt T L n).2 L af)) (frzAns_sound ?_) args σ r σ' h
        intro args σ r σ' h μ S w cargs hg hG ha
        unfold runCode at h
        split at h
        · rename_i hfit
          exact func_sound hM hC hD h1 h2 hfit h hg hG ha
        · cases h
      · cases h
    · intro args σ r σ' h
      simp only [cAt, callT] at h
      split at h
      · rename_i af fz hf
        exact absurd rfl (hT _ _ hf).1
      · rename_i o fz hf
        exact absurd rfl (hT _ _ hf).1
      · split at h
        · exact round_sound hM hC args σ r σ' h
        · exact wrapK (K := RoundC P) (fun _ _ _ _ hm ⟨l, as, e, fn, tm, x, y, hr, hR⟩ => ⟨l, as, e, fn, tm, x, y, hr, fun n => (hR n).mono hm⟩) (round_sound hM hC) args σ r σ' h
      · rename_i af hf
        exact absurd rfl (hT _ _ hf).1
      · rename_i af hf
        exact absurd rfl (hT _ _ hf).1
      · cases h
    · intro f args σ r σ' h id hlt hid
      obtain ⟨hnr, hidt⟩ := touchF_no hlt hid
      simp only [cAt, callT] at h
      split at h
      · exact wrap_wr h hlt hidt
      · exact wrap_wr h hlt hidt
      · rename_i hf
        have hf : f = 4294967295 := hT f _ hf
        subst hf
        rw [hnr] at h
        exact wrap_wr h hlt hidt
      · rename_i af hf
        have := (hT f _ hf).2.1
        rw [hnr] at this
        cases this
      · exact wrap_wr h hlt hidt
      · cases h
    · intro f args σ m m' σ' h μ S w cargs u hg hG ha hu
      simp only [cAt, defT] at h
      split at h
      · rename_i af fz hf
        obtain ⟨_, fn, hints, h1, h2⟩ := hT f _ hf
        split at h
        · rename_i hfit
          exact def_sound hM hC h1 h2 hfit h hg hG ha hu
        · cases h
      · rename_i rf hf
        obtain ⟨fn, hints, h1, h2⟩ := hT f _ hf
        split at h
        · rename_i hfit
          exact rec_sound hM hC h1 h2 (by simpa using hfit) h hg hG ha hu
        · cases h
      · cases h

end Go.Ab
