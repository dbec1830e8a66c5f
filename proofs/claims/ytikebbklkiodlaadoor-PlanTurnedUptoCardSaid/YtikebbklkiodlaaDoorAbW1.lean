/- PlanTurned: the table of functions. -/
import Derived.Test.YtikebbklkiodlaaDoorAbUW
set_option linter.unusedSectionVars false
set_option linter.unusedSimpArgs false
set_option linter.unusedVariables false
set_option maxRecDepth 1000000
namespace Go.Ab.Turn
open Go Go.Ab Go.Ab.Plan Go.Ab.Key Go.Ab.Cnt Go.Proofs
/-- what the library's variable holds -/
class Mx where
  m : Int
variable [Mx]
/-- the package variables: the types' names, and the library's own -/
def GT : Globs := fun x => if x = 0 then some basesG else if x = 1 then some [.int .i64 Mx.m] else none
/-- no marks; the functions that run on their caller's heap -/
noncomputable instance instT : Marks := { noMarks with rnd := RoundIs Tryd.prog GT, raw := fun f => Nat.beq f 22 || Nat.beq f 24 || Nat.beq f 25 || Nat.beq f 29 || Nat.beq f 4294967295 }
noncomputable def TX : Table
  | 5 => some (.code lit5 true)
  | 14 => some (.code lit14 true)
  | 15 => some (.ans lit15)
  | 16 => some (.ans lit16)
  | 17 => some (.code lit17 true)
  | 18 => some (.ans lit18)
  | 22 => some (.raw lit22)
  | 23 => some (.code lit23 true)
  | 24 => some (.raw lit24)
  | 25 => some (.raw lit25)
  | 26 => some (.code lit26 true)
  | 27 => some (.code lit27 true)
  | 28 => some (.code lit28 true)
  | 29 => some (.raw lit29)
  | 30 => some (.code lit30 true)
  | 31 => some (.code lit31 true)
  | 33 => some (.ext (extP Enc.replO) true)
  | 34 => some (.ext (extP Enc.trimO) true)
  | 35 => some (.code lit35 true)
  | 36 => some (.code lit36 true)
  | 4294967295 => some .rnd
  | _ => none
noncomputable def TT : Table := ahead TX (ahead (rowIm Go.Proofs.Tryd.prog GT [11]) (rowOf Go.Proofs.Tryd.prog GT [] []))
theorem q5 : TT 5 = some (.code lit5 true) := by rfl
theorem q14 : TT 14 = some (.code lit14 true) := by rfl
theorem q15 : TT 15 = some (.ans lit15) := by rfl
theorem q16 : TT 16 = some (.ans lit16) := by rfl
theorem q17 : TT 17 = some (.code lit17 true) := by rfl
theorem q18 : TT 18 = some (.ans lit18) := by rfl
theorem q22 : TT 22 = some (.raw lit22) := by rfl
theorem q23 : TT 23 = some (.code lit23 true) := by rfl
theorem q24 : TT 24 = some (.raw lit24) := by rfl
theorem q25 : TT 25 = some (.raw lit25) := by rfl
theorem q26 : TT 26 = some (.code lit26 true) := by rfl
theorem q27 : TT 27 = some (.code lit27 true) := by rfl
theorem q28 : TT 28 = some (.code lit28 true) := by rfl
theorem q29 : TT 29 = some (.raw lit29) := by rfl
theorem q30 : TT 30 = some (.code lit30 true) := by rfl
theorem q31 : TT 31 = some (.code lit31 true) := by rfl
theorem q33 : TT 33 = some (.ext (extP Enc.replO) true) := by rfl
theorem q34 : TT 34 = some (.ext (extP Enc.trimO) true) := by rfl
theorem q35 : TT 35 = some (.code lit35 true) := by rfl
theorem q36 : TT 36 = some (.code lit36 true) := by rfl
theorem qr : TT 4294967295 = some .rnd := by rfl
theorem alive (L n : Nat) : isT ((cAt TT (L + 100) (n + 30)).1 11 [] []) = true := by kernel_rfl
noncomputable def af32 : AFunc := match TT 32 with
  | some (.code af _) => af
  | _ => { ntmps := 0, results := [], body := .skip }
theorem q32 : TT 32 = some (.code af32 true) := by kernel_rfl
theorem k32a (L n : Nat) (σ : Heap) : (cAt TT (L + 10) (n + 3)).1 32 [.p (.agg [.int .i64 2, .int .i64 0])] σ = some (.ret (int 1), σ) := call_ans (ps := [.agg [.int .i64 2, .int .i64 0]]) q32 (by kernel_rfl) (by kernel_rfl) σ
theorem k32b (L n : Nat) (σ : Heap) : (cAt TT (L + 10) (n + 3)).1 32 [.p (.agg [.int .i64 3, .int .i64 0])] σ = some (.ret (int 1), σ) := call_ans (ps := [.agg [.int .i64 3, .int .i64 0]]) q32 (by kernel_rfl) (by kernel_rfl) σ
theorem k32c (L n : Nat) (σ : Heap) : (cAt TT (L + 10) (n + 3)).1 32 [.p (.agg [.int .i64 5, .int .i64 9])] σ = some (.ret (int 2), σ) := call_ans (ps := [.agg [.int .i64 5, .int .i64 9]]) q32 (by kernel_rfl) (by kernel_rfl) σ
section
variable (L n : Nat)
theorem c35 (z : Int) (σ : Heap) : (cAt TT L (n + 1)).1 35 [int z] σ = some (.ret (.p (.agg [.int .i64 1, .int .i64 z, .str [], .bool false])), σ) := call_ans (ps := [.int .i64 z]) q35 (by rfl) (run35 _ _ _ z) σ
theorem c36 (s : Word) (σ : Heap) : (cAt TT L (n + 1)).1 36 [.p (.str s)] σ = some (.ret (.p (.agg [.int .i64 2, .int .i64 0, .str s, .bool false])), σ) := call_ans (ps := [.str s]) q36 (by rfl) (run36 _ _ _ s) σ
theorem c30 (s : Word) (σ : Heap) : (cAt TT L (n + 1)).1 30 [.p (.str s)] σ = some (.ret (.p (.str (if isCmp s = true then flip s else []))), σ) := call_ans (ps := [.str s]) q30 (by rfl) (run30 _ _ _ s) σ
theorem c31 (t : T) (h : okT t) (σ : Heap) : (cAt TT L (n + 2)).1 31 [.p (node t)] σ = some (.ret (.p (.tup [.agg (litC (lit t)), .bool (lit t).isSome])), σ) :=
  call_ans (ps := [node t]) q31 (by rfl) (run31 _ _ _ t h (fun z σ => c35 L n z σ) (fun s σ => c36 L n s σ)) σ
theorem c23 (k : List Nat) (m : Nat) (hm : 4 ≤ m) (t : T) (h : okT t) : ∃ c b, (∀ σ, (cAt TT (L + 10) m).1 23 [.p (tbl k), .p (node t), int 0] σ = some (.ret (.p (.tup [.agg c, .bool b])), σ)) ∧ Ok23 (read slT t) c b ∧ c.length = 6 := by
  obtain ⟨n, rfl⟩ : ∃ j, m = j + 4 := ⟨m - 4, by omega⟩
  obtain ⟨c, b, hr, hO, hl⟩ := run23 (cAt TT (L + 10) (n + 3)).1 (cAt TT (L + 10) (n + 3)).2 (L + 10) k t h (fun s σ => c30 _ _ s σ) (fun t ht σ => c31 _ _ t ht σ) (by rfl) (by rfl) ⟨k32a L n, k32b L n, k32c L n⟩
  exact ⟨c, b, fun σ => call_ans (ps := [tbl k, node t, .int .i64 0]) q23 (by rfl) hr σ, hO, hl⟩
end
end Go.Ab.Turn

/- PlanTurned: Path at the table. -/
set_option maxRecDepth 1000000
namespace Go.Ab.Turn
open Go Go.Ab Go.Ab.Plan Go.Ab.Key Go.Ab.Cnt Go.Proofs
/-- a value that has room -/
def okL (v : Lit) : Prop := (litV v).ok ∧ Enc.wt (litV v) ≤ 2097155
theorem neg_ok {n : Int} (h : inR n) : inR (negI n) := by
  unfold inR negI at *
  split <;> omega
theorem ok_here {op s : Word} {n : Int} {l : List T} (h : okT (.mk op s n l)) : inR n ∧ s.length ≤ 1048576 := ⟨h.1.1, h.1.2.1⟩
theorem lit_ok {t : T} (h : okT t) {v : Lit} (hv : lit t = some v) : okL v := by
  cases t with
  | mk op s n l =>
    obtain ⟨h1, h2⟩ := ok_here h
    have num : ∀ n, inR n → okL (.num n) := fun n hn => ⟨hn, by simp [litV, Enc.wt]⟩
    unfold lit at hv
    by_cases a1 : (T.mk op s n l).op = wNum
    · rw [if_pos a1] at hv
      obtain rfl := Option.some.inj hv
      exact num n h1
    · rw [if_neg a1] at hv
      by_cases a2 : (T.mk op s n l).op = wText
      · rw [if_pos a2] at hv
        obtain rfl := Option.some.inj hv
        refine ⟨trivial, ?_⟩
        show 2 * s.length + 3 ≤ 2097155
        omega
      · rw [if_neg a2] at hv
        by_cases a3 : (T.mk op s n l).op = wBool
        · rw [if_pos a3] at hv
          obtain rfl := Option.some.inj hv
          exact ⟨trivial, by show 9 ≤ 2097155; omega⟩
        · rw [if_neg a3] at hv
          by_cases a4 : (T.mk op s n l).op = wNeg
          · rw [if_pos a4] at hv
            match l, h, hv with
            | [.mk zo zs zn zl], h, hv =>
              have hv' : (if (T.mk zo zs zn zl).op = wNum then some (Lit.num (negI zn)) else none) = some v := hv
              by_cases a5 : (T.mk zo zs zn zl).op = wNum
              · rw [if_pos a5] at hv'
                obtain rfl := Option.some.inj hv'
                exact num _ (neg_ok h.2.1.1.1)
              · rw [if_neg a5] at hv'
                cases hv'
          · rw [if_neg a4] at hv
            cases hv
theorem read_ok {t : T} (h : okT t) {c : Cl} (hc : read slT t = some c) : okL c.v ∧ isCmp c.op = true := by
  match t, h, hc with
  | .mk op s n [x, y], h, hc =>
    have hx : okT x := h.2.1
    have hy : okT y := h.2.2.1
    rw [read_two] at hc
    split at hc
    · rename_i hop
      split at hc
      · cases hl : lit y with
        | none => rw [hl] at hc; cases hc
        | some v =>
          rw [hl] at hc
          simp only [Option.map_eq_some_iff] at hc
          obtain ⟨a, _, rfl⟩ := hc
          exact ⟨lit_ok hy hl, hop⟩
      · split at hc
        · cases hl : lit x with
          | none => rw [hl] at hc; cases hc
          | some v =>
            rw [hl] at hc
            simp only [Option.map_eq_some_iff] at hc
            obtain ⟨a, _, rfl⟩ := hc
            exact ⟨lit_ok hx hl, (flip_cmp hop).2⟩
        · cases hc
    · cases hc
mutual
theorem clauses_ok : ∀ {t : T}, okT t → ∀ c ∈ clauses t, okT c
  | .mk op s n l, h, c, hc => by
    unfold clauses at hc
    split at hc
    · exact clausesL_ok h.2 c hc
    · rw [List.mem_singleton.1 hc]; exact h
theorem clausesL_ok : ∀ {l : List T}, allTL (fun _ s n k => inR n ∧ s.length ≤ 1048576 ∧ k ≤ 1048576) l → ∀ c ∈ clausesL l, okT c
  | [], _, c, hc => by cases hc
  | t :: r, h, c, hc => by
    unfold clausesL at hc
    rcases List.mem_append.1 hc with hc | hc
    · exact clauses_ok h.1 c hc
    · exact clausesL_ok h.2 c hc
end
theorem said_ok {t : T} (h : okT t) : ∀ c ∈ saidL (clauses t), okL c.v ∧ isCmp c.op = true := fun c hc => by
  obtain ⟨u, hu, hr⟩ := List.mem_filterMap.1 hc
  exact read_ok (clauses_ok h u hu) hr
theorem fixed_mem : ∀ (ks : List Nat) (l : List Cl) (v : Lit), v ∈ fixedOf ks l → ∃ c ∈ l, c.v = v
  | [], l, v, h => by simp [fixedOf] at h
  | k :: ks, l, v, h => by
    rw [fixed_cons] at h
    cases hf : l.find? (isEqC k) with
    | none => rw [hf] at h; cases h
    | some x =>
      rw [hf] at h
      rcases List.mem_cons.1 h with rfl | h
      · exact ⟨x, List.mem_of_find?_eq_some hf, rfl⟩
      · exact fixed_mem ks l v h
theorem wts_le : ∀ (F : List Lit), (∀ v ∈ F, okL v) → Enc.wts (F.map litV) ≤ F.length * 2097155
  | [], _ => by simp [Enc.wts]
  | v :: F, h => by
    have h1 := (h v (List.mem_cons_self ..)).2
    have h2 := wts_le F fun u hu => h u (List.mem_cons_of_mem _ hu)
    simp only [Enc.wts, List.map_cons, List.sum_cons, List.length_cons] at *
    omega
end Go.Ab.Turn

/- PlanTurned: Path at the table: every tree. -/
set_option maxRecDepth 1000000
namespace Go.Ab.Turn
open Go Go.Ab Go.Ab.Plan Go.Ab.Key Go.Ab.Cnt Go.Proofs
variable [Mx]
theorem encF_len (F : List Lit) (h : ∀ v ∈ F, okL v) : (encF F).length ≤ F.length * 2097155 := Nat.le_trans (Enc.encL_len _) (wts_le F h)
theorem c28 (L n : Nat) (s : Word) (h : s.length ≤ 16777216) (σ : Heap) : (cAt TT L (n + 1)).1 28 [.p (.str s)] σ = some (.ret (.p (.str (s ++ [255]))), σ) :=
  call_ans (ps := [.str s]) q28 (by rfl) (run28 _ _ _ s (by have : LIM = 4294967296 := rfl; omega)) σ
theorem c26 (L n : Nat) (F : List Lit) (hF : F.length ≤ 6) (h : ∀ v ∈ F, okL v) (σ : Heap) (f : AV) (hs : SlAt σ f (F.map litV)) :
    ∃ σ', (cAt TT (L + 20) (n + 2)).1 26 [f] σ = some (.ret (.p (.str (encF F))), σ') ∧ SlAt σ' f (F.map litV) ∧ σ'.length = σ.length ∧ ∀ j, j ∉ own f → σ'[j]? = σ[j]? :=
  enc_at q26 q33 q34 (F.map litV) (by rw [List.length_map]; omega) (by rw [List.length_map]; omega) (fun v hv => by
    obtain ⟨u, hu, rfl⟩ := List.mem_map.1 hv
    exact (h u hu).1) (by have := wts_le F h; omega) σ f hs
theorem e27 (L n : Nat) (l : List Cl) (h : ∀ c ∈ l, okL c.v) : E27 (cAt TT (L + 20) (n + 2)).1 l where
  enc := fun c hc σ id ho => by
    have hs : SlAt σ (.sl id 0 0 1 4) ([c.v].map litV) := .inr ⟨id, 0, 0, [], none, rfl, by rw [ho]; simp [vcs]⟩
    obtain ⟨σ', e, _, hl, hk⟩ := c26 L n [c.v] (by simp) (fun v hv => by rw [List.mem_singleton.1 hv]; exact h c hc) σ _ hs
    exact ⟨σ', e, hl, fun j hj => hk j (by simpa [own] using hj)⟩
  abv := fun c hc σ => by
    have := encF_len [c.v] fun v hv => by rw [List.mem_singleton.1 hv]; exact h c hc
    exact c28 _ (n + 1) (encF [c.v]) (by simp at this; omega) σ
theorem e17 (L n : Nat) (k : List Nat) (hk : k.length ≤ 6) (ls : List Cl) (h : ∀ c ∈ ls, okL c.v ∧ isCmp c.op = true) (hl : ls.length ≤ LIM) (hL : ls.length < L + 20) (b : AV) : E17 (cAt TT (L + 20) (n + 3)).1 k ls b := by
  have hF : ∀ v ∈ fixedOf k ls, okL v := fun v hv => by
    obtain ⟨c, hc, rfl⟩ := fixed_mem k ls v hv
    exact (h c hc).1
  have hFl := fixed_len k ls
  refine ⟨fun σ f hs => c26 L (n + 1) (fixedOf k ls) (by omega) hF σ f hs, fun σ hs => ?_, fun σ => c28 _ (n + 2) _ (by have := encF_len _ hF; omega) σ⟩
  refine btw_at (n := n + 2) q27 ls (k.headD 0) _ (fun σ => ?_) σ b hs
  exact call_ans (ps := [.vsl (clsC ls) ls.length, .int .i64 (k.headD 0 : Nat)]) q27 (by rfl) (run27 _ _ _ hl hL (fun c hc => (h c hc).2) (e27 L n ls fun c hc => (h c hc).1) (by rfl)) σ
/-- Path, at every level that is high enough -/
theorem path17 (L n : Nat) (k : List Nat) (hk : k.length ≤ 6) (t : T) (hok : okT t) (hcl : (clauses t).length ≤ LIM) (hclL : (clauses t).length < L + 20) (hn : 2 * deep t + 6 ≤ n) (σ : Heap) :
    (cAt TT (L + 20) (n + 4)).1 17 [.p (tbl k), .p (.vsl (cells t) 1), int 0] σ = some (.ret (.p (.agg (pathP k (saidL (clauses t))))), σ) := by
  have hs := said_len t
  exact call_ans (ps := [tbl k, .vsl (cells t) 1, .int .i64 0]) (n := n + 3) q17 (by rfl)
    (run17 (m := 4) (n := n + 2) k hk t hok q22 q29 q24 q25 qr (by rfl) (by rfl) (by omega) hcl hclL (fun m hm u hu => c23 (L + 10) k m hm u hu) (by omega) (fun b => e17 L n k hk _ (said_ok hok) (by omega) (by omega) b) (by omega)) σ
/-- the same, turned, and twice -/
theorem path_turned (k : List Nat) (t : T) : pathP k (saidL (clauses (trn t))) = pathP k (saidL (clauses t)) := by
  have : saidL (clauses (trn t)) = saidL (clauses t) := said_trn slT t
  rw [this]
theorem path_twice (k : List Nat) (ls : List Cl) : pathP k (ls ++ ls) = pathP k ls := by
  unfold pathP
  rw [fixed_twice, bounds_twice]
end Go.Ab.Turn

/- PlanTurned: Path, handed a condition in a slice. -/
set_option maxRecDepth 1000000
namespace Go.Ab.Turn
open Go Go.Ab Go.Ab.Plan Go.Ab.Key Go.Ab.Cnt Go.Proofs
variable [Mx]
theorem path_sl (L n : Nat) (k : List Nat) (hk : k.length ≤ 6) (t : T) (hok : okT t) (hcl : (clauses t).length ≤ LIM) (hclL : (clauses t).length < L + 20) (hn : 2 * deep t + 6 ≤ n) (σ : Heap) (id : Nat) (ho : σ[id]? = some (.arr (.pv (cells t)) 0 0 none)) :
    (cAt TT (L + 20) (n + 4)).1 17 [.p (tbl k), .sl id 0 0 1 4, int 0] σ = some (.ret (.p (.agg (pathP k (saidL (clauses t))))), σ.set id (.arr (.pv (cells t)) 0 4 none)) := by
  have hc : (touch σ [.p (tbl k), .sl id 0 0 1 4, int 0]).contains id = true := by
    simp [touch, idsL, idsV, collect, idsO, ho]
  have h4 := cells_len t
  have htk : (cells t).take 4 = cells t := List.take_of_length_le (by omega)
  have hf : frzA (touch σ [.p (tbl k), .sl id 0 0 1 4, int 0]) 9 σ [.p (tbl k), .sl id 0 0 1 4, int 0] = ([tbl k, PV.vsl (cells t) 1, .int .i64 0].map .p, σ.set id (.arr (.pv (cells t)) 0 4 none)) := by
    generalize touch σ [.p (tbl k), .sl id 0 0 1 4, int 0] = tl at hc ⊢
    generalize cells t = ct at ho h4 htk ⊢
    simp only [frzA, frz, ho, Cells.len, hc, Nat.zero_add, List.drop_zero, and_true, true_and, Nat.one_mul, h4, htk, if_true, Nat.le_refl, List.map_cons, List.map_nil]
    rfl
  rw [cAt_frz (ps := [tbl k, .vsl (cells t) 1, .int .i64 0]) q17 hf]
  exact path17 L n k hk t hok hcl hclL hn _
end Go.Ab.Turn

/- PlanTurned: a tree, turned, is as deep, as broad and has as much room. -/
set_option maxRecDepth 1000000
namespace Go.Ab.Turn
open Go Go.Ab Go.Ab.Plan Go.Ab.Key Go.Ab.Cnt Go.Proofs
theorem deepL_app : ∀ l r : List T, deepL (l ++ r) = Nat.max (deepL l) (deepL r)
  | [], r => (Nat.zero_max _).symm
  | t :: l, r => by simp only [List.cons_append, deepL, deepL_app l r]; exact (Nat.max_assoc _ _ _).symm
theorem deepL_rev : ∀ l : List T, deepL l.reverse = deepL l
  | [] => rfl
  | t :: l => by
    rw [List.reverse_cons, deepL_app, deepL_rev l]
    simp only [deepL]
    rw [show Nat.max (deep t) 0 = deep t from Nat.max_zero _]
    exact Nat.max_comm _ _
mutual
theorem deep_trn : ∀ t : T, deep (trn t) = deep t
  | .mk op s n l => by
    unfold trn
    simp only [deep]
    split
    · rw [deepL_rev, deep_trnL l]
    · rw [deep_trnL l]
theorem deep_trnL : ∀ l : List T, deepL (trnL l) = deepL l
  | [] => rfl
  | t :: r => by simp only [trnL, deepL, deep_trn t, deep_trnL r]
end
theorem allTL_app {p : Word → Word → Int → Nat → Prop} : ∀ l r : List T, allTL p (l ++ r) ↔ allTL p l ∧ allTL p r
  | [], r => by simp [allTL]
  | t :: l, r => by simp only [List.cons_append, allTL, allTL_app l r, and_assoc]
theorem allTL_rev {p : Word → Word → Int → Nat → Prop} : ∀ l : List T, allTL p l.reverse ↔ allTL p l
  | [] => Iff.rfl
  | t :: l => by
    rw [List.reverse_cons, allTL_app, allTL_rev l]
    simp only [allTL, and_true]
    exact And.comm
mutual
theorem ok_trn : ∀ t : T, okT t → okT (trn t)
  | .mk op s n l, h => by
    unfold trn
    refine ⟨⟨h.1.1, h.1.2.1, ?_⟩, ?_⟩
    · split
      · rw [List.length_reverse, trnL_len]; exact h.1.2.2
      · rw [trnL_len]; exact h.1.2.2
    · split
      · exact (allTL_rev _).2 (ok_trnL l h.2)
      · exact ok_trnL l h.2
theorem ok_trnL : ∀ l : List T, allTL (fun _ s n k => inR n ∧ s.length ≤ 1048576 ∧ k ≤ 1048576) l → allTL (fun _ s n k => inR n ∧ s.length ≤ 1048576 ∧ k ≤ 1048576) (trnL l)
  | [], _ => trivial
  | t :: r, h => ⟨ok_trn t h.1, ok_trnL r h.2⟩
end
theorem clausesL_rev2 (x y : T) : (clausesL [x, y].reverse).length = (clausesL [x, y]).length := by
  simp [clausesL]; omega
mutual
theorem clauses_trn_len : ∀ t : T, (clauses (trn t)).length = (clauses t).length
  | .mk op s n l => by
    by_cases hc : op = wAnd ∧ l.length = 2
    · obtain ⟨rfl, hl⟩ := hc
      have e : trn (.mk wAnd s n l) = .mk wAnd s n (trnL l) := by
        have h1 : isCmp wAnd = false := rfl
        have h2 : flip wAnd = wAnd := by decide
        simp [trn, hl, h1, h2]
      rw [e]
      unfold clauses
      rw [if_pos ⟨rfl, by rw [trnL_len]; exact hl⟩, if_pos ⟨rfl, hl⟩]
      exact clausesL_trn_len l
    · have e1 : clauses (.mk op s n l) = [.mk op s n l] := by
        conv => lhs; unfold clauses
        rw [if_neg hc]
      have h3 : ¬ ((trn (.mk op s n l)).op = wAnd ∧ (trn (.mk op s n l)).l.length = 2) := by
        rintro ⟨h4, h5⟩
        refine hc ⟨(trn_op_is wAnd rfl (.mk op s n l)).1 h4, ?_⟩
        simp only [trn, T.l] at h5
        split at h5
        · rw [List.length_reverse, trnL_len] at h5; exact h5
        · rw [trnL_len] at h5; exact h5
      have e2 : clauses (trn (.mk op s n l)) = [trn (.mk op s n l)] := by
        generalize trn (.mk op s n l) = u at *
        cases u with
        | mk o' s' n' l' =>
          conv => lhs; unfold clauses
          exact if_neg h3
      rw [e1, e2]
      rfl
theorem clausesL_trn_len : ∀ l : List T, (clausesL (trnL l)).length = (clausesL l).length
  | [] => rfl
  | t :: r => by simp only [trnL, clausesL, List.length_append, clauses_trn_len t, clausesL_trn_len r]
end
/-- the tree with itself -/
abbrev both (t : T) : T := .mk wAnd [] 0 [t, t]
theorem both_deep (t : T) : deep (both t) = deep t + 1 := by
  have h0 : Nat.max (deep t) 0 = deep t := Nat.max_zero _
  have h1 : Nat.max (deep t) (deep t) = deep t := Nat.max_self _
  simp only [both, deep, deepL, h0, h1]
theorem both_ok {t : T} (h : okT t) : okT (both t) := ⟨⟨by unfold inR; omega, by simp, by simp⟩, h, h, trivial⟩
theorem both_clauses (t : T) : clauses (both t) = clauses t ++ clauses t := by
  conv => lhs; unfold both clauses
  rw [if_pos ⟨rfl, rfl⟩]
  simp [clausesL]
variable [Mx]
theorem both_path (k : List Nat) (t : T) : pathP k (saidL (clauses (both t))) = pathP k (saidL (clauses t)) := by
  rw [both_clauses]
  simp only [saidL, List.filterMap_append]
  exact path_twice k _
end Go.Ab.Turn
