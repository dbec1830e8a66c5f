/- Operations that ask for no memory: what they come to in the model. -/
import Derived.Test.YtikebbklkiodlaaDoorAbA4
import Derived.Laws.Bits64
import Derived.Laws.StructEq
set_option linter.unusedSectionVars false
set_option linter.unusedSimpArgs false
set_option linter.unusedVariables false
namespace Go.Ab
variable [Marks]
variable {S S' : Nat → Nat → Prop} {w w' : World} {μ μ' : Nat → Nat → Option (Nat × Nat)} {P : Program} {G : Globs}

theorem run_size {t n : Nat} (h : P_size P t = some n) (w : World) : (sizeOf t).run P w = .ok n w := by
  simp only [P_size, Option.map_eq_some_iff] at h
  obtain ⟨i, hi, rfl⟩ := h
  simp [sizeOf, typeInfo, hi]
theorem run_agg {t : Nat} {b : Bool} (h : P_agg P t = some b) (w : World) : (isAgg t).run P w = .ok b w := by
  unfold P_agg at h
  cases hu : P.underlying t with
  | none => rw [hu] at h; cases h
  | some d => rw [hu] at h; cases d <;> (obtain rfl := Option.some.inj h; simp [isAgg, run_underlying hu])

theorem intBin_rep {op : BinOp} {k : IntKind} {a b : Int} {r : PV} (h : intBin op k a b = some r) (w : World) (t : Nat) :
    ∃ c, (binOp op t (.int k a) (.int k b)).run P w = .ok c w ∧ ∀ S w', RepP S w' r c := by
  cases op <;> simp only [intBin] at h <;> first
    | (obtain rfl := Option.some.inj h; refine ⟨_, ?_, fun _ _ => by constructor⟩; simp [binOp, Op.intArith, Op.intBits, Op.intCmp])
    | (split at h
       · cases h
       · rename_i hb
         obtain rfl := Option.some.inj h
         refine ⟨_, ?_, fun _ _ => by constructor⟩; simp [binOp, Op.intDiv, hb])
    | cases h

theorem intShift_rep {op : BinOp} {k k' : IntKind} {a b : Int} {r : PV} (h : intShift op k a b = some r) (w : World) (t : Nat) :
    ∃ c, (binOp op t (.int k a) (.int k' b)).run P w = .ok c w ∧ ∀ S w', RepP S w' r c := by
  unfold intShift at h
  split at h
  · cases h
  · rename_i hb
    cases op <;> simp only at h <;> first
      | (obtain rfl := Option.some.inj h; refine ⟨_, ?_, fun _ _ => by constructor⟩; simp [binOp, Op.shift, hb])
      | cases h

theorem strBin_rep {op : BinOp} {a b : ByteArray} {r : PV} (h : strBin op a.data.toList b.data.toList = some r) (w : World) (t : Nat) :
    ∃ c, (binOp op t (.string a) (.string b)).run P w = .ok c w ∧ ∀ S w', RepP S w' r c := by
  have hsz : ∀ x : ByteArray, x.size = x.data.toList.length := fun x => rfl
  cases op <;> simp only [strBin] at h <;> first
    | (obtain rfl := Option.some.inj h; refine ⟨_, ?_, fun _ _ => by constructor⟩; simp [binOp, Op.stringOp, toList_data])
    | (split at h
       · rename_i hl
         obtain rfl := Option.some.inj h
         have hl' : ¬ (((a.size + b.size : Nat) : Int) > IntKind.i64.max) := by
           rw [hsz, hsz]; unfold LIM at hl; simp only [IntKind.max_i64]; omega
         refine ⟨.string (a ++ b), ?_, fun _ _ => .str (by simp)⟩
         simp only [binOp, Op.stringOp]
         rw [if_neg hl']
         rfl
       · cases h)
    | cases h

theorem oneP_sub {l : List Value} (h : ∀ c ∈ l, one c = true) (n m : Nat) : ∀ c ∈ (l.drop n).take m, one c = true :=
  fun c hc => h c (List.mem_of_mem_drop (List.mem_of_mem_take hc))

theorem partP_rep {t n off : Nat} {ag : Bool} {xs : List PV} {cx : Array Value} {v : PV} (ha : P_agg P t = some ag) (hn : P_size P t = some n) (hp : partP ag n xs off = some v)
    (hx : RepPL S w xs cx.toList) (h1 : ∀ c ∈ cx.toList, one c = true) (w' : World) : ∃ c, (part t cx off).run P w' = .ok c w' ∧ RepP S w v c ∧ (ag = false → one c = true) := by
  unfold partP at hp
  cases ag with
  | true =>
    simp only [if_true] at hp
    split at hp
    · obtain rfl := Option.some.inj hp
      refine ⟨.agg (cx.extract off (off + n)), ?_, ?_, by simp⟩
      · simp [part, run_agg ha, run_size hn]
      · have e : (cx.extract off (off + n)).toList = (cx.toList.drop off).take n := by simp
        refine .agg (by rw [e]; exact (hx.drop off).take n) ?_
        rw [e]
        exact oneP_sub h1 _ _
    · cases hp
  | false =>
    simp only [Bool.false_eq_true, if_false] at hp
    obtain ⟨c, hc, hr⟩ := hx.get hp
    refine ⟨c, ?_, hr, fun _ => h1 c (List.mem_of_getElem? hc)⟩
    have hc' : cx[off]? = some c := by simpa using hc
    simp [part, run_agg ha, hc']

theorem str_same {s s' : ByteArray} {l : List UInt8} (h : s.data.toList = l) (h' : s'.data.toList = l) : s = s' := by
  obtain ⟨d⟩ := s
  obtain ⟨d'⟩ := s'
  have : d = d' := Array.toList_inj.1 (h.trans h'.symm)
  rw [this]
theorem pvsOf_rep : ∀ {out : List AV} {ps : List PV} {cs : List Value}, pvsOf out = some ps → RepL S w μ out cs → RepPL S w ps cs
  | [], ps, cs, h, hr => by
    simp only [pvsOf, Option.some.injEq] at h
    subst h
    cases hr
    exact .nil
  | v :: r, ps, cs, h, hr => by
    simp only [pvsOf] at h
    split at h
    · rename_i p qs hp hq
      obtain rfl := Option.some.inj h
      cases hr with
      | cons h1 h2 =>
        refine .cons ?_ (pvsOf_rep hq h2)
        cases v <;> simp only [pv1, Option.some.injEq] at hp <;> first | (cases hp; done) | subst hp
        · exact h1.pv
        · cases h1; exact .vsl0 _ _
        · cases h1; exact .vsl0 _ _
    · cases h
theorem RepP.ssym_inj {t : Nat} {c c' : Value} (h : RepP S w (.ssym t) c) (h' : RepP S w (.ssym t) c') : c = c' := by
  cases h with
  | ssym h1 e1 => cases h' with
    | ssym h2 e2 =>
      obtain rfl := Option.some.inj (h1.symm.trans h2)
      rw [str_same e1 e2]
theorem markCmp_ok {i j : Nat} {k : IntKind} {n m : Int} {c : Ordering} (hi : Marks.int i k = some n) (hj : Marks.int j k = some m) (h : markCmp i j = some c) : c = if n < m then .lt else if n = m then .eq else .gt := by
  unfold markCmp at h
  split at h
  · rename_i hij
    subst hij
    obtain rfl := Option.some.inj h
    obtain rfl := Option.some.inj (hi.symm.trans hj)
    simp
  · exact (Marks.ok i j k n m c hi hj h).trans rfl
theorem ordBin_ok {k : IntKind} {n m : Int} {c : Ordering} {op : BinOp} {r : Bool} (hc : c = if n < m then .lt else if n = m then .eq else .gt) (h : ordBin op c = some r) : intBin op k n m = some (.bool r) := by
  rcases Int.lt_trichotomy n m with hn | hn | hn
  · rw [if_pos hn] at hc
    subst hc
    have g1 : n ≤ m := by omega
    have g2 : ¬ m < n := by omega
    have g3 : ¬ m ≤ n := by omega
    have g4 : ¬ n = m := by omega
    cases op <;> first | (cases h; done) | (simp [ordBin] at h; subst h; simp [intBin, hn, g1, g2, g3, g4] <;> (rw [bne, beq_eq_false_iff_ne.2 g4]; rfl))
  · rw [if_neg (by omega), if_pos hn] at hc
    subst hc hn
    cases op <;> first | (cases h; done) | (simp [ordBin] at h; subst h; simp [intBin])
  · rw [if_neg (by omega), if_neg (by omega)] at hc
    subst hc
    have g1 : ¬ n ≤ m := by omega
    have g2 : ¬ n < m := by omega
    have g3 : m ≤ n := by omega
    have g4 : ¬ n = m := by omega
    cases op <;> first | (cases h; done) | (simp [ordBin] at h; subst h; simp [intBin, hn, g1, g2, g3, g4] <;> (rw [bne, beq_eq_false_iff_ne.2 g4]; rfl))
theorem cmpA_ok {i j : Nat} {k : IntKind} {n m : Int} {op : BinOp} {r : Bool} (hi : Marks.int i k = some n) (hj : Marks.int j k = some m) (h : cmpA op i j = some r) : intBin op k n m = some (.bool r) := by
  unfold cmpA at h
  split at h
  · rename_i c hc
    have hc := markCmp_ok hi hj hc
    rcases Int.lt_trichotomy n m with hn | hn | hn
    · rw [if_pos hn] at hc
      subst hc
      have g1 : n ≤ m := by omega
      have g2 : ¬ m < n := by omega
      have g3 : ¬ m ≤ n := by omega
      have g4 : ¬ n = m := by omega
      cases op <;> first | (cases h; done) | (simp [ordBin] at h; subst h; simp [intBin, hn, g1, g2, g3, g4] <;> (rw [bne, beq_eq_false_iff_ne.2 g4]; rfl))
    · rw [if_neg (by omega), if_pos hn] at hc
      subst hc hn
      cases op <;> first | (cases h; done) | (simp [ordBin] at h; subst h; simp [intBin])
    · rw [if_neg (by omega), if_neg (by omega)] at hc
      subst hc
      have g1 : ¬ n ≤ m := by omega
      have g2 : ¬ n < m := by omega
      have g3 : m ≤ n := by omega
      have g4 : ¬ n = m := by omega
      cases op <;> first | (cases h; done) | (simp [ordBin] at h; subst h; simp [intBin, hn, g1, g2, g3, g4] <;> (rw [bne, beq_eq_false_iff_ne.2 g4]; rfl))
  · cases h
theorem cmpA_eq {i j : Nat} {k : IntKind} {n m : Int} {r : Bool} (hi : Marks.int i k = some n) (hj : Marks.int j k = some m) (h : cmpA .eql i j = some r) : (n == m) = r := by
  have := cmpA_ok hi hj h
  simpa [intBin] using this
mutual
theorem eqP_rep : ∀ (d t : Nat) (e : EQ) (x y : PV) (r : Bool) (cx cy : Value) (w' : World) (D : Nat), cEQ P d t = some e → eqP e x y = some r → RepP S w x cx → RepP S w y cy → d ≤ D →
    (Op.equalIn D t cx cy).run P w' = .ok r w'
  | 0, _, _, _, _, _, _, _, _, _, h, _, _, _, _ => by simp [cEQ] at h
  | d + 1, t, e, x, y, r, cx, cy, w', D, hc, he, hx, hy, hD => by
    obtain ⟨D, rfl⟩ : ∃ D', D = D' + 1 := ⟨D - 1, by omega⟩
    simp only [cEQ] at hc
    split at hc
    · rename_i hu
      obtain rfl := Option.some.inj hc
      cases hx <;> cases hy <;> simp [eqP] at he
      subst he
      simp [Op.equalIn, run_underlying hu]
    · rename_i k hu
      obtain rfl := Option.some.inj hc
      cases hx <;> cases hy <;> simp [eqP] at he
      · obtain ⟨rfl, rfl⟩ := he
        simp [Op.equalIn, run_underlying hu]
      · obtain ⟨rfl, he⟩ := he
        rw [← cmpA_eq (by assumption) (by assumption) he]
        simp [Op.equalIn, run_underlying hu]
    · rename_i hu
      obtain rfl := Option.some.inj hc
      cases hx <;> cases hy <;> simp [eqP] at he
      · subst_vars
        simp [Op.equalIn, run_underlying hu, beq_toListBytes, toList_data]
      · rename_i h1 e1 _ _ _ h2 e2
        obtain ⟨rfl, rfl⟩ := he
        obtain rfl := Option.some.inj (h1.symm.trans h2)
        obtain rfl := str_same e1 e2
        simp [Op.equalIn, run_underlying hu, beq_toListBytes, toList_data]
    · rename_i fs hu
      split at hc
      · cases hc
      · rename_i hst
        cases hes : cEQs P d fs.toList with
        | none => rw [hes] at hc; cases hc
        | some es =>
          rw [hes] at hc
          obtain rfl := Option.some.inj hc
          cases hx <;> cases hy <;> simp only [eqP] at he <;> try (cases he; done)
          rename_i xs cxs hxs h1 ys cys hys h2
          have hf : P.fieldsOf t = fs := by simp [Program.fieldsOf, hu]
          rw [run_equalIn_struct w' D t cxs cys (by rw [hf]; exact hu) (by simpa using hst), hf]
          exact eqPs_rep d fs.toList es xs ys r cxs cys w' D hes he hxs hys h1 h2 (by omega)
    · cases hc
theorem eqPs_rep : ∀ (d : Nat) (fs : List Field) (es : List (Nat × Bool × Nat × EQ)) (xs ys : List PV) (r : Bool) (cx cy : Array Value) (w' : World) (D : Nat), cEQs P d fs = some es → eqPs es xs ys = some r →
    RepPL S w xs cx.toList → RepPL S w ys cy.toList → (∀ c ∈ cx.toList, one c = true) → (∀ c ∈ cy.toList, one c = true) → d ≤ D → (Op.eqFields D cx cy fs).run P w' = .ok r w'
  | d, [], es, xs, ys, r, cx, cy, w', D, hc, he, hx, hy, h1, h2, hD => by
    obtain rfl : es = [] := by cases d <;> simpa [cEQs] using hc.symm
    simp [eqPs] at he
    subst he
    simp [Op.eqFields]
  | 0, f :: fs, es, xs, ys, r, cx, cy, w', D, hc, he, hx, hy, h1, h2, hD => by simp [cEQs] at hc
  | d + 1, f :: fs, es, xs, ys, r, cx, cy, w', D, hc, he, hx, hy, h1, h2, hD => by
    simp only [cEQs] at hc
    split at hc
    · cases hc
    · rename_i hne
      split at hc
      · rename_i s a e l hs ha hee hl
        obtain rfl := Option.some.inj hc
        simp only [eqPs] at he
        split at he
        · rename_i x y hx1 hy1
          obtain ⟨c1, p1, q1, _⟩ := partP_rep (P := P) ha hs hx1 hx h1 w'
          obtain ⟨c2, p2, q2, _⟩ := partP_rep (P := P) ha hs hy1 hy h2 w'
          split at he
          · rename_i hr
            have p3 := eqP_rep d f.type e x y true c1 c2 w' D hee hr q1 q2 (by omega)
            have p4 := eqPs_rep d fs l xs ys r cx cy w' D hl he hx hy h1 h2 (by omega)
            simp [Op.eqFields, hne, p1, p2, p3, p4]
          · rename_i hr
            obtain rfl := Option.some.inj he
            have p3 := eqP_rep d f.type e x y false c1 c2 w' D hee hr q1 q2 (by omega)
            simp [Op.eqFields, hne, p1, p2, p3]
          · cases he
        · cases he
      · cases hc
end

def nilKind : NilK → TypeDesc → Bool
  | .iface, .interface _ => true
  | .ptr, .pointer _ => true
  | .fn, .func _ _ _ => true
  | .slice, .slice _ => true
  | .map, .map _ _ => true
  | _, _ => false

def nilV : NilK → Value
  | .iface => .nilIface
  | .ptr => .pointer none
  | .fn => .nilFunc
  | .slice => .slice none 0 0
  | .map => .map none
def someV : NilK → Value → Prop
  | .iface, v => ∃ t x, v = .iface t x
  | .ptr, v => ∃ a, v = .pointer (some a)
  | .fn, v => ∃ f a b, v = .func f a b
  | .slice, v => ∃ a n c, v = .slice (some a) n c
  | .map, _ => False
theorem isNilA_rep {k : NilK} {x : AV} {r : Bool} {cx : Value} (h : isNilA k x = some r) (hx : Rep S w μ x cx) : if r then cx = nilV k else someV k cx := by
  unfold isNilA at h
  split at h
  case h_14 => cases h
  all_goals
    obtain rfl := Option.some.inj h
    cases hx <;> (try (rename_i hx; cases hx)) <;> first | rfl | exact ⟨_, rfl⟩ | exact ⟨_, _, rfl⟩ | exact ⟨_, _, _, rfl⟩

theorem eqNil_rep {k : NilK} {x y : AV} {r : Bool} {cx cy : Value} {t : Nat} {d : TypeDesc} (h : eqNil k x y = some r) (hx : Rep S w μ x cx) (hy : Rep S w μ y cy)
    (ht : P.underlying t = some d) (hk : nilKind k d = true) (w' : World) (D : Nat) :
    (Op.equalIn (D + 1) t cx cy).run P w' = .ok r w' ∧ (∀ cs, cx ≠ .agg cs) ∧
      (∀ op neg, op = (if neg then BinOp.neq else BinOp.eql) → (binOp op t cx cy).run P w' = ((Op.equalIn 10000 t cx cy).run P w').andThen fun r w => .ok (.bool (r != neg)) w) := by
  unfold eqNil at h
  split at h
  · rename_i b h1 h2
    obtain rfl := Option.some.inj h
    have e1 := isNilA_rep h1 hx
    have e2 := isNilA_rep h2 hy
    simp only [if_true] at e1
    subst e1
    cases k <;> cases d <;> simp [nilKind] at hk <;> cases b <;> simp only [Bool.false_eq_true, if_false, if_true, someV] at e2
    all_goals first
      | (obtain ⟨a, b, c, rfl⟩ := e2; refine ⟨by simp [Op.equalIn, run_underlying ht, nilV], by simp [nilV], ?_⟩; intro op neg ho; subst ho; cases neg <;> simp [binOp, nilV, Op.equal, Op.maxDepth])
      | (obtain ⟨a, b, rfl⟩ := e2; refine ⟨by simp [Op.equalIn, run_underlying ht, nilV], by simp [nilV], ?_⟩; intro op neg ho; subst ho; cases neg <;> simp [binOp, nilV, Op.equal, Op.maxDepth])
      | (obtain ⟨a, rfl⟩ := e2; refine ⟨by simp [Op.equalIn, run_underlying ht, nilV], by simp [nilV], ?_⟩; intro op neg ho; subst ho; cases neg <;> simp [binOp, nilV, Op.equal, Op.maxDepth])
      | (subst e2; refine ⟨by simp [Op.equalIn, run_underlying ht, nilV], by simp [nilV], ?_⟩; intro op neg ho; subst ho; cases neg <;> simp [binOp, nilV, Op.equal, Op.maxDepth])
  · rename_i h1 h2
    obtain rfl := Option.some.inj h
    have e1 := isNilA_rep h1 hx
    have e2 := isNilA_rep h2 hy
    simp only [if_true] at e2
    subst e2
    cases k <;> cases d <;> simp [nilKind] at hk <;> simp only [Bool.false_eq_true, if_false, someV] at e1
    all_goals first
      | (obtain ⟨a, b, c, rfl⟩ := e1; refine ⟨by simp [Op.equalIn, run_underlying ht, nilV], by simp, ?_⟩; intro op neg ho; subst ho; cases neg <;> simp [binOp, nilV, Op.equal, Op.maxDepth])
      | (obtain ⟨a, b, rfl⟩ := e1; refine ⟨by simp [Op.equalIn, run_underlying ht, nilV], by simp [nilV], ?_⟩; intro op neg ho; subst ho; cases neg <;> simp [binOp, nilV, Op.equal, Op.maxDepth])
      | (obtain ⟨a, rfl⟩ := e1; refine ⟨by simp [Op.equalIn, run_underlying ht, nilV], by simp [nilV], ?_⟩; intro op neg ho; subst ho; cases neg <;> simp [binOp, nilV, Op.equal, Op.maxDepth])
  · cases h

theorem isNil_const {x : Operand} (h : isNilOpd x = true) : ∃ v, x = .const v := by
  unfold isNilOpd at h
  split at h <;> first | exact ⟨_, rfl⟩ | cases h

theorem eqGuard_ok {op : BinOp} {t : Nat} {ox oy : Operand} {cx cy : Value} (h1 : ∀ xs ys, cx = .agg xs → cy = .agg ys → P.eqGuardType P.depth t = false)
    (h2 : cx = .nilIface → cy = .nilIface → (isNilOpd ox || isNilOpd oy) = true) (w' : World) : (eqGuard op t ox oy cx cy).run P w' = .ok () w' := by
  unfold eqGuard
  cases op <;> first
    | rfl
    | (cases cx <;> first
        | rfl
        | (cases cy <;> first
            | rfl
            | (simp [run_program, h1 _ _ rfl rfl]; done)
            | (rcases Bool.or_eq_true_iff.1 (h2 rfl rfl) with h | h
               · obtain ⟨v, rfl⟩ := isNil_const h
                 rfl
               · obtain ⟨v, rfl⟩ := isNil_const h
                 simp)))

theorem cBin_plain {op op' : BinOp} {t : Nat} {ox oy : Operand} (hb : cBin P op t ox oy = some (.plain op')) : op' = op := by
  unfold cBin at hb
  split at hb
  · injection hb with hb; injection hb with hb; exact hb.symm
  · injection hb with hb; injection hb with hb; exact hb.symm
  · split at hb <;> first | (injection hb with hb; cases hb; done) | cases hb
  · split at hb
    · cases hb
    · split at hb <;> simp at hb
  all_goals first
    | cases hb; done
    | (unfold cNil at hb; split at hb <;> (try (split at hb)) <;> first | (injection hb with hb; cases hb; done) | cases hb)

/-- what '==' by a plan was made of -/
theorem cBin_eq {op : BinOp} {t : Nat} {ox oy : Operand} {neg : Bool} {e : EQ} (hb : cBin P op t ox oy = some (.eq neg e)) :
    op = (if neg then .neq else .eql) ∧ cEQ P 40 t = some e ∧ ((∃ fs, P.underlying t = some (.struct fs)) → P.eqGuardType P.depth t = false) := by
  unfold cBin at hb
  split at hb
  · injection hb with hb; cases hb
  · injection hb with hb; cases hb
  · rename_i hu
    split at hb <;> first
      | (injection hb with hb; injection hb with h1 h2; subst h1 h2; exact ⟨rfl, by simp [cEQ, hu], by rintro ⟨fs, hf⟩; rw [hu] at hf; cases hf⟩)
      | cases hb
  · rename_i fs hu
    split at hb
    · cases hb
    · rename_i hg
      split at hb <;> first
        | (simp only [Option.map_eq_some_iff] at hb
           obtain ⟨e', he, hb⟩ := hb
           injection hb with h1 h2
           subst h1 h2
           exact ⟨rfl, he, fun _ => by simpa using hg⟩)
        | cases hb
  all_goals first
    | cases hb; done
    | (unfold cNil at hb; split at hb <;> (try (split at hb)) <;> first | (injection hb with hb; cases hb; done) | cases hb)

theorem cNil_nil {k k' : NilK} {op : BinOp} {ox oy : Operand} {neg : Bool} (hb : cNil k op ox oy = some (.nil k' neg)) :
    k' = k ∧ op = (if neg then .neq else .eql) ∧ (isNilOpd ox || isNilOpd oy) = true := by
  unfold cNil at hb
  split at hb
  · rename_i h
    split at hb <;> first
      | (injection hb with hb; injection hb with h1 h2; subst h1 h2; exact ⟨rfl, rfl, h⟩)
      | cases hb
  · cases hb
theorem cBin_nil {op : BinOp} {t : Nat} {ox oy : Operand} {neg : Bool} {k : NilK} (hb : cBin P op t ox oy = some (.nil k neg)) :
    op = (if neg then .neq else .eql) ∧ (∃ d, P.underlying t = some d ∧ nilKind k d = true) ∧ (isNilOpd ox || isNilOpd oy) = true := by
  unfold cBin at hb
  split at hb
  · injection hb with hb; cases hb
  · injection hb with hb; cases hb
  · split at hb <;> first | (injection hb with hb; cases hb; done) | cases hb
  · split at hb
    · cases hb
    · split at hb <;> simp at hb
  all_goals first
    | cases hb; done
    | (rename_i hu
       obtain ⟨rfl, h2, h3⟩ := cNil_nil hb
       exact ⟨h2, ⟨_, hu, rfl⟩, h3⟩)

theorem binA_rep {op : BinOp} {t : Nat} {ox oy : Operand} {b : Bin} {x y v : AV} {cx cy : Value} (hb : cBin P op t ox oy = some b) (h : binA b x y = some v)
    (hx : Rep S w μ x cx) (hy : Rep S w μ y cy) (w' : World) :
    ∃ c, ((do eqGuard op t ox oy cx cy; binOp op t cx cy) : Sem Value).run P w' = .ok c w' ∧ Rep S w μ v c := by
  have guard : ∀ {α : Type} (s : Sem α), (eqGuard op t ox oy cx cy).run P w' = .ok () w' → ((do eqGuard op t ox oy cx cy; s) : Sem α).run P w' = s.run P w' := by
    intro α s h1
    simp only [Sem.run_bind]
    rw [h1]
    rfl
  unfold binA at h
  split at h
  · -- whole numbers
    rename_i op' k a k' b'
    cases hx with | p hx => cases hx with | int => cases hy with | p hy => cases hy with | int =>
    obtain rfl := cBin_plain hb
    rw [guard _ (eqGuard_ok (by simp) (by simp) w')]
    split at h
    · simp only [Option.map_eq_some_iff] at h
      obtain ⟨r, hr, rfl⟩ := h
      obtain ⟨c, hc, hrep⟩ := intShift_rep (P := P) (k' := k') hr w' t
      exact ⟨c, hc, .p (hrep _ _)⟩
    · simp only [Option.map_eq_some_iff] at h
      obtain ⟨r, hr, rfl⟩ := h
      obtain ⟨c, hc, hrep⟩ := intShift_rep (P := P) (k' := k') hr w' t
      exact ⟨c, hc, .p (hrep _ _)⟩
    · split at h
      · rename_i hk
        subst hk
        simp only [Option.map_eq_some_iff] at h
        obtain ⟨r, hr, rfl⟩ := h
        obtain ⟨c, hc, hrep⟩ := intBin_rep (P := P) hr w' t
        exact ⟨c, hc, .p (hrep _ _)⟩
      · cases h
  · -- strings
    cases hx with | p hx => cases hx with | str hx => cases hy with | p hy => cases hy with | str hy =>
    subst hx hy
    obtain rfl := cBin_plain hb
    rw [guard _ (eqGuard_ok (by simp) (by simp) w')]
    simp only [Option.map_eq_some_iff] at h
    obtain ⟨r, hr, rfl⟩ := h
    obtain ⟨c, hc, hrep⟩ := strBin_rep (P := P) hr w' t
    exact ⟨c, hc, .p (hrep _ _)⟩
  · -- numbers with marks
    rename_i op' i k j k'
    cases hx with | p hx => cases hx with | isym hi => cases hy with | p hy => cases hy with | isym hj =>
    obtain rfl := cBin_plain hb
    rw [guard _ (eqGuard_ok (by simp) (by simp) w')]
    split at h
    · rename_i hk
      subst hk
      simp only [Option.map_eq_some_iff] at h
      obtain ⟨r, hr, rfl⟩ := h
      obtain ⟨c, hc, hrep⟩ := intBin_rep (P := P) (cmpA_ok hi hj hr) w' t
      exact ⟨c, hc, .p (hrep _ _)⟩
    · cases h
  · -- a number with a mark, and one that is written
    cases hx with | p hx => cases hx with | isym hi => cases hy with | p hy => cases hy with | int =>
    obtain rfl := cBin_plain hb
    rw [guard _ (eqGuard_ok (by simp) (by simp) w')]
    split at h
    · rename_i hk
      subst hk
      split at h
      · rename_i o ho
        simp only [Option.map_eq_some_iff] at h
        obtain ⟨r, hr, rfl⟩ := h
        obtain ⟨c, hc, hrep⟩ := intBin_rep (P := P) (ordBin_ok ((Marks.litOk _ _ _ _ _ hi ho).trans rfl) hr) w' t
        exact ⟨c, hc, .p (hrep _ _)⟩
      · cases h
    · cases h
  · -- by a plan
    rename_i neg e x y
    simp only [Option.map_eq_some_iff] at h
    obtain ⟨r, hr, rfl⟩ := h
    obtain ⟨hop, he, hg⟩ := cBin_eq hb
    cases hx with | p hx => cases hy with | p hy =>
    have heq := eqP_rep (P := P) 40 t e x y r cx cy w' (9999 + 1) he hr hx hy (by omega)
    have hu : ∀ xs ys, cx = .agg xs → cy = .agg ys → P.eqGuardType P.depth t = false := by
      intro xs ys hcx hcy
      refine hg ?_
      subst hcx hcy
      cases hx <;> cases hy
      unfold cEQ at he
      split at he
      · simp at he; subst he; simp [eqP] at hr
      · simp at he; subst he; simp [eqP] at hr
      · simp at he; subst he; simp [eqP] at hr
      · rename_i fs hu; exact ⟨fs, hu⟩
      · cases he
    rw [guard _ (eqGuard_ok hu (by intro h1 h2; subst h1 h2; cases hx; cases hy; cases e <;> simp [eqP] at hr) w')]
    have hrun : (binOp op t cx cy).run P w' = .ok (.bool (r != neg)) w' := by
      subst hop
      have hx0 := hx
      have hy0 := hy
      cases neg with
      | false =>
        simp only [Bool.false_eq_true, if_false]
        cases e <;> cases hx <;> cases hy <;> simp [eqP] at hr <;> first
          | (obtain ⟨rfl, rfl⟩ := hr; simp [binOp, Op.intCmp]; done)
          | (subst_vars; simp [binOp, Op.stringOp, toList_data]; done)
          | (obtain ⟨rfl, hr⟩ := hr; rw [← cmpA_eq (by assumption) (by assumption) hr]; simp [binOp, Op.intCmp, bne]; done)
          | (obtain ⟨rfl, rfl⟩ := hr; cases hx0.ssym_inj hy0; simp [binOp, Op.stringOp, toList_data]; done)
          | (simp only [binOp, Op.equal, Op.maxDepth]; rw [Sem.run_bind, show (10000 : Nat) = 9999 + 1 from rfl, heq]; simp)
      | true =>
        simp only [if_true]
        cases e <;> cases hx <;> cases hy <;> simp [eqP] at hr <;> first
          | (obtain ⟨rfl, rfl⟩ := hr; simp [binOp, Op.intCmp, bne]; done)
          | (subst_vars; simp [binOp, Op.stringOp, toList_data]; done)
          | (obtain ⟨rfl, hr⟩ := hr; rw [← cmpA_eq (by assumption) (by assumption) hr]; simp [binOp, Op.intCmp, bne]; done)
          | (obtain ⟨rfl, rfl⟩ := hr; cases hx0.ssym_inj hy0; simp [binOp, Op.stringOp, toList_data]; done)
          | (simp only [binOp, Op.equal, Op.maxDepth]; rw [Sem.run_bind, show (10000 : Nat) = 9999 + 1 from rfl, heq]; simp)
    exact ⟨_, hrun, .p (.bool _)⟩
  · -- with nil
    rename_i k neg
    simp only [Option.map_eq_some_iff] at h
    obtain ⟨r, hr, rfl⟩ := h
    obtain ⟨hop, ⟨d, hd, hk⟩, hn⟩ := cBin_nil hb
    have heq := eqNil_rep (P := P) hr hx hy hd hk w' 9999
    rw [guard _ (eqGuard_ok (fun xs _ h1 _ => (heq.2.1 xs h1).elim) (fun _ _ => hn) w')]
    have hrun : (binOp op t cx cy).run P w' = .ok (.bool (r != neg)) w' := by
      rw [heq.2.2 op neg hop, show (10000 : Nat) = 9999 + 1 from rfl, heq.1]
      rfl
    exact ⟨_, hrun, .p (.bool _)⟩
  · cases h

end Go.Ab
