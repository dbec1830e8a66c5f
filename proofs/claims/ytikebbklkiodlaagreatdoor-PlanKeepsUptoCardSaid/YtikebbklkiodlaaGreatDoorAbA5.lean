/- A5 -/
import Derived.Test.YtikebbklkiodlaaGreatDoorAbA1
import Derived.Laws.Bits64
import Derived.Laws.StructEq
set_option maxRecDepth 1000000
set_option linter.all false
namespace Go.Ab
variable [Q4]
variable {S S' : Nat -> Nat -> Prop} {w w' : World} {μ μ' : Nat -> Nat -> Option (Nat × Nat)} {P : Program} {G : Bx}
theorem Kr {t n : Nat} (h : wJ8 P t = some n) (w : World) : (sizeOf t).run P w = .ok n w := by
 simp only [wJ8, Option.map_eq_some_iff] at h
 obtain ⟨i, hi, rfl⟩ := h
 simp [sizeOf, typeInfo, hi]
theorem z8 {t : Nat} {b : Bool} (h : yv P t = some b) (w : World) : (isAgg t).run P w = .ok b w := by
 unfold yv at h
 cases hu : P.underlying t with
 | none => rw [hu] at h; cases h
 | some d => rw [hu] at h; cases d <;> (obtain rfl := Option.some.inj h; simp [isAgg, run_underlying hu])
theorem zy {op : BinOp} {k : IntKind} {a b : Int} {r : PV} (h : Rl op k a b = some r) (w : World) (t : Nat) :
   ∃ c, (binOp op t (.int k a) (.int k b)).run P w = .ok c w /\ ∀ S w', RepP S w' r c := by
 cases op <;> simp only [Rl] at h <;> first
   | (obtain rfl := Option.some.inj h; refine ⟨_, ?_, fun _ _ => by constructor⟩; simp [binOp, Op.intArith, Op.intBits, Op.intCmp])
   | (split at h
      · cases h
      · rename_i hb
        obtain rfl := Option.some.inj h
        refine ⟨_, ?_, fun _ _ => by constructor⟩; simp [binOp, Op.intDiv, hb])
   | cases h
theorem jw {op : BinOp} {k k' : IntKind} {a b : Int} {r : PV} (h : Xj op k a b = some r) (w : World) (t : Nat) :
   ∃ c, (binOp op t (.int k a) (.int k' b)).run P w = .ok c w /\ ∀ S w', RepP S w' r c := by
 unfold Xj at h
 split at h
 · cases h
 · rename_i hb
   cases op <;> simp only at h <;> first
     | (obtain rfl := Option.some.inj h; refine ⟨_, ?_, fun _ _ => by constructor⟩; simp [binOp, Op.shift, hb])
     | cases h
theorem Qm0 {op : BinOp} {a b : ByteArray} {r : PV} (h : Y9 op a.data.toList b.data.toList = some r) (w : World) (t : Nat) :
   ∃ c, (binOp op t (.string a) (.string b)).run P w = .ok c w /\ ∀ S w', RepP S w' r c := by
 have hsz : ∀ x : ByteArray, x.size = x.data.toList.length := fun x => rfl
 cases op <;> simp only [Y9] at h <;> first
   | (obtain rfl := Option.some.inj h; refine ⟨_, ?_, fun _ _ => by constructor⟩; simp [binOp, Op.stringOp, I4])
   | (split at h
      · rename_i hl
        obtain rfl := Option.some.inj h
        have hl' : ¬ (((a.size + b.size : Nat) : Int) > IntKind.i64.max) := by
          rw [hsz, hsz]; unfold LIM at hl; simp only [IntKind.max_i64]; omega
        refine ⟨.string (a ++ b), ?_, fun _ _ => .str (by simp)⟩
        simp only [binOp, Op.stringOp]
        rw [if_neg hl']
        rfl
      · cases h)
   | cases h
theorem zi {l : List Value} (h : ∀ c ∈ l, one c = true) (n m : Nat) : ∀ c ∈ (l.drop n).take m, one c = true :=
 fun c hc => h c (List.mem_of_mem_drop (List.mem_of_mem_take hc))
theorem zg {t n off : Nat} {ag : Bool} {xs : List PV} {cx : Array Value} {v : PV} (ha : yv P t = some ag) (hn : wJ8 P t = some n) (hp : yz ag n xs off = some v)
   (hx : RepPL S w xs cx.toList) (h1 : ∀ c ∈ cx.toList, one c = true) (w' : World) : ∃ c, (part t cx off).run P w' = .ok c w' /\ RepP S w v c /\ (ag = false -> one c = true) := by
 unfold yz at hp
 cases ag with
 | true =>
   simp only [if_true] at hp
   split at hp
   · obtain rfl := Option.some.inj hp
     refine ⟨.agg (cx.extract off (off + n)), ?_, ?_, by simp⟩
     · simp [part, z8 ha, Kr hn]
     · have e : (cx.extract off (off + n)).toList = (cx.toList.drop off).take n := by simp
       refine .agg (by rw [e]; exact (hx.drop off).take n) ?_
       rw [e]
       exact zi h1 _ _
   · cases hp
 | false =>
   simp only [Bool.false_eq_true, if_false] at hp
   obtain ⟨c, hc, hr⟩ := hx.get hp
   refine ⟨c, ?_, hr, fun _ => h1 c (List.mem_of_getElem? hc)⟩
   have hc' : cx[off]? = some c := by simpa using hc
   simp [part, z8 ha, hc']
theorem Qlg {s s' : ByteArray} {l : List UInt8} (h : s.data.toList = l) (h' : s'.data.toList = l) : s = s' := by
 obtain ⟨d⟩ := s
 obtain ⟨d'⟩ := s'
 have : d = d' := Array.toList_inj.1 (h.trans h'.symm)
 rw [this]
theorem Qf5 : ∀ {out : List AV} {ps : List PV} {cs : List Value}, Qpy out = some ps -> RepL S w μ out cs -> RepPL S w ps cs
 | [], ps, cs, h, hr => by
   simp only [Qpy, Option.some.injEq] at h
   subst h
   cases hr
   exact .nil
 | v :: r, ps, cs, h, hr => by
   simp only [Qpy] at h
   split at h
   · rename_i p qs hp hq
     obtain rfl := Option.some.inj h
     cases hr with
     | cons h1 h2 =>
       refine .cons ?_ (Qf5 hq h2)
       cases v <;> simp only [pv1, Option.some.injEq] at hp <;> first | (cases hp; done) | subst hp
       · exact h1.pv
       · cases h1; exact .vsl0 _ _
       · cases h1; exact .vsl0 _ _
   · cases h
theorem RepP.ssym_inj {t : Nat} {c c' : Value} (h : RepP S w (.ssym t) c) (h' : RepP S w (.ssym t) c') : c = c' := by
 cases h with
 | ssym h1 e1 => cases h' with
   | ssym h2 e2 =>
     obtain rfl := Option.some.inj (h1.symm.trans h2)
     rw [Qlg e1 e2]
theorem Qm6 {i j : Nat} {k : IntKind} {n m : Int} {c : Ordering} (hi : Q4.int i k = some n) (hj : Q4.int j k = some m) (h : Qic i j = some c) : c = if n < m then .lt else if n = m then .eq else .gt := by
 unfold Qic at h
 split at h
 · rename_i hij
   subst hij
   obtain rfl := Option.some.inj h
   obtain rfl := Option.some.inj (hi.symm.trans hj)
   simp
 · exact (Q4.ok i j k n m c hi hj h).trans rfl
theorem Qpt {k : IntKind} {n m : Int} {c : Ordering} {op : BinOp} {r : Bool} (hc : c = if n < m then .lt else if n = m then .eq else .gt) (h : wo op c = some r) : Rl op k n m = some (.bool r) := by
 rcases Int.lt_trichotomy n m with hn | hn | hn
 · rw [if_pos hn] at hc
   subst hc
   have g1 : n <= m := by omega
   have g2 : ¬ m < n := by omega
   have g3 : ¬ m <= n := by omega
   have g4 : ¬ n = m := by omega
   cases op <;> first | (cases h; done) | (simp [wo] at h; subst h; simp [Rl, hn, g1, g2, g3, g4] <;> (rw [bne, beq_eq_false_iff_ne.2 g4]; rfl))
 · rw [if_neg (by omega), if_pos hn] at hc
   subst hc hn
   cases op <;> first | (cases h; done) | (simp [wo] at h; subst h; simp [Rl])
 · rw [if_neg (by omega), if_neg (by omega)] at hc
   subst hc
   have g1 : ¬ n <= m := by omega
   have g2 : ¬ n < m := by omega
   have g3 : m <= n := by omega
   have g4 : ¬ n = m := by omega
   cases op <;> first | (cases h; done) | (simp [wo] at h; subst h; simp [Rl, hn, g1, g2, g3, g4] <;> (rw [bne, beq_eq_false_iff_ne.2 g4]; rfl))
theorem Qpa {i j : Nat} {k : IntKind} {n m : Int} {op : BinOp} {r : Bool} (hi : Q4.int i k = some n) (hj : Q4.int j k = some m) (h : cmpA op i j = some r) : Rl op k n m = some (.bool r) := by
 unfold cmpA at h
 split at h
 · rename_i c hc
   have hc := Qm6 hi hj hc
   rcases Int.lt_trichotomy n m with hn | hn | hn
   · rw [if_pos hn] at hc
     subst hc
     have g1 : n <= m := by omega
     have g2 : ¬ m < n := by omega
     have g3 : ¬ m <= n := by omega
     have g4 : ¬ n = m := by omega
     cases op <;> first | (cases h; done) | (simp [wo] at h; subst h; simp [Rl, hn, g1, g2, g3, g4] <;> (rw [bne, beq_eq_false_iff_ne.2 g4]; rfl))
   · rw [if_neg (by omega), if_pos hn] at hc
     subst hc hn
     cases op <;> first | (cases h; done) | (simp [wo] at h; subst h; simp [Rl])
   · rw [if_neg (by omega), if_neg (by omega)] at hc
     subst hc
     have g1 : ¬ n <= m := by omega
     have g2 : ¬ n < m := by omega
     have g3 : m <= n := by omega
     have g4 : ¬ n = m := by omega
     cases op <;> first | (cases h; done) | (simp [wo] at h; subst h; simp [Rl, hn, g1, g2, g3, g4] <;> (rw [bne, beq_eq_false_iff_ne.2 g4]; rfl))
 · cases h
theorem Qiu {i j : Nat} {k : IntKind} {n m : Int} {r : Bool} (hi : Q4.int i k = some n) (hj : Q4.int j k = some m) (h : cmpA .eql i j = some r) : (n == m) = r := by
 have := Qpa hi hj h
 simpa [Rl] using this
mutual
theorem Qil : ∀ (d t : Nat) (e : EQ) (x y : PV) (r : Bool) (cx cy : Value) (w' : World) (D : Nat), cEQ P d t = some e -> eqP e x y = some r -> RepP S w x cx -> RepP S w y cy -> d <= D ->
   (Op.equalIn D t cx cy).run P w' = .ok r w'
 | 0, _, _, _, _, _, _, _, _, _, h, _, _, _, _ => by simp [cEQ] at h
 | d + 1, t, e, x, y, r, cx, cy, w', D, hc, he, hx, hy, hD => by
   obtain ⟨D, rfl⟩ : ∃ D', D = D' + 1 := ⟨D - 1, by omega⟩
   simp only [cEQ] at hc
   split at hc
   · rename_i hu
     obtain rfl := Option.some.inj hc
     cases hx <;> cases hy <;> simp [eqP] at he
     subst he
     simp [Op.equalIn, run_underlying hu]
   · rename_i k hu
     obtain rfl := Option.some.inj hc
     cases hx <;> cases hy <;> simp [eqP] at he
     · obtain ⟨rfl, rfl⟩ := he
       simp [Op.equalIn, run_underlying hu]
     · obtain ⟨rfl, he⟩ := he
       rw [<- Qiu (by assumption) (by assumption) he]
       simp [Op.equalIn, run_underlying hu]
   · rename_i hu
     obtain rfl := Option.some.inj hc
     cases hx <;> cases hy <;> simp [eqP] at he
     · subst_vars
       simp [Op.equalIn, run_underlying hu, beq_toListBytes, I4]
     · rename_i h1 e1 _ _ _ h2 e2
       obtain ⟨rfl, rfl⟩ := he
       obtain rfl := Option.some.inj (h1.symm.trans h2)
       obtain rfl := Qlg e1 e2
       simp [Op.equalIn, run_underlying hu, beq_toListBytes, I4]
   · rename_i fs hu
     split at hc
     · cases hc
     · rename_i hst
       cases hes : cEQs P d fs.toList with
       | none => rw [hes] at hc; cases hc
       | some es =>
         rw [hes] at hc
         obtain rfl := Option.some.inj hc
         cases hx <;> cases hy <;> simp only [eqP] at he <;> try (cases he; done)
         rename_i xs cxs hxs h1 ys cys hys h2
         have hf : P.fieldsOf t = fs := by simp [Program.fieldsOf, hu]
         rw [run_equalIn_struct w' D t cxs cys (by rw [hf]; exact hu) (by simpa using hst), hf]
         exact Qlw d fs.toList es xs ys r cxs cys w' D hes he hxs hys h1 h2 (by omega)
   · cases hc
theorem Qlw : ∀ (d : Nat) (fs : List Field) (es : List (Nat × Bool × Nat × EQ)) (xs ys : List PV) (r : Bool) (cx cy : Array Value) (w' : World) (D : Nat), cEQs P d fs = some es -> eqPs es xs ys = some r ->
   RepPL S w xs cx.toList -> RepPL S w ys cy.toList -> (∀ c ∈ cx.toList, one c = true) -> (∀ c ∈ cy.toList, one c = true) -> d <= D -> (Op.eqFields D cx cy fs).run P w' = .ok r w'
 | d, [], es, xs, ys, r, cx, cy, w', D, hc, he, hx, hy, h1, h2, hD => by
   obtain rfl : es = [] := by cases d <;> simpa [cEQs] using hc.symm
   simp [eqPs] at he
   subst he
   simp [Op.eqFields]
 | 0, f :: fs, es, xs, ys, r, cx, cy, w', D, hc, he, hx, hy, h1, h2, hD => by simp [cEQs] at hc
 | d + 1, f :: fs, es, xs, ys, r, cx, cy, w', D, hc, he, hx, hy, h1, h2, hD => by
   simp only [cEQs] at hc
   split at hc
   · cases hc
   · rename_i hne
     split at hc
     · rename_i s a e l hs ha hee hl
       obtain rfl := Option.some.inj hc
       simp only [eqPs] at he
       split at he
       · rename_i x y hx1 hy1
         obtain ⟨c1, p1, q1, _⟩ := zg (P := P) ha hs hx1 hx h1 w'
         obtain ⟨c2, p2, q2, _⟩ := zg (P := P) ha hs hy1 hy h2 w'
         split at he
         · rename_i hr
           have p3 := Qil d f.type e x y true c1 c2 w' D hee hr q1 q2 (by omega)
           have p4 := Qlw d fs l xs ys r cx cy w' D hl he hx hy h1 h2 (by omega)
           simp [Op.eqFields, hne, p1, p2, p3, p4]
         · rename_i hr
           obtain rfl := Option.some.inj he
           have p3 := Qil d f.type e x y false c1 c2 w' D hee hr q1 q2 (by omega)
           simp [Op.eqFields, hne, p1, p2, p3]
         · cases he
       · cases he
     · cases hc
end
def Qdz : NilK -> TypeDesc -> Bool
 | .iface, .interface _ => true
 | .ptr, .pointer _ => true
 | .fn, .func _ _ _ => true
 | .slice, .slice _ => true
 | .map, .map _ _ => true
 | _, _ => false
def nilV : NilK -> Value
 | .iface => .nilIface
 | .ptr => .pointer none
 | .fn => .nilFunc
 | .slice => .slice none 0 0
 | .map => .map none
def Qxa : NilK -> Value -> Prop
 | .iface, v => ∃ t x, v = .iface t x
 | .ptr, v => ∃ a, v = .pointer (some a)
 | .fn, v => ∃ f a b, v = .func f a b
 | .slice, v => ∃ a n c, v = .slice (some a) n c
 | .map, _ => False
theorem Xx {k : NilK} {x : AV} {r : Bool} {cx : Value} (h : Qjr k x = some r) (hx : Rep S w μ x cx) : if r then cx = nilV k else Qxa k cx := by
 unfold Qjr at h
 split at h
 case h_14 => cases h
 all_goals
   obtain rfl := Option.some.inj h
   cases hx <;> (try (rename_i hx; cases hx)) <;> first | rfl | exact ⟨_, rfl⟩ | exact ⟨_, _, rfl⟩ | exact ⟨_, _, _, rfl⟩
theorem Qoo {k : NilK} {x y : AV} {r : Bool} {cx cy : Value} {t : Nat} {d : TypeDesc} (h : Qzs k x y = some r) (hx : Rep S w μ x cx) (hy : Rep S w μ y cy)
   (ht : P.underlying t = some d) (hk : Qdz k d = true) (w' : World) (D : Nat) :
   (Op.equalIn (D + 1) t cx cy).run P w' = .ok r w' /\ (∀ cs, cx ≠ .agg cs) /\
     (∀ op neg, op = (if neg then BinOp.neq else BinOp.eql) -> (binOp op t cx cy).run P w' = ((Op.equalIn 10000 t cx cy).run P w').andThen fun r w => .ok (.bool (r != neg)) w) := by
 unfold Qzs at h
 split at h
 · rename_i b h1 h2
   obtain rfl := Option.some.inj h
   have e1 := Xx h1 hx
   have e2 := Xx h2 hy
   simp only [if_true] at e1
   subst e1
   cases k <;> cases d <;> simp [Qdz] at hk <;> cases b <;> simp only [Bool.false_eq_true, if_false, if_true, Qxa] at e2
   all_goals first
     | (obtain ⟨a, b, c, rfl⟩ := e2; refine ⟨by simp [Op.equalIn, run_underlying ht, nilV], by simp [nilV], ?_⟩; intro op neg ho; subst ho; cases neg <;> simp [binOp, nilV, Op.equal, Op.maxDepth])
     | (obtain ⟨a, b, rfl⟩ := e2; refine ⟨by simp [Op.equalIn, run_underlying ht, nilV], by simp [nilV], ?_⟩; intro op neg ho; subst ho; cases neg <;> simp [binOp, nilV, Op.equal, Op.maxDepth])
     | (obtain ⟨a, rfl⟩ := e2; refine ⟨by simp [Op.equalIn, run_underlying ht, nilV], by simp [nilV], ?_⟩; intro op neg ho; subst ho; cases neg <;> simp [binOp, nilV, Op.equal, Op.maxDepth])
     | (subst e2; refine ⟨by simp [Op.equalIn, run_underlying ht, nilV], by simp [nilV], ?_⟩; intro op neg ho; subst ho; cases neg <;> simp [binOp, nilV, Op.equal, Op.maxDepth])
 · rename_i h1 h2
   obtain rfl := Option.some.inj h
   have e1 := Xx h1 hx
   have e2 := Xx h2 hy
   simp only [if_true] at e2
   subst e2
   cases k <;> cases d <;> simp [Qdz] at hk <;> simp only [Bool.false_eq_true, if_false, Qxa] at e1
   all_goals first
     | (obtain ⟨a, b, c, rfl⟩ := e1; refine ⟨by simp [Op.equalIn, run_underlying ht, nilV], by simp, ?_⟩; intro op neg ho; subst ho; cases neg <;> simp [binOp, nilV, Op.equal, Op.maxDepth])
     | (obtain ⟨a, b, rfl⟩ := e1; refine ⟨by simp [Op.equalIn, run_underlying ht, nilV], by simp [nilV], ?_⟩; intro op neg ho; subst ho; cases neg <;> simp [binOp, nilV, Op.equal, Op.maxDepth])
     | (obtain ⟨a, rfl⟩ := e1; refine ⟨by simp [Op.equalIn, run_underlying ht, nilV], by simp [nilV], ?_⟩; intro op neg ho; subst ho; cases neg <;> simp [binOp, nilV, Op.equal, Op.maxDepth])
 · cases h
theorem Qat {x : Operand} (h : O6 x = true) : ∃ v, x = .const v := by
 unfold O6 at h
 split at h <;> first | exact ⟨_, rfl⟩ | cases h
theorem Rz {op : BinOp} {t : Nat} {ox oy : Operand} {cx cy : Value} (h1 : ∀ xs ys, cx = .agg xs -> cy = .agg ys -> P.eqGuardType P.depth t = false)
   (h2 : cx = .nilIface -> cy = .nilIface -> (O6 ox || O6 oy) = true) (w' : World) : (eqGuard op t ox oy cx cy).run P w' = .ok () w' := by
 unfold eqGuard
 cases op <;> first
   | rfl
   | (cases cx <;> first
       | rfl
       | (cases cy <;> first
           | rfl
           | (simp [run_program, h1 _ _ rfl rfl]; done)
           | (rcases Bool.or_eq_true_iff.1 (h2 rfl rfl) with h | h
              · obtain ⟨v, rfl⟩ := Qat h
                rfl
              · obtain ⟨v, rfl⟩ := Qat h
                simp)))
theorem Xk {op op' : BinOp} {t : Nat} {ox oy : Operand} (hb : cBin P op t ox oy = some (.plain op')) : op' = op := by
 unfold cBin at hb
 split at hb
 · injection hb with hb; injection hb with hb; exact hb.symm
 · injection hb with hb; injection hb with hb; exact hb.symm
 · split at hb <;> first | (injection hb with hb; cases hb; done) | cases hb
 · split at hb
   · cases hb
   · split at hb <;> simp at hb
 all_goals first
   | cases hb; done
   | (unfold cNil at hb; split at hb <;> (try (split at hb)) <;> first | (injection hb with hb; cases hb; done) | cases hb)
theorem Qyd {op : BinOp} {t : Nat} {ox oy : Operand} {neg : Bool} {e : EQ} (hb : cBin P op t ox oy = some (.eq neg e)) :
   op = (if neg then .neq else .eql) /\ cEQ P 40 t = some e /\ ((∃ fs, P.underlying t = some (.struct fs)) -> P.eqGuardType P.depth t = false) := by
 unfold cBin at hb
 split at hb
 · injection hb with hb; cases hb
 · injection hb with hb; cases hb
 · rename_i hu
   split at hb <;> first
     | (injection hb with hb; injection hb with h1 h2; subst h1 h2; exact ⟨rfl, by simp [cEQ, hu], by rintro ⟨fs, hf⟩; rw [hu] at hf; cases hf⟩)
     | cases hb
 · rename_i fs hu
   split at hb
   · cases hb
   · rename_i hg
     split at hb <;> first
       | (simp only [Option.map_eq_some_iff] at hb
          obtain ⟨e', he, hb⟩ := hb
          injection hb with h1 h2
          subst h1 h2
          exact ⟨rfl, he, fun _ => by simpa using hg⟩)
       | cases hb
 all_goals first
   | cases hb; done
   | (unfold cNil at hb; split at hb <;> (try (split at hb)) <;> first | (injection hb with hb; cases hb; done) | cases hb)
theorem Qs0 {k k' : NilK} {op : BinOp} {ox oy : Operand} {neg : Bool} (hb : cNil k op ox oy = some (.nil k' neg)) :
   k' = k /\ op = (if neg then .neq else .eql) /\ (O6 ox || O6 oy) = true := by
 unfold cNil at hb
 split at hb
 · rename_i h
   split at hb <;> first
     | (injection hb with hb; injection hb with h1 h2; subst h1 h2; exact ⟨rfl, rfl, h⟩)
     | cases hb
 · cases hb
theorem Qsz {op : BinOp} {t : Nat} {ox oy : Operand} {neg : Bool} {k : NilK} (hb : cBin P op t ox oy = some (.nil k neg)) :
   op = (if neg then .neq else .eql) /\ (∃ d, P.underlying t = some d /\ Qdz k d = true) /\ (O6 ox || O6 oy) = true := by
 unfold cBin at hb
 split at hb
 · injection hb with hb; cases hb
 · injection hb with hb; cases hb
 · split at hb <;> first | (injection hb with hb; cases hb; done) | cases hb
 · split at hb
   · cases hb
   · split at hb <;> simp at hb
 all_goals first
   | cases hb; done
   | (rename_i hu
      obtain ⟨rfl, h2, h3⟩ := Qs0 hb
      exact ⟨h2, ⟨_, hu, rfl⟩, h3⟩)
theorem Qtc {op : BinOp} {t : Nat} {ox oy : Operand} {b : Bin} {x y v : AV} {cx cy : Value} (hb : cBin P op t ox oy = some b) (h : binA b x y = some v)
   (hx : Rep S w μ x cx) (hy : Rep S w μ y cy) (w' : World) :
   ∃ c, ((do eqGuard op t ox oy cx cy; binOp op t cx cy) : Sem Value).run P w' = .ok c w' /\ Rep S w μ v c := by
 have guard : ∀ {α : Type} (s : Sem α), (eqGuard op t ox oy cx cy).run P w' = .ok () w' -> ((do eqGuard op t ox oy cx cy; s) : Sem α).run P w' = s.run P w' := by
   intro α s h1
   simp only [Sem.run_bind]
   rw [h1]
   rfl
 unfold binA at h
 split at h
 · -- whole numbers
   rename_i op' k a k' b'
   cases hx with | p hx => cases hx with | int => cases hy with | p hy => cases hy with | int =>
   obtain rfl := Xk hb
   rw [guard _ (Rz (by simp) (by simp) w')]
   split at h
   · simp only [Option.map_eq_some_iff] at h
     obtain ⟨r, hr, rfl⟩ := h
     obtain ⟨c, hc, hrep⟩ := jw (P := P) (k' := k') hr w' t
     exact ⟨c, hc, .p (hrep _ _)⟩
   · simp only [Option.map_eq_some_iff] at h
     obtain ⟨r, hr, rfl⟩ := h
     obtain ⟨c, hc, hrep⟩ := jw (P := P) (k' := k') hr w' t
     exact ⟨c, hc, .p (hrep _ _)⟩
   · split at h
     · rename_i hk
       subst hk
       simp only [Option.map_eq_some_iff] at h
       obtain ⟨r, hr, rfl⟩ := h
       obtain ⟨c, hc, hrep⟩ := zy (P := P) hr w' t
       exact ⟨c, hc, .p (hrep _ _)⟩
     · cases h
 · -- strings
   cases hx with | p hx => cases hx with | str hx => cases hy with | p hy => cases hy with | str hy =>
   subst hx hy
   obtain rfl := Xk hb
   rw [guard _ (Rz (by simp) (by simp) w')]
   simp only [Option.map_eq_some_iff] at h
   obtain ⟨r, hr, rfl⟩ := h
   obtain ⟨c, hc, hrep⟩ := Qm0 (P := P) hr w' t
   exact ⟨c, hc, .p (hrep _ _)⟩
 · -- numbers with marks
   rename_i op' i k j k'
   cases hx with | p hx => cases hx with | isym hi => cases hy with | p hy => cases hy with | isym hj =>
   obtain rfl := Xk hb
   rw [guard _ (Rz (by simp) (by simp) w')]
   split at h
   · rename_i hk
     subst hk
     simp only [Option.map_eq_some_iff] at h
     obtain ⟨r, hr, rfl⟩ := h
     obtain ⟨c, hc, hrep⟩ := zy (P := P) (Qpa hi hj hr) w' t
     exact ⟨c, hc, .p (hrep _ _)⟩
   · cases h
 · -- a number with a mark, and one that is written
   cases hx with | p hx => cases hx with | isym hi => cases hy with | p hy => cases hy with | int =>
   obtain rfl := Xk hb
   rw [guard _ (Rz (by simp) (by simp) w')]
   split at h
   · rename_i hk
     subst hk
     split at h
     · rename_i o ho
       simp only [Option.map_eq_some_iff] at h
       obtain ⟨r, hr, rfl⟩ := h
       obtain ⟨c, hc, hrep⟩ := zy (P := P) (Qpt ((Q4.litOk _ _ _ _ _ hi ho).trans rfl) hr) w' t
       exact ⟨c, hc, .p (hrep _ _)⟩
     · cases h
   · cases h
 · -- by a plan
   rename_i neg e x y
   simp only [Option.map_eq_some_iff] at h
   obtain ⟨r, hr, rfl⟩ := h
   obtain ⟨hop, he, hg⟩ := Qyd hb
   cases hx with | p hx => cases hy with | p hy =>
   have heq := Qil (P := P) 40 t e x y r cx cy w' (9999 + 1) he hr hx hy (by omega)
   have hu : ∀ xs ys, cx = .agg xs -> cy = .agg ys -> P.eqGuardType P.depth t = false := by
     intro xs ys hcx hcy
     refine hg ?_
     subst hcx hcy
     cases hx <;> cases hy
     unfold cEQ at he
     split at he
     · simp at he; subst he; simp [eqP] at hr
     · simp at he; subst he; simp [eqP] at hr
     · simp at he; subst he; simp [eqP] at hr
     · rename_i fs hu; exact ⟨fs, hu⟩
     · cases he
   rw [guard _ (Rz hu (by intro h1 h2; subst h1 h2; cases hx; cases hy; cases e <;> simp [eqP] at hr) w')]
   have hrun : (binOp op t cx cy).run P w' = .ok (.bool (r != neg)) w' := by
     subst hop
     have hx0 := hx
     have hy0 := hy
     cases neg with
     | false =>
       simp only [Bool.false_eq_true, if_false]
       cases e <;> cases hx <;> cases hy <;> simp [eqP] at hr <;> first
         | (obtain ⟨rfl, rfl⟩ := hr; simp [binOp, Op.intCmp]; done)
         | (subst_vars; simp [binOp, Op.stringOp, I4]; done)
         | (obtain ⟨rfl, hr⟩ := hr; rw [<- Qiu (by assumption) (by assumption) hr]; simp [binOp, Op.intCmp, bne]; done)
         | (obtain ⟨rfl, rfl⟩ := hr; cases hx0.ssym_inj hy0; simp [binOp, Op.stringOp, I4]; done)
         | (simp only [binOp, Op.equal, Op.maxDepth]; rw [Sem.run_bind, show (10000 : Nat) = 9999 + 1 from rfl, heq]; simp)
     | true =>
       simp only [if_true]
       cases e <;> cases hx <;> cases hy <;> simp [eqP] at hr <;> first
         | (obtain ⟨rfl, rfl⟩ := hr; simp [binOp, Op.intCmp, bne]; done)
         | (subst_vars; simp [binOp, Op.stringOp, I4]; done)
         | (obtain ⟨rfl, hr⟩ := hr; rw [<- Qiu (by assumption) (by assumption) hr]; simp [binOp, Op.intCmp, bne]; done)
         | (obtain ⟨rfl, rfl⟩ := hr; cases hx0.ssym_inj hy0; simp [binOp, Op.stringOp, I4]; done)
         | (simp only [binOp, Op.equal, Op.maxDepth]; rw [Sem.run_bind, show (10000 : Nat) = 9999 + 1 from rfl, heq]; simp)
   exact ⟨_, hrun, .p (.bool _)⟩
 · -- with nil
   rename_i k neg
   simp only [Option.map_eq_some_iff] at h
   obtain ⟨r, hr, rfl⟩ := h
   obtain ⟨hop, ⟨d, hd, hk⟩, hn⟩ := Qsz hb
   have heq := Qoo (P := P) hr hx hy hd hk w' 9999
   rw [guard _ (Rz (fun xs _ h1 _ => (heq.2.1 xs h1).elim) (fun _ _ => hn) w')]
   have hrun : (binOp op t cx cy).run P w' = .ok (.bool (r != neg)) w' := by
     rw [heq.2.2 op neg hop, show (10000 : Nat) = 9999 + 1 from rfl, heq.1]
     rfl
   exact ⟨_, hrun, .p (.bool _)⟩
 · cases h
end Go.Ab
namespace Go.Ab
variable [Q4]
variable {S S' : Nat -> Nat -> Prop} {w w' : World} {μ μ' : Nat -> Nat -> Option (Nat × Nat)} {P : Program} {G : Bx}
theorem Qzk {u : UnOp} {x v : AV} {cx : Value} (h : unA u x = some v) (hx : Rep S w μ x cx) (w' : World) : ∃ c, (Op.unary u cx).run P w' = .ok c w' /\ Rep S w μ v c := by
 unfold unA at h
 split at h
 · obtain rfl := Option.some.inj h
   obtain rfl := hx.int
   exact ⟨.int _ _, by simp [Op.unary, Op.intArith], .p (.int _ _)⟩
 · simp only [Rl, Option.map_some] at h
   obtain rfl := Option.some.inj h
   obtain rfl := hx.int
   exact ⟨.int _ _, by simp [Op.unary, Op.intBits], .p (.int _ _)⟩
 · obtain rfl := Option.some.inj h
   obtain rfl := hx.bool
   exact ⟨.bool _, by simp [Op.unary], .p (.bool _)⟩
 · cases h
theorem Qdd {m d r : Nat} {x : Option AV} {cx : Option Value} (h : Th m d x = some r) (hx : (x = none /\ cx = none) ∨ ∃ u c, x = some u /\ cx = some c /\ Rep S w μ u c) :
   (cx = none /\ r = d) ∨ (r <= m /\ ∃ k, cx = some (.int k r)) := by
 rcases hx with ⟨rfl, rfl⟩ | ⟨u, c, rfl, rfl, hu⟩
 · exact .inl ⟨rfl, (Option.some.inj h).symm⟩
 · unfold Th at h
   split at h
   · simp_all
   · rename_i k n heq
     obtain rfl := Option.some.inj heq
     obtain rfl := hu.int
     split at h
     · rename_i hn
       obtain rfl := Option.some.inj h
       exact .inr ⟨by omega, k, by rw [Int.toNat_of_nonneg hn.1]⟩
     · cases h
   · cases h
theorem R1 {len cap : Nat} {lo hi : Option AV} {clo chi : Option Value} {l h : Nat} (hb : Iz len lo hi = some (l, h))
   (hlo : (lo = none /\ clo = none) ∨ ∃ u c, lo = some u /\ clo = some c /\ Rep S w μ u c)
   (hhi : (hi = none /\ chi = none) ∨ ∃ u c, hi = some u /\ chi = some c /\ Rep S w μ u c) (hcap : len <= cap) (isSlice : Bool) (w' : World) :
   (Instr.sliceBounds isSlice len cap clo chi none).run P w' = .ok (l, h, cap) w' /\ l <= h /\ h <= len := by
 unfold Iz at hb
 split at hb
 · rename_i h' e1
   split at hb
   · rename_i l' e2
     simp only [Option.some.injEq, Prod.mk.injEq] at hb
     obtain ⟨rfl, rfl⟩ := hb
     rcases Qdd e1 hhi with ⟨rfl, rfl⟩ | ⟨h1, k, rfl⟩ <;> rcases Qdd e2 hlo with ⟨rfl, rfl⟩ | ⟨h2, k', rfl⟩
     · exact ⟨by simp [Instr.sliceBounds], by omega, by omega⟩
     · refine ⟨?_, by omega, by omega⟩
       simp [Instr.sliceBounds, Instr.sliceBound, asIntOf, h2]
     · refine ⟨?_, by omega, by omega⟩
       have : h' <= cap := by omega
       simp [Instr.sliceBounds, Instr.sliceBound, asIntOf, this]
     · refine ⟨?_, by omega, by omega⟩
       have : h' <= cap := by omega
       simp [Instr.sliceBounds, Instr.sliceBound, asIntOf, this, h2]
   · cases hb
 · cases hb
theorem M7 (b o n : Nat) : Addr.add ⟨b, o, none⟩ n = ⟨b, o + n, none⟩ := Addr.add_lit b o n
theorem Qm3 {x : List UInt8} {s : ByteArray} {lo hi : Option AV} {clo chi : Option Value} {v : AV} {t : Nat} (ht : P.underlying t = some .string) (hs : s.data.toList = x)
   (h : Ks 1 (.p (.str x)) lo hi = some v)
   (hlo : (lo = none /\ clo = none) ∨ ∃ u c, lo = some u /\ clo = some c /\ Rep S w μ u c)
   (hhi : (hi = none /\ chi = none) ∨ ∃ u c, hi = some u /\ chi = some c /\ Rep S w μ u c) (w' : World) :
   ∃ c, (Instr.sliceAt t (.string s) clo chi none).run P w' = .ok c w' /\ Rep S w μ v c := by
 simp only [Ks] at h
 split at h
 · rename_i l hh hb
   obtain rfl := Option.some.inj h
   subst hs
   obtain ⟨h1, h2, h3⟩ := R1 (P := P) (cap := s.size) hb hlo hhi (Nat.le_refl _) false w'
   have h1' : (Instr.sliceBounds false s.size s.size clo chi none).run P w' = .ok (l, hh, s.size) w' := h1
   refine ⟨.string (s.extract l hh), ?_, .p (.str (by simp))⟩
   simp only [Instr.sliceAt, Sem.run_bind, run_underlying ht, Result.andThen_ok, Instr.slice]
   simp [h1']
 · cases h
theorem Qhq {esz : Nat} {x v : AV} {cx : Value} {lo hi : Option AV} {clo chi : Option Value} {t e : Nat} (ht : P.underlying t = some (.slice e)) (he : wJ8 P e = some esz)
   (h : Ks esz x lo hi = some v) (hx : Rep S w μ x cx)
   (hlo : (lo = none /\ clo = none) ∨ ∃ u c, lo = some u /\ clo = some c /\ Rep S w μ u c)
   (hhi : (hi = none /\ chi = none) ∨ ∃ u c, hi = some u /\ chi = some c /\ Rep S w μ u c) (w' : World) (hns : ∀ s, x ≠ .p (.str s)) :
   ∃ c, (Instr.sliceAt t cx clo chi none).run P w' = .ok c w' /\ Rep S w μ v c := by
 have run : ∀ (a : Option Addr) (n cap l hh : Nat), (Instr.sliceBounds true n cap clo chi none).run P w' = .ok (l, hh, cap) w' ->
     (Instr.sliceAt t (.slice a n cap) clo chi none).run P w' = .ok (.slice (if cap = l then a else a.map (·.add (l * esz))) (hh - l) (cap - l)) w' := by
   intro a n cap l hh hb
   simp [Instr.sliceAt, run_underlying ht, Instr.slice, hb, Kr he]
 cases x with
 | p x =>
   cases x with
   | str s => exact absurd rfl (hns s)
   | vsl cells len =>
     simp only [Ks] at h
     obtain ⟨a, cap, rfl, hcap, hcs⟩ := hx.vslP
     split at h
     · rename_i l hh hb
       obtain ⟨h1, h2, h3⟩ := R1 (P := P) hb hlo hhi hcap true w'
       split at h
       · rename_i hlh
         obtain rfl := Option.some.inj h
         exact ⟨_, run _ _ _ _ _ h1, .p (by rw [show hh - l = 0 from by omega]; exact .vsl0 _ _)⟩
       · rename_i hlh
         split at h
         · rename_i hlen
           obtain rfl := Option.some.inj h
           rcases hcs with ⟨rfl, rfl⟩ | ⟨b, o, rfl, hcs⟩
           · omega
           · refine ⟨_, run _ _ _ _ _ h1, .p ?_⟩
             rw [if_neg (by omega)]
             simp only [Option.map_some, M7]
             exact .vsl (by omega) ((hcs.drop _).take _)
         · cases h
     · cases h
   | _ => simp [Ks] at h
 | nil0 =>
   simp only [Ks] at h
   split at h
   · rename_i r hb
     obtain rfl := Option.some.inj h
     cases hx
     obtain ⟨l, hh⟩ := r
     obtain ⟨h1, h2, h3⟩ := R1 (P := P) hb hlo hhi (Nat.le_refl 0) true w'
     refine ⟨_, run _ _ _ _ _ h1, ?_⟩
     obtain rfl : l = 0 := by omega
     obtain rfl : hh = 0 := by omega
     exact .nil0
   · cases h
 | e0 =>
   simp only [Ks] at h
   split at h
   · rename_i r hb
     obtain rfl := Option.some.inj h
     cases hx
     obtain ⟨l, hh⟩ := r
     obtain ⟨h1, h2, h3⟩ := R1 (P := P) hb hlo hhi (Nat.le_refl 0) true w'
     refine ⟨_, run _ _ _ _ _ h1, ?_⟩
     obtain rfl : l = 0 := by omega
     obtain rfl : hh = 0 := by omega
     exact .e0 _
   · cases h
 | sl id ver off len e' =>
   simp only [Ks] at h
   split at h
   · rename_i hee
     subst hee
     split at h
     · rename_i l hh hb
       cases hx with
       | sl hμ hl hcap =>
         rename_i b n cap
         obtain ⟨h1, h2, h3⟩ := R1 (P := P) hb hlo hhi hl true w'
         split at h
         · rename_i hlh
           obtain rfl := Option.some.inj h
           exact ⟨_, run _ _ _ _ _ h1, .p (by rw [show hh - l = 0 from by omega]; exact .vsl0 _ _)⟩
         · rename_i hlh
           obtain rfl := Option.some.inj h
           refine ⟨_, run _ _ _ _ _ h1, ?_⟩
           have hmul : (cap - l) * e' + l * e' = cap * e' := by rw [<- Nat.add_mul]; congr 1; omega
           by_cases hcl : cap = l
           · rw [if_pos hcl]
             obtain rfl : l = 0 := by omega
             subst hcl
             simp only [Nat.zero_mul, Nat.add_zero]
             exact .sl hμ (by omega) (by omega)
           · rw [if_neg hcl]
             simp only [Option.map_some, M7]
             exact .sl hμ (by omega) (by omega)
     · cases h
   · cases h
 | _ => simp [Ks] at h
theorem Qh3 {n esz id ver off l h : Nat} {v : AV} {cx : Value} {lo hi : Option AV} {clo chi : Option Value} {t e : Nat} (ht : P.underlying t = some (.array n e)) (he : wJ8 P e = some esz)
   (hb : Iz n lo hi = some (l, h)) (hv : v = if l = h then .p (.vsl [] 0) else .sl id ver (off + l * esz) (h - l) esz) (hx : Rep S w μ (.ptr id ver off) cx)
   (hroom : ∀ b m, μ id ver = some (b, m) -> off + n * esz <= m)
   (hlo : (lo = none /\ clo = none) ∨ ∃ u c, lo = some u /\ clo = some c /\ Rep S w μ u c)
   (hhi : (hi = none /\ chi = none) ∨ ∃ u c, hi = some u /\ chi = some c /\ Rep S w μ u c) (w' : World) :
   ∃ c, (Instr.sliceAt t cx clo chi none).run P w' = .ok c w' /\ Rep S w μ v c := by
 cases hx with
 | ptr hμ =>
   rename_i b m
   obtain ⟨h1, h2, h3⟩ := R1 (P := P) hb hlo hhi (Nat.le_refl n) false w'
   have hr := hroom b m hμ
   have hmul : (n - l) * esz + l * esz = n * esz := by rw [<- Nat.add_mul]; congr 1; omega
   have run : (Instr.sliceAt t (.pointer (some ⟨b, off, none⟩)) clo chi none).run P w' = .ok (.slice (some (if n = l then ⟨b, off, none⟩ else ⟨b, off + l * esz, none⟩)) (h - l) (n - l)) w' := by
     simp [Instr.sliceAt, run_underlying ht, Instr.sureAddr, h1, Kr he, M7]
   refine ⟨_, run, ?_⟩
   subst hv
   by_cases hlh : l = h
   · rw [if_pos hlh, show h - l = 0 from by omega]
     exact .p (.vsl0 _ _)
   · rw [if_neg hlh, if_neg (by omega)]
     exact .sl hμ (by omega) (by omega)
theorem Qsd {x : AV} {n : Nat} {cx : Value} (h : lenA x = some n) (hx : Rep S w μ x cx) (hns : ∀ s, x ≠ .p (.str s)) : ∃ a c, cx = .slice a n c := by
 unfold lenA at h
 split at h
 · exact absurd rfl (hns _)
 · obtain rfl := Option.some.inj h
   obtain ⟨a, cap, rfl, _⟩ := hx.vslP
   exact ⟨_, _, rfl⟩
 · obtain rfl := Option.some.inj h
   obtain ⟨b, n, cap, _, _, _, rfl⟩ := hx.slA
   exact ⟨_, _, rfl⟩
 · obtain rfl := Option.some.inj h
   cases hx
   exact ⟨_, _, rfl⟩
 · obtain rfl := Option.some.inj h
   cases hx
   exact ⟨_, _, rfl⟩
 · cases h
theorem Qsr {esz : Nat} {x i v : AV} {cx ci : Value} {t e : Nat} (ht : P.underlying t = some (.slice e)) (he : wJ8 P e = some esz)
   (h : idxA esz x i = some v) (hx : Rep S w μ x cx) (hi : Rep S w μ i ci) (w' : World) : ∃ c, (Instr.indexAt t cx ci).run P w' = .ok c w' /\ Rep S w μ v c := by
 have run : ∀ (a : Addr) (n cap : Nat) (k : IntKind) (i : Int), 0 <= i /\ i < n -> (Instr.indexAt t (.slice (some a) n cap) (.int k i)).run P w' = .ok (.pointer (some (a.add (i.toNat * esz)))) w' := by
   intro a n cap k i hi
   simp [Instr.indexAt, run_underlying ht, asIntOf, hi, Kr he]
 unfold idxA at h
 split at h
 · rename_i cells len k n
   split at h
   · rename_i hn
     obtain rfl := Option.some.inj h
     obtain rfl := hi.int
     obtain ⟨a, cap, rfl, hcap, ⟨rfl, rfl⟩ | ⟨b, o, rfl, hcs⟩⟩ := hx.vslP
     · omega
     · exact ⟨_, run _ _ _ _ _ hn, by rw [M7]; exact .p (.vptr (hcs.drop _))⟩
   · cases h
 · rename_i id ver off len e' k n
   split at h
   · rename_i hn
     obtain ⟨rfl, hn⟩ := hn
     obtain rfl := Option.some.inj h
     obtain rfl := hi.int
     obtain ⟨b, m, cap, hμ, hl, hc, rfl⟩ := hx.slA
     exact ⟨_, run _ _ _ _ _ hn, by rw [M7]; exact .ptr hμ⟩
   · cases h
 · cases h
theorem Qin {esz n : Nat} {x i v : AV} {cx ci : Value} {t e : Nat} (ht : P.underlying t = some (.array n e)) (he : wJ8 P e = some esz)
   (h : Qif n esz x i = some v) (hx : Rep S w μ x cx) (hi : Rep S w μ i ci) (w' : World) : ∃ c, (Instr.indexAt t cx ci).run P w' = .ok c w' /\ Rep S w μ v c := by
 have run : ∀ (a : Addr) (k : IntKind) (i : Int), 0 <= i /\ i < n -> (Instr.indexAt t (.pointer (some a)) (.int k i)).run P w' = .ok (.pointer (some (a.add (i.toNat * esz)))) w' := by
   intro a k i hi
   simp [Instr.indexAt, run_underlying ht, asIntOf, Instr.sureAddr, hi, Kr he]
 unfold Qif at h
 split at h
 · split at h
   · rename_i hn
     obtain rfl := Option.some.inj h
     obtain rfl := hi.int
     obtain ⟨b, o, rfl, hcs⟩ := hx.vptrP
     exact ⟨_, run _ _ _ hn, by rw [M7]; exact .p (.vptr (hcs.drop _))⟩
   · cases h
 · split at h
   · rename_i hn
     obtain rfl := Option.some.inj h
     obtain rfl := hi.int
     obtain ⟨b, m, hμ, rfl⟩ := hx.ptrA
     exact ⟨_, run _ _ _ hn, by rw [M7]; exact .ptr hμ⟩
   · cases h
 · cases h
theorem Qm8 {x i v : AV} {cx ci : Value} {t : Nat} (ht : P.underlying t = some .string) (h : Zt x i = some v) (hx : Rep S w μ x cx) (hi : Rep S w μ i ci) (w' : World) :
   ∃ c, (Instr.index t cx ci).run P w' = .ok c w' /\ Rep S w μ v c := by
 unfold Zt at h
 split at h
 · rename_i s k n
   split at h
   · rename_i hn
     simp only [Option.map_eq_some_iff] at h
     obtain ⟨b, hb, rfl⟩ := h
     obtain rfl := hi.int
     obtain ⟨s, rfl, rfl⟩ := hx.str
     refine ⟨.int .u8 b.toNat, ?_, .p (.int _ _)⟩
     have hb' : s[n.toNat]? = some b := by
       have hlt : n.toNat < s.size := by
         have := (List.getElem?_eq_some_iff.1 hb).1
         simpa using this
       rw [getElem?_pos s n.toNat hlt]
       have := (List.getElem?_eq_some_iff.1 hb).2
       simp only [Array.getElem_toList] at this
       exact congrArg some this
     simp [Instr.index, run_underlying ht, asIntOf, hn, hb']
   · cases h
 · cases h
theorem Qjx {t n off : Nat} {ag : Bool} {xs : List AV} {cx : Array Value} {v : AV} (ha : yv P t = some ag) (hn : wJ8 P t = some n) (hp : Qa2 ag n (.av xs) off = some v)
   (hx : RepL S w μ xs cx.toList) (h1 : ∀ c ∈ cx.toList, one c = true) (w' : World) : ∃ c, (part t cx off).run P w' = .ok c w' /\ Rep S w μ v c := by
 unfold Qa2 at hp
 cases ag with
 | true =>
   simp only [if_true] at hp
   split at hp
   · obtain rfl := Option.some.inj hp
     refine ⟨.agg (cx.extract off (off + n)), ?_, ?_⟩
     · simp [part, z8 ha, Kr hn]
     · have e : (cx.extract off (off + n)).toList = (cx.toList.drop off).take n := by simp
       refine za (by rw [e]; exact (hx.drop off).take n) ?_
       rw [e]
       exact zi h1 _ _
   · cases hp
 | false =>
   simp only [Bool.false_eq_true, if_false] at hp
   obtain ⟨c, hc, hr⟩ := hx.get hp
   refine ⟨c, ?_, hr⟩
   have hc' : cx[off]? = some c := by simpa using hc
   simp [part, z8 ha, hc']
theorem Qm4 {len esz : Nat} {ag : Bool} {x i v : AV} {cx ci : Value} {t e : Nat} (ht : P.underlying t = some (.array len e)) (he : wJ8 P e = some esz) (ha : yv P e = some ag)
   (h : Qqm len esz ag x i = some v) (hx : Rep S w μ x cx) (hi : Rep S w μ i ci) (w' : World) : ∃ c, (Instr.index t cx ci).run P w' = .ok c w' /\ Rep S w μ v c := by
 unfold Qqm at h
 split at h
 · rename_i k n
   obtain rfl := hi.int
   split at h
   · rename_i hn
     split at h
     · rename_i cs
       simp only [Option.map_eq_some_iff] at h
       obtain ⟨y, hy, rfl⟩ := h
       obtain ⟨cx, rfl, hcs, h1⟩ := hx.aggP
       obtain ⟨c, hc, hr, _⟩ := zg (P := P) ha he hy hcs h1 w'
       exact ⟨c, by simp [Instr.index, run_underlying ht, asIntOf, hn, Kr he, hc], .p hr⟩
     · rename_i cs
       obtain ⟨cx, rfl, hcs, h1⟩ := hx.aggA
       obtain ⟨c, hc, hr⟩ := Qjx (P := P) ha he h hcs h1 w'
       exact ⟨c, by simp [Instr.index, run_underlying ht, asIntOf, hn, Kr he, hc], hr⟩
     · cases h
   · cases h
 · cases h
theorem Qho {x v : AV} {i : Nat} {cx : Value} (h : Vb x i = some v) (hx : Rep S w μ x cx) (w' : World) : ∃ c, (Instr.extract cx i).run P w' = .ok c w' /\ Rep S w μ v c := by
 unfold Vb at h
 split at h
 · simp only [Option.map_eq_some_iff] at h
   obtain ⟨y, hy, rfl⟩ := h
   obtain ⟨cs, rfl, hcs⟩ := hx.tupP
   obtain ⟨c, hc, hr⟩ := hcs.get hy
   have hc' : cs[i]? = some c := by simpa using hc
   exact ⟨c, by simp [Instr.extract, hc'], .p hr⟩
 · obtain ⟨cs, rfl, hcs⟩ := hx.tupA
   obtain ⟨c, hc, hr⟩ := hcs.get h
   have hc' : cs[i]? = some c := by simpa using hc
   exact ⟨c, by simp [Instr.extract, hc'], hr⟩
 · cases h
theorem Qi3 {x v z : AV} {t xt : Nat} {ok : Bool} {cx cz : Value} {i : TypeInfo} (hu : ∀ ms, P.underlying t ≠ some (.interface ms)) (hs : (P.underlying t).isSome = true) (hi : P.info? t = some i) (hz : i.zero = some cz)
   (hzr : Rep S w μ z cz) (h : Qjc t z ok x = some v) (hx : Rep S w μ x cx) (w' : World) : ∃ c, (Instr.typeAssert cx xt t ok).run P w' = .ok c w' /\ Rep S w μ v c := by
 obtain ⟨d, hd⟩ := Option.isSome_iff_exists.1 hs
 have hni : ∀ ms, d ≠ .interface ms := fun ms e => hu ms (by rw [hd, e])
 have hzero : (zeroValue t).run P w' = .ok cz w' := by simp [zeroValue, typeInfo, hi, hz]
 have pair : ∀ {a : AV} {c : Value} (b : Bool), Rep S w μ a c -> Rep S w μ (Ur [a, .p (.bool b)]) (.tuple #[c, .bool b]) :=
   fun b h => Qb3 (.cons h (.cons (.p (.bool b)) .nil))
 unfold Qjc at h
 split at h
 · rename_i t' y
   cases hx.pv with | iface hy =>
   rename_i cy
   split at h
   · rename_i htt
     subst htt
     obtain rfl := Option.some.inj h
     cases ok with
     | true =>
       refine ⟨.tuple #[cy, .bool true], ?_, .p (.tup (.cons hy (.cons (.bool true) .nil)))⟩
       cases d <;> first | exact absurd rfl (hni _) | simp [Instr.typeAssert, run_underlying hd]
     | false =>
       refine ⟨cy, ?_, .p hy⟩
       cases d <;> first | exact absurd rfl (hni _) | simp [Instr.typeAssert, run_underlying hd]
   · rename_i htt
     split at h
     · rename_i hok
       obtain rfl := Option.some.inj h
       subst hok
       refine ⟨.tuple #[cz, .bool false], ?_, pair false hzr⟩
       cases d <;> first | exact absurd rfl (hni _) | simp [Instr.typeAssert, run_underlying hd, htt, hzero]
     · cases h
 · rename_i t' y
   cases hx with | iface hy =>
   rename_i cy
   split at h
   · rename_i htt
     subst htt
     obtain rfl := Option.some.inj h
     cases ok with
     | true =>
       refine ⟨.tuple #[cy, .bool true], ?_, pair true hy⟩
       cases d <;> first | exact absurd rfl (hni _) | simp [Instr.typeAssert, run_underlying hd]
     | false =>
       refine ⟨cy, ?_, hy⟩
       cases d <;> first | exact absurd rfl (hni _) | simp [Instr.typeAssert, run_underlying hd]
   · rename_i htt
     split at h
     · rename_i hok
       obtain rfl := Option.some.inj h
       subst hok
       refine ⟨.tuple #[cz, .bool false], ?_, pair false hzr⟩
       cases d <;> first | exact absurd rfl (hni _) | simp [Instr.typeAssert, run_underlying hd, htt, hzero]
     · cases h
 · cases hx.pv
   split at h
   · rename_i hok
     obtain rfl := Option.some.inj h
     subst hok
     refine ⟨.tuple #[cz, .bool false], ?_, pair false hzr⟩
     cases d <;> first | exact absurd rfl (hni _) | simp [Instr.typeAssert, run_underlying hd, hzero]
   · cases h
 · cases h
theorem Qj9 {b : Bool} {x v : AV} {l : List AV} {cx : Value} {cl : List Value} (h : maxA b x l = some v) (hx : Rep S w μ x cx) (hl : RepL S w μ l cl) (w' : World) :
   ∃ c, (cl.foldlM (if b then Builtin.max2 else Builtin.min2) cx).run P w' = .ok c w' /\ Rep S w μ v c := by
 induction l generalizing x cx cl with
 | nil =>
   cases hl
   simp [maxA] at h
   subst h
   exact ⟨cx, rfl, hx⟩
 | cons y r ih =>
   cases hl with
   | cons hy hr =>
     unfold maxA at h
     split at h
     · simp_all
     · rename_i k a k' c r' heq
       simp only [List.cons.injEq] at heq
       obtain ⟨rfl, rfl⟩ := heq
       obtain rfl := hx.int
       obtain rfl := hy.int
       obtain ⟨c', hc, hrep⟩ := ih h (.p (.int _ _)) hr
       refine ⟨c', ?_, hrep⟩
       rw [List.foldlM_cons, Sem.run_bind]
       cases b <;> simpa [Builtin.max2, Builtin.min2] using hc
     · rename_i a c r' heq
       simp only [List.cons.injEq] at heq
       obtain ⟨rfl, rfl⟩ := heq
       obtain ⟨sa, rfl, rfl⟩ := hx.str
       obtain ⟨sc, rfl, rfl⟩ := hy.str
       rw [List.foldlM_cons]
       cases b with
       | true =>
         simp only [if_true] at h ⊢
         obtain ⟨c', hc, hrep⟩ := ih (cx := .string (if !(Op.bytesLess sa.data.toList sc.data.toList) then sa else sc)) h (.p (.str (by split <;> simp_all))) hr
         refine ⟨c', ?_, hrep⟩
         have e : (Builtin.max2 (.string sa) (.string sc)).run P w' = .ok (.string (if !(Op.bytesLess sa.data.toList sc.data.toList) then sa else sc)) w' := by
           simp only [Builtin.max2, Op.stringOp, I4, Sem.run_bind, Sem.run_pure, Result.andThen_ok, asBool]
         rw [Sem.run_bind, e]
         exact hc
       | false =>
         simp only [Bool.false_eq_true, if_false] at h ⊢
         obtain ⟨c', hc, hrep⟩ := ih (cx := .string (if Op.bytesLess sa.data.toList sc.data.toList || sa.data.toList == sc.data.toList then sa else sc)) h (.p (.str (by split <;> simp_all))) hr
         refine ⟨c', ?_, hrep⟩
         have e : (Builtin.min2 (.string sa) (.string sc)).run P w' = .ok (.string (if Op.bytesLess sa.data.toList sc.data.toList || sa.data.toList == sc.data.toList then sa else sc)) w' := by
           simp only [Builtin.min2, Op.stringOp, I4, Sem.run_bind, Sem.run_pure, Result.andThen_ok, asBool]
         rw [Sem.run_bind, e]
         exact hc
     · cases h
theorem On {α : Type} (l : List α) (off : Nat) (new : List α) (i : Nat) (h : off + new.length <= l.length) :
   (N0 l off new)[i]? = if i < off then l[i]? else if i < off + new.length then new[i - off]? else l[i]? := by
 unfold N0
 rw [List.append_assoc]
 by_cases h1 : i < off
 · rw [if_pos h1, List.getElem?_append_left (by simp; omega), List.getElem?_take, if_pos h1]
 · rw [if_neg h1, List.getElem?_append_right (by simp; omega)]
   simp only [List.length_take, Nat.min_eq_left (show off <= l.length by omega)]
   by_cases h2 : i < off + new.length
   · rw [if_pos h2, List.getElem?_append_left (by omega)]
   · rw [if_neg h2, List.getElem?_append_right (by omega), List.getElem?_drop]
     congr 1
     omega
theorem Ux {α : Type} (l : List α) (off : Nat) (new : List α) (h : off + new.length <= l.length) : (N0 l off new).length = l.length := by
 unfold N0
 simp
 omega
theorem Qam {v : AV} {c : Value} (h : Rep S w μ v c) (hf : v.fit = true) : RepL S w μ v.cells c.cells.toList /\ ∀ x ∈ c.cells.toList, one x = true := by
 cases h with
 | p h =>
   cases h with
   | agg h h1 => exact ⟨.of_pv h, h1⟩
   | undef => simp [AV.fit] at hf
   | tup => simp [AV.fit] at hf
   | bool b => exact ⟨.cons (.p (.bool b)) .nil, by simp [Value.cells, one]⟩
   | int k n => exact ⟨.cons (.p (.int k n)) .nil, by simp [Value.cells, one]⟩
   | str h => exact ⟨.cons (.p (.str h)) .nil, by simp [Value.cells, one]⟩
   | nilptr => exact ⟨.cons (.p .nilptr) .nil, by simp [Value.cells, one]⟩
   | nilmap => exact ⟨.cons (.p .nilmap) .nil, by simp [Value.cells, one]⟩
   | nilfn => exact ⟨.cons (.p .nilfn) .nil, by simp [Value.cells, one]⟩
   | nilif => exact ⟨.cons (.p .nilif) .nil, by simp [Value.cells, one]⟩
   | iface h => exact ⟨.cons (.p (.iface h)) .nil, by simp [Value.cells, one]⟩
   | fn f => exact ⟨.cons (.p (.fn f)) .nil, by simp [Value.cells, one]⟩
   | vsl0 n a => exact ⟨.cons (.p (.vsl0 n a)) .nil, by simp [Value.cells, one]⟩
   | vsl h hc => exact ⟨.cons (.p (.vsl h hc)) .nil, by simp [Value.cells, one]⟩
   | vptr hc => exact ⟨.cons (.p (.vptr hc)) .nil, by simp [Value.cells, one]⟩
   | isym h => exact ⟨.cons (.p (.isym h)) .nil, by simp [Value.cells, one]⟩
   | ssym h hs => exact ⟨.cons (.p (.ssym h hs)) .nil, by simp [Value.cells, one]⟩
 | agg h h1 => exact ⟨h, h1⟩
 | dead => simp [AV.fit] at hf
 | tup => simp [AV.fit] at hf
 | nil0 => exact ⟨.cons .nil0 .nil, by simp [Value.cells, one]⟩
 | e0 a => exact ⟨.cons (.e0 a) .nil, by simp [Value.cells, one]⟩
 | ptr h => exact ⟨.cons (.ptr h) .nil, by simp [Value.cells, one]⟩
 | yld h => exact ⟨.cons (.yld h) .nil, by simp [Value.cells, one]⟩
 | sl h hl hc => exact ⟨.cons (.sl h hl hc) .nil, by simp [Value.cells, one]⟩
 | clo h1 h2 => exact ⟨.cons (.clo h1 h2) .nil, by simp [Value.cells, one]⟩
 | iface h => exact ⟨.cons (.iface h) .nil, by simp [Value.cells, one]⟩
theorem Qgm (cs : Array Value) (off : Nat) (vs : List Value) (k : Nat) (h : off + k + vs.length <= cs.size) :
   ((vs.zipIdx k).foldl (fun cs (c, j) => cs.setIfInBounds (off + j) c) cs).toList = N0 cs.toList (off + k) vs := by
 induction vs generalizing cs k with
 | nil => simp [N0]
 | cons v r ih =>
   simp only [List.zipIdx_cons, List.foldl_cons]
   simp only [List.length_cons] at h
   rw [ih _ _ (by simp; omega)]
   apply List.ext_getElem?
   intro i
   have hsz : cs.toList.length = cs.size := Array.length_toList
   rw [On _ _ _ _ (by simp; omega), On _ _ _ _ (by simp; omega)]
   simp only [Array.toList_setIfInBounds, List.getElem?_set, List.length_cons]
   by_cases h1 : i < off + k
   · rw [if_pos (by omega), if_pos h1, if_neg (by omega)]
   · rw [if_neg h1]
     by_cases h2 : i = off + k
     · subst h2
       rw [if_pos (by omega), if_pos rfl, if_pos (by omega)]
       simp
     · rw [if_neg (by omega)]
       by_cases h3 : i < off + (k + 1) + r.length
       · rw [if_pos h3, if_pos (by omega), show i - (off + k) = (i - (off + (k + 1))) + 1 from by omega, List.getElem?_cons_succ]
       · rw [if_neg h3, if_neg (by omega), if_neg (by omega)]
theorem Qbg {place : Nat -> Option (Nat × Nat)} {cells out : List AV} {cs : Array Value} {parts : List (Nat × Operand)} {ps : List (Nat × Nat × Opd)} {vs : List (Nat × Nat × AV)} {M : Env} {a : Act}
   (hE : EnvOK S w μ M a.tmps) (hG : GlobOK S w G) (hc : yd P G place parts = some ps) (hv : Uw M ps = some vs) (h : Qe7 cells vs = some out)
   (hr : RepL S w μ cells cs.toList) (h1 : ∀ c ∈ cs.toList, one c = true) :
   ∃ cs', Instr.fill place cs (parts.map fun x => (x.1, a.eval x.2)) = some cs' /\ RepL S w μ out cs'.toList /\ (∀ c ∈ cs'.toList, one c = true) /\ cs'.size = cs.size := by
 induction parts generalizing ps vs cells cs with
 | nil =>
   simp [yd] at hc
   subst hc
   simp [Uw] at hv
   subst hv
   simp [Qe7] at h
   subst h
   exact ⟨cs, rfl, hr, h1, rfl⟩
 | cons p r ih =>
   obtain ⟨i, x⟩ := p
   simp only [yd] at hc
   split at hc
   · rename_i o s y l hpl hy hl
     obtain rfl := Option.some.inj hc
     simp only [Uw] at hv
     split at hv
     · rename_i v us hvv hus
       obtain rfl := Option.some.inj hv
       simp only [Qe7] at h
       split at h
       · rename_i hcond
         obtain ⟨hfit, hlen, hroom⟩ := hcond
         have hvr := Jn hE hG hy hvv
         obtain ⟨hcr, hc1⟩ := Qam hvr hfit
         have hsz : (a.eval x).cells.size = s := by have := hcr.length; simp at this; omega
         have hcs : cs.size = cells.length := by have := hr.length; simp at this; omega
         have hfold := Qgm cs o (a.eval x).cells.toList 0 (by simp; omega)
         simp only [Nat.add_zero] at hfold
         have hnew : RepL S w μ (N0 cells o v.cells) (((a.eval x).cells.toList.zipIdx 0).foldl (fun cs (c, j) => cs.setIfInBounds (o + j) c) cs).toList := by
           rw [hfold]
           unfold N0
           rw [show (a.eval x).cells.toList.length = v.cells.length from hcr.length.symm]
           exact ((hr.take o).append hcr).append (hr.drop _)
         have hnew1 : ∀ c ∈ (((a.eval x).cells.toList.zipIdx 0).foldl (fun cs (c, j) => cs.setIfInBounds (o + j) c) cs).toList, one c = true := by
           rw [hfold]
           unfold N0
           intro c hc
           rcases List.mem_append.1 hc with hc | hc
           · rcases List.mem_append.1 hc with hc | hc
             · exact h1 c (List.mem_of_mem_take hc)
             · exact hc1 c hc
           · exact h1 c (List.mem_of_mem_drop hc)
         obtain ⟨cs', e1, e2, e3, e4⟩ := ih hl hus h hnew hnew1
         refine ⟨cs', ?_, e2, e3, ?_⟩
         · simp only [List.map_cons, Instr.fill, hpl]
           rw [if_neg (by simp [hsz]; omega), <- Array.foldl_toList, Array.toList_zipIdx]
           exact e1
         · rw [e4, <- Array.length_toList, hfold, Ux _ _ _ (by simp; omega), Array.length_toList]
       · cases h
     · cases hv
   · cases hc
end Go.Ab
