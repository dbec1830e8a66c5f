/- E2 -/
import Derived.Test.YtikebbklkiodlaaGreatDoorAbA21
import Derived.Carry
import Derived.Lib.TrimByte
import Derived.KernelRfl
import Derived.Test.YtikebbklkiodlaaGreatDoorProg
import Derived.Test.YtikebbklkiodlaaGreatDoorRows
set_option maxRecDepth 1000000
set_option linter.all false
namespace Go.Ab
variable [Q4]
open Go Go.Ab Go.ChangeShapes Go.WideShapes Go.RowKit Go.Deep
inductive OfT (P : Program) : TypeId -> List PV -> Prop
 | bool {t : TypeId} (h : P.underlying t = some .bool) (b : Bool) : OfT P t [.bool b]
 | int {t : TypeId} {k : IntKind} (h : P.underlying t = some (.int k)) (n : Int) (hw : (Lit.int k n).wf = true) : OfT P t [.int k n]
 | str {t : TypeId} (h : P.underlying t = some .string) (s : List UInt8) (hl : s.length <= maxLen) : OfT P t [.str s]
 | sl {t e : TypeId} (h : P.underlying t = some (.slice e)) (rows : List (List PV)) (hr : ∀ r ∈ rows, OfT P e r) (hl : ∀ r ∈ rows, r.length = P.cellsOf e) (hm : rows.length <= maxLen) : OfT P t [.vsl rows.flatten rows.length]
 | struct {t : TypeId} {fs : Array Field} (h : P.underlying t = some (.struct fs)) (parts : List (List PV)) (hn : parts.length = fs.toList.length) (hp : ∀ (i : Nat) (f : Field) (r : List PV), fs.toList[i]? = some f -> parts[i]? = some r -> OfT P f.type r) (hl : ∀ (i : Nat) (f : Field) (r : List PV), fs.toList[i]? = some f -> parts[i]? = some r -> r.length = P.cellsOf f.type) : OfT P t parts.flatten
def Qge (P : Program) : Nat -> List Field -> Option Nat
 | o, [] => some o
 | o, f :: r => if f.offset = o then Qge P (o + P.cellsOf f.type) r else none
def Qe8 (P : Program) (T : List TypeId) : Bool := T.all fun t => match P.underlying t with
 | some .bool => P.cellsOf t == 1
 | some (.int _) => P.cellsOf t == 1
 | some .string => P.cellsOf t == 1
 | some (.slice e) => P.cellsOf t == 1 && T.contains e && !(P.cellsOf e == 0)
 | some (.struct fs) => (match Qge P 0 fs.toList with
   | some n => n == P.cellsOf t
   | none => false) && fs.toList.all fun f => T.contains f.type
 | _ => false
theorem qm {α β : Type} (R : α -> β -> Prop) : ∀ (l : List α), (∀ x ∈ l, ∃ y, R x y) -> ∃ m : List β, m.length = l.length /\ ∀ (i : Nat) x y, l[i]? = some x -> m[i]? = some y -> R x y
 | [], _ => ⟨[], rfl, fun i x y h => by simp at h⟩
 | x :: l, h => by
   obtain ⟨y, hy⟩ := h x (by simp)
   obtain ⟨m, h1, h2⟩ := qm R l fun z hz => h z (List.mem_cons_of_mem _ hz)
   refine ⟨y :: m, by simp [h1], fun i a b ha hb => ?_⟩
   cases i with
   | zero =>
     simp only [List.getElem?_cons_zero, Option.some.injEq] at ha hb
     subst ha hb
     exact hy
   | succ i => exact h2 i a b (by simpa using ha) (by simpa using hb)
theorem Qch {α : Type} {n : Nat} : ∀ (rows : List (List α)) (j : Nat) (v : α), (∀ r ∈ rows, r.length = n) -> rows.flatten[j]? = some v -> ∃ (i k : Nat) (r : List α), rows[i]? = some r /\ r[k]? = some v /\ j = i * n + k /\ k < n
 | [], j, v, _, h => by simp at h
 | r :: rows, j, v, hl, h => by
   rw [List.flatten_cons] at h
   by_cases hj : j < r.length
   · rw [List.getElem?_append_left hj] at h
     exact ⟨0, j, r, rfl, h, by simp, by rw [<- hl r (by simp)]; exact hj⟩
   · rw [List.getElem?_append_right (by omega)] at h
     obtain ⟨i, k, r', h1, h2, h3, h4⟩ := Qch rows _ v (fun x hx => hl x (List.mem_cons_of_mem _ hx)) h
     have := hl r (by simp)
     exact ⟨i + 1, k, r', by simpa using h1, h2, by rw [Nat.succ_mul]; omega, h4⟩
section
variable {H : Type} {enc : TypeId × Value -> H} {P : Program} {w : World} {base : Nat} {spare : Nat -> Bool} {held : Bool}
theorem Qde {S : Nat -> Nat -> Prop} (cs : List Value) (n : Nat) : ∀ (fl : List Field) (o : Nat) (parts : List (List PV)), Qge P o fl = some n -> n = cs.length -> parts.length = fl.length ->
   (∀ (i : Nat) (f : Field) (r : List PV), fl[i]? = some f -> parts[i]? = some r -> RepPL S w r ((cs.drop f.offset).take (P.cellsOf f.type)) /\ r.length = P.cellsOf f.type) -> RepPL S w parts.flatten (cs.drop o)
 | [], o, parts, h, hn, hp, _ => by
   simp only [Qge, Option.some.injEq] at h
   subst h
   rw [hn, List.drop_length]
   cases parts with
   | nil => exact .nil
   | cons => simp at hp
 | f :: fl, o, parts, h, hn, hp, hr => by
   simp only [Qge] at h
   split at h
   · rename_i ho
     cases parts with
     | nil => simp at hp
     | cons p parts =>
       obtain ⟨h1, h2⟩ := hr 0 f p rfl rfl
       have ih := Qde cs n fl (o + P.cellsOf f.type) parts h hn (by simpa using hp) fun i g r hg hrr => hr (i + 1) g r (by simpa using hg) (by simpa using hrr)
       rw [ho] at h1
       rw [List.flatten_cons, <- List.take_append_drop (P.cellsOf f.type) (cs.drop o), List.drop_drop]
       exact h1.append ih
   · cases h
theorem Qq2 (cs : List Value) (n : Nat) : ∀ (fl : List Field) (o : Nat), Qge P o fl = some n -> n = cs.length -> (∀ (i : Nat) (f : Field), fl[i]? = some f -> ∀ c ∈ (cs.drop f.offset).take (P.cellsOf f.type), one c = true) -> ∀ c ∈ cs.drop o, one c = true
 | [], o, h, hn, _ => by
   simp only [Qge, Option.some.injEq] at h
   subst h
   rw [hn, List.drop_length]
   simp
 | f :: fl, o, h, hn, hr => by
   simp only [Qge] at h
   split at h
   · rename_i ho
     have ih := Qq2 cs n fl (o + P.cellsOf f.type) h hn fun i g hg => hr (i + 1) g (by simpa using hg)
     have h0 := hr 0 f rfl
     rw [ho] at h0
     intro c hc
     rw [<- List.take_append_drop (P.cellsOf f.type) (cs.drop o), List.drop_drop] at hc
     rcases List.mem_append.1 hc with hc | hc
     · exact h0 c hc
     · exact ih c hc
   · cases h
end
section
variable {P : Program} {t : TypeId} {ps : List PV}
theorem OfT.of_bool (h : OfT P t ps) (ht : P.underlying t = some .bool) : ∃ b, ps = [.bool b] := by
 cases h with
 | bool _ b => exact ⟨b, rfl⟩
 | int h => rw [ht] at h; cases h
 | str h => rw [ht] at h; cases h
 | sl h => rw [ht] at h; cases h
 | struct h => rw [ht] at h; cases h
theorem OfT.of_int {k : IntKind} (h : OfT P t ps) (ht : P.underlying t = some (.int k)) : ∃ n, ps = [.int k n] /\ (Lit.int k n).wf = true := by
 cases h with
 | bool h => rw [ht] at h; cases h
 | int h n hw => rw [ht] at h; cases h; exact ⟨n, rfl, hw⟩
 | str h => rw [ht] at h; cases h
 | sl h => rw [ht] at h; cases h
 | struct h => rw [ht] at h; cases h
theorem OfT.of_str (h : OfT P t ps) (ht : P.underlying t = some .string) : ∃ s, ps = [.str s] /\ s.length <= maxLen := by
 cases h with
 | bool h => rw [ht] at h; cases h
 | int h => rw [ht] at h; cases h
 | str h s hl => exact ⟨s, rfl, hl⟩
 | sl h => rw [ht] at h; cases h
 | struct h => rw [ht] at h; cases h
theorem OfT.of_sl {e : TypeId} (h : OfT P t ps) (ht : P.underlying t = some (.slice e)) : ∃ rows : List (List PV), ps = [.vsl rows.flatten rows.length] /\ (∀ r ∈ rows, OfT P e r) /\ (∀ r ∈ rows, r.length = P.cellsOf e) /\ rows.length <= maxLen := by
 cases h with
 | bool h => rw [ht] at h; cases h
 | int h => rw [ht] at h; cases h
 | str h => rw [ht] at h; cases h
 | sl h rows h1 h2 h3 => rw [ht] at h; cases h; exact ⟨rows, rfl, h1, h2, h3⟩
 | struct h => rw [ht] at h; cases h
theorem OfT.of_struct {fs : Array Field} (h : OfT P t ps) (ht : P.underlying t = some (.struct fs)) : ∃ parts : List (List PV), ps = parts.flatten /\ parts.length = fs.toList.length /\ ∀ (i : Nat) (f : Field) (r : List PV), fs.toList[i]? = some f -> parts[i]? = some r -> OfT P f.type r := by
 cases h with
 | bool h => rw [ht] at h; cases h
 | int h => rw [ht] at h; cases h
 | str h => rw [ht] at h; cases h
 | sl h => rw [ht] at h; cases h
 | struct h parts h1 h2 h3 => rw [ht] at h; cases h; exact ⟨parts, rfl, h1, h2⟩
theorem OfT.of_struct4 {f0 f1 f2 f3 : Field} (h : OfT P t ps) (ht : P.underlying t = some (.struct #[f0, f1, f2, f3])) : ∃ p0 p1 p2 p3 : List PV, ps = p0 ++ (p1 ++ (p2 ++ p3)) /\ OfT P f0.type p0 /\ OfT P f1.type p1 /\ OfT P f2.type p2 /\ OfT P f3.type p3 := by
 obtain ⟨parts, rfl, h1, h2⟩ := h.of_struct ht
 match parts, h1 with
 | [p0, p1, p2, p3], _ => exact ⟨p0, p1, p2, p3, by simp, h2 0 f0 p0 rfl rfl, h2 1 f1 p1 rfl rfl, h2 2 f2 p2 rfl rfl, h2 3 f3 p3 rfl rfl⟩
end
end Go.Ab
namespace Go.Ab
variable [Q4]
open Go Go.Ab
def Qzc (P : Program) (G : Bx) (rcv nofz : List Nat) (f : Nat) : Option FImpl := match Nat.beq f 4294967295 with
 | true => some .rnd
 | false => match P.funcs[f]? with
 | some fn => match rcv.contains f with
   | true => match cRec P G [] fn with
     | some rf => some (.rcv rf)
     | none => none
   | false => match Yh P G [] fn with
     | some af => some (.code af (!nofz.contains f))
     | none => none
 | none => none
theorem Qti {P : Program} {G : Bx} {rcv nofz : List Nat} : Wx P G (Qzc P G rcv nofz) := by
 intro f i h
 unfold Qzc at h
 split at h
 · rename_i hf
   obtain rfl := Option.some.inj h
   exact Nat.eq_of_beq_eq_true hf
 rename_i hne
 have hne : f ≠ 4294967295 := fun e => by subst e; cases hne
 split at h
 · rename_i fn hf
   split at h
   · split at h
     · rename_i rf hr
       obtain rfl := Option.some.inj h
       exact ⟨fn, [], hf, hr⟩
     · cases h
   · split at h
     · rename_i af hc
       obtain rfl := Option.some.inj h
       exact ⟨hne, fn, [], hf, hc⟩
     · cases h
 · cases h
def Qzp (P : Program) (G : Bx) (l : List Nat) (f : Nat) : Option FImpl := match Nat.beq f 4294967295 || !l.contains f with
 | true => none
 | false => match P.funcs[f]? with
   | some fn => match Yh P G [[4294967295]] fn with
     | some af => some (.code af true)
     | none => none
   | none => none
theorem Qs9 {P : Program} {G : Bx} {l : List Nat} : Wx P G (Qzp P G l) := by
 intro f i h
 unfold Qzp at h
 split at h
 · cases h
 · rename_i hne
   have hne : f ≠ 4294967295 := fun e => by subst e; simp at hne
   split at h
   · rename_i fn hf
     split at h
     · rename_i af hc
       obtain rfl := Option.some.inj h
       exact ⟨hne, fn, _, hf, hc⟩
     · cases h
   · cases h
def Qi6 (E T : Ld) : Ld := fun f => match E f with
 | some i => some i
 | none => T f
theorem Qkc {P : Program} {G : Bx} {E T : Ld} (hE : Wx P G E) (hT : Wx P G T) : Wx P G (Qi6 E T) := by
 intro f i h
 unfold Qi6 at h
 split at h
 · rename_i j hj
   obtain rfl := Option.some.inj h
   exact hE f _ hj
 · exact hT f i h
end Go.Ab
namespace Go.Ab
variable [Q4]
open Go Go.Ab Go.ChangeShapes Go.WideShapes Go.RowKit Go.Deep
section
variable {H : Type} {enc : TypeId × Value -> H} {P : Program} {W W' : World} {base b : Nat} {spare : Nat -> Bool} {held : Bool} {t : TypeId} {v : Value} {d : DataW H} {ps : List MemPlace} {r : Reach}
theorem Qbz (hl : laidOutB P = true) (hr : P.readableRec t = true) (hrow : t < P.types.size) (h : DataW.Trod enc P W 0 (fun _ => true) true t v d ps) (hk : Kept W W') (hlt : ∀ x ∈ ps, x.block < W.heap.size) {sp : Nat -> Bool} (hs : ∀ p ∈ ps, sp p.block = true) :
   DataW.Trod enc P W' 0 sp true t v d ps :=
 WideElems.Trod_stays hl hr hrow h (fun x hx => hk.below.same (hlt x hx)) hs
end
end Go.Ab
namespace Go.Ab
variable [Q4]
open Go Go.Ab Go.ChangeShapes Go.WideShapes Go.RowKit Go.Deep
mutual
def szP : PV -> Nat
 | .str s => s.length + 1
 | .agg l => szL l
 | .vsl l _ => szL l
 | _ => 1
def szL : List PV -> Nat
 | [] => 0
 | v :: r => szP v + szL r
end
theorem U6 : ∀ (a b : List PV), szL (a ++ b) = szL a + szL b
 | [], b => by simp [szL]
 | v :: r, b => by simp only [List.cons_append, szL, U6 r b]; omega
structure BulkOK {H : Type} (B : DataW H -> Nat) : Prop where
 str : ∀ l : List UInt8, l.length + 1 <= B (.lit (.string l))
 lit : ∀ l : Lit, 1 <= B (.lit l)
 sl : ∀ es rs : List (DataW H), (es.map B).sum <= B (.slice es rs)
 agg : ∀ ps : List (DataW H), (ps.map B).sum <= B (.agg ps)
theorem Qfw {H : Type} {B : DataW H -> Nat} : ∀ (rows : List (List PV)) (ds : List (DataW H)), rows.length = ds.length -> (∀ (i : Nat) r d, rows[i]? = some r -> ds[i]? = some d -> szL r <= B d) -> szL rows.flatten <= (ds.map B).sum
 | [], _, _, _ => by simp [szL]
 | r :: rows, [], h, _ => by simp at h
 | r :: rows, d :: ds, hl, h => by
   have ih := Qfw rows ds (by simpa using hl) (fun i r d hr hd => h (i + 1) r d (by simpa using hr) (by simpa using hd))
   have h0 := h 0 r d rfl rfl
   simp only [List.flatten_cons, U6, List.map_cons, List.sum_cons]
   omega
section
variable {H : Type} {enc : TypeId × Value -> H} {P : Program} {w : World} {base : Nat} {spare : Nat -> Bool} {held : Bool}
theorem Qgd {B : DataW H -> Nat} (hB : BulkOK B) {T : List TypeId} (hT : Qe8 P T = true) : ∀ (fuel : Nat) (t : TypeId) (cs : List Value) (x : DataW H × List MemPlace), t ∈ T -> DataW.trod enc P w base spare held fuel t cs = some x ->
   ∃ ps : List PV, RepPL (Ex w) w ps cs /\ (∀ c ∈ cs, one c = true) /\ OfT P t ps /\ ps.length = P.cellsOf t /\ szL ps <= B x.1 := by
 intro fuel
 induction fuel with
 | zero => intro t cs x _ h; simp [DataW.trod] at h
 | succ fuel ih =>
   intro t cs x ht h
   have hcl := List.all_eq_true.1 hT t ht
   cases hu : P.underlying t with
   | none => rw [hu] at hcl; simp at hcl
   | some u =>
     rw [hu] at hcl
     cases u with
     | bool =>
       obtain ⟨b, rfl, rfl⟩ := DataW.trod_bool hu h
       exact ⟨[.bool b], .cons (.bool _) .nil, by simp [one], .bool hu b, by simpa using (beq_iff_eq.1 hcl).symm, by simpa [szL, szP] using hB.lit _⟩
     | int k =>
       obtain ⟨n, rfl, rfl, hw⟩ := DataW.trod_int hu h
       exact ⟨[.int k n], .cons (.int _ _) .nil, by simp [one], .int hu n hw, by simpa using (beq_iff_eq.1 hcl).symm, by simpa [szL, szP] using hB.lit _⟩
     | string =>
       obtain ⟨s, rfl, rfl, hs⟩ := DataW.trod_string hu h
       have hl : s.data.toList.length <= maxLen := by
         have : s.size = s.data.toList.length := by simp only [Array.length_toList]; rfl
         omega
       exact ⟨[.str s.data.toList], .cons (.str rfl) .nil, by simp [one], .str hu _ hl, by simpa using (beq_iff_eq.1 hcl).symm, by simpa [szL, szP] using hB.str s.data.toList⟩
     | slice e =>
       simp only [Bool.and_eq_true, List.contains_iff_mem, Bool.not_eq_true', beq_eq_false_iff_ne, beq_iff_eq] at hcl
       obtain ⟨⟨hc1, he⟩, hc0⟩ := hcl
       have hsl : (cs = [.slice none 0 0]) ∨ ∃ (a : Addr) (len cap : Nat) (es : List (DataW H)), cs = [.slice (some a) len cap] /\ len <= cap /\ cap <= maxLen /\ es.length = len /\ (es.map B).sum <= B x.1 /\
           ∀ i, i < len -> ∃ l y, w.cells? base (a.add (i * P.cellsOf e)) (P.cellsOf e) = some l /\ DataW.trod enc P w base spare held fuel e l = some y /\ es[i]? = some y.1 := by
         rcases DataW.trod_slice hu h with ⟨h1, _⟩ | ⟨a, len, cap, elems, rest, n, hn, h1, hx, _, h2, h3, h4, h5, _⟩
         · exact .inl h1
         · obtain rfl : fuel = n := by omega
           refine .inr ⟨a, len, cap, elems.map (·.1), h1, h2, h3, by simpa using h4, by rw [hx]; exact hB.sl _ _, fun i hi => ?_⟩
           have h6 := h5 i hi
           have : i < elems.length := by omega
           rw [List.getElem?_eq_getElem this] at h6
           obtain ⟨l, g1, g2⟩ := Option.bind_eq_some_iff.1 h6
           exact ⟨l, _, g1, g2, by rw [List.getElem?_map, List.getElem?_eq_getElem this]; rfl⟩
       rcases hsl with rfl | ⟨a, len, cap, es, rfl, hlc, hcm, hesl, hess, hel⟩
       · exact ⟨[.vsl [] 0], .cons (.vsl0 _ _) .nil, by simp [one], .sl hu [] (by simp) (by simp) (by simp), by simpa using hc1.symm, by simp [szL, szP]⟩
       · obtain ⟨rows, hrl, hrr⟩ := qm (fun (i : Nat) (r : List PV) => ∃ l, w.cells? base (a.add (i * P.cellsOf e)) (P.cellsOf e) = some l /\ RepPL (Ex w) w r l /\ (∀ c ∈ l, one c = true) /\ OfT P e r /\ r.length = P.cellsOf e /\ ∃ d, es[i]? = some d /\ szL r <= B d) (List.range len) (by
           intro i hi
           obtain ⟨l, y, h1, h2, h7⟩ := hel i (List.mem_range.1 hi)
           obtain ⟨ps, g1, g2, g3, g4, g5⟩ := ih e l y he h2
           exact ⟨ps, l, h1, g1, g2, g3, g4, y.1, h7, g5⟩)
         rw [List.length_range] at hrl
         have hrow : ∀ (i : Nat) r, rows[i]? = some r -> ∃ l, w.cells? base (a.add (i * P.cellsOf e)) (P.cellsOf e) = some l /\ RepPL (Ex w) w r l /\ (∀ c ∈ l, one c = true) /\ OfT P e r /\ r.length = P.cellsOf e /\ ∃ d, es[i]? = some d /\ szL r <= B d := by
           intro i r hr
           have hi : i < len := by rw [<- hrl]; exact (List.getElem?_eq_some_iff.1 hr).1
           exact hrr i i r (List.getElem?_range hi) hr
         have hmem : ∀ r ∈ rows, OfT P e r /\ r.length = P.cellsOf e := by
           intro r hr
           obtain ⟨i, hi⟩ := List.getElem?_of_mem hr
           obtain ⟨l, _, _, _, g3, g4, _⟩ := hrow i r hi
           exact ⟨g3, g4⟩
         have hsz : szL rows.flatten <= B x.1 := by
           refine Nat.le_trans (Qfw rows es (by rw [hrl, hesl]) fun i r d hr hd => ?_) hess
           obtain ⟨_, _, _, _, _, _, d', h1, h2⟩ := hrow i r hr
           rw [hd] at h1
           obtain rfl := Option.some.inj h1
           exact h2
         refine ⟨[.vsl rows.flatten rows.length], .cons ?_ .nil, by simp [one], .sl hu rows (fun r hr => (hmem r hr).1) (fun r hr => (hmem r hr).2) (by omega), by simpa using hc1.symm, by simpa [szL, szP] using hsz⟩
         rw [hrl]
         rcases Nat.eq_zero_or_pos len with h0 | h0
         · subst h0
           have : rows = [] := List.length_eq_zero_iff.1 hrl
           subst this
           exact .vsl0 _ _
         · have hne : P.cellsOf e ≠ 0 := hc0
           obtain ⟨b, o, spot⟩ := a
           obtain ⟨l0, _, q1, _, _⟩ := hel 0 h0
           obtain ⟨_, q3, q4⟩ := World.cells?_some q1
           have q5 := q4 0 (by omega)
           have hl0 : 0 < l0.length := by omega
           rw [List.getElem?_eq_getElem hl0] at q5
           simp only [Nat.zero_mul, Addr.add, if_true] at q5
           obtain rfl : spot = none := World.cell?_spot q5
           refine .vsl hlc (Wd _ _ fun j v hj => ?_)
           obtain ⟨i, k, r, h1, h2, rfl, h4⟩ := Qch (n := P.cellsOf e) rows j v (fun r hr => (hmem r hr).2) hj
           obtain ⟨l, m1, m2, m3, _, m5, _⟩ := hrow i r h1
           obtain ⟨_, n2, n3⟩ := World.cells?_some m1
           obtain ⟨c, e1, e2⟩ := m2.get h2
           have e3 := n3 k h4
           rw [e1] at e3
           refine ⟨c, ?_, m3 c (List.mem_of_getElem? e1), e2⟩
           rw [<- e3]
           congr 1
           unfold Addr.add
           split <;> split <;> simp_all <;> omega
     | struct fs =>
       simp only [Bool.and_eq_true] at hcl
       obtain ⟨hrow, hfs⟩ := hcl
       split at hrow
       · rename_i n hn
         obtain ⟨xs, m, hm, hx0, hlen, hxl, hxs⟩ := DataW.trod_struct hu h
         obtain rfl : fuel = m := by omega
         obtain ⟨parts, hpl, hpp⟩ := qm (fun (i : Nat) (r : List PV) => ∀ f, fs.toList[i]? = some f -> RepPL (Ex w) w r ((cs.drop f.offset).take (P.cellsOf f.type)) /\ (∀ c ∈ (cs.drop f.offset).take (P.cellsOf f.type), one c = true) /\ OfT P f.type r /\ r.length = P.cellsOf f.type /\ ∃ d, (xs.map (·.1))[i]? = some d /\ szL r <= B d) (List.range fs.toList.length) (by
           intro i hi
           have hi := List.mem_range.1 hi
           have hif : fs.toList[i]? = some fs.toList[i] := List.getElem?_eq_getElem hi
           generalize fs.toList[i] = f at hif
           have hi' : fs[i]? = some f := by simpa using hif
           have hlt : i < xs.length := by rw [hxl]; exact (Array.getElem?_eq_some_iff.1 hi').1
           have hx := hxs i f hi'
           rw [List.getElem?_eq_getElem hlt] at hx
           obtain ⟨ps, g1, g2, g3, g4, g5⟩ := ih f.type _ _ (by simpa using List.all_eq_true.1 hfs f (List.mem_of_getElem? hif)) hx
           refine ⟨ps, fun f' hf' => ?_⟩
           rw [hif] at hf'
           obtain rfl := Option.some.inj hf'
           exact ⟨g1, g2, g3, g4, _, by rw [List.getElem?_map, List.getElem?_eq_getElem hlt]; rfl, g5⟩)
         rw [List.length_range] at hpl
         have hpp : ∀ (i : Nat) f r, fs.toList[i]? = some f -> parts[i]? = some r -> RepPL (Ex w) w r ((cs.drop f.offset).take (P.cellsOf f.type)) /\ (∀ c ∈ (cs.drop f.offset).take (P.cellsOf f.type), one c = true) /\ OfT P f.type r /\ r.length = P.cellsOf f.type /\ ∃ d, (xs.map (·.1))[i]? = some d /\ szL r <= B d := fun i f r hf hr =>
           hpp i i r (List.getElem?_range (List.getElem?_eq_some_iff.1 hf).1) hr f hf
         have hr := Qde (S := Ex w) (w := w) cs n fs.toList 0 parts hn (by rw [hlen]; exact beq_iff_eq.1 hrow) hpl fun i f r hf hr => ⟨(hpp i f r hf hr).1, (hpp i f r hf hr).2.2.2.1⟩
         rw [List.drop_zero] at hr
         refine ⟨parts.flatten, hr, ?_, .struct hu parts hpl (fun i f r hf hr => (hpp i f r hf hr).2.2.1) (fun i f r hf hr => (hpp i f r hf hr).2.2.2.1), by rw [hr.length, hlen], ?_⟩
         rotate_left
         · rw [hx0]
           refine Nat.le_trans (Qfw parts (xs.map (·.1)) (by rw [hpl]; simpa using hxl.symm) fun i r d hr hd => ?_) (hB.agg _)
           have hi : i < fs.toList.length := by rw [<- hpl]; exact (List.getElem?_eq_some_iff.1 hr).1
           obtain ⟨_, _, _, _, d', h1, h2⟩ := hpp i _ r (List.getElem?_eq_getElem hi) hr
           rw [hd] at h1
           obtain rfl := Option.some.inj h1
           exact h2
         exact Qq2 cs n fs.toList 0 hn (by rw [hlen]; exact beq_iff_eq.1 hrow) (fun i f hf => by
           have hi : i < parts.length := by rw [hpl]; exact (List.getElem?_eq_some_iff.1 hf).1
           exact (hpp i f parts[i] hf (by simp [hi])).2.1)
       · cases hrow
     | invalid => simp at hcl
     | float _ => simp at hcl
     | complex _ => simp at hcl
     | unsafePointer => simp at hcl
     | _ => simp at hcl
end
section
variable {H : Type} {enc : TypeId × Value -> H} {P : Program} {W W' : World} {base b : Nat} {spare : Nat -> Bool} {held : Bool} {t : TypeId} {v : Value} {d : DataW H} {ps : List MemPlace} {r : Reach}
theorem Qhj {B : DataW H -> Nat} (hB : BulkOK B) {T : List TypeId} {fs : Array Field} (hT : Qe8 P T = true) (ht : t ∈ T) (hu : P.underlying t = some (.struct fs)) (hv : Value.okWide P W r b t v) (h : DataW.Trod enc P W base spare held t v d ps) :
   ∃ cs vs, v = .agg cs /\ Rep (Ex W) W (fun _ _ => none) (.p (.agg vs)) v /\ OfT P t vs /\ szL vs <= B d := by
 unfold Value.okWide at hv
 rw [hu] at hv
 obtain ⟨cs, rfl, _, _⟩ := hv
 obtain ⟨n, hn⟩ := h
 obtain ⟨vs, h1, h2, h3, _, h5⟩ := Qgd hB hT n t cs.toList _ ht hn
 exact ⟨cs, vs, rfl, .p (.agg h1 h2), h3, h5⟩
theorem Qai {B : DataW H -> Nat} (hB : BulkOK B) {T : List TypeId} {e : TypeId} (hT : Qe8 P T = true) (ht : t ∈ T) (hu : P.underlying t = some (.slice e)) (hv : Value.okWide P W r b t v) (h : DataW.Trod enc P W base spare held t v d ps) :
   ∃ u, Rep (Ex W) W (fun _ _ => none) (.p u) v /\ OfT P t [u] /\ szL [u] <= B d := by
 obtain ⟨n, hn⟩ := h
 obtain ⟨vs, h1, h2, h3, _, h5⟩ := Qgd hB hT n t _ _ ht hn
 obtain ⟨rows, rfl, _, _, _⟩ := h3.of_sl hu
 have hvc : ∃ c, v.cells.toList = [c] /\ v = c := by
   unfold Value.okWide at hv
   rw [hu] at hv
   simp only [Cell.okWide, Cell.ok, hu] at hv
   cases v <;> first | exact ⟨_, rfl, rfl⟩ | (simp at hv)
 obtain ⟨c, hc, rfl⟩ := hvc
 rw [hc] at h1
 cases h1 with
 | cons h1 _ => exact ⟨_, .p h1, h3, h5⟩
end
end Go.Ab
namespace Go.Ab.Key
inductive V where
 | null | num (n : Int) | text (s : List UInt8) | bool (b : Bool)
 deriving DecidableEq
def cmpL : List UInt8 -> List UInt8 -> Ordering
 | [], [] => .eq
 | [], _ :: _ => .lt
 | _ :: _, [] => .gt
 | a :: s, b :: t => if a < b then .lt else if b < a then .gt else cmpL s t
abbrev Fg (s : List UInt8) : List UInt8 := Lib.trimRightB s 32
def esc : List UInt8 -> List UInt8
 | [] => []
 | c :: s => if c = 0 then 0 :: 255 :: esc s else c :: esc s
def be : Nat -> Nat -> List UInt8
 | 0, _ => []
 | k + 1, u => UInt8.ofNat (u / 256 ^ k) :: be k (u % 256 ^ k)
def off (n : Int) : Nat := (n + 9223372036854775808).toNat
def inR (n : Int) : Prop := -9223372036854775808 <= n /\ n <= 9223372036854775807
def enc1 : V -> List UInt8
 | .null => [1]
 | .num n => 2 :: be 8 (off n)
 | .text s => 3 :: (esc (Fg s) ++ [0, 0])
 | .bool b => [4, if b then 1 else 0]
def encL (l : List V) : List UInt8 := l.flatMap enc1
def V.ok : V -> Prop
 | .num n => inR n
 | _ => True
def rank : V -> Nat
 | .null => 0
 | .num _ => 1
 | .text _ => 2
 | .bool _ => 3
def ordV : V -> V -> Ordering
 | .null, .null => .eq
 | .num a, .num b => compare a b
 | .text s, .text t => cmpL (Fg s) (Fg t)
 | .bool a, .bool b => compare a.toNat b.toNat
 | a, b => compare (rank a) (rank b)
theorem Ny (a b : UInt8) (s t : List UInt8) : cmpL (a :: s) (b :: t) = if a < b then .lt else if b < a then .gt else cmpL s t := rfl
theorem N1 (a : UInt8) (s t : List UInt8) : cmpL (a :: s) (a :: t) = cmpL s t := by
 have : ¬ a < a := UInt8.lt_irrefl a
 simp [Ny, this]
theorem Of {a b : UInt8} (h : a < b) (s t : List UInt8) : cmpL (a :: s) (b :: t) = .lt := by simp [Ny, h]
theorem T0 {a b : UInt8} (h : b < a) (s t : List UInt8) : cmpL (a :: s) (b :: t) = .gt := by
 have : ¬ a < b := UInt8.lt_asymm h
 simp [Ny, h, this]
theorem cmpL_eq : ∀ {s t : List UInt8}, cmpL s t = .eq ↔ s = t
 | [], [] => by simp [cmpL]
 | [], _ :: _ => by simp [cmpL]
 | _ :: _, [] => by simp [cmpL]
 | a :: s, b :: t => by
   rw [Ny]
   by_cases h1 : a < b
   · have : a ≠ b := fun h => UInt8.lt_irrefl b (h ▸ h1)
     simp [h1, this]
   · by_cases h2 : b < a
     · have : a ≠ b := fun h => UInt8.lt_irrefl b (h ▸ h2)
       simp [h1, h2, this]
     · have : a = b := UInt8.le_antisymm (UInt8.not_lt.1 h2) (UInt8.not_lt.1 h1)
       simp [h1, h2, this, cmpL_eq]
theorem Qk1 {a b : Nat} (ha : a < 256) (hb : b < 256) : UInt8.ofNat a < UInt8.ofNat b ↔ a < b := by
 rw [UInt8.lt_iff_toNat_lt, UInt8.toNat_ofNat_of_lt' ha, UInt8.toNat_ofNat_of_lt' hb]
theorem Qda {k u : Nat} (h : u < 256 ^ (k + 1)) : u / 256 ^ k < 256 := by
 rw [Nat.div_lt_iff_lt_mul (Nat.pow_pos (by decide))]
 rw [Nat.pow_succ, Nat.mul_comm] at h
 exact h
theorem Qwg : ∀ (k u v : Nat) (p q : List UInt8), u < 256 ^ k -> v < 256 ^ k -> cmpL (be k u ++ p) (be k v ++ q) = (compare u v).then (cmpL p q)
 | 0, u, v, p, q, hu, hv => by
   have hu0 : u = 0 := by simpa using hu
   have hv0 : v = 0 := by simpa using hv
   subst hu0 hv0
   simp [be]
 | k + 1, u, v, p, q, hu, hv => by
   have hm : 0 < 256 ^ k := Nat.pow_pos (by decide)
   have h1 := Qda hu
   have h2 := Qda hv
   have e1 := Nat.div_add_mod u (256 ^ k)
   have e2 := Nat.div_add_mod v (256 ^ k)
   have m1 := Nat.mod_lt u hm
   have m2 := Nat.mod_lt v hm
   simp only [be, List.cons_append, Ny, Qk1 h1 h2, Qk1 h2 h1]
   by_cases hlt : u / 256 ^ k < v / 256 ^ k
   · have : u < v := by
       have : 256 ^ k * (u / 256 ^ k) + 256 ^ k <= 256 ^ k * (v / 256 ^ k) := by
         rw [<- Nat.mul_succ]; exact Nat.mul_le_mul_left _ hlt
       omega
     simp [hlt, Nat.compare_eq_lt.2 this]
   · by_cases hgt : v / 256 ^ k < u / 256 ^ k
     · have : v < u := by
         have : 256 ^ k * (v / 256 ^ k) + 256 ^ k <= 256 ^ k * (u / 256 ^ k) := by
           rw [<- Nat.mul_succ]; exact Nat.mul_le_mul_left _ hgt
         omega
       simp [hlt, hgt, Nat.compare_eq_gt.2 this]
     · have heq : u / 256 ^ k = v / 256 ^ k := by omega
       rw [if_neg hlt, if_neg hgt, Qwg k _ _ p q m1 m2]
       congr 1
       have hc : compare (u % 256 ^ k) (v % 256 ^ k) = compare u v := by
         rw [heq] at e1
         rcases Nat.lt_trichotomy u v with h | h | h
         · rw [Nat.compare_eq_lt.2 h, Nat.compare_eq_lt.2 (by omega)]
         · subst h; rw [Nat.compare_eq_eq.2 rfl, Nat.compare_eq_eq.2 rfl]
         · rw [Nat.compare_eq_gt.2 h, Nat.compare_eq_gt.2 (by omega)]
       exact hc
theorem Qrf : ∀ (s t p q : List UInt8), cmpL (esc s ++ ([0, 0] ++ p)) (esc t ++ ([0, 0] ++ q)) = (cmpL s t).then (cmpL p q)
 | [], [], p, q => by simp [esc, N1, cmpL]
 | [], d :: t, p, q => by
   by_cases hd : d = 0
   · subst hd
     have : (0 : UInt8) < 255 := by decide
     simp [esc, N1, Of this, cmpL]
   · have : (0 : UInt8) < d := by
       rcases UInt8.lt_or_lt_of_ne (Ne.symm hd) with h | h
       · exact h
       · exact absurd h (by simp)
     simp [esc, hd, Of this, cmpL]
 | c :: s, [], p, q => by
   by_cases hc : c = 0
   · subst hc
     have : (0 : UInt8) < 255 := by decide
     simp [esc, N1, T0 this, cmpL]
   · have : (0 : UInt8) < c := by
       rcases UInt8.lt_or_lt_of_ne (Ne.symm hc) with h | h
       · exact h
       · exact absurd h (by simp)
     simp [esc, hc, T0 this, cmpL]
 | c :: s, d :: t, p, q => by
   have ih := Qrf s t p q
   by_cases hc : c = 0
   · by_cases hd : d = 0
     · subst hc hd
       simp only [esc, if_true, List.cons_append, N1]
       exact ih
     · have : (0 : UInt8) < d := by
         rcases UInt8.lt_or_lt_of_ne (Ne.symm hd) with h | h
         · exact h
         · exact absurd h (by simp)
       subst hc
       simp [esc, hd, Of this]
   · by_cases hd : d = 0
     · have : (0 : UInt8) < c := by
         rcases UInt8.lt_or_lt_of_ne (Ne.symm hc) with h | h
         · exact h
         · exact absurd h (by simp)
       subst hd
       simp [esc, hc, T0 this]
     · simp only [esc, hc, hd, if_false, List.cons_append, Ny]
       by_cases h1 : c < d
       · simp [h1]
       · by_cases h2 : d < c
         · simp [h1, h2]
         · simp only [h1, h2, if_false]
           exact ih
theorem Qkz {n : Int} (h : inR n) : off n < 256 ^ 8 := by
 unfold off inR at *
 have : (256 : Nat) ^ 8 = 18446744073709551616 := by decide
 omega
theorem Qyf {a b : Int} (ha : inR a) (hb : inR b) : compare (off a) (off b) = compare a b := by
 unfold off inR at *
 rcases Int.lt_trichotomy a b with h | h | h
 · rw [Int.compare_eq_lt.2 h, Nat.compare_eq_lt.2 (by omega)]
 · subst h; simp
 · rw [Int.compare_eq_gt.2 h, Nat.compare_eq_gt.2 (by omega)]
theorem Qd0 (a b : V) (p q : List UInt8) (ha : a.ok) (hb : b.ok) : cmpL (enc1 a ++ p) (enc1 b ++ q) = (ordV a b).then (cmpL p q) := by
 cases a with
 | null =>
   cases b with
   | null => simp [enc1, N1, ordV]
   | num n => simp [enc1, ordV, rank, Of (show (1 : UInt8) < 2 by decide)]; rfl
   | text s => simp [enc1, ordV, rank, Of (show (1 : UInt8) < 3 by decide)]; rfl
   | bool b => simp [enc1, ordV, rank, Of (show (1 : UInt8) < 4 by decide)]; rfl
 | num m =>
   cases b with
   | null => simp [enc1, ordV, rank, T0 (show (1 : UInt8) < 2 by decide)]; rfl
   | num n =>
     simp only [enc1, List.cons_append, N1, ordV]
     rw [Qwg 8 _ _ _ _ (Qkz ha) (Qkz hb), Qyf ha hb]
   | text s => simp [enc1, ordV, rank, Of (show (2 : UInt8) < 3 by decide)]; rfl
   | bool b => simp [enc1, ordV, rank, Of (show (2 : UInt8) < 4 by decide)]; rfl
 | text s =>
   cases b with
   | null => simp [enc1, ordV, rank, T0 (show (1 : UInt8) < 3 by decide)]; rfl
   | num n => simp [enc1, ordV, rank, T0 (show (2 : UInt8) < 3 by decide)]; rfl
   | text t =>
     simp only [enc1, List.cons_append, N1, ordV, List.append_assoc]
     exact Qrf _ _ _ _
   | bool b => simp [enc1, ordV, rank, Of (show (3 : UInt8) < 4 by decide)]; rfl
 | bool c =>
   cases b with
   | null => simp [enc1, ordV, rank, T0 (show (1 : UInt8) < 4 by decide)]; rfl
   | num n => simp [enc1, ordV, rank, T0 (show (2 : UInt8) < 4 by decide)]; rfl
   | text s => simp [enc1, ordV, rank, T0 (show (3 : UInt8) < 4 by decide)]; rfl
   | bool d =>
     cases c <;> cases d <;> simp [enc1, N1, ordV, Of (show (0 : UInt8) < 1 by decide), T0 (show (0 : UInt8) < 1 by decide)] <;> rfl
def Qup : List V -> List V -> Bool
 | _, [] => true
 | [], _ :: _ => false
 | b :: z, a :: x => ordV b a == .eq && Qup z x
end Go.Ab.Key
namespace Go.Ab.Plan
open Go Go.Ab Go.Proofs
def Qco : List PV := [.str [], .int .i64 0, .int .i64 0, .str [115, 109, 97, 108, 108, 105, 110, 116], .int .i64 1, .int .i64 16, .str [105, 110, 116, 101, 103, 101, 114], .int .i64 1, .int .i64 32,
 .str [98, 105, 103, 105, 110, 116], .int .i64 1, .int .i64 64, .str [99, 104, 97, 114], .int .i64 2, .int .i64 0, .str [118, 97, 114, 99, 104, 97, 114], .int .i64 2, .int .i64 0, .str [98, 111, 111, 108, 101, 97, 110], .int .i64 3, .int .i64 0]
def G : Bx := fun x => if x = 0 then some Qco else none
section
variable [Q4]
end
def isT : Option (CRes × Heap) -> Bool
 | some (.ret (.p (.bool true)), _) => true
 | _ => false
end Go.Ab.Plan
namespace Go.Ab.Plan
open Go Go.Ab Go.Proofs Go.Proofs.YtikebbklkiodlaaGreatDoor Go.ChangeShapes Go.RowKit Go.Deep
section
variable [Q4]
variable {H : Type} {enc : TypeId × Value -> H} {w : World} {base : Nat} {sp : Nat -> Bool} {held : Bool} {fuel : Nat}
theorem Qo0 {cs : List Value} {s : List UInt8} {k b : Int} {p : List MemPlace} (h : DataW.trod enc Tryz.prog w base sp held fuel 109 cs = some (.agg [.lit (.string s), .lit (.int .i64 k), .lit (.int .i64 b)], p)) :
   ∃ s' : ByteArray, s'.data.toList = s /\ cs = [.string s', .int .i64 k, .int .i64 b] := by
 obtain ⟨y0, y1, y2, n, hx, hl, h0, h1, h2⟩ := trod_struct3 (t := 109) (P := Tryz.prog) Tryz.underlying109 h
 have c109 : Tryz.prog.cellsOf 109 = 3 := by kernel_rfl
 rw [c109] at hl
 obtain ⟨a0, a1, a2, rfl⟩ := Qso hl
 have c9 : Tryz.prog.cellsOf 9 = 1 := by kernel_rfl
 have c52 : Tryz.prog.cellsOf 52 = 1 := by kernel_rfl
 have c3 : Tryz.prog.cellsOf 3 = 1 := by kernel_rfl
 obtain ⟨s', e0, r0, _⟩ := DataW.trod_string Tryz.underlying9 h0
 obtain ⟨k', e1, r1, _⟩ := DataW.trod_int Tryz.underlying52 h1
 obtain ⟨b', e2, r2, _⟩ := DataW.trod_int Tryz.underlying3 h2
 simp only [c9, c52, c3, List.drop_succ_cons, List.drop_zero, List.take_succ_cons, List.take_zero, List.cons.injEq, and_true] at e0 e1 e2
 subst e0 e1 e2
 rw [r0, r1, r2] at hx
 simp only [Prod.mk.injEq, DataW.agg.injEq, List.cons.injEq, DataW.lit.injEq, Lit.string.injEq, Lit.int.injEq, and_true, true_and] at hx
 obtain ⟨⟨h1, h2, h3⟩, _⟩ := hx
 exact ⟨s', h1.symm, by rw [h2, h3]⟩
theorem Qib {cs : List Value} {p : List MemPlace} (h : DataW.trod enc Tryz.prog w base sp held fuel 110 cs = some (Rows.laid_stile_types_bases, p)) :
   ∀ (j : Nat) v, Qco[j]? = some v -> ∃ c, cs[j]? = some c /\ one c = true /\ ∀ S, RepP S w v c := by
 obtain ⟨xs, m, _, hx, hl, hlen, hel⟩ := DataW.trod_array (P := Tryz.prog) Tryz.underlying110 h
 have c110 : Tryz.prog.cellsOf 110 = 21 := by kernel_rfl
 have c109 : Tryz.prog.cellsOf 109 = 3 := by kernel_rfl
 rw [c109] at hel
 simp only [Prod.mk.injEq] at hx
 have hmap : (xs.map (·.1)) = _ := (DataW.agg.inj hx.1).symm
 have rowi : ∀ (i : Nat) (s : List UInt8) (k b : Int), i < 7 -> (xs.map (·.1))[i]? = some (.agg [.lit (.string s), .lit (.int .i64 k), .lit (.int .i64 b)]) ->
     ∃ s' : ByteArray, s'.data.toList = s /\ cs[3 * i]? = some (.string s') /\ cs[3 * i + 1]? = some (.int .i64 k) /\ cs[3 * i + 2]? = some (.int .i64 b) := by
   intro i s k b hi hd
   have he := hel i hi
   rw [List.getElem?_map, Option.map_eq_some_iff] at hd
   obtain ⟨⟨d, q⟩, h1, h2⟩ := hd
   simp only at h2
   subst h2
   rw [h1] at he
   obtain ⟨s', hs, hc⟩ := Qo0 he
   refine ⟨s', hs, ?_, ?_, ?_⟩
   all_goals
     have g := fun (j : Nat) => congrArg (fun l : List Value => l[j]?) hc
     first
       | (have g0 := g 0; simpa [List.getElem?_take, List.getElem?_drop, Nat.mul_comm] using g0)
       | (have g1 := g 1; simpa [List.getElem?_take, List.getElem?_drop, Nat.mul_comm] using g1)
       | (have g2 := g 2; simpa [List.getElem?_take, List.getElem?_drop, Nat.mul_comm] using g2)
 rw [hmap] at rowi
 obtain ⟨s0, t0, a0, b0, d0⟩ := rowi 0 _ _ _ (by omega) rfl
 obtain ⟨s1, t1, a1, b1, d1⟩ := rowi 1 _ _ _ (by omega) rfl
 obtain ⟨s2, t2, a2, b2, d2⟩ := rowi 2 _ _ _ (by omega) rfl
 obtain ⟨s3, t3, a3, b3, d3⟩ := rowi 3 _ _ _ (by omega) rfl
 obtain ⟨s4, t4, a4, b4, d4⟩ := rowi 4 _ _ _ (by omega) rfl
 obtain ⟨s5, t5, a5, b5, d5⟩ := rowi 5 _ _ _ (by omega) rfl
 obtain ⟨s6, t6, a6, b6, d6⟩ := rowi 6 _ _ _ (by omega) rfl
 intro j v hv
 rcases j with _ | _ | _ | _ | _ | _ | _ | _ | _ | _ | _ | _ | _ | _ | _ | _ | _ | _ | _ | _ | _ | j
 case succ.succ.succ.succ.succ.succ.succ.succ.succ.succ.succ.succ.succ.succ.succ.succ.succ.succ.succ.succ.succ => exact absurd hv (by simp [Qco])
 all_goals
   simp only [Qco] at hv
   obtain rfl := Option.some.inj hv
   first
     | exact ⟨_, a0, rfl, fun _ => .str t0⟩ | exact ⟨_, b0, rfl, fun _ => .int _ _⟩ | exact ⟨_, d0, rfl, fun _ => .int _ _⟩
     | exact ⟨_, a1, rfl, fun _ => .str t1⟩ | exact ⟨_, b1, rfl, fun _ => .int _ _⟩ | exact ⟨_, d1, rfl, fun _ => .int _ _⟩
     | exact ⟨_, a2, rfl, fun _ => .str t2⟩ | exact ⟨_, b2, rfl, fun _ => .int _ _⟩ | exact ⟨_, d2, rfl, fun _ => .int _ _⟩
     | exact ⟨_, a3, rfl, fun _ => .str t3⟩ | exact ⟨_, b3, rfl, fun _ => .int _ _⟩ | exact ⟨_, d3, rfl, fun _ => .int _ _⟩
     | exact ⟨_, a4, rfl, fun _ => .str t4⟩ | exact ⟨_, b4, rfl, fun _ => .int _ _⟩ | exact ⟨_, d4, rfl, fun _ => .int _ _⟩
     | exact ⟨_, a5, rfl, fun _ => .str t5⟩ | exact ⟨_, b5, rfl, fun _ => .int _ _⟩ | exact ⟨_, d5, rfl, fun _ => .int _ _⟩
     | exact ⟨_, a6, rfl, fun _ => .str t6⟩ | exact ⟨_, b6, rfl, fun _ => .int _ _⟩ | exact ⟨_, d6, rfl, fun _ => .int _ _⟩
end
theorem Qr5 [Q4] {W : World} {l : List (String × DataW Unit)} (h : laidMet Tryz.prog l W) (hm : ("stile/types.bases", (Rows.laid_stile_types_bases : DataW Unit)) ∈ l) : GlobOK (Ex W) W G := by
 intro g l hl
 obtain ⟨ps, hv, _⟩ := h
 unfold G at hl
 split at hl
 · obtain rfl := Option.some.inj hl
   obtain ⟨g, t, cs, fuel, p, h1, h2, h3, h4⟩ := Qqf (n := "stile/types.bases") (d := Rows.laid_stile_types_bases) hv hm
   obtain rfl : g = 0 := (Option.some.inj (h1.symm.trans (show Tryz.prog.globalNamed "stile/types.bases" = some 0 by kernel_rfl)))
   obtain rfl : t = 110 := (Option.some.inj (h2.symm.trans (show (Tryz.prog.globals[0]?).map (·.type) = some 110 by kernel_rfl)))
   rename_i hg0
   subst hg0
   refine Qua h1 h3 ?_ (by decide) fun j v hj => ?_
   · obtain ⟨_, _, _, _, hl, _⟩ := DataW.trod_array (P := Tryz.prog) Tryz.underlying110 h4
     rw [show Tryz.prog.cellsOf 110 = 21 by kernel_rfl] at hl
     simpa [Qco] using hl
   · obtain ⟨c, k1, k2, k3⟩ := Qib h4 j v hj
     exact ⟨c, by simpa using k1, k2, k3 _⟩
 · cases hl
end Go.Ab.Plan
namespace Go.Ab
variable [Q4]
theorem B8 {C : Zj} {i : Nat} {o : AOper} {r : List AOper} {s : Tr} {st1 : St} {M1 : Env} {W : List Nat} (hw : Hv o.guard (B4 s.st.env (Yw o)) = some true) (hE : isE o.op = true)
   (h : Me C [o] { s.st with env := B4 s.st.env (Yw o) } = some (.normal, st1)) (hc : Sp s.st.env o.dst st1.env = M1) (hW : Nz (B4 s.st.env (Yw o)) s.st.heap o.op = W) :
   Zy C i (o :: r) s = Zy C (i + 1) r ⟨⟨M1, st1.defers, st1.heap⟩, s.rds, (i, s.st.heap.length, W) :: s.wrs⟩ := by
 subst hc hW
 simp only [Zy, hw, hE, h]
theorem Zf {C : Zj} {i : Nat} {o : AOper} {r : List AOper} {s : Tr} {v : AV} (hw : Hv o.guard (B4 s.st.env (Yw o)) = some true) (hE : isE o.op = false)
   (h : Fj (B4 s.st.env (Yw o)) s.st.heap o.op = some (v, none)) :
   Zy C i (o :: r) s = Zy C (i + 1) r ⟨⟨putE s.st.env o.dst v, s.st.defers, s.st.heap⟩, s.rds, s.wrs⟩ := by
 simp only [Zy, hw, hE, h]
theorem Eu {C : Zj} {i id : Nat} {o : AOper} {r : List AOper} {s : Tr} {v : AV} (hw : Hv o.guard (B4 s.st.env (Yw o)) = some true) (hE : isE o.op = false)
   (h : Fj (B4 s.st.env (Yw o)) s.st.heap o.op = some (v, some id)) :
   Zy C i (o :: r) s = Zy C (i + 1) r ⟨⟨putE s.st.env o.dst v, s.st.defers, s.st.heap⟩, (i, id) :: s.rds, s.wrs⟩ := by
 simp only [Zy, hw, hE, h]
theorem Xb {C : Zj} {i : Nat} {o : AOper} {r : List AOper} {s : Tr} (hw : Hv o.guard (B4 s.st.env (Yw o)) = some false) :
   Zy C i (o :: r) s = Zy C (i + 1) r ⟨⟨putE s.st.env o.dst (.p .undef), s.st.defers, s.st.heap⟩, s.rds, s.wrs⟩ := by
 simp only [Zy, hw]
theorem L9 {C : Zj} {L n : Nat} {anc : List Nat} {ops : List AOper} {st : St} {s : Tr} (h : Zy C 0 ops ⟨st, [], []⟩ = some (none, s)) (hok : okRW anc ops s = true) : exec C L (.draw n anc ops) st = some (.normal, s.st) := by
 simp only [exec, xh, h, if_pos hok]
theorem Ru {anc : List Nat} {ops : List AOper} {st : St} {rds : List (Nat × Nat)} : okRW anc ops ⟨st, rds, []⟩ = true := by
 simp [okRW]
theorem blkA {C : Zj} {L k : Nat} {a b c : Q0} {st st1 : St} (h : exec C L a st = some (.normal, st1)) : exec C L (.seq (.block k (.seq a b)) c) st = exec C L (.seq (.block k b) c) st1 := by
 simp only [exec, h]
theorem blkN {C : Zj} {L k : Nat} {b c : Q0} {st st2 : St} (h : exec C L (.seq b c) st = some (.normal, st2)) : exec C L (.seq (.block k b) c) st = some (.normal, st2) := by
 simp only [exec] at h ⊢
 generalize exec C L b st = z at h ⊢
 match z, h with
 | some (.normal, st), h => exact h
theorem Zn {C : Zj} {L : Nat} {a b c : Q0} {st : St} : exec C L (.seq a (.seq b c)) st = exec C L (.seq (.seq a b) c) st := by
 simp only [exec]
 cases exec C L a st with
 | none => rfl
 | some r =>
   obtain ⟨e, s⟩ := r
   cases e <;> rfl
end Go.Ab
namespace Go.Ab.Turn
abbrev Word := List UInt8
inductive T where
 | mk (op s : Word) (n : Int) (l : List T)
def T.op : T -> Word
 | .mk op _ _ _ => op
def T.s : T -> Word
 | .mk _ s _ _ => s
def T.n : T -> Int
 | .mk _ _ n _ => n
def T.l : T -> List T
 | .mk _ _ _ l => l
abbrev wAnd : Word := [97, 110, 100]
abbrev Oh : Word := [115, 108, 111, 116]
abbrev wEq : Word := [61]
abbrev wLt : Word := [60]
abbrev wLe : Word := [60, 61]
abbrev wGt : Word := [62]
abbrev wGe : Word := [62, 61]
def flip (w : Word) : Word := if w = wLt then wGt else if w = wLe then wGe else if w = wGt then wLt else if w = wGe then wLe else w
def Hc (w : Word) : Bool := w == wEq || w == wLt || w == wLe || w == wGt || w == wGe
theorem Qdf {w : Word} (h : Hc w = false) : flip w = w := by
 simp [Hc] at h
 obtain ⟨⟨⟨⟨_, h2⟩, h3⟩, h4⟩, h5⟩ := h
 simp [flip, h2, h3, h4, h5]
theorem Qfq {w : Word} (h : Hc w = true) : flip (flip w) = w /\ Hc (flip w) = true := by
 simp [Hc] at h
 rcases h with (((rfl | rfl) | rfl) | rfl) | rfl <;> decide
theorem Qzn (v : Word) (hv : Hc v = false) (w : Word) : flip w = v ↔ w = v := by
 cases h : Hc w with
 | false => rw [Qdf h]
 | true =>
   constructor
   · intro e
     have := (Qfq h).2
     rw [e, hv] at this
     cases this
   · intro e
     rw [e, hv] at h
     cases h
mutual
def Jo : T -> List T
 | .mk op s n l => if op = wAnd /\ l.length = 2 then N7 l else [.mk op s n l]
def N7 : List T -> List T
 | [] => []
 | t :: r => Jo t ++ N7 r
end
mutual
def trn : T -> T
 | .mk op s n l => .mk (if l.length = 2 then flip op else op) s n (if l.length = 2 /\ Hc op = true then (trnL l).reverse else trnL l)
def trnL : List T -> List T
 | [] => []
 | t :: r => trn t :: trnL r
end
theorem Qac : ∀ l : List T, (trnL l).length = l.length
 | [] => rfl
 | t :: r => by simp [trnL, Qac r]
theorem P9 (v : Word) (hv : Hc v = false) (t : T) : (trn t).op = v ↔ t.op = v := by
 cases t with
 | mk op s n l =>
   simp only [trn, T.op]
   split
   · exact Qzn v hv op
   · exact Iff.rfl
theorem Qy0 (t : T) : (trn t).n = t.n := by cases t; simp [trn, T.n]
theorem trn_s (t : T) : (trn t).s = t.s := by cases t; simp [trn, T.s]
inductive Lit where
 | num (n : Int) | text (s : Word) | bool (n : Int)
 deriving DecidableEq
abbrev wNum : Word := [110, 117, 109]
abbrev Qs4 : Word := [116, 101, 120, 116]
abbrev Qrs : Word := [98, 111, 111, 108]
abbrev wNeg : Word := [110, 101, 103]
def negI (n : Int) : Int := if n = -9223372036854775808 then n else -n
def lit (t : T) : Option Lit :=
 if t.op = wNum then some (.num t.n) else if t.op = Qs4 then some (.text t.s) else if t.op = Qrs then some (.bool t.n)
 else if t.op = wNeg then (match t.l with
   | [z] => if z.op = wNum then some (.num (negI z.n)) else none
   | _ => none)
 else none
theorem Qzb (op s : Word) (n : Int) (z : T) : (trn (.mk op s n [z])).l = [trn z] := by
 simp [trn, trnL, T.l]
theorem lit_trn (t : T) : lit (trn t) = lit t := by
 unfold lit
 have h1 := P9 wNum rfl t
 have h2 := P9 Qs4 rfl t
 have h3 := P9 Qrs rfl t
 have h4 := P9 wNeg rfl t
 simp only [h1, h2, h3, h4, Qy0, trn_s]
 have h5 : (match (trn t).l with
   | [z] => if z.op = wNum then some (Lit.num (negI z.n)) else none
   | _ => none) = (match t.l with
   | [z] => if z.op = wNum then some (Lit.num (negI z.n)) else none
   | _ => none) := by
   cases t with
   | mk op s n l =>
     match l with
     | [] => simp [trn, trnL, T.l]
     | [z] =>
       rw [Qzb]
       simp only [T.l]
       have hz := P9 wNum rfl z
       simp only [hz, Qy0]
     | [a, b] =>
       have : (trn (.mk op s n [a, b])).l = [trn a, trn b] ∨ (trn (.mk op s n [a, b])).l = [trn b, trn a] := by
         simp only [trn, trnL, T.l]
         split
         · exact .inr rfl
         · exact .inl rfl
       rcases this with h | h <;> rw [h] <;> rfl
     | a :: b :: c :: r =>
       have : (trn (.mk op s n (a :: b :: c :: r))).l = trn a :: trn b :: trn c :: trnL r := by
         simp [trn, trnL, T.l]
       rw [this]
       rfl
 rw [h5]
structure Cl where
 col : Nat
 op : Word
 v : Lit
def read (sl : Int -> Lit -> Option Nat) (t : T) : Option Cl := match t with
 | .mk op _ _ [x, y] => if Hc op = true then (
     if x.op = Oh then (match lit y with
       | some v => (sl x.n v).map fun c => ⟨c, op, v⟩
       | none => none)
     else if y.op = Oh then (match lit x with
       | some v => (sl y.n v).map fun c => ⟨c, flip op, v⟩
       | none => none)
     else none) else none
 | _ => none
theorem lit_slot {t : T} (h : t.op = Oh) : lit t = none := by
 unfold lit
 rw [h]
 simp
theorem Qtu (sl : Int -> Lit -> Option Nat) (t : T) : read sl (trn t) = read sl t := by
 cases t with
 | mk op s n l =>
   match l with
   | [] => simp [trn, trnL, read]
   | [z] => simp [trn, trnL, read]
   | [x, y] =>
     cases hc : Hc op with
     | false =>
       have e : trn (.mk op s n [x, y]) = .mk op s n [trn x, trn y] := by simp [trn, trnL, hc, Qdf hc]
       rw [e]
       simp [read, hc]
     | true =>
       obtain ⟨f1, f2⟩ := Qfq hc
       have e : trn (.mk op s n [x, y]) = .mk (flip op) s n [trn y, trn x] := by simp [trn, trnL, hc]
       rw [e]
       have hx := P9 Oh rfl x
       have hy := P9 Oh rfl y
       simp only [read, f2, if_true, hc, hx, hy, lit_trn, Qy0, f1]
       by_cases hxs : x.op = Oh
       · by_cases hys : y.op = Oh
         · simp only [hxs, hys, if_true, lit_slot hxs, lit_slot hys]
         · simp only [hxs, hys, if_true, if_false]
       · by_cases hys : y.op = Oh
         · simp only [hxs, hys, if_true, if_false]
         · simp only [hxs, hys, if_false]
   | a :: b :: c :: r => simp [trn, trnL, read]
mutual
theorem Qts (sl : Int -> Lit -> Option Nat) : ∀ t : T, (Jo (trn t)).filterMap (read sl) = (Jo t).filterMap (read sl)
 | .mk op s n l => by
   by_cases h : op = wAnd /\ l.length = 2
   · obtain ⟨rfl, hl⟩ := h
     have e : trn (.mk wAnd s n l) = .mk wAnd s n (trnL l) := by
       have h1 : Hc wAnd = false := rfl
       have h2 : flip wAnd = wAnd := by decide
       simp [trn, hl, h1, h2]
     rw [e]
     unfold Jo
     rw [if_pos ⟨rfl, by rw [Qac]; exact hl⟩, if_pos ⟨rfl, hl⟩]
     exact Qhe sl l
   · have e1 : Jo (.mk op s n l) = [.mk op s n l] := by
       unfold Jo
       rw [if_neg h]
     have e2 : Jo (trn (.mk op s n l)) = [trn (.mk op s n l)] := by
       have h3 : ¬ ((trn (.mk op s n l)).op = wAnd /\ (trn (.mk op s n l)).l.length = 2) := by
         rintro ⟨h4, h5⟩
         refine h ⟨(P9 wAnd rfl (.mk op s n l)).1 h4, ?_⟩
         simp only [trn, T.l] at h5
         split at h5
         · rw [List.length_reverse, Qac] at h5; exact h5
         · rw [Qac] at h5; exact h5
       generalize trn (.mk op s n l) = u at *
       cases u with
       | mk o' s' n' l' =>
         unfold Jo
         exact if_neg h3
     rw [e1, e2]
     simp only [List.filterMap_cons, List.filterMap_nil, Qtu]
theorem Qhe (sl : Int -> Lit -> Option Nat) : ∀ l : List T, (N7 (trnL l)).filterMap (read sl) = (N7 l).filterMap (read sl)
 | [] => rfl
 | t :: r => by
   simp only [trnL, N7, List.filterMap_append]
   rw [Qts sl t, Qhe sl r]
end
end Go.Ab.Turn
namespace Go.Ab.Turn
def le : Word -> Word -> Bool
 | [], _ => true
 | _ :: _, [] => false
 | a :: x, b :: y => if a < b then true else if b < a then false else le x y
theorem le_refl : ∀ x : Word, le x x = true
 | [] => rfl
 | a :: x => by
   unfold le
   have h : ¬ a < a := UInt8.lt_irrefl a
   simp [h, le_refl x]
theorem le_total : ∀ x y : Word, le x y = false -> le y x = true
 | [], y, h => by simp [le] at h
 | a :: x, [], h => rfl
 | a :: x, b :: y, h => by
   unfold le at h ⊢
   by_cases h1 : a < b
   · simp [h1] at h
   · by_cases h2 : b < a
     · simp [h2]
     · simp only [h1, h2, if_false] at h ⊢
       exact le_total x y h
theorem le_trans : ∀ x y z : Word, le x y = true -> le y z = true -> le x z = true
 | [], y, z, _, _ => by simp [le]
 | a :: x, [], z, h, _ => by simp [le] at h
 | a :: x, b :: y, [], _, h => by simp [le] at h
 | a :: x, b :: y, c :: z, h, k => by
   unfold le at h k ⊢
   by_cases h1 : a < b
   · by_cases h2 : b < c
     · simp [UInt8.lt_trans h1 h2]
     · by_cases h3 : c < b
       · simp [h2, h3] at k
       · have : b = c := UInt8.le_antisymm (UInt8.not_lt.1 h3) (UInt8.not_lt.1 h2)
         subst this
         simp [h1]
   · by_cases h2 : b < a
     · simp [h1, h2] at h
     · have : a = b := UInt8.le_antisymm (UInt8.not_lt.1 h2) (UInt8.not_lt.1 h1)
       subst this
       simp only [h1, if_false] at h
       by_cases h3 : a < c
       · simp [h3]
       · by_cases h4 : c < a
         · simp [h3, h4] at k
         · simp only [h3, h4, if_false] at k ⊢
           exact le_trans x y z h k
def maxW (x y : Word) : Word := if le x y = true then y else x
def minW (x y : Word) : Word := if le x y = true then x else y
structure Bd where
 lo : Word
 hi : Word
 some : Bool
section
variable (enc above : Lit -> Word) (col : Nat)
def Rq (p : Bd) (c : Cl) : Bd :=
 if c.col ≠ col ∨ c.op = wEq then p
 else if c.op = wGt ∨ c.op = wGe then ⟨maxW p.lo (enc c.v), p.hi, true⟩
 else ⟨p.lo, minW p.hi (above c.v), true⟩
end
def Jj : List Nat -> List Cl -> List Lit
 | [], _ => []
 | c :: ks, l => match l.find? fun x => x.col == c && x.op == wEq with
   | none => []
   | some x => x.v :: Jj ks l
end Go.Ab.Turn
