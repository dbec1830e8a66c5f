/- V1 -/
import Derived.Test.YtikebbklkiodlaaGreatDoorAbE2
import Derived.KernelRfl
set_option maxRecDepth 1000000
set_option linter.all false
namespace Go.Ab.Cnt
open Go Go.Ab Go.Ab.Key
variable [Q4]
theorem seqN {C : Zj} {L : Nat} {a b : Q0} {st st1 : St} (h : exec C L a st = some (.normal, st1)) : exec C L (.seq a b) st = exec C L b st1 := by
 simp only [exec, h]
theorem seqR {C : Zj} {L : Nat} {a b : Q0} {st st1 : St} (h : exec C L a st = some (.ret, st1)) : exec C L (.seq a b) st = some (.ret, st1) := by
 simp only [exec, h]
theorem seqX {C : Zj} {L id : Nat} {a b : Q0} {st st1 : St} (h : exec C L a st = some (.exit id, st1)) : exec C L (.seq a b) st = some (.exit id, st1) := by
 simp only [exec, h]
theorem y5 {C : Zj} {L : Nat} {c : Opd} {a b : Q0} {st : St} (h : ev st.env c = some (.p (.bool true))) : exec C L (.cond c a b) st = exec C L a st := by
 simp only [exec, h]
theorem Tv {C : Zj} {L : Nat} {c : Opd} {a b : Q0} {st : St} (h : ev st.env c = some (.p (.bool false))) : exec C L (.cond c a b) st = exec C L b st := by
 simp only [exec, h]
theorem Lp {C : Zj} {L id : Nat} {b : Q0} {st st1 : St} (h : exec C L b st = some (.normal, st1)) : exec C L (.block id b) st = some (.normal, st1) := by
 simp only [exec, h]
theorem F0 {C : Zj} {L id : Nat} {b : Q0} {st st1 : St} (h : exec C L b st = some (.exit id, st1)) : exec C L (.block id b) st = some (.normal, st1) := by
 simp only [exec, h, if_true]
theorem E5 {C : Zj} {L id : Nat} {b : Q0} {st st1 : St} (h : exec C L b st = some (.ret, st1)) : exec C L (.block id b) st = some (.ret, st1) := by
 simp only [exec, h]
def finX (D : Yo) (af : Q2) : Option (AExit × St) -> Option (CRes × Heap)
 | some (.pan v, st) => finA D af st (some v)
 | some (.normal, st) => finA D af st none
 | some (.ret, st) => finA D af st none
 | _ => none
theorem Zp (C : Zj) (D : Yo) (L : Nat) (af : Q2) (args : List AV) (σ : Heap) : Z8 C D L af args σ = finX D af (exec C L af.body ⟨params 0 args, [], σ⟩) := rfl
theorem J5 (n : Int) (h1 : -9223372036854775808 <= n) (h2 : n <= 9223372036854775807) : IntKind.i64.wrap n = n := by
 simp only [IntKind.wrap, IntKind.bits, IntKind.signed]
 simp
 split <;> omega
def vc : V -> List PV
 | .null => [.int .i64 0, .int .i64 0, .str [], .bool false]
 | .num n => [.int .i64 1, .int .i64 n, .str [], .bool false]
 | .text s => [.int .i64 2, .int .i64 0, .str s, .bool false]
 | .bool b => [.int .i64 3, .int .i64 0, .str [], .bool b]
def vcs (l : List V) : List PV := (l.map vc).flatten
theorem Qwq (v : V) : (vc v).length = 4 := by cases v <;> rfl
theorem Lw (l : List V) : (vcs l).length = l.length * 4 := by
 induction l with
 | nil => rfl
 | cons v r ih => simp only [vcs, List.map_cons, List.flatten_cons, List.length_append, Qwq, List.length_cons] at *; omega
theorem Qis {α : Type} (f : α -> List PV) (hf : ∀ x, (f x).length = 4) : ∀ (l : List α) (i : Nat) (x : α), l[i]? = some x -> ((l.map f).flatten.drop (i * 4)).take 4 = f x
 | [], i, x, h => by simp at h
 | y :: r, 0, x, h => by
   simp at h
   subst h
   simp only [List.map_cons, List.flatten_cons, Nat.zero_mul, List.drop_zero]
   rw [<- hf y, List.take_left]
 | y :: r, i + 1, x, h => by
   have ih := Qis f hf r i x (by simpa using h)
   simp only [List.map_cons, List.flatten_cons]
   rw [show (i + 1) * 4 = (f y).length + i * 4 from by rw [hf]; omega, List.drop_append, List.drop_eq_nil_of_le (by omega)]
   simpa using ih
def VBuf (σ : Heap) (b : AV) (l : List V) : Prop := (b = .nil0 /\ l = []) ∨ l ≠ [] /\ ∃ id ver, b = .sl id ver 0 l.length 4 /\ σ[id]? = some (.arr (.pv (vcs l)) ver 0 (some 39))
theorem Qaf (l : List V) (v : V) : vcs (l ++ [v]) = vcs l ++ vc v := by simp [vcs]
theorem Qct (l : List V) (i : Nat) (v : V) (h : l[i]? = some v) : ((vcs l).drop (i * 4)).take 4 = vc v := Qis vc Qwq l i v h
def NB (b : AV) (j : Nat) : Prop := ∀ id ver off len esz, b = .sl id ver off len esz -> id ≠ j
def SlAt (σ : Heap) (v : AV) (x : List V) : Prop := (v = .nil0 /\ x = []) ∨ ∃ id ver wm rest ty, v = .sl id ver 0 x.length 4 /\ σ[id]? = some (.arr (.pv (vcs x ++ rest)) ver wm ty)
def Keeps (σ σ' : Heap) : Prop := ∀ v x, SlAt σ v x -> SlAt σ' v x
theorem Keeps.refl (σ : Heap) : Keeps σ σ := fun _ _ h => h
theorem Keeps.trans {σ1 σ2 σ3 : Heap} (h : Keeps σ1 σ2) (k : Keeps σ2 σ3) : Keeps σ1 σ3 := fun v x q => k v x (h v x q)
theorem Keeps.push (σ : Heap) (o : Obj) : Keeps σ (σ ++ [o]) := by
 rintro v x (h | ⟨id, ver, wm, rest, ty, rfl, ho⟩)
 · exact .inl h
 · exact .inr ⟨id, ver, wm, rest, ty, rfl, by rw [List.getElem?_append_left (List.getElem?_eq_some_iff.1 ho).1]; exact ho⟩
theorem Qrb {σ : Heap} {v : AV} {x : List V} (h : SlAt σ v x) : ∀ id ver n, v = .sl id ver 0 n 4 -> (Eo σ [v]).contains id = true := by
 intro id ver n hv
 rcases h with ⟨rfl, _⟩ | ⟨id', ver', wm, rest, ty, rfl, ho⟩
 · cases hv
 · cases hv
   simp [Eo, idsL, idsV, D9, idsO, ho]
theorem jg {T : Ld} {L n f : Nat} {af : Q2} {as0 : List AV} {ps : List PV} {σ σ1 : Heap} (hT : T f = some (.code af true)) (hf : frzA (Eo σ as0) 9 σ as0 = (ps.map .p, σ1)) :
   (cAt T L (n + 1)).1 f as0 σ = (cAt T L (n + 1)).1 f (ps.map .p) σ1 := by
 simp only [cAt, w6, hT, y8, hf, Qa3, z1, List.all_nil]
theorem SlAt.len {σ : Heap} {v : AV} {x : List V} (h : SlAt σ v x) : lenA v = some x.length := by
 rcases h with ⟨rfl, rfl⟩ | ⟨_, _, _, _, _, rfl, _⟩ <;> rfl
theorem SlAt.str {σ : Heap} {v : AV} {x : List V} (h : SlAt σ v x) : ∀ s, v ≠ .p (.str s) := by
 intro s hv
 rcases h with ⟨rfl, _⟩ | ⟨_, _, _, _, _, rfl, _⟩ <;> cases hv
theorem SlAt.elems {σ : Heap} {v : AV} {x : List V} (h : SlAt σ v x) : Jk σ 4 v = some (x.length, .pv (vcs x)) := by
 rcases h with ⟨rfl, rfl⟩ | ⟨id, ver, wm, rest, ty, rfl, ho⟩
 · rfl
 · have hl : x.length * 4 <= (vcs x ++ rest).length := by rw [List.length_append, Lw]; omega
   have htk : (vcs x ++ rest).take (x.length * 4) = vcs x := by rw [<- Lw, List.take_left]
   simp only [Jk, ho, Q1.len, Nat.zero_add, true_and, if_true]
   rw [if_pos hl]
   simp only [Bu, Fd, List.drop_zero, htk]
theorem SlAt.slice {σ : Heap} {v : AV} {x : List V} (h : SlAt σ v x) (k : Nat) (hk : k <= x.length) : ∃ u, Ks 4 v none (some (.p (.int .i64 (k : Int)))) = some u /\ SlAt σ u (x.take k) /\ (∀ s, v ≠ .p (.str s)) := by
 rcases h with ⟨rfl, rfl⟩ | ⟨id, ver, wm, rest, ty, rfl, ho⟩
 · obtain rfl : k = 0 := by simpa using hk
   exact ⟨.nil0, rfl, .inl ⟨rfl, rfl⟩, fun _ h => by cases h⟩
 · refine ⟨.sl id ver 0 k 4, ?_, .inr ⟨id, ver, wm, (vcs x).drop (k * 4) ++ rest, ty, ?_, ?_⟩, fun _ h => by cases h⟩
   · have h1 : (0 : Int) <= (k : Int) := by omega
     have h2 : (k : Int) <= (x.length : Int) := by omega
     simp [Ks, Iz, Th, hk]
   · simp [Nat.min_eq_left hk]
   · rw [ho]
     have hv : vcs x = vcs (x.take k) ++ (vcs x).drop (k * 4) := by
       have h1 : vcs x = vcs (x.take k) ++ vcs (x.drop k) := by
         unfold vcs
         rw [<- List.flatten_append, <- List.map_append, List.take_append_drop]
       have h2 : (vcs (x.take k)).length = k * 4 := by rw [Lw, List.length_take, Nat.min_eq_left hk]
       rw [h1]
       congr 1
       rw [<- h2, List.drop_left]
     rw [<- List.append_assoc, <- hv]
def Own (σ : Heap) (id : Nat) (d : AV) (l : List V) : Prop := ∃ ver wm ty, d = .sl id ver 0 l.length 4 /\ σ[id]? = some (.arr (.pv (vcs l)) ver wm ty) /\ wm <= l.length * 4
theorem Own.at {σ : Heap} {id : Nat} {d : AV} {l : List V} (h : Own σ id d l) : SlAt σ d l := by
 obtain ⟨ver, wm, ty, rfl, ho, _⟩ := h
 exact .inr ⟨id, ver, wm, [], ty, rfl, by simpa using ho⟩
theorem Own.push {σ : Heap} {id : Nat} {d : AV} {l : List V} (h : Own σ id d l) (τ : Heap) : Own (σ ++ τ) id d l := by
 obtain ⟨ver, wm, ty, rfl, ho, hw⟩ := h
 exact ⟨ver, wm, ty, rfl, by rw [List.getElem?_append_left (List.getElem?_eq_some_iff.1 ho).1]; exact ho, hw⟩
theorem Own.append {σ : Heap} {id : Nat} {d : AV} {l : List V} (h : Own σ id d l) (x : List V) (hl : l.length + x.length <= LIM) :
   ∃ d2 σ2, Dm σ 39 4 d x.length (.pv (vcs x)) = some (d2, σ2) /\ Own σ2 id d2 (l ++ x) /\ ∀ v y, NB v id -> SlAt σ v y -> SlAt σ2 v y := by
 obtain ⟨ver, wm, ty, rfl, ho, hw⟩ := h
 have hid : id < σ.length := (List.getElem?_eq_some_iff.1 ho).1
 have hlen : l.length * 4 <= (vcs l).length := by rw [Lw]; exact Nat.le_refl _
 cases x with
 | nil =>
   refine ⟨.sl id ver 0 l.length 4, σ, ?_, ⟨ver, wm, ty, by simp, by simpa using ho, by simpa using hw⟩, fun v y _ h => h⟩
   have hl' : l.length <= LIM := by simpa using hl
   simp [Dm, ho, Q1.len, hlen, hw, hl']
 | cons a x =>
   have ht : (vcs l).take (l.length * 4) = vcs l := List.take_of_length_le (by rw [Lw]; exact Nat.le_refl _)
   refine ⟨.sl id (ver + 1) 0 (l.length + (a :: x).length) 4, σ.set id (.arr (.pv (vcs l ++ vcs (a :: x))) (ver + 1) wm (if ty = some 39 then some 39 else none)), ?_, ⟨ver + 1, wm, if ty = some 39 then some 39 else none, by simp, ?_, ?_⟩, ?_⟩
   · simp only [Dm, ho, Q1.len]
     rw [if_pos ⟨trivial, trivial, trivial, hlen, hw, hl⟩, if_neg (by simp)]
     simp only [Bu, catC, ht]
   · rw [List.getElem?_set_self hid]
     simp [vcs]
   · simp only [List.length_append]
     omega
   · rintro v y hn (h | ⟨id', ver', wm', rest', ty', rfl, ho'⟩)
     · exact .inl h
     · exact .inr ⟨id', ver', wm', rest', ty', rfl, by rw [List.getElem?_set_ne (fun e => hn id' ver' 0 y.length 4 rfl e.symm)]; exact ho'⟩
theorem SlAt.nb {σ : Heap} {v : AV} {x : List V} (h : SlAt σ v x) {j : Nat} (hj : σ.length <= j) : NB v j := by
 intro id ver off len esz hb
 rcases h with ⟨h, _⟩ | ⟨id', _, _, _, _, h, ho⟩
 · rw [h] at hb; cases hb
 · rw [h] at hb
   cases hb
   have := (List.getElem?_eq_some_iff.1 ho).1
   omega
def PureR (r : CRes) : Prop := (∃ v, r = .ret (.p v)) ∨ ∃ v, r = .pan (.p v)
theorem PureR.ids {r : CRes} (h : PureR r) : Quv r = [] := by
 rcases h with ⟨v, rfl⟩ | ⟨v, rfl⟩ <;> rfl
theorem Qdn (l : List UInt8) (c : UInt8) : Fg (l ++ [c]) = if c = 32 then Fg l else l ++ [c] := by
 show Lib.trimRightB _ _ = if c = 32 then Lib.trimRightB _ _ else _
 unfold Lib.trimRightB
 rw [List.reverse_append]
 by_cases h : c = 32
 · simp [h]
 · simp [h]
theorem SlAt.push {σ : Heap} {v : AV} {x : List V} (h : SlAt σ v x) (τ : Heap) : SlAt (σ ++ τ) v x := by
 rcases h with h | ⟨id, ver, wm, rest, ty, rfl, ho⟩
 · exact .inl h
 · exact .inr ⟨id, ver, wm, rest, ty, rfl, by rw [List.getElem?_append_left (List.getElem?_eq_some_iff.1 ho).1]; exact ho⟩
theorem VBuf.push {σ : Heap} {b : AV} {l : List V} (h : VBuf σ b l) (τ : Heap) : VBuf (σ ++ τ) b l := by
 rcases h with h | ⟨hne, id, ver, hb, ho⟩
 · exact .inl h
 · exact .inr ⟨hne, id, ver, hb, by rw [List.getElem?_append_left (List.getElem?_eq_some_iff.1 ho).1]; exact ho⟩
theorem VBuf.app {σ : Heap} {b : AV} {l : List V} (h : VBuf σ b l) (v : V) (hl : l.length + 1 <= LIM) : ∃ b2 σ2, Dm σ 39 4 b 1 (.pv (vc v)) = some (b2, σ2) /\ VBuf σ2 b2 (l ++ [v]) := by
 have hL : LIM = 4294967296 := rfl
 rcases h with ⟨rfl, rfl⟩ | ⟨hne, id, ver, rfl, ho⟩
 · refine ⟨.sl σ.length 0 0 1 4, σ ++ [.arr (.pv (vc v)) 0 0 (some 39)], ?_, .inr ⟨by simp, σ.length, 0, rfl, ?_⟩⟩
   · simp [Dm, hL]
   · simp [vcs]
 · have hid : id < σ.length := (List.getElem?_eq_some_iff.1 ho).1
   have hv := Lw l
   have ht : (vcs l).take (l.length * 4) = vcs l := List.take_of_length_le (by omega)
   refine ⟨.sl id (ver + 1) 0 (l.length + 1) 4, σ.set id (.arr (.pv (vcs l ++ vc v)) (ver + 1) 0 (some 39)), ?_, .inr ⟨by simp, id, ver + 1, by simp, ?_⟩⟩
   · simp [Dm, ho, Q1.len, hv, hl, Bu, catC, ht]
   · rw [List.getElem?_set_self hid, Qaf]
def ordI : Ordering -> Int
 | .lt => -1
 | .eq => 0
 | .gt => 1
theorem Qeb : ∀ (x y : List UInt8), Op.bytesLess x y = (cmpL x y == .lt)
 | [], [] => rfl
 | [], _ :: _ => rfl
 | _ :: _, [] => rfl
 | a :: x, b :: y => by
   have ih := Qeb x y
   simp only [Op.bytesLess, Ny]
   by_cases h1 : a < b
   · simp [h1]
   · by_cases h2 : b < a
     · have : (a == b) = false := beq_eq_false_iff_ne.2 (fun h => UInt8.lt_irrefl b (h ▸ h2))
       simp [h1, h2, this]
     · have : a = b := UInt8.le_antisymm (UInt8.not_lt.1 h2) (UInt8.not_lt.1 h1)
       subst this
       simp [h1, ih]
theorem Qex {c k : UInt8} (h : c ≠ k) : ((c.toNat : Int) == (k.toNat : Int)) = false := by
 have : c.toNat ≠ k.toNat := fun e => h (UInt8.toNat_inj.1 e)
 simp
 omega
theorem Qkh {T : Ld} {L n f : Nat} {g : List PV -> Option PV} {fz : Bool} {ps : List PV} {v : PV} (hT : T f = some (.ext (extP g) fz)) (h : g ps = some v) (σ : Heap) : (cAt T L (n + 1)).1 f (ps.map .p) σ = some (.ret (.p v), σ) := by
 simp only [cAt, w6, hT]
 refine Qay (σr := []) ?_ σ
 unfold extP
 have : allP (ps.map .p) = some ps := by
   clear h
   induction ps with
   | nil => rfl
   | cons p r ih => simp only [List.map_cons, allP, ih]
 rw [this]
 simp only [h]
attribute [simp] exec Me Hv yk G2 Jp Gw Be ev evs evO Env.get_cons putE binA Rl unA AV.fit AV.toCells Qa2 yz Kp allP Qmq Q1.len target Mk Ml Mm Mn Mo
end Go.Ab.Cnt
