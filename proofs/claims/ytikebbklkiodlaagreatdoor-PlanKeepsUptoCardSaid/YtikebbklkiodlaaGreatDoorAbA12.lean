/- A12 -/
import Derived.Test.YtikebbklkiodlaaGreatDoorAbA9
set_option maxRecDepth 1000000
set_option linter.all false
namespace Go.Ab
variable [Q4]
variable {S S' : Nat -> Nat -> Prop} {w w' w1 : World} {μ μ' : Nat -> Nat -> Option (Nat × Nat)} {P : Program} {G : Bx} {σ σ' : Heap}
theorem X3 {t u e n : Nat} {i : TypeInfo} {zc cx cs : Value} {new : List Value} {nc : Q1} {s v : AV} {ty : Nat} (hg : Good μ S w σ) (hargs : AppArgs P w t u e i zc cx n new)
   (hnew : RepL S w μ nc.toList new) (h1 : ∀ x ∈ new, one x = true) (hs : Rep S w μ s cs) (h : Dm σ e i.size s n nc = some (v, σ')) :
   ∃ c w1 μ', (Builtin.append_ #[t, u] ty #[cs, cx]).run P w = .ok c w1 /\ Good μ' S w1 σ' /\ Frm μ S w σ μ' S w1 σ' /\ Rep S w1 μ' v c := by
 have hncl : nc.len = new.length := by rw [Q1.len_toList, hnew.length]
 have empty : ∀ (base : Option Addr), cs = .slice base 0 0 -> n ≠ 0 -> n <= LIM -> v = .sl σ.length 0 0 n i.size -> σ' = σ ++ [.arr nc 0 0 (some e)] ->
     ∃ c w1 μ', (Builtin.append_ #[t, u] ty #[cs, cx]).run P w = .ok c w1 /\ Good μ' S w1 σ' /\ Frm μ S w σ μ' S w1 σ' /\ Rep S w1 μ' v c := by
   intro base hcs hn hlim hv hσ
   subst hcs hv hσ
   obtain ⟨cap, rest, hcap, hlen, hrun⟩ := hargs.moved (sLen := 0) (sCap := 0) (old := []) base (by omega) (by omega) (.none _ _) (by simp) ty
   simp only [Nat.zero_add, List.nil_append] at hcap hlen hrun
   have hsz : ((new ++ rest).toArray).size = cap * i.size := by simpa using hlen
   have hold : ∀ b, b < w.heap.size -> (({ w with drawn := w.drawn + 1 } : World).alloc (.cells (new ++ rest).toArray e)).heap[b]? = w.heap[b]? := fun b hb => Mu _ _ b hb
   have hS : ∀ b o, S b o -> S b o /\ (({ w with drawn := w.drawn + 1 } : World).alloc (.cells (new ++ rest).toArray e)).cell? ⟨b, o, none⟩ = w.cell? ⟨b, o, none⟩ :=
     fun b o h => ⟨h, E7 (hold b (hg.sb b o h))⟩
   have hμ : ∀ id ver x, μ id ver = some x -> ext μ σ.length 0 (w.heap.size, cap * i.size) id ver = some x := by
     intro id ver x h
     rw [Bt]
     · exact h
     · rintro ⟨rfl, rfl⟩
       obtain ⟨o, ho, _⟩ := hg.old _ _ _ h
       simp at ho
   obtain ⟨g1, g2⟩ := Xc (w1 := ({ w with drawn := w.drawn + 1 } : World).alloc (.cells (new ++ rest).toArray e)) (o := .arr nc 0 0 (some e)) (n := cap * i.size) hg hold (Fe _ _) ⟨rfl, rfl, rfl⟩ rfl
     (zw (lo := 0) (hi := 0) (Lx _ _) (Gx _ _ _ _) hsz (by rw [hncl, hargs.len]; exact Nat.mul_le_mul_right _ hcap)
       (by rw [hncl]; simpa using hnew.mono hS hμ) (by rw [hncl]; simpa using h1) (fun j hs => absurd (hg.sb _ _ hs) (by simp)) (.inl (Nat.le_refl _)))
   exact ⟨_, _, _, hrun, g1, g2, .sl (Gx _ _ _ _) hcap (by omega)⟩
 have nothing : ∀ (base : Option Addr) (sLen sCap : Nat), cs = .slice base sLen sCap -> n = 0 -> sLen <= sCap -> v = s -> σ' = σ ->
     ∃ c w1 μ', (Builtin.append_ #[t, u] ty #[cs, cx]).run P w = .ok c w1 /\ Good μ' S w1 σ' /\ Frm μ S w σ μ' S w1 σ' /\ Rep S w1 μ' v c := by
   intro base sLen sCap hcs hn hle hv hσ
   subst hcs hv hσ hn
   have hnil : new = [] := by rw [<- List.length_eq_zero_iff, hargs.len]; simp
   subst hnil
   have hrun := hargs.inplace (sLen := sLen) (sCap := sCap) base (by omega) (w1 := w) (by cases base <;> simp [storeCells]) ty
   exact ⟨_, w, μ, hrun, hg, .refl _ _ _ _, hs⟩
 unfold Dm at h
 split at h
 · cases hs
   split at h
   · simp only [Option.some.injEq, Prod.mk.injEq] at h
     exact nothing none 0 0 rfl (by assumption) (Nat.le_refl _) h.1.symm h.2.symm
   · split at h
     · simp only [Option.some.injEq, Prod.mk.injEq] at h
       exact empty none rfl (by assumption) (by assumption) h.1.symm h.2.symm
     · cases h
 · cases hs
   split at h
   · simp only [Option.some.injEq, Prod.mk.injEq] at h
     exact nothing _ 0 0 rfl (by assumption) (Nat.le_refl _) h.1.symm h.2.symm
   · split at h
     · simp only [Option.some.injEq, Prod.mk.injEq] at h
       exact empty _ rfl (by assumption) (by assumption) h.1.symm h.2.symm
     · cases h
 · rename_i id ver off len e'
   split at h
   · rename_i c vr wm ty0 hob
     split at h
     · rename_i hcond
       obtain ⟨rfl, rfl, rfl, hlc, hwm, hlim⟩ := hcond
       obtain ⟨b, m, cap, hμ, hlcap, hcapm, rfl⟩ := hs.slA
       split at h
       · rename_i hn0
         simp only [Option.some.injEq, Prod.mk.injEq] at h
         exact nothing _ len cap rfl hn0 hlcap h.1.symm h.2.symm
       · rename_i hn0
         simp only [Option.some.injEq, Prod.mk.injEq] at h
         obtain ⟨rfl, rfl⟩ := h
         obtain ⟨b', n', vs, et, lo, hi, e1, e2, e3, e4, e5, e6, e7⟩ := (hg.obj id _ hob).cells
         rw [hμ] at e1
         cases e1
         have hvl : vs.toList.length = vs.size := Array.length_toList
         have hmulle : len * i.size + n * i.size = (len + n) * i.size := by rw [<- Nat.add_mul]
         by_cases hfit : len + n <= cap
         · -- in its place
           have hroom : (len + n) * i.size <= cap * i.size := Nat.mul_le_mul_right _ hfit
           obtain ⟨w1, vs1, r1, r2, r3, r4, r5, r6⟩ := Pi (P := P) (o := 0 + len * i.size) new w vs 0 e2 (by rw [hargs.len]; omega) (fun j hj1 hj2 => (e7 j (by omega) (by rw [hargs.len] at hj2; omega)).2) h1
           obtain ⟨μ', g1, g2, g3⟩ := wj (c' := catC (Bu c (len * i.size)) nc) (ver' := vr + 1) (nc := nc.toList) (ty' := if ty0 = some e then some e else none) (hty := by
             split
             · rename_i h0; exact .inl h0.symm
             · exact .inr rfl) hg hob hμ e2 e3 e4 r2 r3 (by rw [hargs.len]; omega) r4 r5 r6 (by omega) hnew h1 (by
             intro j x hx
             rw [Q1.get?_toList, qu, No] at hx
             rw [Q1.get?_toList]
             have hcl : c.toList.length = c.len := (Q1.len_toList c).symm
             by_cases hj : j < len * i.size
             · rw [List.getElem?_append_left (by simp; omega), List.getElem?_take, if_pos hj] at hx
               exact .inl ⟨by omega, hx⟩
             · rw [List.getElem?_append_right (by simp; omega)] at hx
               simp only [List.length_take, Nat.min_eq_left (show len * i.size <= c.toList.length by omega)] at hx
               refine .inr (.inl ⟨by omega, ?_, by rw [show j - (0 + len * i.size + 0) = j - len * i.size from by omega]; exact hx⟩)
               have := (List.getElem?_eq_some_iff.1 hx).1
               rw [hnew.length] at this
               omega) (by
             rw [Q1.len_toList, qu, No, List.length_append, List.length_take, hnew.length, hargs.len]
             omega) (.inr rfl)
           refine ⟨_, w1, μ', hargs.inplace (sLen := len) (sCap := cap) (some ⟨b, 0, none⟩) hfit (by simp only [M7]; exact r1) ty, g1, g2, ?_⟩
           exact .sl g3 hfit (by omega)
         · -- into a new block
           have hold : Elems w (.slice (some ⟨b, 0, none⟩) len cap) len (vs.toList.take (len * i.size)) := by
             refine .at_ fun j x hx => ?_
             rw [Nat.zero_add, Sk e2]
             rw [List.getElem?_take] at hx
             split at hx
             · simpa using hx
             · cases hx
           obtain ⟨cap', rest, hcap', hlen', hrun⟩ := hargs.moved (sLen := len) (sCap := cap) (some ⟨b, 0, none⟩) (by omega) hlim hold (by rw [List.length_take]; omega) ty
           let w1 : World := ({ w with drawn := w.drawn + 1 } : World).alloc (.cells (vs.toList.take (len * i.size) ++ new ++ rest).toArray e)
           have hsz : ((vs.toList.take (len * i.size) ++ new ++ rest).toArray).size = cap' * i.size := by simpa using hlen'
           have hob2 : ∀ b, b < w.heap.size -> w1.heap[b]? = w.heap[b]? := fun b hb => Mu _ _ b hb
           have hSc : ∀ b o, S b o -> w1.cell? ⟨b, o, none⟩ = w.cell? ⟨b, o, none⟩ := fun b o h => E7 (hob2 b (hg.sb b o h))
           let μ' := ext μ id (vr + 1) (w.heap.size, cap' * i.size)
           have hμ' : ∀ i v x, μ i v = some x -> μ' i v = some x := by
             intro i v x h
             show ext _ _ _ _ i v = some x
             rw [Bt]
             · exact h
             · rintro ⟨rfl, rfl⟩
               obtain ⟨o, ho, hv, _⟩ := hg.old _ _ _ h
               rw [hob] at ho
               cases ho
               simp [Obj.ver] at hv
               omega
           have hrep : RepL S w1 μ' (catC (Bu c (len * i.size)) nc).toList (vs.toList.take (len * i.size) ++ new) := by
             rw [qu, No]
             have h5 := e5.take (len * i.size)
             rw [List.take_take, Nat.min_eq_left hlc] at h5
             exact (h5.append hnew).mono (fun b o h => ⟨h, hSc b o h⟩) hμ'
           have hlenc : (catC (Bu c (len * i.size)) nc).len = (vs.toList.take (len * i.size) ++ new).length := by rw [Q1.len_toList, hrep.length]
           have hones : ∀ x ∈ vs.toList.take (len * i.size) ++ new, one x = true := by
             intro x hx
             rcases List.mem_append.1 hx with hx | hx
             · refine e6 x ?_
               have : vs.toList.take (len * i.size) = (vs.toList.take c.len).take (len * i.size) := by rw [List.take_take, Nat.min_eq_left hlc]
               rw [this] at hx
               exact List.mem_of_mem_take hx
             · exact h1 x hx
           have hobj : ObjOK S w1 μ' id (.arr (catC (Bu c (len * i.size)) nc) (vr + 1) wm (if ty0 = some e then some e else none)) :=
             zw (w1 := w1) (μ := μ') (id := id) (e := e) (b := w.heap.size) (lo := 0) (hi := 0) (Lx _ _) (Gx _ _ _ _) hsz (by
               rw [hlenc, List.length_append, List.length_take, hargs.len]
               have : (len + n) * i.size <= cap' * i.size := Nat.mul_le_mul_right _ hcap'
               omega) (by rw [hlenc, List.take_left' rfl]; exact hrep) (by rw [hlenc, List.take_left' rfl]; exact hones) (fun j hs => absurd (hg.sb _ _ hs) (by simp)) (.inl (Nat.le_refl _)) (ty := if ty0 = some e then some e else none) (fun t ht => by
               split at ht
               · obtain rfl := Option.some.inj ht; exact ⟨rfl, .inl rfl⟩
               · cases ht)
           obtain ⟨g1, g2⟩ := Xq (w1 := w1) (μ' := μ') (o' := .arr (catC (Bu c (len * i.size)) nc) (vr + 1) wm (if ty0 = some e then some e else none)) hg hob rfl hμ (Gx _ _ _ _) (.inr (Nat.le_refl _)) hμ'
             (fun i v hi => Bt (by intro h; exact hi h.1)) (by
               intro v x h
               by_cases hv : v = vr + 1
               · subst hv
                 rw [show μ' id (vr + 1) = _ from Gx _ _ _ _] at h
                 cases h
                 exact ⟨Nat.le_refl _, by rw [show w1.heap.size = w.heap.size + 1 from Fe _ _]; simp⟩
               · rw [show μ' id v = μ id v from Bt (by intro h; exact hv h.2)] at h
                 obtain ⟨o, ho, hv2, hx⟩ := hg.old _ _ _ h
                 rw [hob] at ho
                 cases ho
                 simp only [Obj.ver] at hv2 ⊢
                 refine ⟨by omega, ?_⟩
                 rw [show w1.heap.size = w.heap.size + 1 from Fe _ _]
                 omega) (by rw [show w1.heap.size = w.heap.size + 1 from Fe _ _]; omega) (fun bb hbb _ => hob2 bb hbb) hSc hobj ⟨rfl, rfl, rfl⟩
           exact ⟨_, w1, μ', hrun, g1, g2, .sl (Gx _ _ _ _) hcap' (by omega)⟩
     · cases h
   · cases h
 · cases h
theorem ObjOK.typed {id : Nat} {c : Q1} {ver wm : Nat} {ty : Nat} (h : ObjOK S w μ id (.arr c ver wm (some ty))) :
   ∃ b n vs lo hi, μ id ver = some (b, n) /\ w.heap[b]? = some (.cells vs ty (lo, hi)) /\ vs.size = n /\ c.len <= n /\
     (∀ j v, c.get? j = some v -> ∃ cv, vs[j]? = some cv /\ one cv = true /\ Rep S w μ v cv) /\ (∀ j, wm <= j -> j < n -> ¬ S b j /\ ¬ (lo <= j /\ j < hi)) /\ (hi = lo ∨ hi <= wm) := by
 obtain ⟨b, n, h1, vs, e, lo, hi, h2, h3, h4, h5, h6, h7⟩ := h
 obtain ⟨rfl, h8⟩ := h7 ty rfl
 exact ⟨b, n, vs, lo, hi, h1, h2, h3, h4, h5, h6, h8⟩
theorem Qcr : ∀ {l : List PV} {s : List UInt8}, Qcv l = some s -> s.length = l.length /\ ∀ (j : Nat) x, s[j]? = some x -> l[j]? = some (.int .u8 x.toNat)
 | [], s, h => by simp [Qcv] at h; subst h; exact ⟨rfl, fun j x hx => by simp at hx⟩
 | v :: r, s, h => by
   unfold Qcv at h
   split at h
   · simp_all
   · rename_i n r' heq
     injection heq with e1 e2
     subst e1 e2
     split at h
     · rename_i hn
       split at h
       · rename_i l' hl
         obtain rfl := Option.some.inj h
         obtain ⟨h1, h2⟩ := Qcr hl
         refine ⟨by simp [h1], fun j x hx => ?_⟩
         cases j with
         | zero =>
           simp only [List.getElem?_cons_zero, Option.some.injEq] at hx ⊢
           subst hx
           have : (UInt8.ofNat n.toNat).toNat = n.toNat := UInt8.toNat_ofNat_of_lt' (by show n.toNat < 256; omega)
           rw [this]
           congr 1
           omega
         | succ j => simpa using h2 j x (by simpa using hx)
       · cases h
     · cases h
   · cases h
theorem Qiy (w : World) (b m : Nat) {vs : Array Value} {e lo hi : Nat} (hm : m ≠ 0) (hb : w.heap[b]? = some (.cells vs e (lo, hi))) :
   (∃ lo' hi', (w.freeze ⟨b, 0, none⟩ m).heap[b]? = some (.cells vs e (lo', hi')) /\ ((lo = hi /\ hi' = m) ∨ (lo ≠ hi /\ hi' = max hi m))) /\ (∀ b', b' ≠ b -> (w.freeze ⟨b, 0, none⟩ m).heap[b']? = w.heap[b']?) /\ (w.freeze ⟨b, 0, none⟩ m).heap.size = w.heap.size := by
 unfold World.freeze
 rw [if_neg hm]
 refine ⟨?_, fun b' hne => ?_, by simp⟩
 · by_cases h : lo = hi
   · exact ⟨0, m, by simp [Array.getElem?_modify, hb, h], .inl ⟨h, rfl⟩⟩
   · exact ⟨min lo 0, max hi m, by simp [Array.getElem?_modify, hb, h], .inr ⟨h, rfl⟩⟩
 · simp only [Array.getElem?_modify]
   rw [if_neg (fun h => hne h.symm)]
theorem Qhh {id ver wm m ety pt it tt b n : Nat} {l : List PV} {s : List UInt8} (hg : Good μ S w σ) (hid : σ[id]? = some (.arr (.pv l) ver wm (some ety))) (hμ : μ id ver = some (b, n))
   (hm : m ≠ 0) (hml : m <= l.length) (hlim : l.length <= LIM) (hs : Qcv (l.take m) = some s) (hp : P.underlying pt = some (.pointer ety)) (hc : P.cellsOf ety = 1) :
   ∃ w1, (Builtin.unsafeString_ #[pt, it] tt #[.pointer (some ⟨b, 0, none⟩), .int .i64 m]).run P w = .ok (.string ⟨s.toArray⟩) w1 /\ Good μ S w1 (σ.set id (.arr (.pv l) ver (Nat.max wm m) (some ety))) /\
     Frm μ S w σ μ S w1 (σ.set id (.arr (.pv l) ver (Nat.max wm m) (some ety))) := by
 obtain ⟨b', n', vs, lo, hi, k1, k2, k3, k4, k5, k6, k7⟩ := (hg.obj id _ hid).typed
 rw [hμ] at k1
 cases k1
 obtain ⟨hlen, hget⟩ := Qcr hs
 have hlen : s.length = m := by rw [hlen, List.length_take, Nat.min_eq_left hml]
 have k4' : l.length <= n := k4
 have hcell : ∀ (j : Nat) x, s[j]? = some x -> w.cell? ((⟨b, 0, none⟩ : Addr).add j) = some (.int .u8 x.toNat) := by
   intro j x hx
   have hj : j < m := by rw [<- hlen]; exact (List.getElem?_eq_some_iff.1 hx).1
   have hl : l[j]? = some (.int .u8 x.toNat) := by
     have := hget j x hx
     rw [List.getElem?_take, if_pos hj] at this
     exact this
   obtain ⟨cv, q1, _, q3⟩ := k5 j (.p (.int .u8 x.toNat)) (by simp [Q1.get?, hl])
   rw [q3.int] at q1
   have e : (⟨b, 0, none⟩ : Addr).add j = ⟨b, j, none⟩ := by
     unfold Addr.add
     by_cases h0 : j = 0
     · subst h0; simp
     · simp [h0]
   rw [e, Sk k2]
   exact q1
 obtain ⟨⟨lo', hi', f1, f4⟩, f2, f3⟩ := Qiy w b m hm k2
 have hcs : ∀ bb j, (w.freeze ⟨b, 0, none⟩ m).cell? ⟨bb, j, none⟩ = w.cell? ⟨bb, j, none⟩ := by
   intro bb j
   by_cases hbb : bb = b
   · subst hbb; rw [Sk f1, Sk k2]
   · exact E7 (f2 bb hbb)
 have hsh : w.shape? b = some (ety, n) := by simp [World.shape?, k2, k3]
 have hL : LIM = 4294967296 := rfl
 refine ⟨w.freeze ⟨b, 0, none⟩ m, ?_, ?_⟩
 · have := Lib.run_unsafeString_row (P := P) w pt it tt ety hp hc b n hsh s (by intro h; subst h; simp at hlen; omega) (by omega) (by omega) hcell
   rw [hlen] at this
   exact this
 · refine Xq (b := b) (n := n) (b' := b) (n' := n) hg hid rfl hμ hμ (.inl rfl) (fun _ _ _ h => h) (fun _ _ _ => rfl) (fun v x h => ?_) (by omega) (fun bb _ hne => f2 bb hne) (fun bb j _ => hcs bb j) ?_ ?_
   · obtain ⟨o, ho, hv, hx⟩ := hg.old _ _ _ h
     rw [hid] at ho
     cases ho
     exact ⟨hv, by omega⟩
   · have hrep : ∀ {v c}, Rep S w μ v c -> Rep S (w.freeze ⟨b, 0, none⟩ m) μ v c := fun h => h.mono (fun bb o h => ⟨h, hcs bb o⟩) (fun _ _ _ h => h)
     refine ⟨b, n, hμ, vs, ety, _, _, f1, k3, k4, fun j v hv => ?_, fun j hj1 hj2 => ?_, fun t ht => ?_⟩
     · obtain ⟨cv, q1, q2, q3⟩ := k5 j v hv
       exact ⟨cv, q1, q2, hrep q3⟩
     · have h1 : wm <= j := Nat.le_trans (Nat.le_max_left ..) hj1
       have h2 : m <= j := Nat.le_trans (Nat.le_max_right ..) hj1
       obtain ⟨q1, q2⟩ := k6 j h1 hj2
       refine ⟨q1, ?_⟩
       rcases f4 with ⟨_, rfl⟩ | ⟨hne, rfl⟩
       · omega
       · rcases k7 with h | h
         · exact absurd h.symm hne
         · have := Nat.max_le.2 ⟨Nat.le_trans h h1, h2⟩
           omega
     · obtain rfl := Option.some.inj ht
       refine ⟨rfl, .inr ?_⟩
       rcases f4 with ⟨_, rfl⟩ | ⟨hne, rfl⟩
       · exact Nat.le_max_right ..
       · rcases k7 with h | h
         · exact absurd h.symm hne
         · exact Nat.max_le.2 ⟨Nat.le_trans h (Nat.le_max_left ..), Nat.le_max_right ..⟩
   · unfold World.freeze
     rw [if_neg hm]
     exact ⟨rfl, rfl, rfl⟩
section
variable {M : Env} {a : Act} (hE : EnvOK S w μ M a.tmps) (hG : GlobOK S w G) (hg : Good μ S w σ)
include hE hG hg
theorem Qi2 {b : Builtin} {tys : Array Nat} {args : Array Operand} {ao : AOp} {v : AV} (hc : L2 P G b tys.toList args.toList = some ao) (hv : Be M σ ao = some (v, σ'))
   (type : TypeId) (cs : Array Bool) : Acts P S w μ σ (builtin b tys type cs (args.map a.eval)) v σ' := by
 obtain ⟨tys⟩ := tys
 obtain ⟨args⟩ := args
 unfold L2 at hc
 split at hc
 · split at hc
   · simp only [Option.map_eq_some_iff] at hc; obtain ⟨y, hy, rfl⟩ := hc; simp [Be] at hv
   · simp only [Option.map_eq_some_iff] at hc; obtain ⟨y, hy, rfl⟩ := hc; simp [Be] at hv
   · obtain rfl := Option.some.inj hc; simp [Be] at hv
   · cases hc
 · -- append
   rename_i t u s x h1 h2
   simp only at h1 h2
   subst h1 h2
   split at hc
   · rename_i e d ht hd
     split at hc
     · rename_i sz z s' x' hel hs hx
       obtain ⟨i, c, hi, hsz, hzc, h0, hzl, hby, hr, hcs, h1⟩ := Xl hel S w μ
       subst hsz
       have elems : (∀ k, d ≠ .int k) -> (d = .string -> True) -> ao = .append e i.size z s' x' -> Acts P S w μ σ (builtin .append #[t, u] type cs (#[s, x].map a.eval)) v σ' := by
         intro hni _ hao
         subst hao
         simp only [Be] at hv
         split at hv
         · rename_i vs vx e1 e2
           split at hv
           · rename_i n new he
             have rs := Jn hE hG hs e1
             have rx := Jn hE hG hx e2
             obtain ⟨vl, k1, k2, k3, k4⟩ := jb hg.obj he rx
             have hn : n <= LIM := by
               unfold Dm at hv
               split at hv
               · split at hv
                 · rename_i h; rw [h]; exact Nat.zero_le _
                 · split at hv
                   · assumption
                   · cases hv
               · split at hv
                 · rename_i h; rw [h]; exact Nat.zero_le _
                 · split at hv
                   · assumption
                   · cases hv
               · split at hv
                 · split at hv
                   · rename_i h; omega
                   · cases hv
                 · cases hv
               · cases hv
             have hstr : ∀ sb, a.eval x = .string sb -> i.size = 1 := by
               intro sb hsb
               rw [hsb] at rx
               unfold Jk at he
               split at he <;> first
                 | (split at he
                    · assumption
                    · cases he; done)
                 | (cases rx; rename_i rx; cases rx; done)
                 | (cases rx; done)
                 | cases he
             obtain ⟨c', w1, μ', r1, r2, r3, r4⟩ := X3 (P := P) (ty := type) hg ⟨ht, hi, hzc, hcs, h0, hby, k4, hn, .inl ⟨⟨d, hd, hni⟩, k1, hstr⟩⟩ k2 k3 rs hv
             exact ⟨.value c', c', w1, μ', by simp [builtin, r1], .value _, r2, r3, r4⟩
           · cases hv
         · cases hv
       split at hc
       · -- zeros
         rename_i k
         obtain rfl := Option.some.inj hc
         simp only [Be] at hv
         split at hv
         · rename_i vs k2 n e1 e2
           split at hv
           · rename_i hcond
             have rs := Jn hE hG hs e1
             have rx := (Jn hE hG hx e2).int
             have hn : (n.toNat : Int) = n := Int.toNat_of_nonneg hcond.1
             have hrep := P6 hr n.toNat
             obtain ⟨c', w1, μ', r1, r2, r3, r4⟩ := X3 (P := P) (ty := type) (u := u) (cx := a.eval x) (new := (List.replicate n.toNat c.cells.toList).flatten) hg ⟨ht, hi, hzc, hcs, h0, hby, by simp [hcs], by omega, .inr ⟨⟨k, hd⟩, ⟨k2, by rw [rx, hn]⟩, rfl⟩⟩
               (by rw [R6]; exact hrep) (P0 h1 _) rs hv
             exact ⟨.value c', c', w1, μ', by simp [builtin, r1], .value _, r2, r3, r4⟩
           · cases hv
         · cases hv
       · exact elems (by intro k h; cases h) (fun _ => trivial) (Option.some.inj hc).symm
       · exact elems (by intro k h; cases h) (fun _ => trivial) (Option.some.inj hc).symm
       · cases hc
     · cases hc
   · cases hc
 · -- copy
   rename_i t u d s h1 h2
   simp only at h1 h2
   subst h1 h2
   split at hc
   · rename_i e ht
     split at hc
     · rename_i sz z d' s' hel hd hs
       obtain rfl := Option.some.inj hc
       obtain ⟨i, c, hi, hsz, hzc, h0, hzl, hby, hr, hcs, h1⟩ := Xl hel S w μ
       subst hsz
       simp only [Be] at hv
       split at hv
       · rename_i vd vs e1 e2
         split at hv
         · rename_i n new he
           split at hv
           · rename_i id ver off len e'
             split at hv
             · rename_i c' vr wm ty0 hob
               split at hv
               · rename_i hcond
                 obtain ⟨rfl, rfl, hwm, hroom⟩ := hcond
                 simp only [Option.some.injEq, Prod.mk.injEq] at hv
                 obtain ⟨rfl, rfl⟩ := hv
                 have rx := Jn hE hG hs e2
                 obtain ⟨vl, k1, k2, k3, k4⟩ := jb hg.obj he rx
                 obtain ⟨b, m, cap, hμ, hlcap, hcapm, hcd⟩ := (Jn hE hG hd e1).slA
                 have hstr : ∀ sb, a.eval s = .string sb -> i.size = 1 := by
                   intro sb hsb
                   rw [hsb] at rx
                   unfold Jk at he
                   split at he <;> first
                     | (split at he
                        · assumption
                        · cases he; done)
                     | (cases rx; rename_i rx; cases rx; done)
                     | (cases rx; done)
                     | cases he
                 have hmin : Nat.min n len <= n := Nat.min_le_left _ _
                 have hmin2 : Nat.min n len <= len := Nat.min_le_right _ _
                 have hfirst := k1.first (P := P) k4 hmin hstr
                 obtain ⟨b', n', vs, et, lo, hi', q1, q2, q3, q4, q5, q6, q7⟩ := (hg.obj id _ hob).cells
                 rw [hμ] at q1
                 cases q1
                 have hml : Nat.min n len * i.size <= len * i.size := Nat.mul_le_mul_right _ hmin2
                 have hmn : Nat.min n len * i.size <= n * i.size := Nat.mul_le_mul_right _ hmin
                 have htl : (vl.take (Nat.min n len * i.size)).length = Nat.min n len * i.size := by rw [List.length_take]; omega
                 obtain ⟨w1, vs1, r1, r2, r3, r4, r5, r6⟩ := Pi (P := P) (o := off) (vl.take (Nat.min n len * i.size)) w vs 0 q2 (by rw [htl]; omega) (fun j hj1 hj2 => (q7 j (by omega) (by rw [htl] at hj2; omega)).2) (fun x hx => k3 x (List.mem_of_mem_take hx))
                 have htc : (Bu new (Nat.min n len * i.size)).len = Nat.min n len * i.size := by
                   rw [Q1.len_toList, No, List.length_take, k2.length]; omega
                 obtain ⟨μ', g1, g2, g3⟩ := wj (c' := O5 c' off (Bu new (Nat.min n len * i.size))) (ver' := vr) (nc := (Bu new (Nat.min n len * i.size)).toList) hg hob hμ q2 q3 q4 r2 r3 (by rw [htl]; omega) r4 r5 r6 (by omega)
                   (by rw [No]; exact k2.take _) (fun x hx => k3 x (List.mem_of_mem_take hx)) (by
                     intro j v hv
                     rcases Vu (by omega) hv with h | h | h
                     · exact .inl h
                     · exact .inr (.inl ⟨h.1, by rw [htl]; omega, h.2.2⟩)
                     · exact .inr (.inr ⟨by rw [htl]; omega, h.2⟩)) (by rw [Uy (by omega)]; exact q4) (.inl rfl)
                 refine ⟨.value (.int .i64 (Nat.min n len)), .int .i64 (Nat.min n len), w1, μ', ?_, .value _, g1, g2, .p (.int _ _)⟩
                 have hsize : (sizeOf e).run P w = .ok i.size w := by simp [sizeOf, typeInfo, hi]
                 simp only [List.map_toArray, List.map_cons, List.map_nil, builtin, Builtin.copy_, List.getElem?_toArray, List.getElem?_cons_zero, List.getElem?_cons_succ, Sem.run_bind, run_underlying ht, Result.andThen_ok, hcd, k1.lenOf, hsize, hfirst]
                 simp [r1, goInt]
               · cases hv
             · cases hv
           · cases hv
         · cases hv
       · cases hv
     · cases hc
   · cases hc
 · -- clear
   rename_i t x h1 h2
   simp only at h1 h2
   subst h1 h2
   split at hc
   · rename_i e ht
     split at hc
     · rename_i sz z x' hel hx
       obtain rfl := Option.some.inj hc
       obtain ⟨i, c, hi, hsz, hzc, h0, hzl, hby, hr, hcs, h1⟩ := Xl hel S w μ
       subst hsz
       simp only [Be] at hv
       split at hv
       · rename_i id ver off len e' e1
         split at hv
         · rename_i hl0
           simp only [Option.some.injEq, Prod.mk.injEq] at hv
           obtain ⟨rfl, rfl⟩ := hv
           subst hl0
           obtain ⟨b, m, cap, hμ, hlcap, hcapm, hcd⟩ := (Jn hE hG hx e1).slA
           refine ⟨.value (.tuple #[]), .tuple #[], w, μ, ?_, .value _, hg, .refl _ _ _ _, .dead _⟩
           simp [builtin, Builtin.clear_, run_underlying ht, hcd]
         · rename_i hl0
           split at hv
           · rename_i c' vr wm ty0 hob
             split at hv
             · rename_i hcond
               obtain ⟨rfl, rfl, hwm, hroom⟩ := hcond
               simp only [Option.some.injEq, Prod.mk.injEq] at hv
               obtain ⟨rfl, rfl⟩ := hv
               obtain ⟨b, m, cap, hμ, hlcap, hcapm, hcd⟩ := (Jn hE hG hx e1).slA
               obtain ⟨b', n', vs, et, lo, hi', q1, q2, q3, q4, q5, q6, q7⟩ := (hg.obj id _ hob).cells
               rw [hμ] at q1
               cases q1
               have hrep := P6 hr len
               have hzl2 : ((List.replicate len c.cells.toList).flatten).length = len * i.size := by
                 rw [<- Kk c.cells len (by omega)]
                 simp [Builtin.zeroCells, hcs]
               have hones := P0 h1 len
               obtain ⟨w1, vs1, r1, r2, r3, r4, r5, r6⟩ := Pi (P := P) (o := off) ((List.replicate len c.cells.toList).flatten) w vs 0 q2 (by rw [hzl2]; omega) (fun j hj1 hj2 => (q7 j (by omega) (by rw [hzl2] at hj2; omega)).2) hones
               have htc : (repZ z len).len = len * i.size := by
                 rw [Q1.len_toList, R6, hrep.length, hzl2]
               obtain ⟨μ', g1, g2, g3⟩ := wj (c' := O5 c' off (repZ z len)) (ver' := vr) (nc := (repZ z len).toList) hg hob hμ q2 q3 q4 r2 r3 (by rw [hzl2]; omega) r4 r5 r6 hwm
                 (by rw [R6]; exact hrep) hones (by
                   intro j v hv
                   rcases Vu (by omega) hv with h | h | h
                   · exact .inl h
                   · exact .inr (.inl ⟨h.1, by rw [hzl2]; omega, h.2.2⟩)
                   · exact .inr (.inr ⟨by rw [hzl2]; omega, h.2⟩)) (by rw [Uy (by omega)]; exact q4) (.inl rfl)
               refine ⟨.value (.tuple #[]), .tuple #[], w1, μ', ?_, .value _, g1, g2, .dead _⟩
               have hz : (zeroValue e).run P w = .ok c w := by simp [zeroValue, typeInfo, hi, hzc]
               obtain ⟨len', rfl⟩ : ∃ k, len = k + 1 := ⟨len - 1, by omega⟩
               simp only [List.map_toArray, List.map_cons, List.map_nil, builtin, Builtin.clear_, List.getElem?_toArray, List.getElem?_cons_zero, Sem.run_bind, run_underlying ht, Result.andThen_ok, hcd, hz, Kk c.cells (len' + 1) (by omega)]
               simp [r1]
             · cases hv
           · cases hv
       · rename_i e1
         simp only [Option.some.injEq, Prod.mk.injEq] at hv
         obtain ⟨rfl, rfl⟩ := hv
         refine ⟨.value (.tuple #[]), .tuple #[], w, μ, ?_, .value _, hg, .refl _ _ _ _, .dead _⟩
         have hrx := Jn hE hG hx e1
         generalize hvx : a.eval x = vx at hrx
         cases hrx with
         | p hrx =>
           cases hrx with
           | vsl0 cap ad => cases ad <;> simp [builtin, Builtin.clear_, run_underlying ht, hvx]
           | vsl h hc => simp [builtin, Builtin.clear_, run_underlying ht, hvx]
       · cases hv
     · cases hc
   · cases hc
 · simp only [Option.map_eq_some_iff] at hc; obtain ⟨y, hy, rfl⟩ := hc; simp [Be] at hv
 · simp only [Option.map_eq_some_iff] at hc; obtain ⟨y, hy, rfl⟩ := hc; simp [Be] at hv
 · simp only [Option.map_eq_some_iff] at hc; obtain ⟨y, hy, rfl⟩ := hc; simp [Be] at hv
 · obtain rfl := Option.some.inj hc; simp [Be] at hv
 · simp only [Option.map_eq_some_iff] at hc; obtain ⟨y, hy, rfl⟩ := hc; simp [Be] at hv
 · -- unsafe.String
   rename_i pt it p n h1 h2
   simp only at h1 h2
   subst h1 h2
   split at hc
   · rename_i e hp
     split at hc
     · rename_i hce
       split at hc
       · rename_i p' n' hp' hn'
         obtain rfl := Option.some.inj hc
         simp only [Be] at hv
         split at hv
         · rename_i e1 e2
           simp only [Option.some.injEq, Prod.mk.injEq] at hv
           obtain ⟨rfl, rfl⟩ := hv
           have r2 := (Jn hE hG hn' e2).int
           have r1 : a.eval p = .pointer none := by
             have := Jn hE hG hp' e1
             generalize a.eval p = c at this
             exact this.nilptr_inv
           refine ⟨.value (.string .empty), .string .empty, w, μ, ?_, .value _, hg, .refl _ _ _ _, .p (.str rfl)⟩
           have := Lib.run_unsafeString_none (P := P) w pt it type none
           simp [builtin, r1, r2, this]
         · rename_i id ver m e1 e2
           split at hv
           · rename_i l v0 wm ty0 hob
             split at hv
             · rename_i hcond
               obtain ⟨rfl, rfl, hm0, hml, hlim⟩ := hcond
               split at hv
               · rename_i s hs
                 simp only [Option.some.injEq, Prod.mk.injEq] at hv
                 obtain ⟨rfl, rfl⟩ := hv
                 have r2 := (Jn hE hG hn' e2).int
                 obtain ⟨b, nn, hμ, r1⟩ := (Jn hE hG hp' e1).ptrA
                 have hmn : ((m.toNat : Nat) : Int) = m := Int.toNat_of_nonneg (by omega)
                 obtain ⟨w1, q1, q2, q3⟩ := Qhh (P := P) (m := m.toNat) (pt := pt) (it := it) (tt := type) hg hob hμ (by omega) (by omega) hlim hs hp hce
                 rw [hmn] at q1
                 exact ⟨.value (.string ⟨s.toArray⟩), .string ⟨s.toArray⟩, w1, μ, by simp [builtin, r1, r2, q1], .value _, q2, q3, .p (.str (by simp))⟩
               · cases hv
             · cases hv
           · cases hv
         · cases hv
       · cases hc
     · cases hc
   · cases hc
 · cases hc
theorem Qow {o : Oper} {ao : AOp} {v : AV} (hc : cOp P G o.op = some ao) (hv : Be M σ ao = some (v, σ')) : Acts P S w μ σ (execOp a.eval o) v σ' := by
 by_cases hst : ∃ t x y, o.op = .store t x y
 · obtain ⟨t, x, y, ho⟩ := hst
   rw [ho] at hc
   simp only [cOp] at hc
   split at hc
   · rename_i n x' y' hn hx hy
     obtain rfl := Option.some.inj hc
     exact Qi5 hE hG hg ho hn hx hy hv
   · cases hc
 obtain ⟨dst, op, oty, pos, after, guard⟩ := o
 simp only at hc
 cases op with
 | store t x y => exact absurd ⟨t, x, y, rfl⟩ hst
 | call c =>
   obtain ⟨callee, args, tys⟩ := c
   cases callee with
   | builtin b =>
     simp only [cOp] at hc
     obtain ⟨nx, c, w1, μ', h1, h2⟩ := Qi2 hE hG hg hc hv oty (args.map fun | .const _ => true | _ => false)
     exact ⟨nx, c, w1, μ', by simp only [execOp, resolve, invoke, Sem.run_bind, Sem.run_pure, Result.andThen_ok]; exact h1, h2⟩
   | value f =>
     simp only [cOp] at hc
     split at hc
     · obtain rfl := Option.some.inj hc; simp [Be] at hv
     · cases hc
   | invoke r m => simp [cOp] at hc
 | next x s =>
   cases s with
   | true =>
     simp only [cOp, Option.map_eq_some_iff] at hc
     obtain ⟨y, hy, rfl⟩ := hc
     simp only [Be] at hv
     split at hv
     · rename_i id he
       obtain ⟨b, m, hμ, e⟩ := (Jn hE hG hy he).ptrA
       split at hv
       · rename_i s pos' hob
         obtain ⟨b', n', cs, q1, q2, q3⟩ := hg.obj id _ hob
         rw [hμ] at q1
         cases q1
         have hcs : cs = ⟨s.toArray⟩ := by rw [<- q3]
         have hlen : cs.size = s.length := by rw [<- q3]; rfl
         split at hv
         · rename_i hlt
           simp only [Option.some.injEq, Prod.mk.injEq] at hv
           obtain ⟨rfl, rfl⟩ := hv
           let d := Utf8.decode ⟨s.toArray⟩ pos'
           let w1 : World := { w with heap := w.heap.setIfInBounds b (.stringIter cs (pos' + d.2)) }
           have hbs : b < w.heap.size := (Array.getElem?_eq_some_iff.1 q2).1
           have hblk : ∀ bb, bb ≠ b -> w1.heap[bb]? = w.heap[bb]? := by
             intro bb hne
             show (w.heap.setIfInBounds b _)[bb]? = _
             rw [Array.getElem?_setIfInBounds_ne (Ne.symm hne)]
           have hat : w1.heap[b]? = some (.stringIter cs (pos' + d.2)) := by
             show (w.heap.setIfInBounds b _)[b]? = _
             rw [Array.getElem?_setIfInBounds_self_of_lt hbs]
           have hS : ∀ bb j, S bb j -> w1.cell? ⟨bb, j, none⟩ = w.cell? ⟨bb, j, none⟩ := by
             intro bb j _
             by_cases hbb : bb = b
             · subst hbb
               simp [World.cell?, hat, q2]
             · exact E7 (hblk bb hbb)
           obtain ⟨g1, g2⟩ := Xq (w1 := w1) (μ' := μ) (o' := .iter s (pos' + d.2)) (b' := b) (n' := m) hg hob rfl hμ hμ (.inl rfl) (fun _ _ _ h => h) (fun _ _ _ => rfl)
             (fun v x h => by obtain ⟨o, ho, h1, h2⟩ := hg.old _ _ _ h; rw [hob] at ho; cases ho; exact ⟨h1, by show _ < (w.heap.setIfInBounds b _).size; simpa using h2⟩)
             (by show _ <= (w.heap.setIfInBounds b _).size; simp) (fun bb _ h => hblk bb h) hS ⟨b, m, cs, hμ, hat, q3⟩ ⟨rfl, rfl, rfl⟩
           refine ⟨.value (.tuple #[.bool true, .int .i64 pos', .int .i32 d.1]), _, w1, μ, ?_, .value _, g1, g2, .p (.tup (.cons (.bool _) (.cons (.int _ _) (.cons (.int _ _) .nil))))⟩
           have hrun : (getObj b).run P w = .ok (.stringIter cs pos') w := by simp [getObj, Sem.run, q2]
           have hset : (setObj b (.stringIter cs (pos' + d.2))).run P w = .ok () w1 := by simp [setObj, Sem.run, q2, w1]
           simp only [execOp, e, Instr.next, Sem.run_bind, hrun, Result.andThen_ok]
           rw [if_pos (by omega)]
           have hd : Utf8.decode cs pos' = d := by rw [hcs]
           simp only [hd, Sem.run_bind, hset, Result.andThen_ok, Sem.run_pure]
           rfl
         · rename_i hlt
           simp only [Option.some.injEq, Prod.mk.injEq] at hv
           obtain ⟨rfl, rfl⟩ := hv
           refine ⟨.value (.tuple #[.bool false]), _, w, μ, ?_, .value _, hg, .refl _ _ _ _, .p (.tup (.cons (.bool _) .nil))⟩
           have hrun : (getObj b).run P w = .ok (.stringIter cs pos') w := by simp [getObj, Sem.run, q2]
           simp only [execOp, e, Instr.next, Sem.run_bind, hrun, Result.andThen_ok]
           rw [if_neg (by omega)]
           simp
       · cases hv
     · cases hv
   | false => simp [cOp] at hc
 | move x => simp only [cOp, Option.map_eq_some_iff] at hc; obtain ⟨y, hy, rfl⟩ := hc; simp [Be] at hv
 | assign x => simp only [cOp, Option.map_eq_some_iff] at hc; obtain ⟨y, hy, rfl⟩ := hc; simp [Be] at hv
 | pick c x y =>
   simp only [cOp] at hc
   split at hc
   · obtain rfl := Option.some.inj hc; simp [Be] at hv
   · cases hc
 | alloc t => simp only [cOp, Option.map_eq_some_iff] at hc; obtain ⟨y, hy, rfl⟩ := hc; simp [Be] at hv
 | box t x =>
   simp only [cOp] at hc
   split at hc
   · obtain rfl := Option.some.inj hc; simp [Be] at hv
   · cases hc
 | build t parts =>
   simp only [cOp] at hc
   split at hc
   · split at hc
     · simp only [Option.map_eq_some_iff] at hc; obtain ⟨y, hy, rfl⟩ := hc; simp [Be] at hv
     · cases hc
   · split at hc
     · simp only [Option.map_eq_some_iff] at hc; obtain ⟨y, hy, rfl⟩ := hc; simp [Be] at hv
     · cases hc
   · cases hc
 | buildSlice t len parts =>
   simp only [cOp] at hc
   split at hc
   · split at hc
     · split at hc
       · simp only [Option.map_eq_some_iff] at hc; obtain ⟨y, hy, rfl⟩ := hc; simp [Be] at hv
       · cases hc
     · cases hc
   · cases hc
 | load t x =>
   simp only [cOp] at hc
   split at hc
   · obtain rfl := Option.some.inj hc; simp [Be] at hv
   · cases hc
 | nilCheck x => simp only [cOp, Option.map_eq_some_iff] at hc; obtain ⟨y, hy, rfl⟩ := hc; simp [Be] at hv
 | binOp op t x y yt =>
   simp only [cOp] at hc
   split at hc
   · obtain rfl := Option.some.inj hc; simp [Be] at hv
   · cases hc
 | unOp u t x => simp only [cOp, Option.map_eq_some_iff] at hc; obtain ⟨y, hy, rfl⟩ := hc; simp [Be] at hv
 | convert s d x =>
   simp only [cOp] at hc
   split at hc
   · obtain rfl := Option.some.inj hc; simp [Be] at hv
   · obtain rfl := Option.some.inj hc; simp [Be] at hv
   · obtain rfl := Option.some.inj hc; simp [Be] at hv
   · split at hc
     · obtain rfl := Option.some.inj hc; simp [Be] at hv
     · cases hc
   · split at hc
     · obtain rfl := Option.some.inj hc; simp [Be] at hv
     · cases hc
   · cases hc
 | sliceToArrayPointer d x => simp [cOp] at hc
 | makeInterface t x =>
   simp only [cOp] at hc
   split at hc
   · cases hc
   · simp only [Option.map_eq_some_iff] at hc; obtain ⟨y, hy, rfl⟩ := hc; simp [Be] at hv
   · cases hc
 | makeFunc f first caps =>
   cases f with
   | func f =>
     simp only [cOp] at hc
     split at hc
     · obtain rfl := Option.some.inj hc; simp [Be] at hv
     · cases hc
   | _ => simp [cOp] at hc
 | makeMap t r => simp [cOp] at hc
 | makeChan t s => simp [cOp] at hc
 | makeSlice t l c =>
   simp only [cOp] at hc
   split at hc
   · split at hc
     · obtain rfl := Option.some.inj hc; simp [Be] at hv
     · cases hc
   · cases hc
 | slice t x lo hi mx =>
   simp only [cOp] at hc
   split at hc
   · split at hc
     · obtain rfl := Option.some.inj hc; simp [Be] at hv
     · cases hc
   · split at hc
     · obtain rfl := Option.some.inj hc; simp [Be] at hv
     · cases hc
   · split at hc
     · obtain rfl := Option.some.inj hc; simp [Be] at hv
     · cases hc
   · split at hc
     · split at hc
       · obtain rfl := Option.some.inj hc; simp [Be] at hv
       · cases hc
     · cases hc
   · cases hc
 | fieldAddr t x f =>
   simp only [cOp] at hc
   split at hc
   · split at hc
     · split at hc
       · split at hc
         · cases hc
         · obtain rfl := Option.some.inj hc; simp [Be] at hv
       · cases hc
     · cases hc
   · cases hc
 | field t x f =>
   simp only [cOp] at hc
   split at hc
   · split at hc
     · split at hc
       · obtain rfl := Option.some.inj hc; simp [Be] at hv
       · cases hc
     · cases hc
   · cases hc
 | indexAddr t x i =>
   simp only [cOp] at hc
   split at hc
   · split at hc
     · obtain rfl := Option.some.inj hc; simp [Be] at hv
     · cases hc
   · split at hc
     · obtain rfl := Option.some.inj hc; simp [Be] at hv
     · cases hc
   · cases hc
 | index t x i =>
   simp only [cOp] at hc
   split at hc
   · split at hc
     · obtain rfl := Option.some.inj hc; simp [Be] at hv
     · cases hc
   · split at hc
     · obtain rfl := Option.some.inj hc; simp [Be] at hv
     · cases hc
   · cases hc
 | range t x =>
   simp only [cOp] at hc
   split at hc
   · simp only [Option.map_eq_some_iff] at hc; obtain ⟨y, hy, rfl⟩ := hc; simp [Be] at hv
   · cases hc
 | typeAssert x xt t ok =>
   simp only [cOp] at hc
   split at hc
   · cases hc
   · split at hc
     · split at hc
       · split at hc
         · obtain rfl := Option.some.inj hc; simp [Be] at hv
         · cases hc
       · cases hc
     · cases hc
   · cases hc
 | extract x i => simp only [cOp, Option.map_eq_some_iff] at hc; obtain ⟨y, hy, rfl⟩ := hc; simp [Be] at hv
 | panic x => simp only [cOp, Option.map_eq_some_iff] at hc; obtain ⟨y, hy, rfl⟩ := hc; simp [Be] at hv
 | defer c =>
   obtain ⟨callee, args, tys⟩ := c
   cases callee with
   | value f =>
     simp only [cOp] at hc
     split at hc
     · obtain rfl := Option.some.inj hc; simp [Be] at hv
     · cases hc
   | _ => simp [cOp] at hc
 | _ => simp [cOp] at hc
end
end Go.Ab
