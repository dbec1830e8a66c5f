/- W1 -/
import Derived.Test.YtikebbklkiodlaaGreatDoorAbUX
import Derived.Test.YtikebbklkiodlaaGreatDoorAbX0
set_option maxRecDepth 1000000
set_option linter.all false
namespace Go.Ab.Turn
open Go Go.Ab Go.Ab.Plan Go.Ab.Key Go.Ab.Cnt Go.Proofs
class Mx where
 m : Int
variable [Mx]
def GT : Bx := fun x => if x = 0 then some Qco else if x = 1 then some [.int .i64 Mx.m] else none
noncomputable instance instT : Q4 := { noMarks with rnd := Qog Tryz.prog GT, raw := fun f => Nat.beq f 16 || Nat.beq f 18 || Nat.beq f 19 || Nat.beq f 26 || Nat.beq f 4294967295 }
noncomputable def TX : Ld
 | 3 => some (.code lit103 true)
 | 4 => some (.code lit14 true)
 | 6 => some (.ans lit15)
 | 7 => some (.ans lit16)
 | 8 => some (.code lit17 true)
 | 9 => some (.ans lit109)
 | 10 => some (.code lit110 true)
 | 11 => some (.code lit111 true)
 | 16 => some (.raw lit22)
 | 17 => some (.code lit23 true)
 | 18 => some (.raw lit24)
 | 19 => some (.raw lit25)
 | 20 => some (.code lit26 true)
 | 21 => some (.code lit27 true)
 | 22 => some (.code lit28 true)
 | 23 => some (.code lit123 true)
 | 24 => some (.code lit124 true)
 | 25 => some (.code lit125 true)
 | 26 => some (.raw lit29)
 | 27 => some (.code lit30 true)
 | 28 => some (.code lit31 true)
 | 30 => some (.ext (extP Enc.replO) true)
 | 31 => some (.ext (extP Enc.trimO) true)
 | 32 => some (.code lit132 true)
 | 33 => some (.code lit133 true)
 | 34 => some (.code lit134 true)
 | 35 => some (.code lit135 true)
 | 36 => some (.code lit136 true)
 | 37 => some (.code lit137 true)
 | 38 => some (.code lit138 true)
 | 39 => some (.code lit139 true)
 | 40 => some (.code lit140 true)
 | 41 => some (.code lit141 true)
 | 42 => some (.code lit142 true)
 | 43 => some (.code lit143 true)
 | 44 => some (.code lit35 true)
 | 45 => some (.code lit36 true)
 | 52 => some (.code lit152 true)
 | 53 => some (.code lit153 true)
 | 54 => some (.code lit154 true)
 | 55 => some (.code lit155 true)
 | 56 => some (.code lit156 true)
 | 57 => some (.code lit157 true)
 | 58 => some (.code lit158 true)
 | 59 => some (.code lit159 true)
 | 60 => some (.ans lit160)
 | 61 => some (.code lit161 true)
 | 62 => some (.code lit162 true)
 | 63 => some (.code lit163 true)
 | 64 => some (.code lit164 true)
 | 65 => some (.code lit165 true)
 | 66 => some (.code lit166 true)
 | 67 => some (.code lit167 true)
 | 68 => some (.code lit168 true)
 | 69 => some (.code lit169 true)
 | 70 => some (.code lit170 true)
 | 71 => some (.code lit171 true)
 | 72 => some (.code lit172 true)
 | 73 => some (.code lit173 true)
 | 74 => some (.code lit174 true)
 | 84 => some (.code lit184 true)
 | 85 => some (.code lit185 true)
 | 86 => some (.code lit186 true)
 | 87 => some (.code lit187 true)
 | 88 => some (.code lit188 true)
 | 89 => some (.code lit189 true)
 | 90 => some (.code lit190 true)
 | 91 => some (.code lit191 true)
 | 100 => some (.code lit200 true)
 | 4294967295 => some (.rnd)
 | _ => none
noncomputable def TT : Ld := Qi6 TX (Qi6 (Qzp Go.Proofs.Tryz.prog GT [5]) (Qzc Go.Proofs.Tryz.prog GT [] []))
theorem q103 : TT 3 = some (.code lit103 true) := by rfl
theorem q14 : TT 4 = some (.code lit14 true) := by rfl
theorem q15 : TT 6 = some (.ans lit15) := by rfl
theorem q16 : TT 7 = some (.ans lit16) := by rfl
theorem q17 : TT 8 = some (.code lit17 true) := by rfl
theorem q109 : TT 9 = some (.ans lit109) := by rfl
theorem q110 : TT 10 = some (.code lit110 true) := by rfl
theorem q111 : TT 11 = some (.code lit111 true) := by rfl
theorem q22 : TT 16 = some (.raw lit22) := by rfl
theorem q23 : TT 17 = some (.code lit23 true) := by rfl
theorem q24 : TT 18 = some (.raw lit24) := by rfl
theorem q25 : TT 19 = some (.raw lit25) := by rfl
theorem q26 : TT 20 = some (.code lit26 true) := by rfl
theorem q27 : TT 21 = some (.code lit27 true) := by rfl
theorem q28 : TT 22 = some (.code lit28 true) := by rfl
theorem q123 : TT 23 = some (.code lit123 true) := by rfl
theorem q124 : TT 24 = some (.code lit124 true) := by rfl
theorem q125 : TT 25 = some (.code lit125 true) := by rfl
theorem q29 : TT 26 = some (.raw lit29) := by rfl
theorem q30 : TT 27 = some (.code lit30 true) := by rfl
theorem q31 : TT 28 = some (.code lit31 true) := by rfl
theorem q33 : TT 30 = some (.ext (extP Enc.replO) true) := by rfl
theorem q34 : TT 31 = some (.ext (extP Enc.trimO) true) := by rfl
theorem q132 : TT 32 = some (.code lit132 true) := by rfl
theorem q133 : TT 33 = some (.code lit133 true) := by rfl
theorem q134 : TT 34 = some (.code lit134 true) := by rfl
theorem q135 : TT 35 = some (.code lit135 true) := by rfl
theorem q136 : TT 36 = some (.code lit136 true) := by rfl
theorem q137 : TT 37 = some (.code lit137 true) := by rfl
theorem q138 : TT 38 = some (.code lit138 true) := by rfl
theorem q140 : TT 40 = some (.code lit140 true) := by rfl
theorem q141 : TT 41 = some (.code lit141 true) := by rfl
theorem q142 : TT 42 = some (.code lit142 true) := by rfl
theorem q143 : TT 43 = some (.code lit143 true) := by rfl
theorem q35 : TT 44 = some (.code lit35 true) := by rfl
theorem q36 : TT 45 = some (.code lit36 true) := by rfl
theorem q152 : TT 52 = some (.code lit152 true) := by rfl
theorem q153 : TT 53 = some (.code lit153 true) := by rfl
theorem q154 : TT 54 = some (.code lit154 true) := by rfl
theorem q155 : TT 55 = some (.code lit155 true) := by rfl
theorem q156 : TT 56 = some (.code lit156 true) := by rfl
theorem q157 : TT 57 = some (.code lit157 true) := by rfl
theorem q158 : TT 58 = some (.code lit158 true) := by rfl
theorem q159 : TT 59 = some (.code lit159 true) := by rfl
theorem q160 : TT 60 = some (.ans lit160) := by rfl
theorem q161 : TT 61 = some (.code lit161 true) := by rfl
theorem q162 : TT 62 = some (.code lit162 true) := by rfl
theorem q163 : TT 63 = some (.code lit163 true) := by rfl
theorem q164 : TT 64 = some (.code lit164 true) := by rfl
theorem q165 : TT 65 = some (.code lit165 true) := by rfl
theorem q166 : TT 66 = some (.code lit166 true) := by rfl
theorem q167 : TT 67 = some (.code lit167 true) := by rfl
theorem q168 : TT 68 = some (.code lit168 true) := by rfl
theorem q169 : TT 69 = some (.code lit169 true) := by rfl
theorem q170 : TT 70 = some (.code lit170 true) := by rfl
theorem q171 : TT 71 = some (.code lit171 true) := by rfl
theorem q172 : TT 72 = some (.code lit172 true) := by rfl
theorem q173 : TT 73 = some (.code lit173 true) := by rfl
theorem q174 : TT 74 = some (.code lit174 true) := by rfl
theorem q184 : TT 84 = some (.code lit184 true) := by rfl
theorem q185 : TT 85 = some (.code lit185 true) := by rfl
theorem q186 : TT 86 = some (.code lit186 true) := by rfl
theorem q187 : TT 87 = some (.code lit187 true) := by rfl
theorem q188 : TT 88 = some (.code lit188 true) := by rfl
theorem q189 : TT 89 = some (.code lit189 true) := by rfl
theorem q190 : TT 90 = some (.code lit190 true) := by rfl
theorem q200 : TT 100 = some (.code lit200 true) := by rfl
theorem qr : TT 4294967295 = some (.rnd) := by rfl
theorem alive (L n : Nat) : isT ((cAt TT (L + 100) (n + 30)).1 5 [] []) = true := by kernel_rfl
noncomputable def af32 : Q2 := match TT 29 with
 | some (.code af _) => af
 | _ => { ntmps := 0, results := [], body := .skip }
theorem q32 : TT 29 = some (.code af32 true) := by kernel_rfl
theorem k32a (L n : Nat) (σ : Heap) : (cAt TT (L + 10) (n + 3)).1 29 [.p (.agg [.int .i64 2, .int .i64 0])] σ = some (.ret (int 1), σ) := Z7 (ps := [.agg [.int .i64 2, .int .i64 0]]) q32 (by kernel_rfl) (by kernel_rfl) σ
theorem k32b (L n : Nat) (σ : Heap) : (cAt TT (L + 10) (n + 3)).1 29 [.p (.agg [.int .i64 3, .int .i64 0])] σ = some (.ret (int 1), σ) := Z7 (ps := [.agg [.int .i64 3, .int .i64 0]]) q32 (by kernel_rfl) (by kernel_rfl) σ
theorem k32c (L n : Nat) (σ : Heap) : (cAt TT (L + 10) (n + 3)).1 29 [.p (.agg [.int .i64 5, .int .i64 9])] σ = some (.ret (int 2), σ) := Z7 (ps := [.agg [.int .i64 5, .int .i64 9]]) q32 (by kernel_rfl) (by kernel_rfl) σ
section
variable (L n : Nat)
theorem c35 (z : Int) (σ : Heap) : (cAt TT L (n + 1)).1 44 [int z] σ = some (.ret (.p (.agg [.int .i64 1, .int .i64 z, .str [], .bool false])), σ) := Z7 (ps := [.int .i64 z]) q35 (by rfl) (run35 _ _ _ z) σ
theorem c36 (s : Word) (σ : Heap) : (cAt TT L (n + 1)).1 45 [.p (.str s)] σ = some (.ret (.p (.agg [.int .i64 2, .int .i64 0, .str s, .bool false])), σ) := Z7 (ps := [.str s]) q36 (by rfl) (run36 _ _ _ s) σ
theorem c30 (s : Word) (σ : Heap) : (cAt TT L (n + 1)).1 27 [.p (.str s)] σ = some (.ret (.p (.str (if Hc s = true then flip s else []))), σ) := Z7 (ps := [.str s]) q30 (by rfl) (run30 _ _ _ s) σ
theorem c31 (t : T) (h : okT t) (σ : Heap) : (cAt TT L (n + 2)).1 28 [.p (node t)] σ = some (.ret (.p (.tup [.agg (litC (lit t)), .bool (lit t).isSome])), σ) :=
 Z7 (ps := [node t]) q31 (by rfl) (run31 _ _ _ t h (fun z σ => c35 L n z σ) (fun s σ => c36 L n s σ)) σ
theorem c23 (k : List Nat) (m : Nat) (hm : 4 <= m) (t : T) (h : okT t) : ∃ c b, (∀ σ, (cAt TT (L + 10) m).1 17 [.p (tbl k), .p (node t), int 0] σ = some (.ret (.p (.tup [.agg c, .bool b])), σ)) /\ Ok23 (read slT t) c b /\ c.length = 6 := by
 obtain ⟨n, rfl⟩ : ∃ j, m = j + 4 := ⟨m - 4, by omega⟩
 obtain ⟨c, b, hr, hO, hl⟩ := run23 (cAt TT (L + 10) (n + 3)).1 (cAt TT (L + 10) (n + 3)).2 (L + 10) k t h (fun s σ => c30 _ _ s σ) (fun t ht σ => c31 _ _ t ht σ) (by rfl) (by rfl) ⟨k32a L n, k32b L n, k32c L n⟩
 exact ⟨c, b, fun σ => Z7 (ps := [tbl k, node t, .int .i64 0]) q23 (by rfl) hr σ, hO, hl⟩
end
end Go.Ab.Turn
namespace Go.Ab.Turn
open Go Go.Ab Go.Ab.Plan Go.Ab.Key Go.Ab.Cnt Go.Proofs
def okL (v : Lit) : Prop := (litV v).ok /\ Enc.wt (litV v) <= 2097155
theorem neg_ok {n : Int} (h : inR n) : inR (negI n) := by
 unfold inR negI at *
 split <;> omega
theorem Qxj {op s : Word} {n : Int} {l : List T} (h : okT (.mk op s n l)) : inR n /\ s.length <= 1048576 := ⟨h.1.1, h.1.2.1⟩
theorem lit_ok {t : T} (h : okT t) {v : Lit} (hv : lit t = some v) : okL v := by
 cases t with
 | mk op s n l =>
   obtain ⟨h1, h2⟩ := Qxj h
   have num : ∀ n, inR n -> okL (.num n) := fun n hn => ⟨hn, by simp [litV, Enc.wt]⟩
   unfold lit at hv
   by_cases a1 : (T.mk op s n l).op = wNum
   · rw [if_pos a1] at hv
     obtain rfl := Option.some.inj hv
     exact num n h1
   · rw [if_neg a1] at hv
     by_cases a2 : (T.mk op s n l).op = Qs4
     · rw [if_pos a2] at hv
       obtain rfl := Option.some.inj hv
       refine ⟨trivial, ?_⟩
       show 2 * s.length + 3 <= 2097155
       omega
     · rw [if_neg a2] at hv
       by_cases a3 : (T.mk op s n l).op = Qrs
       · rw [if_pos a3] at hv
         obtain rfl := Option.some.inj hv
         exact ⟨trivial, by show 9 <= 2097155; omega⟩
       · rw [if_neg a3] at hv
         by_cases a4 : (T.mk op s n l).op = wNeg
         · rw [if_pos a4] at hv
           match l, h, hv with
           | [.mk zo zs zn zl], h, hv =>
             have hv' : (if (T.mk zo zs zn zl).op = wNum then some (Lit.num (negI zn)) else none) = some v := hv
             by_cases a5 : (T.mk zo zs zn zl).op = wNum
             · rw [if_pos a5] at hv'
               obtain rfl := Option.some.inj hv'
               exact num _ (neg_ok h.2.1.1.1)
             · rw [if_neg a5] at hv'
               cases hv'
         · rw [if_neg a4] at hv
           cases hv
theorem Qxs {t : T} (h : okT t) {c : Cl} (hc : read slT t = some c) : okL c.v /\ Hc c.op = true := by
 match t, h, hc with
 | .mk op s n [x, y], h, hc =>
   have hx : okT x := h.2.1
   have hy : okT y := h.2.2.1
   rw [Qfs] at hc
   split at hc
   · rename_i hop
     split at hc
     · cases hl : lit y with
       | none => rw [hl] at hc; cases hc
       | some v =>
         rw [hl] at hc
         simp only [Option.map_eq_some_iff] at hc
         obtain ⟨a, _, rfl⟩ := hc
         exact ⟨lit_ok hy hl, hop⟩
     · split at hc
       · cases hl : lit x with
         | none => rw [hl] at hc; cases hc
         | some v =>
           rw [hl] at hc
           simp only [Option.map_eq_some_iff] at hc
           obtain ⟨a, _, rfl⟩ := hc
           exact ⟨lit_ok hx hl, (Qfq hop).2⟩
       · cases hc
   · cases hc
mutual
theorem Qdr : ∀ {t : T}, okT t -> ∀ c ∈ Jo t, okT c
 | .mk op s n l, h, c, hc => by
   unfold Jo at hc
   split at hc
   · exact Qbs h.2 c hc
   · rw [List.mem_singleton.1 hc]; exact h
theorem Qbs : ∀ {l : List T}, Qp7 (fun _ s n k => inR n /\ s.length <= 1048576 /\ k <= 1048576) l -> ∀ c ∈ N7 l, okT c
 | [], _, c, hc => by cases hc
 | t :: r, h, c, hc => by
   unfold N7 at hc
   rcases List.mem_append.1 hc with hc | hc
   · exact Qdr h.1 c hc
   · exact Qbs h.2 c hc
end
theorem Qq0 {t : T} (h : okT t) : ∀ c ∈ L5 (Jo t), okL c.v /\ Hc c.op = true := fun c hc => by
 obtain ⟨u, hu, hr⟩ := List.mem_filterMap.1 hc
 exact Qxs (Qdr h u hu) hr
theorem Qg6 : ∀ (ks : List Nat) (l : List Cl) (v : Lit), v ∈ Jj ks l -> ∃ c ∈ l, c.v = v
 | [], l, v, h => by simp [Jj] at h
 | k :: ks, l, v, h => by
   rw [jk] at h
   cases hf : l.find? (T9 k) with
   | none => rw [hf] at h; cases h
   | some x =>
     rw [hf] at h
     rcases List.mem_cons.1 h with rfl | h
     · exact ⟨x, List.mem_of_find?_eq_some hf, rfl⟩
     · exact Qg6 ks l v h
theorem Qq6 : ∀ (F : List Lit), (∀ v ∈ F, okL v) -> Enc.wts (F.map litV) <= F.length * 2097155
 | [], _ => by simp [Enc.wts]
 | v :: F, h => by
   have h1 := (h v (List.mem_cons_self ..)).2
   have h2 := Qq6 F fun u hu => h u (List.mem_cons_of_mem _ hu)
   simp only [Enc.wts, List.map_cons, List.sum_cons, List.length_cons] at *
   omega
end Go.Ab.Turn
namespace Go.Ab.Turn
open Go Go.Ab Go.Ab.Plan Go.Ab.Key Go.Ab.Cnt Go.Proofs
variable [Mx]
theorem Qlt (F : List Lit) (h : ∀ v ∈ F, okL v) : (encF F).length <= F.length * 2097155 := Nat.le_trans (Enc.encL_len _) (Qq6 F h)
theorem c28 (L n : Nat) (s : Word) (h : s.length <= 16777216) (σ : Heap) : (cAt TT L (n + 1)).1 22 [.p (.str s)] σ = some (.ret (.p (.str (s ++ [255]))), σ) :=
 Z7 (ps := [.str s]) q28 (by rfl) (run28 _ _ _ s (by have : LIM = 4294967296 := rfl; omega)) σ
theorem c26 (L n : Nat) (F : List Lit) (hF : F.length <= 6) (h : ∀ v ∈ F, okL v) (σ : Heap) (f : AV) (hs : SlAt σ f (F.map litV)) :
   ∃ σ', (cAt TT (L + 20) (n + 2)).1 20 [f] σ = some (.ret (.p (.str (encF F))), σ') /\ SlAt σ' f (F.map litV) /\ σ'.length = σ.length /\ ∀ j, j ∉ own f -> σ'[j]? = σ[j]? :=
 enc_at q26 q33 q34 (F.map litV) (by rw [List.length_map]; omega) (by rw [List.length_map]; omega) (fun v hv => by
   obtain ⟨u, hu, rfl⟩ := List.mem_map.1 hv
   exact (h u hu).1) (by have := Qq6 F h; omega) σ f hs
theorem e27 (L n : Nat) (l : List Cl) (h : ∀ c ∈ l, okL c.v) : E27 (cAt TT (L + 20) (n + 2)).1 l where
 enc := fun c hc σ id ho => by
   have hs : SlAt σ (.sl id 0 0 1 4) ([c.v].map litV) := .inr ⟨id, 0, 0, [], none, rfl, by rw [ho]; simp [vcs]⟩
   obtain ⟨σ', e, _, hl, hk⟩ := c26 L n [c.v] (by simp) (fun v hv => by rw [List.mem_singleton.1 hv]; exact h c hc) σ _ hs
   exact ⟨σ', e, hl, fun j hj => hk j (by simpa [own] using hj)⟩
 abv := fun c hc σ => by
   have := Qlt [c.v] fun v hv => by rw [List.mem_singleton.1 hv]; exact h c hc
   exact c28 _ (n + 1) (encF [c.v]) (by simp at this; omega) σ
theorem e17 (L n : Nat) (k : List Nat) (hk : k.length <= 6) (ls : List Cl) (h : ∀ c ∈ ls, okL c.v /\ Hc c.op = true) (hl : ls.length <= LIM) (hL : ls.length < L + 20) (b : AV) : E17 (cAt TT (L + 20) (n + 3)).1 k ls b := by
 have hF : ∀ v ∈ Jj k ls, okL v := fun v hv => by
   obtain ⟨c, hc, rfl⟩ := Qg6 k ls v hv
   exact (h c hc).1
 have hFl := Qhk k ls
 refine ⟨fun σ f hs => c26 L (n + 1) (Jj k ls) (by omega) hF σ f hs, fun σ hs => ?_, fun σ => c28 _ (n + 2) _ (by have := Qlt _ hF; omega) σ⟩
 refine btw_at (n := n + 2) q27 ls (k.headD 0) _ (fun σ => ?_) σ b hs
 exact Z7 (ps := [.vsl (clsC ls) ls.length, .int .i64 (k.headD 0 : Nat)]) q27 (by rfl) (run27 _ _ _ hl hL (fun c hc => (h c hc).2) (e27 L n ls fun c hc => (h c hc).1) (by rfl)) σ
theorem path17 (L n : Nat) (k : List Nat) (hk : k.length <= 6) (t : T) (hok : okT t) (hcl : (Jo t).length <= LIM) (hclL : (Jo t).length < L + 20) (hn : 2 * deep t + 6 <= n) (σ : Heap) :
   (cAt TT (L + 20) (n + 4)).1 8 [.p (tbl k), .p (.vsl (cells t) 1), int 0] σ = some (.ret (.p (.agg (V4 k (L5 (Jo t))))), σ) := by
 have hs := Qjo t
 exact Z7 (ps := [tbl k, .vsl (cells t) 1, .int .i64 0]) (n := n + 3) q17 (by rfl)
   (run17 (m := 4) (n := n + 2) k hk t hok q22 q29 q24 q25 qr (by rfl) (by rfl) (by omega) hcl hclL (fun m hm u hu => c23 (L + 10) k m hm u hu) (by omega) (fun b => e17 L n k hk _ (Qq0 hok) (by omega) (by omega) b) (by omega)) σ
end Go.Ab.Turn
namespace Go.Ab.Turn
open Go Go.Ab Go.Ab.Plan Go.Ab.Key Go.Ab.Cnt Go.Proofs
variable [Mx]
theorem Qy3 (L n : Nat) (k : List Nat) (hk : k.length <= 6) (t : T) (hok : okT t) (hcl : (Jo t).length <= LIM) (hclL : (Jo t).length < L + 20) (hn : 2 * deep t + 6 <= n) (σ : Heap) (id : Nat) (ho : σ[id]? = some (.arr (.pv (cells t)) 0 0 none)) :
   (cAt TT (L + 20) (n + 4)).1 8 [.p (tbl k), .sl id 0 0 1 4, int 0] σ = some (.ret (.p (.agg (V4 k (L5 (Jo t))))), σ.set id (.arr (.pv (cells t)) 0 4 none)) := by
 have hc : (Eo σ [.p (tbl k), .sl id 0 0 1 4, int 0]).contains id = true := by
   simp [Eo, idsL, idsV, D9, idsO, ho]
 have h4 := W8 t
 have htk : (cells t).take 4 = cells t := List.take_of_length_le (by omega)
 have hf : frzA (Eo σ [.p (tbl k), .sl id 0 0 1 4, int 0]) 9 σ [.p (tbl k), .sl id 0 0 1 4, int 0] = ([tbl k, PV.vsl (cells t) 1, .int .i64 0].map .p, σ.set id (.arr (.pv (cells t)) 0 4 none)) := by
   generalize Eo σ [.p (tbl k), .sl id 0 0 1 4, int 0] = tl at hc ⊢
   generalize cells t = ct at ho h4 htk ⊢
   simp only [frzA, frz, ho, Q1.len, hc, Nat.zero_add, List.drop_zero, and_true, true_and, Nat.one_mul, h4, htk, if_true, Nat.le_refl, List.map_cons, List.map_nil]
   rfl
 rw [jg (ps := [tbl k, .vsl (cells t) 1, .int .i64 0]) q17 hf]
 exact path17 L n k hk t hok hcl hclL hn _
attribute [simp] Uw Qe7 AV.cells N0 O5 finA qc resA resV ansV finX Hp Ur Bu Fd Q1.get? Q1.toList lenA idxA Y9 eqP Vb B4 Yw opds Qc0 optO
end Go.Ab.Turn
namespace Go.Ab.Keep
open Go Go.Ab Go.Ab.Plan Go.Ab.Key Go.Ab.Cnt Go.Ab.Turn Go.Proofs
section
variable [Q4]
def Ww : Q0 := (((Q0.region [Mk 6 3, Ml 7 (.bin (.plain .gtr) (.t 6) (Mm 0)), Mk 8 7, ⟨some 9, .mv (.t 0), some (8, true)⟩, ⟨some 10, .mv (.t 3), some (8, true)⟩, ⟨some 11, .bin (.plain .sub) (.t 10) (Mm 1), some (8, true)⟩, ⟨some 12, .atStr (.t 9) (.t 11), some (8, true)⟩, ⟨some 13, .bin (.plain .eql) (.t 12) (.c (.p (.int .u8 32))), some (8, true)⟩, Ml 14 (.pick (.t 8) (.t 13) (.c (.p (.bool false))))]).seq (Q0.cond (.t 14) Q0.skip (Q0.exit 0))).seq (Q0.block 1 (Q0.region [Mk 15 3, Ml 16 (.bin (.plain .sub) (.t 15) (Mm 1)), Mk 3 16])))
theorem lit143_eq : lit143.body = (Q0.region [Ml 2 (.mv (.c (.p (.str []))))]).seq ((Q0.region [Mk 4 0, Ml 5 (.len true (.t 4)), Mk 3 5]).seq ((Q0.block 0 (Q0.loop none Ww)).seq ((Q0.region [Mk 17 0, Mk 18 3, Ml 19 (.sliceStr (.t 17) none (some (.t 18))), Mk 2 19]).seq Q0.ret))) := rfl
section
variable (C : Zj) (L : Nat) (s : List UInt8) (M : Env) (σ : Heap) (n : Nat)
theorem Qxt (h0 : M.get 0 = some (.p (.str s))) (h3 : M.get 3 = some (.p (.int .i64 (n : Int)))) (hn : n <= s.length) (hm : s.length <= 9223372036854775807) (hs : n = 0 ∨ ∃ c, s[n - 1]? = some c /\ c ≠ 32) :
   ∃ M' : Env, exec C L Ww ⟨M, [], σ⟩ = some (.exit 0, ⟨M', [], σ⟩) /\ M'.get 0 = some (.p (.str s)) /\ M'.get 3 = some (.p (.int .i64 (n : Int))) := by
 rcases Nat.eq_zero_or_pos n with h | h
 · subst h
   exact ⟨_, by simp [Ww, h0, h3]; rfl, by simp [h0], by simp [h3]⟩
 · obtain ⟨c, hc, hne⟩ := hs.resolve_left (by omega)
   have hp : (n : Int) > 0 := by omega
   have e1 : IntKind.i64.wrap ((n : Int) - 1) = (n : Int) - 1 := J5 _ (by omega) (by omega)
   have hge : (1 : Int) <= (n : Int) := by omega
   have ht : ((n : Int) - 1).toNat = n - 1 := by omega
   have hcn : ((c.toNat : Int) == 32) = false := by
     rw [beq_eq_false_iff_ne]
     intro hh
     exact hne (UInt8.toNat_inj.1 (by simpa using Int.ofNat.inj hh))
   exact ⟨_, by simp [Ww, Zt, h0, h3, hp, h, e1, hge, ht, hc, hcn]; rfl, by simp [h0], by simp [h3]⟩
theorem go143 (h0 : M.get 0 = some (.p (.str s))) (h3 : M.get 3 = some (.p (.int .i64 (n : Int)))) (hp0 : 0 < n) (hm : s.length <= 9223372036854775807) (hn : n <= s.length) (hc : s[n - 1]? = some 32) :
   ∃ M' : Env, exec C L Ww ⟨M, [], σ⟩ = some (.normal, ⟨M', [], σ⟩) /\ M'.get 0 = some (.p (.str s)) /\ M'.get 3 = some (.p (.int .i64 ((n : Int) - 1))) := by
 have hp : (n : Int) > 0 := by omega
 have e1 : IntKind.i64.wrap ((n : Int) - 1) = (n : Int) - 1 := J5 _ (by omega) (by omega)
 have hge : (1 : Int) <= (n : Int) := by omega
 have ht : ((n : Int) - 1).toNat = n - 1 := by omega
 exact ⟨_, by simp [Ww, Zt, h0, h3, hp, hp0, e1, hge, ht, hc]; rfl, by simp [h0], by simp⟩
end
theorem Qpp (C : Zj) (L : Nat) (s : List UInt8) (σ : Heap) (hm : s.length <= 9223372036854775807) : ∀ (n f : Nat) (M : Env), n < f -> n <= s.length -> M.get 0 = some (.p (.str s)) -> M.get 3 = some (.p (.int .i64 (n : Int))) -> Fg (s.take n) = Fg s ->
   ∃ (M' : Env) (k : Nat), iter (exec C L Ww) none f ⟨M, [], σ⟩ = some (.exit 0, ⟨M', [], σ⟩) /\ M'.get 0 = some (.p (.str s)) /\ M'.get 3 = some (.p (.int .i64 (k : Int))) /\ k <= s.length /\ s.take k = Fg s
 | n, f, M, hf, hn, h0, h3, ht => by
   obtain ⟨f, rfl⟩ : ∃ m, f = m + 1 := ⟨f - 1, by omega⟩
   by_cases hs : n = 0 ∨ ∃ c, s[n - 1]? = some c /\ c ≠ 32
   · obtain ⟨M', e, g0, g3⟩ := Qxt C L s M σ n h0 h3 hn hm hs
     refine ⟨M', n, by simp only [iter, St.keep, e], g0, g3, hn, ?_⟩
     rw [<- ht]
     rcases Nat.eq_zero_or_pos n with h | h
     · subst h; rfl
     · obtain ⟨c, hc, hne⟩ := hs.resolve_left (by omega)
       obtain ⟨j, rfl⟩ : ∃ j, n = j + 1 := ⟨n - 1, by omega⟩
       rw [Nat.add_sub_cancel] at hc
       rw [List.take_add_one, hc]
       simp only [Option.toList_some]
       rw [Qdn, if_neg hne]
   · have hp : 0 < n := by omega
     obtain ⟨j, rfl⟩ : ∃ j, n = j + 1 := ⟨n - 1, by omega⟩
     have hlt : j < s.length := by omega
     have hc : s[j + 1 - 1]? = some 32 := by
       rw [Nat.add_sub_cancel, List.getElem?_eq_getElem hlt]
       by_cases h : s[j] = 32
       · rw [h]
       · exact absurd (.inr ⟨s[j], by rw [Nat.add_sub_cancel, List.getElem?_eq_getElem hlt], h⟩) hs
     obtain ⟨M1, e, g0, g3⟩ := go143 C L s M σ (j + 1) h0 h3 hp hm hn hc
     rw [Nat.add_sub_cancel] at hc
     have ht' : Fg (s.take j) = Fg s := by
       rw [<- ht, List.take_add_one, hc]
       simp only [Option.toList_some]
       rw [Qdn, if_pos rfl]
     obtain ⟨M', k, e', q⟩ := Qpp C L s σ hm j f M1 (by omega) (by omega) g0 (by rw [g3]; congr 3; omega) ht'
     exact ⟨M', k, by simp only [iter, St.keep, e]; exact e', q⟩
end
variable [Mx]
abbrev val (v : V) : PV := .agg (vc v)
abbrev Zi : Word := [48, 48, 48, 48, 48]
abbrev wBad : Word := [52, 50, 56, 48, 52]
inductive Tr where
 | f | u | t
 deriving DecidableEq
def Tr.n : Tr -> Int
 | .f => 0
 | .u => 1
 | .t => 2
abbrev Tr.p (t : Tr) : PV := .int .i64 t.n
def Tr.min : Tr -> Tr -> Tr
 | .f, _ => .f
 | _, .f => .f
 | .t, x => x
 | x, .t => x
 | .u, .u => .u
def Tr.max : Tr -> Tr -> Tr
 | .t, _ => .t
 | _, .t => .t
 | .f, x => x
 | x, .f => x
 | .u, .u => .u
def ofV : V -> Tr × Word
 | .null => (.u, Zi)
 | .bool true => (.t, Zi)
 | .bool false => (.f, Zi)
 | _ => (.u, wBad)
def Bc : Tr -> V
 | .t => .bool true
 | .f => .bool false
 | .u => .null
section
variable (L n : Nat)
theorem Qgc (s : List UInt8) (hs : s.length < L) (hm : s.length <= 9223372036854775807) (σ : Heap) : (cAt TT L (n + 1)).1 43 [.p (.str s)] σ = some (.ret (.p (.str (Fg s))), σ) := by
 refine Z7 (ps := [.str s]) q143 (by kernel_rfl) ?_ σ
 generalize (cAt TT L n).1 = C
 generalize (cAt TT L n).2 = D
 obtain ⟨M', k, e, g0, g3, hk, ht⟩ := Qpp C L s [] hm s.length L [(3, .p (.int .i64 (s.length : Int))), (5, .p (.int .i64 (s.length : Int))), (4, .p (.str s)), (2, .p (.str [])), (0, .p (.str s))] hs (Nat.le_refl _) rfl rfl (by rw [List.take_length])
 rw [Zp, lit143_eq]
 rw [seqN (a := .region _) (by simp [params]; rfl), seqN (a := .region _) (by simp; rfl)]
 have e2 : exec C L (.block 0 (.loop none Ww)) ⟨[(3, .p (.int .i64 (s.length : Int))), (5, .p (.int .i64 (s.length : Int))), (4, .p (.str s)), (2, .p (.str [])), (0, .p (.str s))], [], []⟩ = some (.normal, ⟨M', [], []⟩) := by
   simp only [exec, e, if_true]
 rw [seqN e2]
 have hk1 : (0 : Int) <= (k : Int) := by omega
 have hk2 : (k : Int) <= (s.length : Int) := by omega
 simp [Hp, Ks, Iz, Th, finX, g0, g3, hk, lit143, ht]
theorem Qso (x y : Bool) (σ : Heap) : (cAt TT L (n + 1)).1 100 [.p (.bool x), .p (.bool y)] σ = some (.ret (.p (.int .i64 (if x then -1 else if y then 0 else 1))), σ) := by
 cases x <;> cases y <;> exact Z7 (ps := [.bool _, .bool _]) q200 (by kernel_rfl) (by kernel_rfl) σ
theorem Qcn (a b : V) (ha : ∀ s, a = .text s -> s.length < L /\ s.length <= 9223372036854775807) (hb : ∀ s, b = .text s -> s.length < L /\ s.length <= 9223372036854775807) (σ : Heap) :
   (cAt TT L (n + 2)).1 90 [.p (.agg (vc a)), .p (.agg (vc b))] σ = some (.ret (.p (.int .i64 (ordI (ordV a b)))), σ) := by
 refine Z7 (ps := [.agg (vc a), .agg (vc b)]) (n := n + 1) q190 (by kernel_rfl) ?_ σ
 have e38 := Qso L n
 have e39 := Qgc L n
 generalize (cAt TT L (n + 1)).1 = C at *
 generalize (cAt TT L (n + 1)).2 = D
 cases a with
 | null => cases b <;> simp [lit190, vc, Z8, params, Hp, e38, ordV, rank] <;> rfl
 | num x =>
   cases b with
   | num y =>
     simp [lit190, vc, Z8, params, Hp, e38, ordV]
     rcases Int.lt_trichotomy x y with h | h | h
     · rw [Int.compare_eq_lt.2 h]; simp [h, ordI]
     · subst h; simp [ordI]
     · have h1 : ¬ x < y := by omega
       have h2 : x ≠ y := by omega
       rw [Int.compare_eq_gt.2 h]; simp [h1, h2, ordI]
   | _ => simp [lit190, vc, Z8, params, Hp, e38, ordV, rank] <;> rfl
 | text s =>
   cases b with
   | text t =>
     have e1 := e39 s (ha s rfl).1 (ha s rfl).2
     have e2 := e39 t (hb t rfl).1 (hb t rfl).2
     simp [lit190, vc, Z8, params, Hp, Y9, e38, e1, e2, ordV]
     rw [Qeb]
     have h2 : (Fg s = Fg t) ↔ cmpL (Fg s) (Fg t) = .eq := cmpL_eq.symm
     cases h : cmpL (Fg s) (Fg t) <;> simp [h2, h, ordI]
   | _ => simp [lit190, vc, Z8, params, Hp, e38, ordV, rank] <;> rfl
 | bool x =>
   cases b with
   | bool y => cases x <;> cases y <;> simp [lit190, vc, Z8, params, Hp, eqP, e38, ordV] <;> rfl
   | _ => simp [lit190, vc, Z8, params, Hp, e38, ordV, rank] <;> rfl
theorem of24 (v : V) (σ : Heap) : (cAt TT L (n + 1)).1 24 [.p (val v)] σ = some (.ret (.p (.tup [(ofV v).1.p, .str (ofV v).2])), σ) := by
 refine Z7 (ps := [val v]) q124 (by rfl) ?_ σ
 rcases v with _ | z | s | b
 · kernel_rfl
 · kernel_rfl
 · kernel_rfl
 · cases b <;> kernel_rfl
theorem back42 (t : Tr) (σ : Heap) : (cAt TT L (n + 1)).1 42 [.p t.p] σ = some (.ret (.p (val (Bc t))), σ) := by
 refine Z7 (ps := [t.p]) q142 (by rfl) ?_ σ
 cases t <;> kernel_rfl
theorem and68 (a b : Tr) (σ : Heap) : (cAt TT L (n + 2)).1 68 [.p a.p, .p b.p] σ = some (.ret (.p (a.min b).p), σ) := by
 refine Z7 (ps := [a.p, b.p]) (n := n + 1) q168 (by rfl) ?_ σ
 cases a <;> cases b <;> kernel_rfl
theorem or69 (a b : Tr) (σ : Heap) : (cAt TT L (n + 2)).1 69 [.p a.p, .p b.p] σ = some (.ret (.p (a.max b).p), σ) := by
 refine Z7 (ps := [a.p, b.p]) (n := n + 1) q169 (by rfl) ?_ σ
 cases a <;> cases b <;> kernel_rfl
def notT : Tr -> Tr
 | .f => .t
 | .u => .u
 | .t => .f
theorem not70 (a : Tr) (σ : Heap) : (cAt TT L (n + 2)).1 70 [.p a.p] σ = some (.ret (.p (notT a).p), σ) := by
 refine Z7 (ps := [a.p]) (n := n + 1) q170 (by rfl) ?_ σ
 cases a <;> kernel_rfl
theorem Qjg (z : Int) (σ : Heap) : (cAt TT L (n + 1)).1 33 [int z] σ = some (.ret (.p (val (.num z))), σ) := Z7 (ps := [.int .i64 z]) q133 (by rfl) (by kernel_rfl) σ
theorem Qnj (s : Word) (σ : Heap) : (cAt TT L (n + 1)).1 34 [.p (.str s)] σ = some (.ret (.p (val (.text s))), σ) := Z7 (ps := [.str s]) q134 (by rfl) (by kernel_rfl) σ
end
end Go.Ab.Keep
namespace Go.Ab.Keep
open Go Go.Ab Go.Ab.Plan Go.Ab.Key Go.Ab.Cnt Go.Ab.Turn Go.Proofs
attribute [local simp] Fj Ms V3 refV oneH Nz Oe Eo D9 idsL idsV idsO Sp
variable [Mx]
abbrev ws : Word := [50, 50, 48, 48, 51]
abbrev Qyq : Word := [50, 50, 48, 48, 49]
abbrev Qia : Word := [52, 50, 54, 48, 49]
def okV : V -> Prop
 | .num n => inR n
 | .text s => s.length <= 1048576
 | _ => True
def Z3 (r : V × Word) : PV := .tup [val r.1, .str r.2]
theorem wp (z : Int) : inR (IntKind.i64.wrap z) := by
 unfold inR
 simp only [IntKind.wrap, IntKind.bits, IntKind.signed, Bool.true_and]
 split <;> rename_i h <;> simp at h ⊢ <;> omega
theorem sgn (z : Int) : ((z < 0) = True /\ (0 <= z) = False) ∨ ((z < 0) = False /\ (0 <= z) = True) := by
 rcases Int.lt_or_le z 0 with h | h
 · exact .inl ⟨eq_true h, eq_false (by omega)⟩
 · exact .inr ⟨eq_false (by omega), eq_true h⟩
def subV : V -> V -> V × Word
 | .num x, .num y => if (x ≥ 0 /\ y < 0 /\ IntKind.i64.wrap (x - y) < 0) ∨ (x < 0 /\ y ≥ 0 /\ IntKind.i64.wrap (x - y) ≥ 0) then (.null, ws) else (.num (IntKind.i64.wrap (x - y)), Zi)
 | .num _, .null => (.null, Zi)
 | .null, .num _ => (.null, Zi)
 | .null, .null => (.null, Zi)
 | _, _ => (.null, wBad)
def addV : V -> V -> V × Word
 | .num x, .num y => if (x ≥ 0 /\ y ≥ 0 /\ IntKind.i64.wrap (x + y) < 0) ∨ (x < 0 /\ y < 0 /\ IntKind.i64.wrap (x + y) ≥ 0) then (.null, ws) else (.num (IntKind.i64.wrap (x + y)), Zi)
 | .num _, .null => (.null, Zi)
 | .null, .num _ => (.null, Zi)
 | .null, .null => (.null, Zi)
 | _, _ => (.null, wBad)
def catV : V -> V -> V × Word
 | .text s, .text t => if s.length + t.length > 400 then (.null, Qyq) else (.text (s ++ t), Zi)
 | .text _, .null => (.null, Zi)
 | .null, .text _ => (.null, Zi)
 | .null, .null => (.null, Zi)
 | _, _ => (.null, wBad)
theorem lit161_tree : lit161.body = n161 := rfl
theorem lit162_tree : lit162.body = n162 := rfl
theorem lit165_tree : lit165.body = n165 := rfl
theorem lit166_tree : lit166.body = n166 := rfl
section
variable (L n : Nat)
theorem Qli (x y : Int) (σ : Heap) : (cAt TT L (n + 1)).1 87 [.p (val (.num x)), .p (val (.num y)), int 1] σ = some (.ret (.p (.tup [.str Zi, .bool false])), σ) :=
 Z7 (ps := [val (.num x), val (.num y), .int .i64 1]) q187 (by rfl) (by kernel_rfl) σ
theorem both_t (x y : Word) (σ : Heap) : (cAt TT L (n + 1)).1 87 [.p (val (.text x)), .p (val (.text y)), int 2] σ = some (.ret (.p (.tup [.str Zi, .bool false])), σ) :=
 Z7 (ps := [val (.text x), val (.text y), .int .i64 2]) q187 (by rfl) (by kernel_rfl) σ
theorem Qy6 (a b : V) (σ : Heap) : (cAt TT L (n + 2)).1 62 [.p (val a), .p (val b)] σ = some (.ret (.p (Z3 (subV a b))), σ) := by
 refine Z7 (ps := [val a, val b]) (n := n + 1) q162 (by rfl) ?_ σ
 rcases a with _ | x | s | p <;> rcases b with _ | y | t | q
 case num.num =>
   have e1 := Qli L n x y
   have e2 := Qjg L n
   generalize (cAt TT L (n + 1)).1 = C at *
   generalize (cAt TT L (n + 1)).2 = D
   simp only [val, vc] at e1 e2 ⊢
   generalize hc : IntKind.i64.wrap (x - y) = c
   have hxy : subV (.num x) (.num y) = if (x ≥ 0 /\ y < 0 /\ c < 0) ∨ (x < 0 /\ y ≥ 0 /\ c ≥ 0) then (.null, ws) else (.num c, Zi) := by rw [<- hc]; rfl
   rw [hxy, Zp, lit162_tree]
   unfold n162
   rw [seqN (by simp [Quq, params]; rfl), seqN (by simp [Qvf, e1]; rfl), seqN (by simp [Qv8, Qlm, Qjw]; rfl), seqN (by simp [Qwj, hc]; rfl)]
   rcases sgn x with ⟨a1, b1⟩ | ⟨a1, b1⟩ <;> rcases sgn y with ⟨a2, b2⟩ | ⟨a2, b2⟩ <;> rcases sgn c with ⟨a3, b3⟩ | ⟨a3, b3⟩ <;>
     simp only [ge_iff_le, a1, b1, a2, b2, a3, b3, and_true, true_and, and_false, false_and, or_true, true_or, or_false, false_or, if_true, if_false, Z3, vc, val] <;>
     simp [Qvw, Qmi, Qlx, Qvv, lit162, e1, e2, hc, a1, b1, a2, b2, a3, b3]
 all_goals kernel_rfl
theorem sub61 (a b : V) (σ : Heap) : (cAt TT L (n + 2)).1 61 [.p (val a), .p (val b)] σ = some (.ret (.p (Z3 (addV a b))), σ) := by
 refine Z7 (ps := [val a, val b]) (n := n + 1) q161 (by rfl) ?_ σ
 rcases a with _ | x | s | p <;> rcases b with _ | y | t | q
 case num.num =>
   have e1 := Qli L n x y
   have e2 := Qjg L n
   generalize (cAt TT L (n + 1)).1 = C at *
   generalize (cAt TT L (n + 1)).2 = D
   simp only [val, vc] at e1 e2 ⊢
   generalize hc : IntKind.i64.wrap (x + y) = c
   have hxy : addV (.num x) (.num y) = if (x ≥ 0 /\ y ≥ 0 /\ c < 0) ∨ (x < 0 /\ y < 0 /\ c ≥ 0) then (.null, ws) else (.num c, Zi) := by rw [<- hc]; rfl
   rw [hxy, Zp, lit161_tree]
   unfold n161
   rw [seqN (by simp [Quj, params]; rfl), seqN (by simp [Qw2, e1]; rfl), seqN (by simp [Qui, Qjl, Qlk]; rfl), seqN (by simp [Qv6, hc]; rfl)]
   rcases sgn x with ⟨a1, b1⟩ | ⟨a1, b1⟩ <;> rcases sgn y with ⟨a2, b2⟩ | ⟨a2, b2⟩ <;> rcases sgn c with ⟨a3, b3⟩ | ⟨a3, b3⟩ <;>
     simp only [ge_iff_le, a1, b1, a2, b2, a3, b3, and_true, true_and, and_false, false_and, or_true, true_or, or_false, false_or, if_true, if_false, Z3, vc, val] <;>
     simp [Qu0, Qkn, Qka, Qwx, lit161, e1, e2, hc, a1, b1, a2, b2, a3, b3]
 all_goals kernel_rfl
theorem cat65 (a b : V) (ha : okV a) (hb : okV b) (σ : Heap) : (cAt TT L (n + 2)).1 65 [.p (val a), .p (val b)] σ = some (.ret (.p (Z3 (catV a b))), σ) := by
 refine Z7 (ps := [val a, val b]) (n := n + 1) q165 (by rfl) ?_ σ
 rcases a with _ | x | s | p <;> rcases b with _ | y | t | q
 case text.text =>
   have e1 := both_t L n s t
   have e2 := Qnj L n
   generalize (cAt TT L (n + 1)).1 = C at *
   generalize (cAt TT L (n + 1)).2 = D
   simp only [val, vc] at e1 e2 ⊢
   have hs : s.length <= 1048576 := ha
   have ht : t.length <= 1048576 := hb
   have e3 : IntKind.i64.wrap ((s.length : Int) + (t.length : Int)) = (s.length : Int) + (t.length : Int) := J5 _ (by omega) (by omega)
   have hlim : s.length + t.length <= LIM := by have : LIM = 4294967296 := rfl; omega
   have hxy : catV (.text s) (.text t) = if s.length + t.length > 400 then (.null, Qyq) else (.text (s ++ t), Zi) := rfl
   have hg : ((400 : Int) < (s.length : Int) + (t.length : Int)) ↔ s.length + t.length > 400 := by omega
   rw [hxy, Zp, lit165_tree]
   unfold n165
   rw [seqN (by simp [Qu1, params]; rfl), seqN (by simp [Qwa, e1]; rfl), seqN (by simp [Qv5, Qll, Qlz]; rfl)]
   by_cases h : s.length + t.length > 400
   · have h' := hg.2 h
     rw [if_pos h]
     simp [Qp3, Qfj, Qd4, Qom, lit165, e2, e3, h', hlim, Z3, vc]
   · have h' : ¬ ((400 : Int) < (s.length : Int) + (t.length : Int)) := fun q => h (hg.1 q)
     rw [if_neg h]
     simp [Qp3, Qfj, Qd4, Qom, lit165, e2, e3, h', hlim, Z3, vc]
 all_goals kernel_rfl
theorem Qxh (a : V) (σ : Heap) : (cAt TT L (n + 3)).1 66 [.p (val a)] σ = some (.ret (.p (Z3 (subV (.num 0) a))), σ) := by
 refine Z7 (ps := [val a]) (n := n + 2) q166 (by rfl) ?_ σ
 have e1 := Qy6 L n (.num 0) a
 have e2 := Qjg L (n + 1) 0
 generalize (cAt TT L (n + 2)).1 = C at *
 generalize (cAt TT L (n + 2)).2 = D
 generalize subV (.num 0) a = r at *
 obtain ⟨v, w⟩ := r
 have hv : ∃ p q r s, vc v = [p, q, r, s] := by cases v <;> exact ⟨_, _, _, _, rfl⟩
 obtain ⟨p, q, r, s, ev'⟩ := hv
 have ha : ∃ p q r s, vc a = [p, q, r, s] := by cases a <;> exact ⟨_, _, _, _, rfl⟩
 obtain ⟨p', q', r', s', ea⟩ := ha
 have r62 : Q4.raw 62 = false := by rfl
 have r33 : Q4.raw 33 = false := by rfl
 have hz : vc (.num 0) = [.int .i64 1, .int .i64 0, .str [], .bool false] := rfl
 simp only [val, Z3, ev', ea, hz] at e1 e2 ⊢
 rw [Zp, lit166_tree]
 unfold n166 Qus
 rw [seqN (by simp [Qwu, params]; rfl)]
 rw [seqN (L9 (s := _) (by
     show Zy C 0 (_ :: _) _ = _
     refine (B8 rfl rfl (by simp [Zo, Jk, r62, r33, e1, e2]; rfl) (by simp; rfl) (by simp [r62, r33, e1, e2]; rfl)).trans ?_
     refine (Eu rfl rfl (by simp [r62, r33, e1, e2]; exact ⟨rfl, rfl⟩)).trans ?_
     refine (B8 rfl rfl (by simp [Zo, Jk, r62, r33, e1, e2]; rfl) (by simp; rfl) (by simp [r62, r33, e1, e2]; rfl)).trans ?_
     refine (Zf rfl rfl (by simp [r62, r33, e1, e2]; rfl)).trans ?_
     refine (Zf rfl rfl (by simp [r62, r33, e1, e2]; rfl)).trans ?_
     refine (B8 rfl rfl (by simp [Zo, Jk, r62, r33, e1, e2]; rfl) (by simp; rfl) (by simp [r62, r33, e1, e2]; rfl)).trans ?_
     refine (Zf rfl rfl (by simp [r62, r33, e1, e2]; rfl)).trans ?_
     exact rfl) (by kernel_rfl))]
 simp [lit166]
end
end Go.Ab.Keep
namespace Go.Ab.Keep
open Go Go.Ab Go.Ab.Plan Go.Ab.Key Go.Ab.Cnt Go.Ab.Turn Go.Proofs
variable [Mx]
def isU1 : Option PV -> Bool
 | some (.int .u64 _) => true
 | _ => false
def isU2 : Option PV -> Bool
 | some (.tup [.int .u64 _, .int .u64 _]) => true
 | _ => false
theorem of_U1 {x : Option PV} (h : isU1 x = true) : ∃ a, x = some (.int .u64 a) := by
 unfold isU1 at h
 split at h
 · exact ⟨_, rfl⟩
 · cases h
theorem of_U2 {x : Option PV} (h : isU2 x = true) : ∃ a b, x = some (.tup [.int .u64 a, .int .u64 b]) := by
 unfold isU2 at h
 split at h
 · exact ⟨_, _, rfl⟩
 · cases h
theorem lit163_tree : lit163.body = n163 := rfl
theorem lit164_tree : lit164.body = n164 := rfl
section
variable (L n : Nat)
theorem Qvs (z : Int) : ∃ a, ∀ σ, (cAt TT L (n + 1)).1 89 [int z] σ = some (.ret (.p (.int .u64 a)), σ) := by
 have h : isU1 (ansV (Z8 (cAt TT L n).1 (cAt TT L n).2 L lit189 [int z] [])) = true := by
   rcases sgn z with ⟨a1, b1⟩ | ⟨a1, b1⟩ <;> simp [lit189, Z8, params, a1, b1, isU1]
 obtain ⟨a, h⟩ := of_U1 h
 exact ⟨a, fun σ => Z7 (ps := [.int .i64 z]) q189 (by rfl) h σ⟩
theorem wide88 (x y : Int) : ∃ a b, ∀ σ, (cAt TT L (n + 1)).1 88 [.p (.int .u64 x), .p (.int .u64 y)] σ = some (.ret (.p (.tup [.int .u64 a, .int .u64 b])), σ) := by
 have h : isU2 (ansV (Z8 (cAt TT L n).1 (cAt TT L n).2 L lit188 [.p (.int .u64 x), .p (.int .u64 y)] [])) = true := by kernel_rfl
 obtain ⟨a, b, h⟩ := of_U2 h
 exact ⟨a, b, fun σ => Z7 (ps := [.int .u64 x, .int .u64 y]) q188 (by rfl) h σ⟩
theorem Qo5 {a b : V} : okV (subV a b).1 := by
 cases a <;> cases b <;> simp [subV] <;> first | trivial | (split <;> first | trivial | exact wp _)
theorem okAdd {a b : V} : okV (addV a b).1 := by
 cases a <;> cases b <;> simp [addV] <;> first | trivial | (split <;> first | trivial | exact wp _)
theorem okCat {a b : V} : okV (catV a b).1 := by
 cases a <;> cases b <;> simp [catV] <;> first | trivial | (split <;> first | trivial | (rename_i h; simp only [okV, List.length_append]; omega))
theorem div64 (a b : V) : ∃ v w, okV v /\ ∀ σ, (cAt TT L (n + 4)).1 64 [.p (val a), .p (val b)] σ = some (.ret (.p (Z3 (v, w))), σ) := by
 have key : ∃ v w, okV v /\ ansV (Z8 (cAt TT L (n + 3)).1 (cAt TT L (n + 3)).2 L lit164 [.p (val a), .p (val b)] []) = some (Z3 (v, w)) := by
   rcases a with _ | x | s | p <;> rcases b with _ | y | t | q
   case num.num =>
     have e1 := Qli L (n + 2) x y
     have e2 := Qjg L (n + 2)
     have e3 := Qxh L n (.num x)
     have e4 := Qo5 (a := .num 0) (b := .num x)
     generalize (cAt TT L (n + 3)).1 = C at *
     generalize (cAt TT L (n + 3)).2 = D
     generalize subV (.num 0) (.num x) = r at *
     obtain ⟨v, w⟩ := r
     have hv : ∃ p q r s, vc v = [p, q, r, s] := by cases v <;> exact ⟨_, _, _, _, rfl⟩
     obtain ⟨p, q, r, s, ev'⟩ := hv
     simp only [Z3, val, ev'] at e3
     simp only [val, vc] at e1 e2 e3 ⊢
     rw [Zp, lit164_tree]
     unfold n164
     rw [seqN (by simp [Qwf, params]; rfl), seqN (by simp [Quy, e1]; rfl), seqN (by simp [Qv3, Qmn, Qku]; rfl)]
     by_cases h0 : y = 0
     · subst h0
       exact ⟨.null, [50, 50, 48, 49, 50], trivial, by simp [Qpu, Qel, Qem, lit164, Z3, vc]⟩
     · have h0' : (y == 0) = false := beq_eq_false_iff_ne.2 h0
       rw [seqN (by simp [Qpu, Qel, Qem, h0']; rfl)]
       by_cases h1 : y = -1
       · subst h1
         exact ⟨v, w, e4, by simp [Qqp, Qd2, Qev, lit164, Z3, e3, ev']⟩
       · have h1' : (y == -1) = false := beq_eq_false_iff_ne.2 h1
         rw [seqN (by simp [Qqp, Qd2, Qev, h1']; rfl)]
         exact ⟨.num (IntKind.i64.wrap (x.tdiv y)), Zi, wp _, by simp [Qv4, lit164, Z3, e2, h0, vc]⟩
   case null.null => exact ⟨.null, Zi, trivial, by kernel_rfl⟩
   case num.null => exact ⟨.null, Zi, trivial, by kernel_rfl⟩
   case null.num => exact ⟨.null, Zi, trivial, by kernel_rfl⟩
   all_goals exact ⟨.null, wBad, trivial, by kernel_rfl⟩
 obtain ⟨v, w, h1, h2⟩ := key
 exact ⟨v, w, h1, fun σ => Z7 (ps := [val a, val b]) (n := n + 3) q164 (by rfl) h2 σ⟩
theorem tail63 (C : Zj) (m : Bool) (h l : Int) (M : Env) (o0 o1 : Obj) (e2 : ∀ (z : Int) (σ : Heap), C 33 [int z] σ = some (.ret (.p (.agg [.int .i64 1, .int .i64 z, .str [], .bool false])), σ))
   (g4 : M.get 4 = some (.ptr 2 0 0)) (g8 : M.get 8 = some (.p (.bool m))) (g9 : M.get 9 = some (.p (.int .u64 h))) (g10 : M.get 10 = some (.p (.int .u64 l))) :
   ∃ v w M', okV v /\ exec C L (.seq yi (.seq Qbt (.seq Qcw .ret))) ⟨M, [], [o0, o1, .arr (.pv (vc .null)) 0 0 (some 54)]⟩ = some (.ret, ⟨M', [], [o0, o1, .arr (.pv (vc v)) 0 0 (some 54)]⟩) /\ M'.get 4 = some (.ptr 2 0 0) /\ M'.get 5 = some (.p (.str w)) := by
 have e0 : vc .null = [.int .i64 0, .int .i64 0, .str [], .bool false] := rfl
 have f1 : ((0 < h) = True) ∨ ((0 < h) = False) := by by_cases q : 0 < h <;> simp [q]
 have f2 : ((9223372036854775808 < l) = True) ∨ ((9223372036854775808 < l) = False) := by by_cases q : 9223372036854775808 < l <;> simp [q]
 have f3 : ((l == 9223372036854775808) = true) ∨ ((l == 9223372036854775808) = false) := by by_cases q : l = 9223372036854775808 <;> simp [q]
 have over : ∀ u : Bool, u = true -> (∃ M2, exec C L Su ⟨M, [], [o0, o1, .arr (.pv (vc .null)) 0 0 (some 54)]⟩ = some (.normal, ⟨M2, [], [o0, o1, .arr (.pv (vc .null)) 0 0 (some 54)]⟩) /\ M2.get 50 = some (.p (.bool u)) /\ M2.get 4 = some (.ptr 2 0 0)) ->
     ∃ v w M', okV v /\ exec C L (.seq yi (.seq Qbt (.seq Qcw .ret))) ⟨M, [], [o0, o1, .arr (.pv (vc .null)) 0 0 (some 54)]⟩ = some (.ret, ⟨M', [], [o0, o1, .arr (.pv (vc v)) 0 0 (some 54)]⟩) /\ M'.get 4 = some (.ptr 2 0 0) /\ M'.get 5 = some (.p (.str w)) := by
   rintro u rfl ⟨M2, q1, q2, q3⟩
   exact ⟨.null, ws, _, trivial, by
     rw [e0] at q1 ⊢
     unfold yi
     rw [<- Zn, seqN q1]
     simp [xc, q2, q3]
     rfl, by simp [q3], by simp⟩
 have under : ∀ u : Bool, u = false -> (∃ M2, exec C L Su ⟨M, [], [o0, o1, .arr (.pv (vc .null)) 0 0 (some 54)]⟩ = some (.normal, ⟨M2, [], [o0, o1, .arr (.pv (vc .null)) 0 0 (some 54)]⟩) /\ M2.get 50 = some (.p (.bool u)) /\ M2.get 4 = some (.ptr 2 0 0) /\ M2.get 8 = some (.p (.bool m)) /\ M2.get 10 = some (.p (.int .u64 l))) ->
     ∃ v w M', okV v /\ exec C L (.seq yi (.seq Qbt (.seq Qcw .ret))) ⟨M, [], [o0, o1, .arr (.pv (vc .null)) 0 0 (some 54)]⟩ = some (.ret, ⟨M', [], [o0, o1, .arr (.pv (vc v)) 0 0 (some 54)]⟩) /\ M'.get 4 = some (.ptr 2 0 0) /\ M'.get 5 = some (.p (.str w)) := by
   rintro u rfl ⟨M2, q1, q2, q3, q4, q5⟩
   cases m with
   | true =>
     exact ⟨.num (IntKind.i64.wrap (IntKind.u64.wrap (-l))), Zi, _, wp _, by
       rw [e0] at q1 ⊢
       unfold yi
       rw [<- Zn, seqN q1]
       simp [xc, Qbt, Qd9, Qee, q2, q3, q4, q5, e2, vc]
       rfl, by simp [q3], by simp⟩
   | false =>
     exact ⟨.num (IntKind.i64.wrap l), Zi, _, wp _, by
       rw [e0] at q1 ⊢
       unfold yi
       rw [<- Zn, seqN q1]
       simp [xc, Qbt, Qd9, Qee, Qcw, q2, q3, q4, q5, e2, vc]
       rfl, by simp [q3], by simp⟩
 rcases f1 with f1 | f1
 · exact over true rfl ⟨_, by simp [Su, g8, g9, g10, f1]; rfl, by simp, by simp [g4]⟩
 · rcases f2 with f2 | f2
   · exact over true rfl ⟨_, by simp [Su, g8, g9, g10, f1, f2]; rfl, by simp, by simp [g4]⟩
   · rcases f3 with f3 | f3
     · cases m with
       | true => exact under false rfl ⟨_, by simp [Su, g8, g9, g10, f1, f2, f3]; rfl, by simp, by simp [g4], by simp [g8], by simp [g10]⟩
       | false => exact over true rfl ⟨_, by simp [Su, g8, g9, g10, f1, f2, f3]; rfl, by simp, by simp [g4]⟩
     · exact under false rfl ⟨_, by simp [Su, g8, g9, g10, f1, f2, f3]; rfl, by simp, by simp [g4], by simp [g8], by simp [g10]⟩
end
end Go.Ab.Keep
namespace Go.Ab.Keep
open Go Go.Ab Go.Ab.Plan Go.Ab.Key Go.Ab.Cnt Go.Ab.Turn Go.Proofs
attribute [local simp] Fj Ms V3 refV oneH Nz Oe Eo D9 idsL idsV idsO Sp
variable [Mx]
theorem eqB (a b : Bool) : eqP .bool (.bool a) (.bool b) = some (a == b) := by unfold eqP; rfl
section
variable (L n : Nat)
theorem fin63 (C : Zj) (D : Yo) (m : Bool) (h l : Int) (M : Env) (o0 o1 : Obj) (e2 : ∀ (z : Int) (σ : Heap), C 33 [int z] σ = some (.ret (.p (.agg [.int .i64 1, .int .i64 z, .str [], .bool false])), σ))
   (g4 : M.get 4 = some (.ptr 2 0 0)) (g8 : M.get 8 = some (.p (.bool m))) (g9 : M.get 9 = some (.p (.int .u64 h))) (g10 : M.get 10 = some (.p (.int .u64 l))) :
   ∃ v w, okV v /\ ansV (finX D lit163 (exec C L (.seq yi (.seq Qbt (.seq Qcw .ret))) ⟨M, [], [o0, o1, .arr (.pv [.int .i64 0, .int .i64 0, .str [], .bool false]) 0 0 (some 54)]⟩)) = some (Z3 (v, w)) := by
 obtain ⟨v, w, M', k1, k2, k3, k4⟩ := tail63 L C m h l M o0 o1 e2 g4 g8 g9 g10
 refine ⟨v, w, k1, ?_⟩
 have hv : ∃ p q r s, vc v = [p, q, r, s] := by cases v <;> exact ⟨_, _, _, _, rfl⟩
 obtain ⟨p, q, r, s, ev'⟩ := hv
 have e0 : vc .null = [.int .i64 0, .int .i64 0, .str [], .bool false] := rfl
 rw [<- e0, k2, ev']
 simp [lit163, k3, k4, Z3, ev']
theorem mul63 (a b : V) : ∃ v w, okV v /\ ∀ σ, (cAt TT L (n + 4)).1 63 [.p (val a), .p (val b)] σ = some (.ret (.p (Z3 (v, w))), σ) := by
 have key : ∃ v w, okV v /\ ansV (Z8 (cAt TT L (n + 3)).1 (cAt TT L (n + 3)).2 L lit163 [.p (val a), .p (val b)] []) = some (Z3 (v, w)) := by
   rcases a with _ | x | s | p <;> rcases b with _ | y | t | q
   case num.num =>
     have e1 := Qli L (n + 2) x y
     have e2 := Qjg L (n + 2)
     obtain ⟨u1, e3⟩ := Qvs L (n + 2) x
     obtain ⟨u2, e4⟩ := Qvs L (n + 2) y
     obtain ⟨h, l, e5⟩ := wide88 L (n + 2) u1 u2
     have r89 : Q4.raw 89 = false := by rfl
     have r88 : Q4.raw 88 = false := by rfl
     generalize (cAt TT L (n + 3)).1 = C at *
     generalize (cAt TT L (n + 3)).2 = D
     simp only [val, vc] at e1 e2 ⊢
     rw [Zp, lit163_tree]
     unfold n163 Qwt
     rw [seqN (by simp [Qwd, params]; rfl), seqN (by simp [Qwe, e1]; rfl), seqN (by simp [Quz, Qjp, Qkr]; rfl)]
     rcases sgn x with ⟨a1, b1⟩ | ⟨a1, b1⟩ <;> rcases sgn y with ⟨a2, b2⟩ | ⟨a2, b2⟩
     all_goals
       rw [seqN (by simp [Qwl, eqB, a1, a2]; rfl)]
       rw [seqN (L9 (s := _) (by
         show Zy C 0 (_ :: _) _ = _
         refine (Zf rfl rfl (by simp [r89, r88, e3, e4, e5]; rfl)).trans ?_
         refine (Eu rfl rfl (by simp [r89, r88, e3, e4, e5]; exact ⟨rfl, rfl⟩)).trans ?_
         refine (B8 rfl rfl (by simp [Zo, Jk, r89, r88, e3, e4, e5]; rfl) (by simp; rfl) (by simp [r89, r88, e3, e4, e5]; rfl)).trans ?_
         refine (Zf rfl rfl (by simp [r89, r88, e3, e4, e5]; rfl)).trans ?_
         refine (Eu rfl rfl (by simp [r89, r88, e3, e4, e5]; exact ⟨rfl, rfl⟩)).trans ?_
         refine (B8 rfl rfl (by simp [Zo, Jk, r89, r88, e3, e4, e5]; rfl) (by simp; rfl) (by simp [r89, r88, e3, e4, e5]; rfl)).trans ?_
         refine (B8 rfl rfl (by simp [Zo, Jk, r89, r88, e3, e4, e5]; rfl) (by simp; rfl) (by simp [r89, r88, e3, e4, e5]; rfl)).trans ?_
         refine (Zf rfl rfl (by simp [r89, r88, e3, e4, e5]; rfl)).trans ?_
         refine (Zf rfl rfl (by simp [r89, r88, e3, e4, e5]; rfl)).trans ?_
         refine (Zf rfl rfl (by simp [r89, r88, e3, e4, e5]; rfl)).trans ?_
         refine (Zf rfl rfl (by simp [r89, r88, e3, e4, e5]; rfl)).trans ?_
         refine (Zf rfl rfl (by simp [r89, r88, e3, e4, e5]; rfl)).trans ?_
         exact rfl) (by kernel_rfl))]
       exact fin63 L C D _ h l _ _ _ e2 (by simp) (by simp; rfl) (by simp) (by simp)
   case null.null => exact ⟨.null, Zi, trivial, by kernel_rfl⟩
   case num.null => exact ⟨.null, Zi, trivial, by kernel_rfl⟩
   case null.num => exact ⟨.null, Zi, trivial, by kernel_rfl⟩
   all_goals exact ⟨.null, wBad, trivial, by kernel_rfl⟩
 obtain ⟨v, w, h1, h2⟩ := key
 exact ⟨v, w, h1, fun σ => Z7 (ps := [val a, val b]) (n := n + 3) q163 (by rfl) h2 σ⟩
end
end Go.Ab.Keep
namespace Go.Ab.Keep
open Go Go.Ab Go.Ab.Plan Go.Ab.Key Go.Ab.Cnt Go.Ab.Turn Go.Proofs
variable [Mx]
abbrev wNe : Word := [60, 62]
def Vd (op : Word) (o : Ordering) : Option Bool :=
 if op = wEq then some (o == .eq) else if op = wNe then some (o != .eq) else if op = wLt then some (o == .lt) else if op = wLe then some (o != .gt) else if op = wGt then some (o == .gt) else if op = wGe then some (o != .lt) else none
def Ul : V -> Bool
 | .null => true
 | _ => false
def Qau (op : Word) (a b : V) : Tr × Word := match Vd op (ordV a b) with
 | none => (.u, Qia)
 | some r => if Ul a || Ul b then (.u, Zi) else if rank a = rank b then (if r then .t else .f, Zi) else (.u, wBad)
theorem lit167_tree : lit167.body = n167 := rfl
def truP (r : Tr × Word) : PV := .tup [r.1.p, .str r.2]
theorem Qtm (o : Ordering) : (ordI o == 0) = (o == .eq) /\ (ordI o != 0) = (o != .eq) /\ decide (ordI o < 0) = (o == .lt) /\ decide (ordI o <= 0) = (o != .gt) /\ decide (0 < ordI o) = (o == .gt) /\ decide (0 <= ordI o) = (o != .lt) := by
 cases o <;> decide
theorem Qy5 (C : Zj) (L : Nat) (D : Yo) (a b : V) (r : Bool) (M : Env) (g4 : M.get 4 = some (.ptr 0 0 0)) (g5 : M.get 5 = some (.ptr 1 0 0)) (g9 : M.get 9 = some (.p (.bool r))) :
   ansV (finX D lit167 (exec C L (.seq Qqh (.seq Qok (.seq Qqq (.seq Qn1 .ret)))) ⟨M, [], [.arr (.pv (vc a)) 0 0 none, .arr (.pv (vc b)) 0 0 none]⟩)) = some (truP (if Ul a || Ul b then (.u, Zi) else if rank a = rank b then (if r then .t else .f, Zi) else (.u, wBad))) := by
 cases a <;> cases b <;> cases r <;> simp [Qqh, Qke, Qko, Qok, Qju, Ql0, Qqq, Qmm, Qkl, Qn1, lit167, g4, g5, g9, vc, Ul, rank, truP, Tr.n]
section
variable (L n : Nat)
theorem Qoa (op : Word) (a b : V) (ha : ∀ s, a = .text s -> s.length < L /\ s.length <= 9223372036854775807) (hb : ∀ s, b = .text s -> s.length < L /\ s.length <= 9223372036854775807) (σ : Heap) : (cAt TT L (n + 3)).1 67 [.p (.str op), .p (val a), .p (val b)] σ = some (.ret (.p (truP (Qau op a b))), σ) := by
 refine Z7 (ps := [.str op, val a, val b]) (n := n + 2) q167 (by rfl) ?_ σ
 have e1 := Qcn L n a b ha hb
 generalize (cAt TT L (n + 2)).1 = C at *
 generalize (cAt TT L (n + 2)).2 = D
 have ha : ∃ p q r s, vc a = [p, q, r, s] := by cases a <;> exact ⟨_, _, _, _, rfl⟩
 obtain ⟨p', q', r', s', ea⟩ := ha
 have hb : ∃ p q r s, vc b = [p, q, r, s] := by cases b <;> exact ⟨_, _, _, _, rfl⟩
 obtain ⟨p, q, r, s, eb⟩ := hb
 obtain ⟨o1, o2, o3, o4, o5, o6⟩ := Qtm (ordV a b)
 have fin := Qy5 C L D a b
 unfold Qau
 generalize ordV a b = o at *
 rw [Zp, lit167_tree]
 simp only [val, ea, eb] at e1 ⊢
 rw [ea, eb] at fin
 unfold n167
 rw [seqN (by simp [Qwr, params]; rfl), seqN (by simp [Qv0, e1]; rfl), seqN (by simp [Qur]; rfl)]
 by_cases h1 : op = wEq
 · subst h1
   rw [show Vd wEq o = some (o == .eq) from rfl]
   rw [seqN (by simp [j0, Tk, Sq, Rb, Ls, Lt, Ir, E8, E9, Dw, Bv, Br, Ba, Yi, Yj, G6, Gk, Gp, Gf, J3, J4, Gg, G7, Y7, Dr, Is, o1]; rfl)]
   exact fin _ _ (by simp) (by simp) (by simp)
 have f1 : (op == [61]) = false := J8 h1
 by_cases h2 : op = wNe
 · subst h2
   rw [show Vd wNe o = some (o != .eq) from rfl]
   rw [seqN (by simp [j0, Tk, Sq, Rb, Ls, Lt, Ir, E8, E9, Dw, Bv, Br, Ba, Yi, Yj, G6, Gk, Gp, Gf, J3, J4, Gg, G7, Y7, Dr, Is, o2]; rfl)]
   exact fin _ _ (by simp) (by simp) (by simp)
 have f2 : (op == [60, 62]) = false := J8 h2
 by_cases h3 : op = wLt
 · subst h3
   rw [show Vd wLt o = some (o == .lt) from rfl]
   rw [seqN (by simp [j0, Tk, Sq, Rb, Ls, Lt, Ir, E8, E9, Dw, Bv, Br, Ba, Yi, Yj, G6, Gk, Gp, Gf, J3, J4, Gg, G7, Y7, Dr, Is, o3]; rfl)]
   exact fin _ _ (by simp) (by simp) (by simp)
 have f3 : (op == [60]) = false := J8 h3
 by_cases h4 : op = wLe
 · subst h4
   rw [show Vd wLe o = some (o != .gt) from rfl]
   rw [seqN (by simp [j0, Tk, Sq, Rb, Ls, Lt, Ir, E8, E9, Dw, Bv, Br, Ba, Yi, Yj, G6, Gk, Gp, Gf, J3, J4, Gg, G7, Y7, Dr, Is, o4]; rfl)]
   exact fin _ _ (by simp) (by simp) (by simp)
 have f4 : (op == [60, 61]) = false := J8 h4
 by_cases h5 : op = wGt
 · subst h5
   rw [show Vd wGt o = some (o == .gt) from rfl]
   rw [seqN (by simp [j0, Tk, Sq, Rb, Ls, Lt, Ir, E8, E9, Dw, Bv, Br, Ba, Yi, Yj, G6, Gk, Gp, Gf, J3, J4, Gg, G7, Y7, Dr, Is, o5]; rfl)]
   exact fin _ _ (by simp) (by simp) (by simp)
 have f5 : (op == [62]) = false := J8 h5
 by_cases h6 : op = wGe
 · subst h6
   rw [show Vd wGe o = some (o != .lt) from rfl]
   rw [seqN (by simp [j0, Tk, Sq, Rb, Ls, Lt, Ir, E8, E9, Dw, Bv, Br, Ba, Yi, Yj, G6, Gk, Gp, Gf, J3, J4, Gg, G7, Y7, Dr, Is, o6]; rfl)]
   exact fin _ _ (by simp) (by simp) (by simp)
 have f6 : (op == [62, 61]) = false := J8 h6
 rw [show Vd op o = none by simp [Vd, h1, h2, h3, h4, h5, h6]]
 simp [j0, Tk, Sq, Rb, Ls, Lt, Ir, E8, E9, Dw, Bv, Br, Ba, Yi, Yj, G6, Gk, Gp, Gf, J3, J4, Gg, G7, Y7, Dr, Is, lit167, f1, f2, f3, f4, f5, f6, truP, Tr.n]
end
end Go.Ab.Keep
namespace Go.Ab.Keep
open Go Go.Ab Go.Ab.Plan Go.Ab.Key Go.Ab.Cnt Go.Ab.Turn Go.Proofs
variable [Mx]
abbrev tyP (b l : Int) : PV := .agg [.int .i64 b, .int .i64 l]
def TyOK (b l : Int) : Prop := ((b = 0 ∨ b = 1 ∨ b = 2 ∨ b = 3 ∨ b = 6) /\ l = 0) ∨ ((b = 4 ∨ b = 5) /\ 0 <= l /\ l <= 1000)
def Vl (b l : Int) : Int := if b = 1 ∨ b = 2 ∨ b = 3 then 1 else if b = 6 then 3 else if (b = 4 ∨ b = 5) /\ 1 <= l /\ l <= 100 then 2 else 0
theorem lit137_tree : lit137.body = n137 := rfl
abbrev srcC : List PV := [.bool true, .vsl [] 0, .str Zi, .vsl [] 0, .bool false, .str [], .str [], .int .i64 0, .vsl [] 0, .vsl [] 0, .int .i64 0]
abbrev src : PV := .vptr srcC
section
variable (L n : Nat)
theorem Qxi (b l : Int) (h : TyOK b l) (σ : Heap) : (cAt TT L (n + 1)).1 84 [.p (tyP b l)] σ = some (.ret (.p (.bool (decide (Vl b l ≠ 0)))), σ) := by
 refine Z7 (ps := [tyP b l]) q184 (by rfl) ?_ σ
 rcases h with ⟨h, rfl⟩ | ⟨h, h1, h2⟩
 · rcases h with rfl | rfl | rfl | rfl | rfl <;> kernel_rfl
 · have f1 : ((1 <= l) = True) ∨ ((1 <= l) = False) := by by_cases q : 1 <= l <;> simp [q]
   have f2 : ((l <= 100) = True) ∨ ((l <= 100) = False) := by by_cases q : l <= 100 <;> simp [q]
   rcases h with rfl | rfl <;> rcases f1 with f1 | f1 <;> rcases f2 with f2 | f2 <;> simp [lit184, Z8, params, f1, f2, Vl]
theorem Qvt (b l : Int) (h : TyOK b l) (σ : Heap) : (cAt TT L (n + 2)).1 53 [.p (tyP b l)] σ = some (.ret (.p (.int .i64 (Vl b l))), σ) := by
 refine Z7 (ps := [tyP b l]) (n := n + 1) q153 (by rfl) ?_ σ
 have e1 := Qxi L n b l h
 generalize (cAt TT L (n + 1)).1 = C at *
 generalize (cAt TT L (n + 1)).2 = D
 have f0 : (Vl b l = 0) ∨ Vl b l ≠ 0 := by omega
 rcases f0 with f0 | f0
 · have e2 : decide (Vl b l ≠ 0) = false := by simp [f0]
   rw [e2] at e1
   rw [f0]
   simp [lit153, Z8, params, e1]
 · have e2 : decide (Vl b l ≠ 0) = true := by simp [f0]
   rw [e2] at e1
   unfold Vl at f0 ⊢
   rcases h with ⟨h, rfl⟩ | ⟨h, h1, h2⟩
   · rcases h with rfl | rfl | rfl | rfl | rfl <;> first | (exfalso; revert f0; decide) | simp [lit153, Z8, params, e1]
   · have h3 : 1 <= l /\ l <= 100 := by
       rcases h with rfl | rfl <;> simp at f0 <;> exact f0
     rcases h with rfl | rfl <;> simp [lit153, Z8, params, e1, h3]
theorem Qvr (z b l : Int) (h : TyOK b l) : ∃ c : Bool, ∀ σ, (cAt TT L (n + 1)).1 85 [int z, .p (tyP b l)] σ = some (.ret (.p (.bool c)), σ) := by
 have key : ∃ c : Bool, ansV (Z8 (cAt TT L n).1 (cAt TT L n).2 L lit185 [int z, .p (tyP b l)] []) = some (.bool c) := by
   have f1 : ((-32768 <= z) = True) ∨ ((-32768 <= z) = False) := by by_cases q : -32768 <= z <;> simp [q]
   have f2 : ((-2147483648 <= z) = True) ∨ ((-2147483648 <= z) = False) := by by_cases q : -2147483648 <= z <;> simp [q]
   have hb : b = 1 ∨ b = 2 ∨ (b ≠ 1 /\ b ≠ 2) := by omega
   rcases hb with rfl | rfl | ⟨h1, h2⟩
   · rcases f1 with f1 | f1
     · exact ⟨decide (z < 32768), by simp [lit185, Z8, params, f1]⟩
     · exact ⟨false, by simp [lit185, Z8, params, f1]⟩
   · rcases f2 with f2 | f2
     · exact ⟨decide (z < 2147483648), by simp [lit185, Z8, params, f2]⟩
     · exact ⟨false, by simp [lit185, Z8, params, f2]⟩
   · have h1' : (b == 1) = false := beq_eq_false_iff_ne.2 h1
     have h2' : (b == 2) = false := beq_eq_false_iff_ne.2 h2
     exact ⟨true, by simp [lit185, Z8, params, h1', h2']⟩
 obtain ⟨c, hc⟩ := key
 exact ⟨c, fun σ => Z7 (ps := [.int .i64 z, tyP b l]) q185 (by rfl) hc σ⟩
theorem Qfk (t : T) (rows : PV) (σ : Heap) : (cAt TT L (n + 1)).1 38 [.p src, .p (node t), .p rows] σ = some (.ret (.p (.tup [.vsl [] 0, .str Zi])), σ) := by
 refine Z7 (ps := [src, node t, rows]) q138 (by rfl) ?_ σ
 cases t
 kernel_rfl
end
end Go.Ab.Keep
