/- The laws of keys: codes and what is read of them (plain Lean). -/
import Derived.Test.YtafjhlangdcefaaDoorAbKL
set_option linter.unusedSectionVars false
set_option linter.unusedSimpArgs false
set_option linter.unusedVariables false
set_option maxRecDepth 1000000
namespace Go.Ab.Key
open Go Go.Ab Go.Proofs
theorem endsB_snoc (l : List UInt8) (c : UInt8) : endsB (l ++ [c]) = (c == 32) := by
  simp [endsB]
theorem trimB_snoc (l : List UInt8) (c : UInt8) : trimB (l ++ [c]) = if c = 32 then trimB l else l ++ [c] := by
  show Lib.trimRightB _ _ = if c = 32 then Lib.trimRightB _ _ else _
  unfold Lib.trimRightB
  rw [List.reverse_append]
  by_cases h : c = 32
  · simp [h]
  · simp [h]
theorem trim_rev (P : List UInt8 → Prop) (h0 : P []) (h1 : ∀ l c, P l → P (l ++ [c])) (s : List UInt8) : P s := by
  have : ∀ l : List UInt8, P l.reverse := by
    intro l
    induction l with
    | nil => exact h0
    | cons c l ih => rw [List.reverse_cons]; exact h1 _ _ ih
  have h := this s.reverse
  rwa [List.reverse_reverse] at h
theorem ends_trim (s : List UInt8) : endsB (trimB s) = false := by
  refine trim_rev (fun s => endsB (trimB s) = false) (by decide) (fun l c ih => ?_) s
  rw [trimB_snoc]
  split
  · exact ih
  · rename_i h
    rw [endsB_snoc]
    simpa using h
theorem trim_same (t : List UInt8) (h : endsB t = false) : trimB t = t := by
  rcases List.eq_nil_or_concat t with rfl | ⟨l, c, rfl⟩
  · rfl
  · rw [List.concat_eq_append] at *
    rw [endsB_snoc] at h
    have : c ≠ 32 := by simpa using h
    rw [trimB_snoc, if_neg this]
theorem trim_trim (s : List UInt8) : trimB (trimB s) = trimB s := trim_same _ (ends_trim s)
/-- a value as it is read back -/
def norm : V → V
  | .text s => .text (trimB s)
  | v => v
theorem ord_norm : ∀ v, ordV (norm v) v = .eq
  | .null => rfl
  | .num n => by simp [norm, ordV]
  | .text s => by
    simp only [norm, ordV, trim_trim]
    exact cmpL_refl _
  | .bool b => by simp [norm, ordV]
theorem ordL_norm : ∀ x : List V, ordL (x.map norm) x = .eq
  | [] => rfl
  | v :: x => by simp [ordL, ord_norm, ordL_norm x]
theorem words_esc : ∀ (t s acc : List UInt8), words (esc t ++ (0 :: 0 :: s)) acc = (if endsB (acc ++ t) then bad else .ret (.p (.agg (vc (.text (acc ++ t))))), s)
  | [], s, acc => by simp [esc, words]
  | c :: t, s, acc => by
    have ih := words_esc t s (acc ++ [c])
    rw [List.append_assoc, List.singleton_append] at ih
    by_cases h : c = 0
    · subst h
      simp only [esc, if_true, List.cons_append]
      rw [words, if_pos rfl, if_neg (by decide), if_pos rfl]
      exact ih
    · simp only [esc, if_neg h, List.cons_append]
      obtain ⟨d, r, hr⟩ : ∃ d r, esc t ++ (0 :: 0 :: s) = d :: r := by
        cases h : esc t ++ (0 :: 0 :: s) with
        | nil => simp at h
        | cons d r => exact ⟨d, r, rfl⟩
      rw [hr] at ih ⊢
      rw [words, if_neg h]
      exact ih
theorem val_cons_aux : ∀ (l : List UInt8) (a : Nat), l.foldl (fun a b => a * 256 + b.toNat) a = a * 256 ^ l.length + val l
  | [], a => by simp [val]
  | c :: l, a => by
    have h2 : val (c :: l) = c.toNat * 256 ^ l.length + val l := by
      show (c :: l).foldl _ 0 = _
      rw [List.foldl_cons, val_cons_aux l]
      simp
    rw [List.foldl_cons, val_cons_aux l, h2, List.length_cons, Nat.pow_succ, Nat.add_mul, Nat.mul_assoc, Nat.mul_comm 256, Nat.add_assoc]
theorem val_cons (c : UInt8) (l : List UInt8) : val (c :: l) = c.toNat * 256 ^ l.length + val l := by
  rw [val, List.foldl_cons, val_cons_aux]
  simp
theorem val_be : ∀ (k u : Nat), u < 256 ^ k → val (be k u) = u
  | 0, u, h => by
    have : u = 0 := by simpa using h
    subst this
    rfl
  | k + 1, u, h => by
    have hm : 0 < 256 ^ k := Nat.pow_pos (by decide)
    rw [be, val_cons, be_len, val_be k _ (Nat.mod_lt _ hm), UInt8.toNat_ofNat_of_lt' (div_lt_pow h), Nat.mul_comm]
    exact Nat.div_add_mod u (256 ^ k)
theorem be_val : ∀ l : List UInt8, be l.length (val l) = l
  | [] => rfl
  | c :: l => by
    have h := val_lt l
    have hm : 0 < 256 ^ l.length := Nat.pow_pos (by decide)
    rw [List.length_cons, be, val_cons, Nat.mul_comm, Nat.mul_add_div hm, Nat.div_eq_of_lt h, Nat.add_zero, Nat.mul_add_mod, Nat.mod_eq_of_lt h, be_val l, UInt8.ofNat_toNat]
theorem off_num (w : Nat) : off (numOf w) = w := by
  unfold off numOf
  omega
theorem num_off (n : Int) (h : inR n) : numOf (off n) = n := by
  unfold off numOf
  unfold inR at h
  omega
theorem off_lt' {n : Int} (h : inR n) : off n < 256 ^ 8 := by
  unfold off
  unfold inR at h
  omega
/-- what is written is read -/
theorem dec_enc : ∀ (x : List V) (f : Nat) (l : List V), (∀ v ∈ x, v.ok) → (encL x).length < f → dec f (encL x) l = some (l ++ x.map norm)
  | [], f, l, _, hf => by
    obtain ⟨f, rfl⟩ : ∃ m, f = m + 1 := ⟨f - 1, by simp only [encL, List.flatMap_nil, List.length_nil] at hf; omega⟩
    simp [encL, dec]
  | v :: x, f, l, hok, hf => by
    have hx : ∀ v ∈ x, v.ok := fun u hu => hok u (List.mem_cons_of_mem _ hu)
    obtain ⟨f, rfl⟩ : ∃ m, f = m + 1 := ⟨f - 1, by omega⟩
    have he : encL (v :: x) = enc1 v ++ encL x := by simp [encL]
    rw [he] at hf ⊢
    rw [List.length_append] at hf
    have hv := hok v (List.mem_cons_self ..)
    cases v with
    | null =>
      simp only [enc1, List.length_cons, List.length_nil] at hf
      have ih := dec_enc x f (l ++ [.null]) hx (by omega)
      simp [enc1, dec, ih, norm]
    | num n =>
      have hlen := be_len 8 (off n)
      simp only [enc1, List.length_cons, hlen] at hf
      have ih := dec_enc x f (l ++ [.num n]) hx (by omega)
      have h8 : 8 ≤ (be 8 (off n) ++ encL x).length := by rw [List.length_append, hlen]; omega
      have ht : (be 8 (off n) ++ encL x).take 8 = be 8 (off n) := List.take_left' hlen
      have hd : (be 8 (off n) ++ encL x).drop 8 = encL x := List.drop_left' hlen
      simp only [enc1, List.cons_append, dec]
      rw [if_neg (by decide), if_pos trivial, if_pos h8, ht, hd, val_be 8 _ (off_lt' hv), num_off n hv, ih]
      simp [norm]
    | text s =>
      simp only [enc1, List.length_cons, List.length_append] at hf
      have ih := dec_enc x f (l ++ [.text (trimB s)]) hx (by omega)
      have hw := words_esc (trimB s) (encL x) []
      rw [List.nil_append, ends_trim] at hw
      simp only [enc1, List.cons_append, List.append_assoc, List.nil_append, dec]
      rw [if_neg (by decide), if_neg (by decide), if_pos trivial, hw]
      simp [txtOf, vc, ih, norm]
    | bool b =>
      simp only [enc1, List.length_cons, List.length_nil] at hf
      have ih := dec_enc x f (l ++ [.bool b]) hx (by omega)
      cases b <;> simp [enc1, dec, ih, norm]
end Go.Ab.Key

/- The laws of keys: KeyJoined. -/
set_option maxRecDepth 1000000
namespace Go.Ab.Key
open Go Go.Ab Go.Proofs
theorem encL_append (x y : List V) : encL (x ++ y) = encL x ++ encL y := by simp [encL]
theorem wts_append (x y : List V) : wts (x ++ y) = wts x + wts y := by simp [wts]
theorem wts_text {x : List V} {k : Nat} (h : wts x ≤ k) : ∀ s, V.text s ∈ x → s.length ≤ k := by
  intro s hs
  obtain ⟨i, hi⟩ := List.mem_iff_getElem?.1 hs
  have h2 := wts_take x (i + 1)
  rw [List.take_add_one, hi] at h2
  simp only [Option.toList_some, wts_snoc, wt] at h2
  omega
theorem norm_text {x : List V} {k : Nat} (h : wts x ≤ k) : ∀ s, V.text s ∈ x.map norm → s.length ≤ k := by
  intro s hs
  obtain ⟨v, hv, he⟩ := List.mem_map.1 hs
  cases v with
  | text t =>
    simp only [norm, V.text.injEq] at he
    subst he
    exact Nat.le_trans (trim_len t) (wts_text h t hv)
  | _ => simp [norm] at he
variable [Marks]
theorem SlAt.push {σ : Heap} {v : AV} {x : List V} (h : SlAt σ v x) (τ : Heap) : SlAt (σ ++ τ) v x := by
  rcases h with h | ⟨id, ver, wm, rest, ty, rfl, ho⟩
  · exact .inl h
  · exact .inr ⟨id, ver, wm, rest, ty, rfl, by rw [List.getElem?_append_left (List.getElem?_eq_some_iff.1 ho).1]; exact ho⟩
def lit5 : AFunc := { ntmps := 54, results := [ARes.tmp 4], body := (ACode.region [{ dst := some 4, op := AOp.mv (Opd.c (AV.p (PV.bool false))), guard := none }]).seq ((ACode.region [{ dst := some 11, op := AOp.mv (Opd.t 0), guard := none }, { dst := some 12, op := AOp.call (Opd.c (AV.p (PV.fn 8))) [Opd.t 11], guard := none }, { dst := some 5, op := AOp.mv (Opd.t 12), guard := none }]).seq ((ACode.region [{ dst := some 13, op := AOp.mv (Opd.t 1), guard := none }, { dst := some 14, op := AOp.call (Opd.c (AV.p (PV.fn 8))) [Opd.t 13], guard := none }, { dst := some 6, op := AOp.mv (Opd.t 14), guard := none }]).seq ((ACode.region [{ dst := some 15, op := AOp.buildSlice [AV.p (PV.int IntKind.i64 (0)), AV.p (PV.int IntKind.i64 (0)), AV.p (PV.str []), AV.p (PV.bool false)] 0 4 [], guard := none }, { dst := some 16, op := AOp.mv (Opd.t 5), guard := none }, { dst := some 17, op := AOp.append 39 4 [AV.p (PV.int IntKind.i64 (0)), AV.p (PV.int IntKind.i64 (0)), AV.p (PV.str []), AV.p (PV.bool false)] (Opd.t 15) (Opd.t 16), guard := none }, { dst := some 18, op := AOp.mv (Opd.t 6), guard := none }, { dst := some 19, op := AOp.append 39 4 [AV.p (PV.int IntKind.i64 (0)), AV.p (PV.int IntKind.i64 (0)), AV.p (PV.str []), AV.p (PV.bool false)] (Opd.t 17) (Opd.t 18), guard := none }, { dst := some 7, op := AOp.mv (Opd.t 19), guard := none }]).seq ((ACode.region [{ dst := some 20, op := AOp.mv (Opd.t 5), guard := none }, { dst := some 21, op := AOp.call (Opd.c (AV.p (PV.fn 9))) [Opd.t 20], guard := none }, { dst := some 22, op := AOp.mv (Opd.t 6), guard := none }, { dst := some 23, op := AOp.call (Opd.c (AV.p (PV.fn 9))) [Opd.t 22], guard := none }, { dst := some 24, op := AOp.bin (Bin.plain BinOp.add) (Opd.t 21) (Opd.t 23), guard := none }, { dst := some 8, op := AOp.mv (Opd.t 24), guard := none }]).seq ((ACode.region [{ dst := some 26, op := AOp.mv (Opd.t 8), guard := none }, { dst := some 27, op := AOp.call (Opd.c (AV.p (PV.fn 12))) [Opd.t 26], guard := none }, { dst := some 25, op := AOp.mv (Opd.t 27), guard := none }, { dst := some 28, op := AOp.extract 0 (Opd.t 25), guard := none }, { dst := some 29, op := AOp.extract 1 (Opd.t 25), guard := none }, { dst := some 9, op := AOp.mv (Opd.t 28), guard := none }, { dst := some 10, op := AOp.mv (Opd.t 29), guard := none }]).seq ((ACode.region [{ dst := some 30, op := AOp.call (Opd.c (AV.p (PV.fn 11))) [], guard := none }, { dst := some 31, op := AOp.mv (Opd.t 30), guard := none }, { dst := some 32, op := AOp.mv (Opd.t 7), guard := some (31, true) }, { dst := some 33, op := AOp.call (Opd.c (AV.p (PV.fn 9))) [Opd.t 32], guard := some (31, true) }, { dst := some 34, op := AOp.mv (Opd.t 8), guard := some (31, true) }, { dst := some 35, op := AOp.bin (Bin.plain BinOp.eql) (Opd.t 33) (Opd.t 34), guard := some (31, true) }, { dst := some 36, op := AOp.pick (Opd.t 31) (Opd.t 35) (Opd.c (AV.p (PV.bool false))), guard := none }, { dst := some 37, op := AOp.mv (Opd.t 36), guard := none }, { dst := some 38, op := AOp.mv (Opd.t 10), guard := some (37, true) }, { dst := some 39, op := AOp.bin (Bin.plain BinOp.eql) (Opd.t 38) (Opd.c (AV.p (PV.int IntKind.i64 (0)))), guard := some (37, true) }, { dst := some 40, op := AOp.pick (Opd.t 37) (Opd.t 39) (Opd.c (AV.p (PV.bool false))), guard := none }, { dst := some 41, op := AOp.mv (Opd.t 40), guard := none }, { dst := some 42, op := AOp.mv (Opd.t 9), guard := some (41, true) }, { dst := some 43, op := AOp.len false (Opd.t 42), guard := some (41, true) }, { dst := some 44, op := AOp.mv (Opd.t 7), guard := some (41, true) }, { dst := some 45, op := AOp.len false (Opd.t 44), guard := some (41, true) }, { dst := some 46, op := AOp.bin (Bin.plain BinOp.eql) (Opd.t 43) (Opd.t 45), guard := some (41, true) }, { dst := some 47, op := AOp.pick (Opd.t 41) (Opd.t 46) (Opd.c (AV.p (PV.bool false))), guard := none }, { dst := some 48, op := AOp.mv (Opd.t 47), guard := none }, { dst := some 49, op := AOp.mv (Opd.t 9), guard := some (48, true) }, { dst := some 50, op := AOp.mv (Opd.t 7), guard := some (48, true) }, { dst := some 51, op := AOp.call (Opd.c (AV.p (PV.fn 10))) [Opd.t 49, Opd.t 50], guard := some (48, true) }, { dst := some 52, op := AOp.bin (Bin.plain BinOp.eql) (Opd.t 51) (Opd.c (AV.p (PV.int IntKind.i64 (0)))), guard := some (48, true) }, { dst := some 53, op := AOp.pick (Opd.t 48) (Opd.t 52) (Opd.c (AV.p (PV.bool false))), guard := none }, { dst := some 4, op := AOp.mv (Opd.t 53), guard := none }]).seq ACode.ret)))))) }
section
variable (m : Int)
theorem q5 : TE (G 0 m) 5 = some (.code lit5 true) := by kernel_rfl
set_option maxHeartbeats 2000000 in
theorem law5 (a b : List Raw) (ha : ∀ r ∈ a, inR r.k ∧ inR r.n) (hza : szL (raws a) ≤ 1048576) (hb : ∀ r ∈ b, inR r.k ∧ inR r.n) (hzb : szL (raws b) ≤ 1048576) :
    ∃ L n σ', (cAt (TE (G 0 m)) L n).1 5 [.p (.vsl (raws a) a.length), .p (.vsl (raws b) b.length)] [] = some (.ret (.p (.bool true)), σ') := by
  refine ⟨20000000, 31, [], ?_⟩
  have hxa := ok_row ha
  have hxb := ok_row hb
  have hwa := wts_row' hza
  have hwb := wts_row' hzb
  have hx40 : (rowOf' a).length ≤ 40 := by simp [rowOf']; omega
  have hy40 : (rowOf' b).length ≤ 40 := by simp [rowOf']; omega
  have hLm : LIM = 4294967296 := rfl
  obtain ⟨v, τ1, e1, s1, _⟩ := row_at' m 20000000 27 (by omega) a (fun r hr => (ha r hr).1) []
  rw [List.nil_append] at e1 s1
  obtain ⟨u, τ2, e2, s2, _⟩ := row_at' m 20000000 27 (by omega) b (fun r hr => (hb r hr).1) τ1
  have s1 := s1.push τ2
  generalize rowOf' a = x at *
  generalize rowOf' b = y at *
  generalize τ1 ++ τ2 = σ2 at *
  -- the list of both
  have o0 : Own (σ2 ++ [.arr (.pv []) 0 0 none]) σ2.length (.sl σ2.length 0 0 0 4) [] := ⟨0, 0, none, rfl, by simp [vcs], by simp⟩
  obtain ⟨d1, σ3, a1, o1, kp1⟩ := o0.append x (by simp; omega)
  have el1 := (s1.push [.arr (.pv []) 0 0 none]).elems
  have s1' := kp1 _ _ (s1.nb (Nat.le_refl _)) (s1.push _)
  have s2' := kp1 _ _ (s2.nb (Nat.le_refl _)) (s2.push _)
  obtain ⟨d2, σ4, a2, o2, kp2⟩ := o1.append y (by simp; omega)
  have el2 := s2'.elems
  have s1'' := kp2 _ _ (s1.nb (Nat.le_refl _)) s1'
  have s2'' := kp2 _ _ (s2.nb (Nat.le_refl _)) s2'
  rw [List.nil_append] at o2
  obtain ⟨σ5, e3, k5⟩ := encode_at m 20000000 28 x (by omega) (by omega) hxa (by omega) s1''
  obtain ⟨σ6, e4, k6⟩ := encode_at m 20000000 28 y (by omega) (by omega) hxb (by omega) (k5 _ _ s2'')
  have hlx := encL_len x
  have hly := encL_len y
  have hok : ∀ v ∈ x ++ y, v.ok := fun v hv => by
    rcases List.mem_append.1 hv with h | h
    · exact hxa v h
    · exact hxb v h
  have hwy : wts (x ++ y) ≤ 4200000 := by rw [wts_append]; omega
  have hdec : dec 20000000 (encL x ++ encL y) [] = some ((x ++ y).map norm) := by
    have := dec_enc (x ++ y) 20000000 [] hok (by rw [encL_append, List.length_append]; omega)
    rw [encL_append, List.nil_append] at this
    exact this
  obtain ⟨w, τ3, e5, s5⟩ := decode_at m 20000000 26 (encL x ++ encL y) (by omega) (by rw [List.length_append]; omega) (by rw [List.length_append]; omega) σ6
  rw [hdec] at e5 s5
  simp only [decI, Option.getD_some] at e5 s5
  have s6 : SlAt (σ6 ++ τ3) d2 (x ++ y) := (k6 _ _ (k5 _ _ o2.at)).push τ3
  obtain ⟨σ8, e6, k8⟩ := encode_at m 20000000 28 (x ++ y) (by simp; omega) (by simp; omega) hok (by omega) s6
  rw [encL_append] at e6
  have hzl : ((x ++ y).map norm).length = (x ++ y).length := by simp
  obtain ⟨σ9, e7, _⟩ := order_at m 20000000 27 ((x ++ y).map norm) (x ++ y) (by simp; omega) (by simp; omega) (fun s hs => by have := norm_text hwy s hs; omega) (fun s hs => by have := wts_text hwy s hs; omega) (k8 _ _ s5) (k8 _ _ s6)
  rw [ordL_norm] at e7
  have e8 := alive_at m 20000000 30 (by omega) (by omega)
  refine call_ans (ps := [.vsl (raws a) a.length, .vsl (raws b) b.length]) (n := 30) (q5 m) (by kernel_rfl) ?_ []
  have lw := s5.len
  rw [hzl] at lw
  have ld := s6.len
  have hadd : (encL x).length + (encL y).length ≤ LIM := by omega
  generalize (cAt (TE (G 0 m)) 20000000 30).1 = C at *
  generalize (cAt (TE (G 0 m)) 20000000 30).2 = D
  rw [runFunc_eq]
  simp only [lit5]
  refine seqE (σ1 := []) (Q := fun ρ => ρ.get 0 = some (.p (.vsl (raws a) a.length)) ∧ ρ.get 1 = some (.p (.vsl (raws b) b.length))) ⟨_, by simp [params, exec, runOps, wantedA, stepOp, pureOp, allocOp, readOp, effOp, ev, evs, evO, Env.get_cons, putE, binA, intBin, unA, AV.fit, AV.toCells, partC, partP, mkCells, allP, mkAgg, Cells.len, target]; rfl, by simp [Env.get_cons]⟩ fun ρ ⟨g0, g1⟩ => ?_
  refine seqE (σ1 := τ1) (Q := fun ρ => ρ.get 5 = some v ∧ ρ.get 1 = some (.p (.vsl (raws b) b.length))) ⟨_, by simp [exec, runOps, wantedA, stepOp, pureOp, allocOp, readOp, effOp, ev, evs, evO, Env.get_cons, putE, binA, intBin, unA, AV.fit, AV.toCells, partC, partP, mkCells, allP, mkAgg, Cells.len, target, g0, e1]; rfl, by simp [Env.get_cons, g1]⟩ fun ρ ⟨g5, g1⟩ => ?_
  refine seqE (σ1 := σ2) (Q := fun ρ => ρ.get 5 = some v ∧ ρ.get 6 = some u) ⟨_, by simp [exec, runOps, wantedA, stepOp, pureOp, allocOp, readOp, effOp, ev, evs, evO, Env.get_cons, putE, binA, intBin, unA, AV.fit, AV.toCells, partC, partP, mkCells, allP, mkAgg, Cells.len, target, g1, e2]; rfl, by simp [Env.get_cons, g5]⟩ fun ρ ⟨g5, g6⟩ => ?_
  refine seqE (σ1 := σ4) (Q := fun ρ => ρ.get 5 = some v ∧ ρ.get 6 = some u ∧ ρ.get 7 = some d2) ⟨_, by simp [exec, runOps, wantedA, stepOp, pureOp, allocOp, readOp, effOp, ev, evs, evO, Env.get_cons, putE, binA, intBin, unA, AV.fit, AV.toCells, partC, partP, mkCells, allP, mkAgg, Cells.len, target, evParts, fillA, AV.cells, splice, spliceC, finA, leaveA, resA, resV, ansV, repCells, g5, g6, a1, a2, el1, el2]; rfl, by simp [Env.get_cons, g5, g6]⟩ fun ρ ⟨g5, g6, g7⟩ => ?_
  refine seqE (σ1 := σ6) (Q := fun ρ => ρ.get 7 = some d2 ∧ ρ.get 8 = some (.p (.str (encL x ++ encL y)))) ⟨_, by simp [exec, runOps, wantedA, stepOp, pureOp, allocOp, readOp, effOp, ev, evs, evO, Env.get_cons, putE, binA, intBin, unA, AV.fit, AV.toCells, partC, partP, mkCells, allP, mkAgg, Cells.len, target, strBin, hadd, g5, g6, e3, e4]; rfl, by simp [Env.get_cons, g7]⟩ fun ρ ⟨g7, g8⟩ => ?_
  refine seqE (σ1 := σ6 ++ τ3) (Q := fun ρ => ρ.get 7 = some d2 ∧ ρ.get 8 = some (.p (.str (encL x ++ encL y))) ∧ ρ.get 9 = some w ∧ ρ.get 10 = some (.p (.int .i64 0))) ⟨_, by simp [exec, runOps, wantedA, stepOp, pureOp, allocOp, readOp, effOp, ev, evs, evO, Env.get_cons, putE, binA, intBin, unA, AV.fit, AV.toCells, partC, partP, mkCells, allP, mkAgg, Cells.len, target, extractA, g8, e5]; rfl, by simp [Env.get_cons, g7, g8]⟩ fun ρ ⟨g7, g8, g9, g10⟩ => ?_
  have rg1 := fun (d k : Nat) (r : List AOper) (ρ : Env) (σ : Heap) (h : ρ.get 41 = some (.p (.bool true))) => run_len (C := C) (d := d) (k := k) (g := some (41, true)) (r := r) (ρ := ρ) (σ := σ) lw s5.str (wanted_true h)
  have rg2 := fun (d k : Nat) (r : List AOper) (ρ : Env) (σ : Heap) (h : ρ.get 41 = some (.p (.bool true))) => run_len (C := C) (d := d) (k := k) (g := some (41, true)) (r := r) (ρ := ρ) (σ := σ) ld s6.str (wanted_true h)
  simp [exec, runOps, wantedA, stepOp, pureOp, allocOp, readOp, effOp, ev, evs, evO, Env.get_cons, putE, binA, intBin, unA, AV.fit, AV.toCells, partC, partP, mkCells, allP, mkAgg, Cells.len, target, finX, finA, leaveA, resA, resV, ansV, strBin, ↓rg1, ↓rg2, g7, g8, g9, g10, e6, e7, e8, ordI, lit5]
end
end Go.Ab.Key

/- The laws of keys: what is read is written (plain Lean). -/
set_option maxRecDepth 1000000
namespace Go.Ab.Key
open Go Go.Ab Go.Proofs
theorem words_back : ∀ (s acc t : List UInt8), txtOf (words s acc).1 = some t → endsB t = false ∧ ∃ u, t = acc ++ u ∧ s = esc u ++ (0 :: 0 :: (words s acc).2)
  | [], acc, t, h => by simp [words, txtOf] at h
  | [c], acc, t, h => by simp [words, txtOf] at h
  | c :: d :: s, acc, t, h => by
    by_cases hc : c = 0
    · subst hc
      by_cases hd : d = 0
      · subst hd
        cases he : endsB acc with
        | true => simp [words, he, txtOf] at h
        | false =>
          simp [words, he, txtOf, vc] at h
          subst h
          exact ⟨he, [], by simp, by simp [esc, words]⟩
      · by_cases h255 : d = 255
        · subst h255
          have hw : words (0 :: 255 :: s) acc = words s (acc ++ [0]) := by rw [words, if_pos rfl, if_neg (by decide), if_pos rfl]
          rw [hw] at h ⊢
          obtain ⟨he, u, h1, h2⟩ := words_back s _ t h
          refine ⟨he, 0 :: u, by rw [h1]; simp, ?_⟩
          simp only [esc, if_true, List.cons_append]
          rw [← h2]
        · simp [words, hd, h255, txtOf] at h
    · have hw : words (c :: d :: s) acc = words (d :: s) (acc ++ [c]) := by rw [words, if_neg hc]
      rw [hw] at h ⊢
      obtain ⟨he, u, h1, h2⟩ := words_back (d :: s) _ t h
      refine ⟨he, c :: u, by rw [h1]; simp, ?_⟩
      simp only [esc, if_neg hc, List.cons_append]
      rw [← h2]
theorem esc_ge : ∀ s : List UInt8, s.length ≤ (esc s).length
  | [] => Nat.le_refl _
  | c :: s => by
    have ih := esc_ge s
    by_cases h : c = 0 <;> simp [esc, h] <;> omega
/-- what is read of a code, written again -/
theorem dec_back : ∀ (f : Nat) (s : List UInt8) (l l' : List V), dec f s l = some l' → ∃ k, l' = l ++ k ∧ encL k = s ∧ (∀ v ∈ k, v.ok) ∧ wts k ≤ 9 * s.length ∧ k.length ≤ s.length
  | 0, s, l, l', h => by simp [dec] at h
  | f + 1, [], l, l', h => by
    simp [dec] at h
    exact ⟨[], by simp [h], rfl, fun v h => by simp at h, by simp [wts], Nat.le_refl _⟩
  | f + 1, c :: s, l, l', h => by
    have step : ∀ (v : V) (s' : List UInt8), dec f s' (l ++ [v]) = some l' → v.ok → enc1 v ++ s' = c :: s → wt v ≤ 9 * (enc1 v).length → 1 ≤ (enc1 v).length →
        ∃ k, l' = l ++ k ∧ encL k = c :: s ∧ (∀ v ∈ k, v.ok) ∧ wts k ≤ 9 * (c :: s).length ∧ k.length ≤ (c :: s).length := by
      intro v s' h hok he hw h1
      obtain ⟨k, e1, e2, e3, e4, e5⟩ := dec_back f s' _ l' h
      refine ⟨v :: k, by rw [e1]; simp, by rw [← he, ← e2]; simp [encL], fun u hu => ?_, ?_, ?_⟩
      · rcases List.mem_cons.1 hu with rfl | hu
        · exact hok
        · exact e3 u hu
      · rw [← he, List.length_append]
        simp only [wts, List.map_cons, List.sum_cons] at *
        omega
      · rw [← he, List.length_append]
        simp only [List.length_cons]
        omega
    simp only [dec] at h
    by_cases c1 : c = 1
    · subst c1
      exact step .null s (by simpa using h) trivial rfl (by decide) (by decide)
    by_cases c2 : c = 2
    · subst c2
      by_cases h8 : 8 ≤ s.length
      · have ht : (s.take 8).length = 8 := by simp; omega
        have hv := val_lt (s.take 8)
        rw [ht] at hv
        have hb := be_val (s.take 8)
        rw [ht] at hb
        refine step (.num (numOf (val (s.take 8)))) (s.drop 8) (by simpa [h8] using h) ?_ ?_ ?_ ?_
        · show inR _
          unfold inR numOf
          omega
        · simp only [enc1, off_num, hb, List.cons_append, List.take_append_drop]
        · simp [enc1, be_len, wt]
        · simp [enc1]
      · simp [h8] at h
    by_cases c3 : c = 3
    · subst c3
      cases ht : txtOf (words s []).1 with
      | none => simp [ht] at h
      | some t =>
        obtain ⟨he, u, h1, h2⟩ := words_back s [] t ht
        rw [List.nil_append] at h1
        subst h1
        have hl := esc_ge t
        refine step (.text t) (words s []).2 (by simpa [ht] using h) trivial ?_ ?_ ?_
        · simp only [enc1, trim_same t he, List.cons_append, List.append_assoc, List.nil_append]
          rw [← h2]
        · simp only [enc1, trim_same t he, wt, List.length_cons, List.length_append, List.length_nil]
          omega
        · simp [enc1]
    by_cases c4 : c = 4
    · subst c4
      match s, h with
      | [], h => simp at h
      | d :: s, h =>
        by_cases hd : d = 0 ∨ d = 1
        · refine step (.bool (d == 1)) s (by simpa [hd] using h) trivial ?_ (by simp [enc1, wt]) (by simp [enc1])
          rcases hd with rfl | rfl <;> rfl
        · simp [hd] at h
    · simp [c1, c2, c3, c4] at h
end Go.Ab.Key
