/- More operations that ask for no memory. -/
import Derived.Test.YtikebbklkiodlaaDoorAbA5
set_option linter.unusedSectionVars false
set_option linter.unusedSimpArgs false
set_option linter.unusedVariables false
namespace Go.Ab
variable [Marks]
variable {S S' : Nat → Nat → Prop} {w w' : World} {μ μ' : Nat → Nat → Option (Nat × Nat)} {P : Program} {G : Globs}

theorem unA_rep {u : UnOp} {x v : AV} {cx : Value} (h : unA u x = some v) (hx : Rep S w μ x cx) (w' : World) : ∃ c, (Op.unary u cx).run P w' = .ok c w' ∧ Rep S w μ v c := by
  unfold unA at h
  split at h
  · obtain rfl := Option.some.inj h
    obtain rfl := hx.int
    exact ⟨.int _ _, by simp [Op.unary, Op.intArith], .p (.int _ _)⟩
  · simp only [intBin, Option.map_some] at h
    obtain rfl := Option.some.inj h
    obtain rfl := hx.int
    exact ⟨.int _ _, by simp [Op.unary, Op.intBits], .p (.int _ _)⟩
  · obtain rfl := Option.some.inj h
    obtain rfl := hx.bool
    exact ⟨.bool _, by simp [Op.unary], .p (.bool _)⟩
  · cases h

theorem boundA_rep {m d r : Nat} {x : Option AV} {cx : Option Value} (h : boundA m d x = some r) (hx : (x = none ∧ cx = none) ∨ ∃ u c, x = some u ∧ cx = some c ∧ Rep S w μ u c) :
    (cx = none ∧ r = d) ∨ (r ≤ m ∧ ∃ k, cx = some (.int k r)) := by
  rcases hx with ⟨rfl, rfl⟩ | ⟨u, c, rfl, rfl, hu⟩
  · exact .inl ⟨rfl, (Option.some.inj h).symm⟩
  · unfold boundA at h
    split at h
    · simp_all
    · rename_i k n heq
      obtain rfl := Option.some.inj heq
      obtain rfl := hu.int
      split at h
      · rename_i hn
        obtain rfl := Option.some.inj h
        exact .inr ⟨by omega, k, by rw [Int.toNat_of_nonneg hn.1]⟩
      · cases h
    · cases h

/-- what a slice expression's bounds come to: 'len' is what the model takes where none is given, 'cap' what it holds the upper one against -/
theorem bounds_rep {len cap : Nat} {lo hi : Option AV} {clo chi : Option Value} {l h : Nat} (hb : boundsA len lo hi = some (l, h))
    (hlo : (lo = none ∧ clo = none) ∨ ∃ u c, lo = some u ∧ clo = some c ∧ Rep S w μ u c)
    (hhi : (hi = none ∧ chi = none) ∨ ∃ u c, hi = some u ∧ chi = some c ∧ Rep S w μ u c) (hcap : len ≤ cap) (isSlice : Bool) (w' : World) :
    (Instr.sliceBounds isSlice len cap clo chi none).run P w' = .ok (l, h, cap) w' ∧ l ≤ h ∧ h ≤ len := by
  unfold boundsA at hb
  split at hb
  · rename_i h' e1
    split at hb
    · rename_i l' e2
      simp only [Option.some.injEq, Prod.mk.injEq] at hb
      obtain ⟨rfl, rfl⟩ := hb
      rcases boundA_rep e1 hhi with ⟨rfl, rfl⟩ | ⟨h1, k, rfl⟩ <;> rcases boundA_rep e2 hlo with ⟨rfl, rfl⟩ | ⟨h2, k', rfl⟩
      · exact ⟨by simp [Instr.sliceBounds], by omega, by omega⟩
      · refine ⟨?_, by omega, by omega⟩
        simp [Instr.sliceBounds, Instr.sliceBound, asIntOf, h2]
      · refine ⟨?_, by omega, by omega⟩
        have : h' ≤ cap := by omega
        simp [Instr.sliceBounds, Instr.sliceBound, asIntOf, this]
      · refine ⟨?_, by omega, by omega⟩
        have : h' ≤ cap := by omega
        simp [Instr.sliceBounds, Instr.sliceBound, asIntOf, this, h2]
    · cases hb
  · cases hb

theorem Addr_add (b o n : Nat) : Addr.add ⟨b, o, none⟩ n = ⟨b, o + n, none⟩ := Addr.add_lit b o n

theorem sliceA_str {x : List UInt8} {s : ByteArray} {lo hi : Option AV} {clo chi : Option Value} {v : AV} {t : Nat} (ht : P.underlying t = some .string) (hs : s.data.toList = x)
    (h : sliceA 1 (.p (.str x)) lo hi = some v)
    (hlo : (lo = none ∧ clo = none) ∨ ∃ u c, lo = some u ∧ clo = some c ∧ Rep S w μ u c)
    (hhi : (hi = none ∧ chi = none) ∨ ∃ u c, hi = some u ∧ chi = some c ∧ Rep S w μ u c) (w' : World) :
    ∃ c, (Instr.sliceAt t (.string s) clo chi none).run P w' = .ok c w' ∧ Rep S w μ v c := by
  simp only [sliceA] at h
  split at h
  · rename_i l hh hb
    obtain rfl := Option.some.inj h
    subst hs
    obtain ⟨h1, h2, h3⟩ := bounds_rep (P := P) (cap := s.size) hb hlo hhi (Nat.le_refl _) false w'
    have h1' : (Instr.sliceBounds false s.size s.size clo chi none).run P w' = .ok (l, hh, s.size) w' := h1
    refine ⟨.string (s.extract l hh), ?_, .p (.str (by simp))⟩
    simp only [Instr.sliceAt, Sem.run_bind, run_underlying ht, Result.andThen_ok, Instr.slice]
    simp [h1']
  · cases h

theorem sliceA_slice {esz : Nat} {x v : AV} {cx : Value} {lo hi : Option AV} {clo chi : Option Value} {t e : Nat} (ht : P.underlying t = some (.slice e)) (he : P_size P e = some esz)
    (h : sliceA esz x lo hi = some v) (hx : Rep S w μ x cx)
    (hlo : (lo = none ∧ clo = none) ∨ ∃ u c, lo = some u ∧ clo = some c ∧ Rep S w μ u c)
    (hhi : (hi = none ∧ chi = none) ∨ ∃ u c, hi = some u ∧ chi = some c ∧ Rep S w μ u c) (w' : World) (hns : ∀ s, x ≠ .p (.str s)) :
    ∃ c, (Instr.sliceAt t cx clo chi none).run P w' = .ok c w' ∧ Rep S w μ v c := by
  have run : ∀ (a : Option Addr) (n cap l hh : Nat), (Instr.sliceBounds true n cap clo chi none).run P w' = .ok (l, hh, cap) w' →
      (Instr.sliceAt t (.slice a n cap) clo chi none).run P w' = .ok (.slice (if cap = l then a else a.map (·.add (l * esz))) (hh - l) (cap - l)) w' := by
    intro a n cap l hh hb
    simp [Instr.sliceAt, run_underlying ht, Instr.slice, hb, run_size he]
  cases x with
  | p x =>
    cases x with
    | str s => exact absurd rfl (hns s)
    | vsl cells len =>
      simp only [sliceA] at h
      obtain ⟨a, cap, rfl, hcap, hcs⟩ := hx.vslP
      split at h
      · rename_i l hh hb
        obtain ⟨h1, h2, h3⟩ := bounds_rep (P := P) hb hlo hhi hcap true w'
        split at h
        · rename_i hlh
          obtain rfl := Option.some.inj h
          exact ⟨_, run _ _ _ _ _ h1, .p (by rw [show hh - l = 0 from by omega]; exact .vsl0 _ _)⟩
        · rename_i hlh
          split at h
          · rename_i hlen
            obtain rfl := Option.some.inj h
            rcases hcs with ⟨rfl, rfl⟩ | ⟨b, o, rfl, hcs⟩
            · omega
            · refine ⟨_, run _ _ _ _ _ h1, .p ?_⟩
              rw [if_neg (by omega)]
              simp only [Option.map_some, Addr_add]
              exact .vsl (by omega) ((hcs.drop _).take _)
          · cases h
      · cases h
    | _ => simp [sliceA] at h
  | nil0 =>
    simp only [sliceA] at h
    split at h
    · rename_i r hb
      obtain rfl := Option.some.inj h
      cases hx
      obtain ⟨l, hh⟩ := r
      obtain ⟨h1, h2, h3⟩ := bounds_rep (P := P) hb hlo hhi (Nat.le_refl 0) true w'
      refine ⟨_, run _ _ _ _ _ h1, ?_⟩
      obtain rfl : l = 0 := by omega
      obtain rfl : hh = 0 := by omega
      exact .nil0
    · cases h
  | e0 =>
    simp only [sliceA] at h
    split at h
    · rename_i r hb
      obtain rfl := Option.some.inj h
      cases hx
      obtain ⟨l, hh⟩ := r
      obtain ⟨h1, h2, h3⟩ := bounds_rep (P := P) hb hlo hhi (Nat.le_refl 0) true w'
      refine ⟨_, run _ _ _ _ _ h1, ?_⟩
      obtain rfl : l = 0 := by omega
      obtain rfl : hh = 0 := by omega
      exact .e0 _
    · cases h
  | sl id ver off len e' =>
    simp only [sliceA] at h
    split at h
    · rename_i hee
      subst hee
      split at h
      · rename_i l hh hb
        cases hx with
        | sl hμ hl hcap =>
          rename_i b n cap
          obtain ⟨h1, h2, h3⟩ := bounds_rep (P := P) hb hlo hhi hl true w'
          split at h
          · rename_i hlh
            obtain rfl := Option.some.inj h
            exact ⟨_, run _ _ _ _ _ h1, .p (by rw [show hh - l = 0 from by omega]; exact .vsl0 _ _)⟩
          · rename_i hlh
            obtain rfl := Option.some.inj h
            refine ⟨_, run _ _ _ _ _ h1, ?_⟩
            have hmul : (cap - l) * e' + l * e' = cap * e' := by rw [← Nat.add_mul]; congr 1; omega
            by_cases hcl : cap = l
            · rw [if_pos hcl]
              obtain rfl : l = 0 := by omega
              subst hcl
              simp only [Nat.zero_mul, Nat.add_zero]
              exact .sl hμ (by omega) (by omega)
            · rw [if_neg hcl]
              simp only [Option.map_some, Addr_add]
              exact .sl hμ (by omega) (by omega)
      · cases h
    · cases h
  | _ => simp [sliceA] at h

theorem sliceArr_rep {n esz id ver off l h : Nat} {v : AV} {cx : Value} {lo hi : Option AV} {clo chi : Option Value} {t e : Nat} (ht : P.underlying t = some (.array n e)) (he : P_size P e = some esz)
    (hb : boundsA n lo hi = some (l, h)) (hv : v = if l = h then .p (.vsl [] 0) else .sl id ver (off + l * esz) (h - l) esz) (hx : Rep S w μ (.ptr id ver off) cx)
    (hroom : ∀ b m, μ id ver = some (b, m) → off + n * esz ≤ m)
    (hlo : (lo = none ∧ clo = none) ∨ ∃ u c, lo = some u ∧ clo = some c ∧ Rep S w μ u c)
    (hhi : (hi = none ∧ chi = none) ∨ ∃ u c, hi = some u ∧ chi = some c ∧ Rep S w μ u c) (w' : World) :
    ∃ c, (Instr.sliceAt t cx clo chi none).run P w' = .ok c w' ∧ Rep S w μ v c := by
  cases hx with
  | ptr hμ =>
    rename_i b m
    obtain ⟨h1, h2, h3⟩ := bounds_rep (P := P) hb hlo hhi (Nat.le_refl n) false w'
    have hr := hroom b m hμ
    have hmul : (n - l) * esz + l * esz = n * esz := by rw [← Nat.add_mul]; congr 1; omega
    have run : (Instr.sliceAt t (.pointer (some ⟨b, off, none⟩)) clo chi none).run P w' = .ok (.slice (some (if n = l then ⟨b, off, none⟩ else ⟨b, off + l * esz, none⟩)) (h - l) (n - l)) w' := by
      simp [Instr.sliceAt, run_underlying ht, Instr.sureAddr, h1, run_size he, Addr_add]
    refine ⟨_, run, ?_⟩
    subst hv
    by_cases hlh : l = h
    · rw [if_pos hlh, show h - l = 0 from by omega]
      exact .p (.vsl0 _ _)
    · rw [if_neg hlh, if_neg (by omega)]
      exact .sl hμ (by omega) (by omega)

theorem lenA_rep {x : AV} {n : Nat} {cx : Value} (h : lenA x = some n) (hx : Rep S w μ x cx) (hns : ∀ s, x ≠ .p (.str s)) : ∃ a c, cx = .slice a n c := by
  unfold lenA at h
  split at h
  · exact absurd rfl (hns _)
  · obtain rfl := Option.some.inj h
    obtain ⟨a, cap, rfl, _⟩ := hx.vslP
    exact ⟨_, _, rfl⟩
  · obtain rfl := Option.some.inj h
    obtain ⟨b, n, cap, _, _, _, rfl⟩ := hx.slA
    exact ⟨_, _, rfl⟩
  · obtain rfl := Option.some.inj h
    cases hx
    exact ⟨_, _, rfl⟩
  · obtain rfl := Option.some.inj h
    cases hx
    exact ⟨_, _, rfl⟩
  · cases h

theorem idxA_rep {esz : Nat} {x i v : AV} {cx ci : Value} {t e : Nat} (ht : P.underlying t = some (.slice e)) (he : P_size P e = some esz)
    (h : idxA esz x i = some v) (hx : Rep S w μ x cx) (hi : Rep S w μ i ci) (w' : World) : ∃ c, (Instr.indexAt t cx ci).run P w' = .ok c w' ∧ Rep S w μ v c := by
  have run : ∀ (a : Addr) (n cap : Nat) (k : IntKind) (i : Int), 0 ≤ i ∧ i < n → (Instr.indexAt t (.slice (some a) n cap) (.int k i)).run P w' = .ok (.pointer (some (a.add (i.toNat * esz)))) w' := by
    intro a n cap k i hi
    simp [Instr.indexAt, run_underlying ht, asIntOf, hi, run_size he]
  unfold idxA at h
  split at h
  · rename_i cells len k n
    split at h
    · rename_i hn
      obtain rfl := Option.some.inj h
      obtain rfl := hi.int
      obtain ⟨a, cap, rfl, hcap, ⟨rfl, rfl⟩ | ⟨b, o, rfl, hcs⟩⟩ := hx.vslP
      · omega
      · exact ⟨_, run _ _ _ _ _ hn, by rw [Addr_add]; exact .p (.vptr (hcs.drop _))⟩
    · cases h
  · rename_i id ver off len e' k n
    split at h
    · rename_i hn
      obtain ⟨rfl, hn⟩ := hn
      obtain rfl := Option.some.inj h
      obtain rfl := hi.int
      obtain ⟨b, m, cap, hμ, hl, hc, rfl⟩ := hx.slA
      exact ⟨_, run _ _ _ _ _ hn, by rw [Addr_add]; exact .ptr hμ⟩
    · cases h
  · cases h

theorem idxArrA_rep {esz n : Nat} {x i v : AV} {cx ci : Value} {t e : Nat} (ht : P.underlying t = some (.array n e)) (he : P_size P e = some esz)
    (h : idxArrA n esz x i = some v) (hx : Rep S w μ x cx) (hi : Rep S w μ i ci) (w' : World) : ∃ c, (Instr.indexAt t cx ci).run P w' = .ok c w' ∧ Rep S w μ v c := by
  have run : ∀ (a : Addr) (k : IntKind) (i : Int), 0 ≤ i ∧ i < n → (Instr.indexAt t (.pointer (some a)) (.int k i)).run P w' = .ok (.pointer (some (a.add (i.toNat * esz)))) w' := by
    intro a k i hi
    simp [Instr.indexAt, run_underlying ht, asIntOf, Instr.sureAddr, hi, run_size he]
  unfold idxArrA at h
  split at h
  · split at h
    · rename_i hn
      obtain rfl := Option.some.inj h
      obtain rfl := hi.int
      obtain ⟨b, o, rfl, hcs⟩ := hx.vptrP
      exact ⟨_, run _ _ _ hn, by rw [Addr_add]; exact .p (.vptr (hcs.drop _))⟩
    · cases h
  · split at h
    · rename_i hn
      obtain rfl := Option.some.inj h
      obtain rfl := hi.int
      obtain ⟨b, m, hμ, rfl⟩ := hx.ptrA
      exact ⟨_, run _ _ _ hn, by rw [Addr_add]; exact .ptr hμ⟩
    · cases h
  · cases h

theorem atStrA_rep {x i v : AV} {cx ci : Value} {t : Nat} (ht : P.underlying t = some .string) (h : atStrA x i = some v) (hx : Rep S w μ x cx) (hi : Rep S w μ i ci) (w' : World) :
    ∃ c, (Instr.index t cx ci).run P w' = .ok c w' ∧ Rep S w μ v c := by
  unfold atStrA at h
  split at h
  · rename_i s k n
    split at h
    · rename_i hn
      simp only [Option.map_eq_some_iff] at h
      obtain ⟨b, hb, rfl⟩ := h
      obtain rfl := hi.int
      obtain ⟨s, rfl, rfl⟩ := hx.str
      refine ⟨.int .u8 b.toNat, ?_, .p (.int _ _)⟩
      have hb' : s[n.toNat]? = some b := by
        have hlt : n.toNat < s.size := by
          have := (List.getElem?_eq_some_iff.1 hb).1
          simpa using this
        rw [getElem?_pos s n.toNat hlt]
        have := (List.getElem?_eq_some_iff.1 hb).2
        simp only [Array.getElem_toList] at this
        exact congrArg some this
      simp [Instr.index, run_underlying ht, asIntOf, hn, hb']
    · cases h
  · cases h

theorem partC_av {t n off : Nat} {ag : Bool} {xs : List AV} {cx : Array Value} {v : AV} (ha : P_agg P t = some ag) (hn : P_size P t = some n) (hp : partC ag n (.av xs) off = some v)
    (hx : RepL S w μ xs cx.toList) (h1 : ∀ c ∈ cx.toList, one c = true) (w' : World) : ∃ c, (part t cx off).run P w' = .ok c w' ∧ Rep S w μ v c := by
  unfold partC at hp
  cases ag with
  | true =>
    simp only [if_true] at hp
    split at hp
    · obtain rfl := Option.some.inj hp
      refine ⟨.agg (cx.extract off (off + n)), ?_, ?_⟩
      · simp [part, run_agg ha, run_size hn]
      · have e : (cx.extract off (off + n)).toList = (cx.toList.drop off).take n := by simp
        refine mkAgg_rep (by rw [e]; exact (hx.drop off).take n) ?_
        rw [e]
        exact oneP_sub h1 _ _
    · cases hp
  | false =>
    simp only [Bool.false_eq_true, if_false] at hp
    obtain ⟨c, hc, hr⟩ := hx.get hp
    refine ⟨c, ?_, hr⟩
    have hc' : cx[off]? = some c := by simpa using hc
    simp [part, run_agg ha, hc']

theorem atArrA_rep {len esz : Nat} {ag : Bool} {x i v : AV} {cx ci : Value} {t e : Nat} (ht : P.underlying t = some (.array len e)) (he : P_size P e = some esz) (ha : P_agg P e = some ag)
    (h : atArrA len esz ag x i = some v) (hx : Rep S w μ x cx) (hi : Rep S w μ i ci) (w' : World) : ∃ c, (Instr.index t cx ci).run P w' = .ok c w' ∧ Rep S w μ v c := by
  unfold atArrA at h
  split at h
  · rename_i k n
    obtain rfl := hi.int
    split at h
    · rename_i hn
      split at h
      · rename_i cs
        simp only [Option.map_eq_some_iff] at h
        obtain ⟨y, hy, rfl⟩ := h
        obtain ⟨cx, rfl, hcs, h1⟩ := hx.aggP
        obtain ⟨c, hc, hr, _⟩ := partP_rep (P := P) ha he hy hcs h1 w'
        exact ⟨c, by simp [Instr.index, run_underlying ht, asIntOf, hn, run_size he, hc], .p hr⟩
      · rename_i cs
        obtain ⟨cx, rfl, hcs, h1⟩ := hx.aggA
        obtain ⟨c, hc, hr⟩ := partC_av (P := P) ha he h hcs h1 w'
        exact ⟨c, by simp [Instr.index, run_underlying ht, asIntOf, hn, run_size he, hc], hr⟩
      · cases h
    · cases h
  · cases h

theorem extractA_rep {x v : AV} {i : Nat} {cx : Value} (h : extractA x i = some v) (hx : Rep S w μ x cx) (w' : World) : ∃ c, (Instr.extract cx i).run P w' = .ok c w' ∧ Rep S w μ v c := by
  unfold extractA at h
  split at h
  · simp only [Option.map_eq_some_iff] at h
    obtain ⟨y, hy, rfl⟩ := h
    obtain ⟨cs, rfl, hcs⟩ := hx.tupP
    obtain ⟨c, hc, hr⟩ := hcs.get hy
    have hc' : cs[i]? = some c := by simpa using hc
    exact ⟨c, by simp [Instr.extract, hc'], .p hr⟩
  · obtain ⟨cs, rfl, hcs⟩ := hx.tupA
    obtain ⟨c, hc, hr⟩ := hcs.get h
    have hc' : cs[i]? = some c := by simpa using hc
    exact ⟨c, by simp [Instr.extract, hc'], hr⟩
  · cases h

theorem assertA_rep {x v z : AV} {t xt : Nat} {ok : Bool} {cx cz : Value} {i : TypeInfo} (hu : ∀ ms, P.underlying t ≠ some (.interface ms)) (hs : (P.underlying t).isSome = true) (hi : P.info? t = some i) (hz : i.zero = some cz)
    (hzr : Rep S w μ z cz) (h : assertA t z ok x = some v) (hx : Rep S w μ x cx) (w' : World) : ∃ c, (Instr.typeAssert cx xt t ok).run P w' = .ok c w' ∧ Rep S w μ v c := by
  obtain ⟨d, hd⟩ := Option.isSome_iff_exists.1 hs
  have hni : ∀ ms, d ≠ .interface ms := fun ms e => hu ms (by rw [hd, e])
  have hzero : (zeroValue t).run P w' = .ok cz w' := by simp [zeroValue, typeInfo, hi, hz]
  have pair : ∀ {a : AV} {c : Value} (b : Bool), Rep S w μ a c → Rep S w μ (mkTup [a, .p (.bool b)]) (.tuple #[c, .bool b]) :=
    fun b h => mkTup_rep (.cons h (.cons (.p (.bool b)) .nil))
  unfold assertA at h
  split at h
  · rename_i t' y
    cases hx.pv with | iface hy =>
    rename_i cy
    split at h
    · rename_i htt
      subst htt
      obtain rfl := Option.some.inj h
      cases ok with
      | true =>
        refine ⟨.tuple #[cy, .bool true], ?_, .p (.tup (.cons hy (.cons (.bool true) .nil)))⟩
        cases d <;> first | exact absurd rfl (hni _) | simp [Instr.typeAssert, run_underlying hd]
      | false =>
        refine ⟨cy, ?_, .p hy⟩
        cases d <;> first | exact absurd rfl (hni _) | simp [Instr.typeAssert, run_underlying hd]
    · rename_i htt
      split at h
      · rename_i hok
        obtain rfl := Option.some.inj h
        subst hok
        refine ⟨.tuple #[cz, .bool false], ?_, pair false hzr⟩
        cases d <;> first | exact absurd rfl (hni _) | simp [Instr.typeAssert, run_underlying hd, htt, hzero]
      · cases h
  · rename_i t' y
    cases hx with | iface hy =>
    rename_i cy
    split at h
    · rename_i htt
      subst htt
      obtain rfl := Option.some.inj h
      cases ok with
      | true =>
        refine ⟨.tuple #[cy, .bool true], ?_, pair true hy⟩
        cases d <;> first | exact absurd rfl (hni _) | simp [Instr.typeAssert, run_underlying hd]
      | false =>
        refine ⟨cy, ?_, hy⟩
        cases d <;> first | exact absurd rfl (hni _) | simp [Instr.typeAssert, run_underlying hd]
    · rename_i htt
      split at h
      · rename_i hok
        obtain rfl := Option.some.inj h
        subst hok
        refine ⟨.tuple #[cz, .bool false], ?_, pair false hzr⟩
        cases d <;> first | exact absurd rfl (hni _) | simp [Instr.typeAssert, run_underlying hd, htt, hzero]
      · cases h
  · cases hx.pv
    split at h
    · rename_i hok
      obtain rfl := Option.some.inj h
      subst hok
      refine ⟨.tuple #[cz, .bool false], ?_, pair false hzr⟩
      cases d <;> first | exact absurd rfl (hni _) | simp [Instr.typeAssert, run_underlying hd, hzero]
    · cases h
  · cases h

theorem maxA_rep {b : Bool} {x v : AV} {l : List AV} {cx : Value} {cl : List Value} (h : maxA b x l = some v) (hx : Rep S w μ x cx) (hl : RepL S w μ l cl) (w' : World) :
    ∃ c, (cl.foldlM (if b then Builtin.max2 else Builtin.min2) cx).run P w' = .ok c w' ∧ Rep S w μ v c := by
  induction l generalizing x cx cl with
  | nil =>
    cases hl
    simp [maxA] at h
    subst h
    exact ⟨cx, rfl, hx⟩
  | cons y r ih =>
    cases hl with
    | cons hy hr =>
      unfold maxA at h
      split at h
      · simp_all
      · rename_i k a k' c r' heq
        simp only [List.cons.injEq] at heq
        obtain ⟨rfl, rfl⟩ := heq
        obtain rfl := hx.int
        obtain rfl := hy.int
        obtain ⟨c', hc, hrep⟩ := ih h (.p (.int _ _)) hr
        refine ⟨c', ?_, hrep⟩
        rw [List.foldlM_cons, Sem.run_bind]
        cases b <;> simpa [Builtin.max2, Builtin.min2] using hc
      · rename_i a c r' heq
        simp only [List.cons.injEq] at heq
        obtain ⟨rfl, rfl⟩ := heq
        obtain ⟨sa, rfl, rfl⟩ := hx.str
        obtain ⟨sc, rfl, rfl⟩ := hy.str
        rw [List.foldlM_cons]
        cases b with
        | true =>
          simp only [if_true] at h ⊢
          obtain ⟨c', hc, hrep⟩ := ih (cx := .string (if !(Op.bytesLess sa.data.toList sc.data.toList) then sa else sc)) h (.p (.str (by split <;> simp_all))) hr
          refine ⟨c', ?_, hrep⟩
          have e : (Builtin.max2 (.string sa) (.string sc)).run P w' = .ok (.string (if !(Op.bytesLess sa.data.toList sc.data.toList) then sa else sc)) w' := by
            simp only [Builtin.max2, Op.stringOp, toList_data, Sem.run_bind, Sem.run_pure, Result.andThen_ok, asBool]
          rw [Sem.run_bind, e]
          exact hc
        | false =>
          simp only [Bool.false_eq_true, if_false] at h ⊢
          obtain ⟨c', hc, hrep⟩ := ih (cx := .string (if Op.bytesLess sa.data.toList sc.data.toList || sa.data.toList == sc.data.toList then sa else sc)) h (.p (.str (by split <;> simp_all))) hr
          refine ⟨c', ?_, hrep⟩
          have e : (Builtin.min2 (.string sa) (.string sc)).run P w' = .ok (.string (if Op.bytesLess sa.data.toList sc.data.toList || sa.data.toList == sc.data.toList then sa else sc)) w' := by
            simp only [Builtin.min2, Op.stringOp, toList_data, Sem.run_bind, Sem.run_pure, Result.andThen_ok, asBool]
          rw [Sem.run_bind, e]
          exact hc
      · cases h


/-- parts written over a zero value -/
theorem splice_get {α : Type} (l : List α) (off : Nat) (new : List α) (i : Nat) (h : off + new.length ≤ l.length) :
    (splice l off new)[i]? = if i < off then l[i]? else if i < off + new.length then new[i - off]? else l[i]? := by
  unfold splice
  rw [List.append_assoc]
  by_cases h1 : i < off
  · rw [if_pos h1, List.getElem?_append_left (by simp; omega), List.getElem?_take, if_pos h1]
  · rw [if_neg h1, List.getElem?_append_right (by simp; omega)]
    simp only [List.length_take, Nat.min_eq_left (show off ≤ l.length by omega)]
    by_cases h2 : i < off + new.length
    · rw [if_pos h2, List.getElem?_append_left (by omega)]
    · rw [if_neg h2, List.getElem?_append_right (by omega), List.getElem?_drop]
      congr 1
      omega
theorem splice_length {α : Type} (l : List α) (off : Nat) (new : List α) (h : off + new.length ≤ l.length) : (splice l off new).length = l.length := by
  unfold splice
  simp
  omega

theorem cells_rep {v : AV} {c : Value} (h : Rep S w μ v c) (hf : v.fit = true) : RepL S w μ v.cells c.cells.toList ∧ ∀ x ∈ c.cells.toList, one x = true := by
  cases h with
  | p h =>
    cases h with
    | agg h h1 => exact ⟨.of_pv h, h1⟩
    | undef => simp [AV.fit] at hf
    | tup => simp [AV.fit] at hf
    | bool b => exact ⟨.cons (.p (.bool b)) .nil, by simp [Value.cells, one]⟩
    | int k n => exact ⟨.cons (.p (.int k n)) .nil, by simp [Value.cells, one]⟩
    | str h => exact ⟨.cons (.p (.str h)) .nil, by simp [Value.cells, one]⟩
    | nilptr => exact ⟨.cons (.p .nilptr) .nil, by simp [Value.cells, one]⟩
    | nilmap => exact ⟨.cons (.p .nilmap) .nil, by simp [Value.cells, one]⟩
    | nilfn => exact ⟨.cons (.p .nilfn) .nil, by simp [Value.cells, one]⟩
    | nilif => exact ⟨.cons (.p .nilif) .nil, by simp [Value.cells, one]⟩
    | iface h => exact ⟨.cons (.p (.iface h)) .nil, by simp [Value.cells, one]⟩
    | fn f => exact ⟨.cons (.p (.fn f)) .nil, by simp [Value.cells, one]⟩
    | vsl0 n a => exact ⟨.cons (.p (.vsl0 n a)) .nil, by simp [Value.cells, one]⟩
    | vsl h hc => exact ⟨.cons (.p (.vsl h hc)) .nil, by simp [Value.cells, one]⟩
    | vptr hc => exact ⟨.cons (.p (.vptr hc)) .nil, by simp [Value.cells, one]⟩
    | isym h => exact ⟨.cons (.p (.isym h)) .nil, by simp [Value.cells, one]⟩
    | ssym h hs => exact ⟨.cons (.p (.ssym h hs)) .nil, by simp [Value.cells, one]⟩
  | agg h h1 => exact ⟨h, h1⟩
  | dead => simp [AV.fit] at hf
  | tup => simp [AV.fit] at hf
  | nil0 => exact ⟨.cons .nil0 .nil, by simp [Value.cells, one]⟩
  | e0 a => exact ⟨.cons (.e0 a) .nil, by simp [Value.cells, one]⟩
  | ptr h => exact ⟨.cons (.ptr h) .nil, by simp [Value.cells, one]⟩
  | yld h => exact ⟨.cons (.yld h) .nil, by simp [Value.cells, one]⟩
  | sl h hl hc => exact ⟨.cons (.sl h hl hc) .nil, by simp [Value.cells, one]⟩
  | clo h1 h2 => exact ⟨.cons (.clo h1 h2) .nil, by simp [Value.cells, one]⟩
  | iface h => exact ⟨.cons (.iface h) .nil, by simp [Value.cells, one]⟩

/-- the model's way to write a part's cells -/
theorem foldl_splice (cs : Array Value) (off : Nat) (vs : List Value) (k : Nat) (h : off + k + vs.length ≤ cs.size) :
    ((vs.zipIdx k).foldl (fun cs (c, j) => cs.setIfInBounds (off + j) c) cs).toList = splice cs.toList (off + k) vs := by
  induction vs generalizing cs k with
  | nil => simp [splice]
  | cons v r ih =>
    simp only [List.zipIdx_cons, List.foldl_cons]
    simp only [List.length_cons] at h
    rw [ih _ _ (by simp; omega)]
    apply List.ext_getElem?
    intro i
    have hsz : cs.toList.length = cs.size := Array.length_toList
    rw [splice_get _ _ _ _ (by simp; omega), splice_get _ _ _ _ (by simp; omega)]
    simp only [Array.toList_setIfInBounds, List.getElem?_set, List.length_cons]
    by_cases h1 : i < off + k
    · rw [if_pos (by omega), if_pos h1, if_neg (by omega)]
    · rw [if_neg h1]
      by_cases h2 : i = off + k
      · subst h2
        rw [if_pos (by omega), if_pos rfl, if_pos (by omega)]
        simp
      · rw [if_neg (by omega)]
        by_cases h3 : i < off + (k + 1) + r.length
        · rw [if_pos h3, if_pos (by omega), show i - (off + k) = (i - (off + (k + 1))) + 1 from by omega, List.getElem?_cons_succ]
        · rw [if_neg h3, if_neg (by omega), if_neg (by omega)]

theorem fillA_rep {place : Nat → Option (Nat × Nat)} {cells out : List AV} {cs : Array Value} {parts : List (Nat × Operand)} {ps : List (Nat × Nat × Opd)} {vs : List (Nat × Nat × AV)} {ρ : Env} {a : Act}
    (hE : EnvOK S w μ ρ a.tmps) (hG : GlobOK S w G) (hc : cParts P G place parts = some ps) (hv : evParts ρ ps = some vs) (h : fillA cells vs = some out)
    (hr : RepL S w μ cells cs.toList) (h1 : ∀ c ∈ cs.toList, one c = true) :
    ∃ cs', Instr.fill place cs (parts.map fun x => (x.1, a.eval x.2)) = some cs' ∧ RepL S w μ out cs'.toList ∧ (∀ c ∈ cs'.toList, one c = true) ∧ cs'.size = cs.size := by
  induction parts generalizing ps vs cells cs with
  | nil =>
    simp [cParts] at hc
    subst hc
    simp [evParts] at hv
    subst hv
    simp [fillA] at h
    subst h
    exact ⟨cs, rfl, hr, h1, rfl⟩
  | cons p r ih =>
    obtain ⟨i, x⟩ := p
    simp only [cParts] at hc
    split at hc
    · rename_i o s y l hpl hy hl
      obtain rfl := Option.some.inj hc
      simp only [evParts] at hv
      split at hv
      · rename_i v us hvv hus
        obtain rfl := Option.some.inj hv
        simp only [fillA] at h
        split at h
        · rename_i hcond
          obtain ⟨hfit, hlen, hroom⟩ := hcond
          have hvr := ev_rep hE hG hy hvv
          obtain ⟨hcr, hc1⟩ := cells_rep hvr hfit
          have hsz : (a.eval x).cells.size = s := by have := hcr.length; simp at this; omega
          have hcs : cs.size = cells.length := by have := hr.length; simp at this; omega
          have hfold := foldl_splice cs o (a.eval x).cells.toList 0 (by simp; omega)
          simp only [Nat.add_zero] at hfold
          have hnew : RepL S w μ (splice cells o v.cells) (((a.eval x).cells.toList.zipIdx 0).foldl (fun cs (c, j) => cs.setIfInBounds (o + j) c) cs).toList := by
            rw [hfold]
            unfold splice
            rw [show (a.eval x).cells.toList.length = v.cells.length from hcr.length.symm]
            exact ((hr.take o).append hcr).append (hr.drop _)
          have hnew1 : ∀ c ∈ (((a.eval x).cells.toList.zipIdx 0).foldl (fun cs (c, j) => cs.setIfInBounds (o + j) c) cs).toList, one c = true := by
            rw [hfold]
            unfold splice
            intro c hc
            rcases List.mem_append.1 hc with hc | hc
            · rcases List.mem_append.1 hc with hc | hc
              · exact h1 c (List.mem_of_mem_take hc)
              · exact hc1 c hc
            · exact h1 c (List.mem_of_mem_drop hc)
          obtain ⟨cs', e1, e2, e3, e4⟩ := ih hl hus h hnew hnew1
          refine ⟨cs', ?_, e2, e3, ?_⟩
          · simp only [List.map_cons, Instr.fill, hpl]
            rw [if_neg (by simp [hsz]; omega), ← Array.foldl_toList, Array.toList_zipIdx]
            exact e1
          · rw [e4, ← Array.length_toList, hfold, splice_length _ _ _ (by simp; omega), Array.length_toList]
        · cases h
      · cases hv
    · cases hc

end Go.Ab
