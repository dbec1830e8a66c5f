/- TypesCasts: contracts of the library: strconv.FormatInt, ParseInt, errors.Is; the program's number of a word, walked in the model itself. -/
import Derived.Test.YtacjjncmbklplaaGreatDoorAbS13
import Derived.Test.YtacjjncmbklplaaGreatDoorAbT11
import Derived.Shelf.Strings.Trim
import Derived.Shelf.Strconv.Itoa4
import Derived.Lib.AppendIntMem
import Derived.Shelf.Strings.SlTrimAscii
import Derived.Shelf.Strconv.ParseIntPublic10
import Derived.WalkKit
import Derived.ProofKit
import Derived.LaidEql
import Derived.Stop.Asserts
import Derived.Lib.SmallJoins
set_option linter.unusedSectionVars false
set_option linter.unusedSimpArgs false
set_option linter.unusedVariables false
set_option maxRecDepth 1000000
namespace Go.Ab.Cols
open Go Go.Ab Go.Ab.Names Go.Proofs Go.RowKit
def ren173 : Go.Shelf.Ren where
  f := fun x => match x with
    | 173 => 31
    | 246 => 53
    | 283 => 74
    | 284 => 75
    | 285 => 76
    | 286 => 77
    | 129 => 95
    | 317 => 94
    | 318 => 96
    | 319 => 97
    | 320 => 98
    | 337 => 110
    | 338 => 111
    | n => n
  t := fun x => match x with
    | 2 => 2
    | 3 => 3
    | 9 => 9
    | 4 => 4
    | 171 => 97
    | 0 => 0
    | 53 => 98
    | 37 => 71
    | 5 => 5
    | 173 => 101
    | 212 => 120
    | 51 => 114
    | 20 => 20
    | 213 => 121
    | 46 => 85
    | 232 => 156
    | 233 => 157
    | n => n
  g := fun x => match x with
    | 17 => 3
    | 18 => 7
    | 19 => 8
    | n => n
theorem lays173 : Lays.n173 Tryz.prog ren173 := by
  constructor <;> first | kernel_rfl | (intro w; kernel_rfl)
theorem laysM173 : LaysM.n173 Tryz.prog ren173 := by
  refine @LaysM.n173.mk _ _ lays173 ?_ ?_ ?_ ?_ ?_ ?_ ?_ ?_ ?_ ?_ ?_ ?_ ?_ ?_ ?_ ?_ ?_ ?_ ?_ <;> kernel_rfl
def ren174 : Go.Shelf.Ren where
  f := fun x => match x with
    | 174 => 54
    | 247 => 78
    | 245 => 79
    | 287 => 99
    | 279 => 100
    | 280 => 101
    | 281 => 102
    | 282 => 103
    | 321 => 112
    | 322 => 113
    | 316 => 114
    | 171 => 22
    | 205 => 115
    | 243 => 43
    | 246 => 53
    | 283 => 74
    | 284 => 75
    | 285 => 76
    | 286 => 77
    | 129 => 95
    | 317 => 94
    | 318 => 96
    | 319 => 97
    | 320 => 98
    | 337 => 110
    | 338 => 111
    | n => n
  t := fun x => match x with
    | 9 => 9
    | 3 => 3
    | 2 => 2
    | 75 => 73
    | 85 => 74
    | 4 => 4
    | 167 => 124
    | 5 => 5
    | 53 => 98
    | 175 => 125
    | 46 => 85
    | 168 => 127
    | 37 => 71
    | 0 => 0
    | 210 => 154
    | 21 => 21
    | 127 => 117
    | 145 => 160
    | 143 => 158
    | 171 => 97
    | 173 => 101
    | 212 => 120
    | 51 => 114
    | 20 => 20
    | 213 => 121
    | 232 => 156
    | 233 => 157
    | 80 => 96
    | n => n
  g := fun x => match x with
    | 15 => 6
    | 16 => 1
    | 17 => 3
    | 18 => 7
    | 19 => 8
    | n => n
theorem laysN174 : Lays.n174 Tryz.prog ren174 := by
  constructor <;> first | kernel_rfl | (intro w; kernel_rfl)
theorem laysM174 : LaysM.n174 Tryz.prog ren174 := by
  constructor <;> first | exact laysN174 | kernel_rfl | (intro w; kernel_rfl)
theorem lays174 : LaysC.n174 Tryz.prog ren174 := by
  constructor <;> first | exact laysM174 | kernel_rfl | (intro w; kernel_rfl)
theorem tab_of {S : Nat → Nat → Prop} {w : World} (hG : GlobOK S w Names.G) : Lib.TabIs Tryz.prog w "internal/strconv.uint64pow10" .u64 Lib.pow10Tab := by
  obtain ⟨hc, _, hend⟩ := hG 3 powG rfl
  have hcell : ∀ (j : Nat) v, powG[j]? = some v → ∃ c, w.cell? ⟨3, j, none⟩ = some c ∧ RepP S w v c := by
    intro j v hj
    obtain ⟨_, c, h1, _, h3⟩ := hc.get hj
    exact ⟨c, by simpa using h1, h3⟩
  have hp : ∀ j, j < 20 → powG[j]? = some (.int .u64 ((10 ^ j : Nat) : Int)) := by
    intro j hj
    unfold powG
    rw [List.getElem?_map, List.getElem?_range hj]
    rfl
  obtain ⟨c0, h0, _⟩ := hcell 0 _ (hp 0 (by omega))
  have hlen : powG.length = 20 := by simp [powG]
  unfold Lib.TabIs World.var?
  rw [show Tryz.prog.globalNamed "internal/strconv.uint64pow10" = some 3 by kernel_rfl]
  simp only [Option.bind_some]
  unfold World.cell? at h0 hend hcell
  simp only at h0 hend hcell
  rw [hlen] at hend
  cases hb : w.heap[3]? with
  | none => rw [hb] at h0; cases h0
  | some o =>
    rw [hb] at h0 hend hcell
    cases o with
    | cells cs e fz =>
      simp only [Option.isSome_none, Bool.false_eq_true, if_false] at h0 hend hcell ⊢
      congr 1
      apply Array.ext_getElem?
      intro j
      by_cases hj : j < 20
      · obtain ⟨c, k1, k2⟩ := hcell j _ (hp j hj)
        cases k2
        rw [k1]
        simp [Lib.pow10Tab, hj]
      · have hsz : cs.size ≤ 20 := by
          rcases Nat.lt_or_ge 20 cs.size with h | h
          · rw [Array.getElem?_eq_getElem h] at hend; cases hend
          · exact h
        rw [Array.getElem?_eq_none (by omega), Array.getElem?_eq_none (by simp [Lib.pow10Tab]; omega)]
    | _ => simp at h0
theorem itoa_ok : RawOK Tryz.prog Names.G 31 (extP itoaO) := by
  refine extP_sound ⟨Tryz.f31, _, Tryz.func31, rfl, by decide⟩ ?_
  intro ps v hv S w cargs hG hr
  unfold itoaO at hv
  split at hv
  · rename_i k n j b
    split at hv
    · rename_i hc
      obtain ⟨rfl, rfl, rfl, h0, h1⟩ := hc
      obtain rfl := Option.some.inj hv
      obtain ⟨cl⟩ := cargs
      simp only at hr
      cases hr with
      | cons r1 hr =>
        cases hr with
        | cons r2 hr =>
          cases hr with
          | nil =>
            cases r1 with
            | int _ _ =>
              cases r2 with
              | int _ _ =>
                refine (Any.strconv_FormatInt_10 laysM173 n h0 h1 w (tab_of hG)).mono fun e w' hw => ⟨⟨_, hw.1, fun S w' => .str (by simp)⟩, ?_⟩
                obtain ⟨k, os, rfl⟩ := hw.2
                exact Lib.below_grow _ _ (Nat.le_refl _) _ _
    · cases hv
  · cases hv
/-! errors.Is of a number's error that wraps the sentinel itself -/
theorem isTypeOf (v : Value) (w : World) : (Extern.ReflectliteType.typeOf #[.iface 158 v]).run Tryz.prog w = .ok (.iface 131 (.agg #[.pointer (some ⟨9, 158, none⟩)])) w := by kernel_rfl
theorem isComparable (w : World) : ((Extern.ReflectliteType.method fun t => do Extern.Rtype.noPackHeld "Comparable" t; (fun a => Value.bool a.comparable) <$> typeInfo t) #[.agg #[.pointer (some ⟨9, 158, none⟩)]]).run Tryz.prog w = .ok (.bool true) w := by kernel_rfl
theorem isMethodComparable (v : Value) (w : World) : (Go.method 290 131 v "Comparable").run Tryz.prog w = .ok (140, v) w := by kernel_rfl
theorem isComp : (Tryz.prog.info? 158).map (·.comparable) = some true := by kernel_rfl
theorem isSize : (Tryz.prog.info? 160).map (·.size) = some 1 := by kernel_rfl
theorem noIsW (v : Value) (xT : TypeId) (w : World) : (Instr.typeAssert (.iface 127 v) xT 133 true).run Tryz.prog w = .ok (.tuple #[.nilIface, .bool false]) w := run_typeAssert_lacksB Tryz.underlying133 (by kernel_rfl) (by kernel_rfl) v xT w
theorem hasUnwrapW (v : Value) (xT : TypeId) (w : World) : (Instr.typeAssert (.iface 127 v) xT 136 true).run Tryz.prog w = .ok (.tuple #[.iface 127 v, .bool true]) w := run_typeAssert_hasB Tryz.underlying136 (by kernel_rfl) v xT w
theorem methodUnwrap (v : Value) (w : World) : (Go.method 290 127 v "Unwrap").run Tryz.prog w = .ok (136, v) w := by kernel_rfl
theorem is_nil (t : TypeId) (v : Value) (w : World) : Calls Tryz.prog 55 #[.nilIface, .iface t v] w fun e w' => e = .returned (.bool false) ∧ w' = w := by
  have hn := run_eql_iface_nil_left (P := Tryz.prog) w t v Tryz.underlying73
  go_enter Tryz.func55, Tryz.ntmps55
  go_wp2
  go_ret
  exact ⟨rfl, rfl⟩
theorem is_wrap (pb : Nat) (b : Addr) (w : World) (h1 : w.cell? ⟨pb, 2, none⟩ = some (.iface 158 (.pointer (some b)))) :
    Calls Tryz.prog 55 #[.iface 127 (.pointer (some ⟨pb, 0, none⟩)), .iface 158 (.pointer (some b))] w fun e w' => e = .returned (.bool true) ∧ w' = w := by
  obtain ⟨i, hi, hcmp⟩ := Option.map_eq_some_iff.1 isComp
  obtain ⟨j, hj, hjs⟩ := Option.map_eq_some_iff.1 isSize
  have h8 := @run_callFunc_extern Tryz.prog 80 _ Extern.ReflectliteType.typeOf Tryz.func80 (by kernel_rfl) (by kernel_rfl) (by kernel_rfl) (by kernel_rfl)
  have h32 := @run_callFunc_extern Tryz.prog 140 _ (Extern.ReflectliteType.method fun t => do Extern.Rtype.noPackHeld "Comparable" t; pure (.bool (← typeInfo t).comparable)) Tryz.func140 (by kernel_rfl) (by kernel_rfl) (by kernel_rfl) (by kernel_rfl)
  have tT := isTypeOf
  have cT := isComparable
  have mR := isMethodComparable
  have nW := noIsW
  have uW := hasUnwrapW
  have mU := methodUnwrap
  have heq := run_eql_iface_ptr_same (P := Tryz.prog) w b Tryz.underlying73 Tryz.underlying158 hi hcmp hj
  have hty := run_eql_iface_types (P := Tryz.prog) 127 158 (.pointer (some ⟨pb, 0, none⟩)) (.pointer (some b)) Tryz.underlying73 (by decide) w
  go_enter Tryz.func55, Tryz.ntmps55
  go_wp2
  refine wp_loop_rounds 2 ?_
  rw [rounds_succ]
  go_wp2
  rw [rounds_succ]
  go_wp2
  go_ret
  exact ⟨rfl, rfl⟩
theorem trimS_iff (s : List UInt8) : Lib.trimS s [48, 49, 50, 51, 52, 53, 54, 55, 56, 57] = [] ↔ figuresOK s = true := by
  have hc : ∀ x : UInt8, ([48, 49, 50, 51, 52, 53, 54, 55, 56, 57] : List UInt8).contains x = true ↔ (48 ≤ x.toNat ∧ x.toNat ≤ 57) := by
    intro x
    constructor
    · intro h
      simp at h
      rcases h with rfl | rfl | rfl | rfl | rfl | rfl | rfl | rfl | rfl | rfl <;> decide
    · rintro ⟨h1, h2⟩
      have : x.toNat = 48 ∨ x.toNat = 49 ∨ x.toNat = 50 ∨ x.toNat = 51 ∨ x.toNat = 52 ∨ x.toNat = 53 ∨ x.toNat = 54 ∨ x.toNat = 55 ∨ x.toNat = 56 ∨ x.toNat = 57 := by omega
      have hx : ∀ n : UInt8, x.toNat = n.toNat → x = n := fun n h => UInt8.toNat_inj.1 h
      rcases this with h | h | h | h | h | h | h | h | h | h
      · rw [hx 48 h]; rfl
      · rw [hx 49 h]; rfl
      · rw [hx 50 h]; rfl
      · rw [hx 51 h]; rfl
      · rw [hx 52 h]; rfl
      · rw [hx 53 h]; rfl
      · rw [hx 54 h]; rfl
      · rw [hx 55 h]; rfl
      · rw [hx 56 h]; rfl
      · rw [hx 57 h]; rfl
  have hd : ∀ l : List UInt8, l.dropWhile (([48, 49, 50, 51, 52, 53, 54, 55, 56, 57] : List UInt8).contains ·) = [] ↔ ∀ x ∈ l, ([48, 49, 50, 51, 52, 53, 54, 55, 56, 57] : List UInt8).contains x = true := by
    intro l
    induction l with
    | nil => exact ⟨(fun _ x hx => by cases hx), fun _ => rfl⟩
    | cons a r ih =>
      rw [List.dropWhile_cons]
      by_cases ha : ([48, 49, 50, 51, 52, 53, 54, 55, 56, 57] : List UInt8).contains a = true
      · rw [if_pos ha, ih]
        constructor
        · intro h x hx
          cases hx with
          | head => exact ha
          | tail _ hx => exact h x hx
        · intro h x hx
          exact h x (List.mem_cons_of_mem _ hx)
      · rw [if_neg ha]
        constructor
        · intro h; cases h
        · intro h; exact absurd (h a (List.mem_cons_self ..)) ha
  have hf : figuresOK s = true ↔ ∀ x ∈ s, ([48, 49, 50, 51, 52, 53, 54, 55, 56, 57] : List UInt8).contains x = true := by
    unfold figuresOK
    rw [List.all_eq_true]
    constructor
    · intro h x hx
      exact (hc x).2 (of_decide_eq_true (h x hx))
    · intro h x hx
      exact decide_eq_true ((hc x).1 (h x hx))
  rw [hf]
  unfold Lib.trimS Lib.trimLeftS Lib.trimRightS
  constructor
  · intro h
    have h1 := (hd _).1 h
    have h2 : s.reverse.dropWhile (([48, 49, 50, 51, 52, 53, 54, 55, 56, 57] : List UInt8).contains ·) = [] := by
      cases hh : s.reverse.dropWhile (([48, 49, 50, 51, 52, 53, 54, 55, 56, 57] : List UInt8).contains ·) with
      | nil => rfl
      | cons a r =>
        exfalso
        have hmem : a ∈ (s.reverse.dropWhile (([48, 49, 50, 51, 52, 53, 54, 55, 56, 57] : List UInt8).contains ·)).reverse := by rw [hh]; simp
        have ha := h1 a hmem
        have := List.head?_dropWhile_not (fun x => ([48, 49, 50, 51, 52, 53, 54, 55, 56, 57] : List UInt8).contains x) s.reverse
        rw [hh] at this
        simp only [List.head?_cons] at this
        rw [ha] at this
        cases this
    intro x hx
    exact (hd _).1 h2 x (List.mem_reverse.2 hx)
  · intro h
    have h2 : s.reverse.dropWhile (([48, 49, 50, 51, 52, 53, 54, 55, 56, 57] : List UInt8).contains ·) = [] := (hd _).2 fun x hx => h x (List.mem_reverse.1 hx)
    rw [h2]
    rfl
theorem trim_digits (u : ByteArray) (w : World) (hu : u.size ≤ 1048576) : Calls Tryz.prog 25 #[.string u, .string ⟨#[48, 49, 50, 51, 52, 53, 54, 55, 56, 57]⟩] w fun e w' => ∃ t : ByteArray, e = .returned (.string t) ∧ (t.toList = [] ↔ figuresOK u.data.toList = true) ∧ Below w.heap.size w w' := by
  refine (Any.strings_Trim_ascii lays160 (fun w => by kernel_rfl) (by kernel_rfl) u ⟨#[48, 49, 50, 51, 52, 53, 54, 55, 56, 57]⟩ w (by omega) (by decide) ?_).mono fun e w' ⟨h1, h2⟩ => ⟨_, h1, ?_, h2⟩
  · intro j b hb
    have := List.mem_of_getElem? hb
    simp at this
    rcases this with rfl | rfl | rfl | rfl | rfl | rfl | rfl | rfl | rfl | rfl <;> decide
  · rw [toList_data]
    simp only [List.toList_toArray]
    exact trimS_iff _
/-- no numeral -/
def Bad (l : List UInt8) : Prop := (signW l).2 = [] ∨ 400 < (signW l).2.length ∨ figuresOK (signW l).2 = false
/-- a number, where a type has room for it -/
def rangedZ (b v : Int) : List PV := if inRange b v then [.agg [.int .i64 1, .int .i64 v, .str [], .bool false], .str [48, 48, 48, 48, 48]] else [nullV, .str [50, 50, 48, 48, 51]]
theorem numZ_bad {b : Int} {l : List UInt8} (h : Bad l) : numZ b l = [nullV, .str [50, 50, 48, 49, 56]] := if_pos h
theorem numZ_good {b v : Int} {l : List UInt8} (h : ¬ Bad l) (hv : Cast.numN (signW l).1 ((signW l).2.map Cast.dig) = some v) : numZ b l = rangedZ b v := by
  unfold numZ
  refine (if_neg h).trans ?_
  rw [hv]
  rfl
theorem numZ_out {b : Int} {l : List UInt8} (h : ¬ Bad l) (hv : Cast.numN (signW l).1 ((signW l).2.map Cast.dig) = none) : numZ b l = [nullV, .str [50, 50, 48, 48, 51]] := by
  unfold numZ
  refine (if_neg h).trans ?_
  rw [hv]
/-- what ParseInt makes of a numeral -/
theorem parse_good {l : List UInt8} (h : ¬ Bad l) : Lib.parseIntB 64 l = match Cast.numN (signW l).1 ((signW l).2.map Cast.dig) with
    | some v => .ok v
    | none => .range := by
  have h0 : (signW l).2 ≠ [] := fun hh => h (.inl hh)
  have hf : figuresOK (signW l).2 = true := by
    cases hh : figuresOK (signW l).2 with
    | true => rfl
    | false => exact absurd (.inr (.inr hh)) h
  have hfig : ∀ c ∈ (signW l).2, Cast.figure c := fun c hc => of_decide_eq_true (p := 48 ≤ c.toNat ∧ c.toNat ≤ 57) (List.all_eq_true.1 hf c hc)
  refine Cast.parse_figures (signW l).1 (signW l).2 h0 hfig l ?_
  unfold signW
  cases l with
  | nil => exact .inr ⟨rfl, .inr rfl⟩
  | cons c r =>
    simp only
    split
    · rename_i hc; subst hc; exact .inl ⟨rfl, rfl⟩
    · split
      · rename_i hc; subst hc; exact .inr ⟨rfl, .inl rfl⟩
      · exact .inr ⟨rfl, .inr rfl⟩
/-! bytes and their lists -/
theorem nil_iff (s : ByteArray) : s.toList = [] ↔ s.size = 0 := by
  rw [toList_data, Lib.size_eq]
  exact List.length_eq_zero_iff.symm
theorem empty_of (s : ByteArray) (h : s.toList = []) : s = ByteArray.empty := by
  have := (nil_iff s).1 h
  exact ByteArray.size_eq_zero_iff.1 this
theorem cons_of (s : ByteArray) (h0 : 0 < s.size) : ∃ r, s.data.toList = s[0] :: r ∧ (s.extract 1 s.size).data.toList = r ∧ s.size = r.length + 1 := by
  cases hl : s.data.toList with
  | nil =>
    have : s.size = 0 := by rw [Lib.size_eq, hl]; rfl
    omega
  | cons c r =>
    refine ⟨r, ?_, ?_, by rw [Lib.size_eq, hl]; rfl⟩
    · have : s[0] = c := by
        have h1 : s.data.toList[0]? = some c := by rw [hl]; rfl
        have h2 : s.data.toList[0]? = some s[0] := by
          rw [ByteArray.getElem_eq_getElem_data]
          simp
        exact Option.some.inj (h2.symm.trans h1)
      rw [this]
    · have hsz : s.data.size = r.length + 1 := by rw [← Array.length_toList, hl]; rfl
      rw [ByteArray.data_extract, Array.toList_extract, hl]
      show List.take (s.size - 1) (List.drop 1 (c :: r)) = r
      have : s.size = r.length + 1 := by rw [Lib.size_eq, hl]; rfl
      simp [this]
theorem ext_size (s : ByteArray) : (s.extract 1 s.size).size = s.size - 1 := by simp
theorem u8_of {c d : UInt8} (h : (c.toNat : Int) = (d.toNat : Int)) : c = d := UInt8.toNat_inj.1 (Int.ofNat.inj h)
/-! the walk's ways -/
theorem sign_43 (s : ByteArray) (h0 : 0 < s.size) (h : ((s[0]'h0).toNat : Int) = 43) : signW s.data.toList = (false, (s.extract 1 s.size).data.toList) := by
  obtain ⟨r, h1, h2, _⟩ := cons_of s h0
  have hc : s[0] = 43 := u8_of h
  rw [h1, h2, hc]
  rfl
theorem sign_45 (s : ByteArray) (h0 : 0 < s.size) (n43 : ¬ ((s[0]'h0).toNat : Int) = 43) (h : (((s[0]'h0).toNat : Int) == 43) = true ∨ (((s[0]'h0).toNat : Int) == 45) = true) : signW s.data.toList = (true, (s.extract 1 s.size).data.toList) := by
  obtain ⟨r, h1, h2, _⟩ := cons_of s h0
  have hc : s[0] = 45 := by
    rcases h with h | h
    · exact absurd (by simpa using h) n43
    · exact u8_of (by simpa using h)
  rw [h1, h2, hc]
  rfl
theorem sign_no (s : ByteArray) (h0 : 0 < s.size) (n43 : ¬ ((s[0]'h0).toNat : Int) = 43) (h : (((s[0]'h0).toNat : Int) == 43) = false ∧ (((s[0]'h0).toNat : Int) == 45) = false) : signW s.data.toList = (false, s.data.toList) := by
  obtain ⟨r, h1, h2, _⟩ := cons_of s h0
  have a43 : s[0] ≠ 43 := fun hh => n43 (by rw [hh]; rfl)
  have a45 : s[0] ≠ 45 := fun hh => by
    have := h.2
    rw [hh] at this
    cases this
  rw [h1]
  unfold signW
  simp only
  rw [if_neg a45, if_neg a43]
/-- figures that are too few, too many, or others -/
theorem bad_of {l : List UInt8} {m : Bool} (u : ByteArray) (hs : signW l = (m, u.data.toList)) (t : ByteArray) (ht : t.toList = [] ↔ figuresOK u.data.toList = true) (n : Nat) (hn : u.size = n)
    (h : (((n : Int) == 0) = true ∨ 400 < (n : Int)) ∨ (!t.toList.isEmpty) = true) : Bad l := by
  unfold Bad
  rw [hs]
  simp only
  have hlen : u.data.toList.length = n := by rw [← Lib.size_eq, hn]
  rcases h with (h | h) | h
  · left
    have : n = 0 := by
      have := (beq_iff_eq.1 h)
      omega
    exact List.length_eq_zero_iff.1 (by omega)
  · right; left; omega
  · right; right
    cases hf : figuresOK u.data.toList with
    | false => rfl
    | true => rw [ht.2 hf] at h; cases h
theorem good_of {l : List UInt8} {m : Bool} (u : ByteArray) (hs : signW l = (m, u.data.toList)) (t : ByteArray) (ht : t.toList = [] ↔ figuresOK u.data.toList = true) (n : Nat) (hn : u.size = n)
    (h : (((n : Int) == 0) = false ∧ (n : Int) ≤ 400) ∧ (!t.toList.isEmpty) = false) : ¬ Bad l := by
  unfold Bad
  rw [hs]
  simp only
  have hlen : u.data.toList.length = n := by rw [← Lib.size_eq, hn]
  obtain ⟨⟨h1, h2⟩, h3⟩ := h
  have h1 : ¬ (n : Int) = 0 := beq_eq_false_iff_ne.1 h1
  have h3 : t.toList = [] := by
    cases hh : t.toList with
    | nil => rfl
    | cons a r => rw [hh] at h3; cases h3
  rintro (h | h | h)
  · rw [h] at hlen; simp at hlen; omega
  · omega
  · rw [ht.1 h3] at h; cases h
theorem long_of {l : List UInt8} {m : Bool} (u : ByteArray) (hs : signW l = (m, u.data.toList)) (n : Nat) (hn : u.size = n) (h : 400 < (n : Int)) : Bad l := by
  unfold Bad
  rw [hs]
  right; left
  show 400 < u.data.toList.length
  rw [← Lib.size_eq]
  omega
theorem none_of {l : List UInt8} {m : Bool} (u : ByteArray) (hs : signW l = (m, u.data.toList)) (hn : u.size = 0) : Bad l := by
  unfold Bad
  rw [hs]
  left
  show u.data.toList = []
  exact List.length_eq_zero_iff.1 (by rw [← Lib.size_eq]; exact hn)
end Go.Ab.Cols

/- TypesCasts: the program's number of a word, walked in the model itself. -/
set_option maxRecDepth 1000000
namespace Go.Ab.Cols
open Go Go.Ab Go.Ab.Names Go.Proofs Go.RowKit
/-- the two boxes of number, behind calls that leave them -/
structure Two (w W : World) (b z : Int) (ev : Value) : Prop where
  t0 : W.cell? ⟨w.heap.size, 0, none⟩ = some (.int .i64 b)
  t1 : W.cell? ⟨w.heap.size, 1, none⟩ = some (.int .i64 z)
  c0 : W.cell? ⟨w.heap.size + 1, 0, none⟩ = some (.int .i64 0)
  c1 : W.cell? ⟨w.heap.size + 1, 1, none⟩ = some (.int .i64 0)
  c2 : W.cell? ⟨w.heap.size + 1, 2, none⟩ = some (.string ⟨#[]⟩)
  c3 : W.cell? ⟨w.heap.size + 1, 3, none⟩ = some (.bool false)
  f : ∀ o, W.frozen? ⟨w.heap.size + 1, o, none⟩ = false
  g : W.cell? ⟨1, 0, none⟩ = some ev
  sz : w.heap.size + 2 ≤ W.heap.size
  bel : Below w.heap.size w W
  gl : 1 < w.heap.size
theorem Two.step {w W W' : World} {b z : Int} {ev : Value} (h : Two w W b z ev) (hb : Below W.heap.size W W') : Two w W' b z ev := by
  have hs := h.sz
  have hg := h.gl
  have hc : ∀ (k o : Nat), k < W.heap.size → W'.cell? ⟨k, o, none⟩ = W.cell? ⟨k, o, none⟩ := fun k o hk => hb.cell (p := ⟨k, o, none⟩) hk
  refine ⟨?_, ?_, ?_, ?_, ?_, ?_, ?_, ?_, ?_, ?_, h.gl⟩
  · rw [hc _ _ (by omega)]; exact h.t0
  · rw [hc _ _ (by omega)]; exact h.t1
  · rw [hc _ _ (by omega)]; exact h.c0
  · rw [hc _ _ (by omega)]; exact h.c1
  · rw [hc _ _ (by omega)]; exact h.c2
  · rw [hc _ _ (by omega)]; exact h.c3
  · intro o
    rw [hb.frozen (p := ⟨w.heap.size + 1, o, none⟩) (show w.heap.size + 1 < W.heap.size by omega)]
    exact h.f o
  · rw [hc _ _ (by omega)]; exact h.g
  · have := hb.size; omega
  · exact h.bel.trans (hb.mono (by omega))
theorem Two.start (w : World) (b z : Int) (ev : Value) (hg : w.cell? ⟨1, 0, none⟩ = some ev) (h1 : 1 < w.heap.size) :
    Two w ((w.alloc (.cells #[.int .i64 b, .int .i64 z] 24)).alloc (.cells #[.int .i64 0, .int .i64 0, .string ⟨#[]⟩, .bool false] 34)) b z ev := by
  refine ⟨by simp, by simp, by simp, by simp, by simp, by simp, by intro o; simp, ?_, by simp, ?_, h1⟩
  · have hb := ((Below.refl w.heap.size w).alloc (Nat.le_refl _) (.cells #[.int .i64 b, .int .i64 z] 24)).alloc (by simp) (.cells #[.int .i64 0, .int .i64 0, .string ⟨#[]⟩, .bool false] 34)
    rw [hb.cell (p := ⟨1, 0, none⟩) h1]
    exact hg
  · exact ((Below.refl w.heap.size w).alloc (Nat.le_refl _) (.cells #[.int .i64 b, .int .i64 z] 24)).alloc (by simp) (.cells #[.int .i64 0, .int .i64 0, .string ⟨#[]⟩, .bool false] 34)

theorem sign_45' (s : ByteArray) (h0 : 0 < s.size) (n43 : ¬ ((s[0]'h0).toNat : Int) = 43) (h : (!s.toList.isEmpty) = true ∧ ((((s[0]'h0).toNat : Int) == 43) = true ∨ (((s[0]'h0).toNat : Int) == 45) = true)) : signW s.data.toList = (true, (s.extract 1 s.size).data.toList) := sign_45 s h0 n43 h.2
theorem sign_no' (s : ByteArray) (h0 : 0 < s.size) (n43 : ¬ ((s[0]'h0).toNat : Int) = 43) (h : (!s.toList.isEmpty) = false ∨ (((s[0]'h0).toNat : Int) == 43) = false ∧ (((s[0]'h0).toNat : Int) == 45) = false) : signW s.data.toList = (false, s.data.toList) := by
  refine sign_no s h0 n43 (h.resolve_left fun hh => ?_)
  have : s.toList = [] := by
    cases hl : s.toList with
    | nil => rfl
    | cons a r => rw [hl] at hh; cases hh
  have := (nil_iff s).1 this
  omega
theorem no_1 (s : ByteArray) (h : s.toList = []) (h2 : ¬ s = ByteArray.empty) : False := h2 (empty_of s h)
theorem no_2 (s : ByteArray) (h : ¬ s.toList = []) (h2 : (!s.toList.isEmpty) = false) : False := h (by
  cases hl : s.toList with
  | nil => rfl
  | cons a r => rw [hl] at h2; cases h2)
theorem no_3 (s : ByteArray) (h : ¬ s.toList = []) (h2 : ¬ 0 < s.size) : False := h ((nil_iff s).2 (by omega))
theorem no_4 (s : ByteArray) (h : 0 < s.size) (h2 : s = ByteArray.empty) : False := by
  subst h2
  exact absurd h (by decide)
theorem bad_empty (s : ByteArray) (h : s = ByteArray.empty) : Bad s.data.toList := by
  subst h
  exact .inl rfl
theorem bad_rep {S : Nat → Nat → Prop} {w : World} {b : Int} {l : List UInt8} (h : Bad l) : RepP S w (.tup (numZ b l)) (.tuple #[.agg #[.int .i64 0, .int .i64 0, .string ⟨#[]⟩, .bool false], .string ⟨#[50, 50, 48, 49, 56]⟩]) := by
  rw [numZ_bad h]
  exact .tup (.cons (.agg (.cons (.int _ _) (.cons (.int _ _) (.cons (.str rfl) (.cons (.bool _) .nil)))) (by simp [one])) (.cons (.str rfl) .nil))
theorem out_rep {S : Nat → Nat → Prop} {w : World} {b : Int} {l : List UInt8} (h : ¬ Bad l) (hv : Cast.numN (signW l).1 ((signW l).2.map Cast.dig) = none) : RepP S w (.tup (numZ b l)) (.tuple #[.agg #[.int .i64 0, .int .i64 0, .string ⟨#[]⟩, .bool false], .string ⟨#[50, 50, 48, 48, 51]⟩]) := by
  rw [numZ_out h hv]
  exact .tup (.cons (.agg (.cons (.int _ _) (.cons (.int _ _) (.cons (.str rfl) (.cons (.bool _) .nil)))) (by simp [one])) (.cons (.str rfl) .nil))
theorem Two.wr {w W : World} {b z : Int} {ev : Value} (h : Two w W b z ev) (v0 v1 v2 v3 : Value) : Below w.heap.size w ((((W.setCell ⟨w.heap.size + 1, 0, none⟩ v0).setCell ⟨w.heap.size + 1, 1, none⟩ v1).setCell ⟨w.heap.size + 1, 2, none⟩ v2).setCell ⟨w.heap.size + 1, 3, none⟩ v3) :=
  (((h.bel.setCell (p := ⟨w.heap.size + 1, 0, none⟩) (Nat.le_succ _) _).setCell (p := ⟨w.heap.size + 1, 1, none⟩) (Nat.le_succ _) _).setCell (p := ⟨w.heap.size + 1, 2, none⟩) (Nat.le_succ _) _).setCell (p := ⟨w.heap.size + 1, 3, none⟩) (Nat.le_succ _) _
set_option maxHeartbeats 8000000 in
theorem num_walk_ok (s : ByteArray) (hss : s.size ≤ 1048576) (b : Int) (w : World) (te : TypeId) (pe : Value) (hg : w.cell? ⟨1, 0, none⟩ = some (.iface te pe)) (h1 : 1 < w.heap.size)
  (v : Int) (hv : ¬ Bad s.data.toList → Cast.numN (signW s.data.toList).1 ((signW s.data.toList).2.map Cast.dig) = some v)
  (hParse : ¬ Bad s.data.toList → ∀ (w1 : World), Calls Tryz.prog 54 #[.string s, .int .i64 10, .int .i64 64] w1 fun e w' => e = .returned (.tuple #[.int .i64 v, .nilIface]) ∧ Below w1.heap.size w1 w')
  (hRng : ∀ (w1 : World), Below w.heap.size w w1 → Calls Tryz.prog 24 #[.int .i64 v, .agg #[.int .i64 b, .int .i64 0]] w1 fun e w' => (∃ a m y q x, e = .returned (.tuple #[.agg #[.int .i64 a, .int .i64 m, .string y, .bool q], .string x]) ∧ ∀ S w', RepP S w' (.tup (rangedZ b v)) (.tuple #[.agg #[.int .i64 a, .int .i64 m, .string y, .bool q], .string x])) ∧ Below w1.heap.size w1 w') :
    Calls Tryz.prog 33 #[.string s, .agg #[.int .i64 b, .int .i64 0]] w fun e w' => (∃ c, e = .returned c ∧ ∀ S w', RepP S w' (.tup (numZ b s.data.toList)) c) ∧ Below w.heap.size w w' := by
  have hst := Two.start w b 0 (.iface te pe) hg h1
  have hNil := is_nil te pe
  go_enter Tryz.func33, Tryz.ntmps33
  go_wp2_with (first
    | (go_at_call 25; refine (trim_digits _ _ (by first | exact hss | (rw [ext_size]; omega))).mono ?_; rintro e w' ⟨t, rfl, ht, hw'⟩; have hs2 := hst.step hw'; have hq := hs2; obtain ⟨t0, t1, c0, c1, c2, c3, hf, hg', hsz, hbel, hgl⟩ := hq)
    | (go_at_call 54; have hgood : ¬ Bad s.data.toList := (by first
        | exact (no_1 s (by assumption) (by assumption)).elim
        | exact (no_2 s (by assumption) (by assumption)).elim
        | exact good_of _ (sign_43 s (by assumption) (by assumption)) t ht _ (ext_size s) (by assumption)
        | exact good_of _ (sign_45' s (by assumption) (by assumption) (by assumption)) t ht _ (ext_size s) (by assumption)
        | exact good_of _ (sign_no' s (by assumption) (by assumption) (by assumption)) t ht _ rfl (by assumption)); refine (hParse hgood _).mono ?_; rintro e w'' ⟨rfl, hw''⟩; have hs3 := hs2.step hw''; have hq := hs3; obtain ⟨t0, t1, c0, c1, c2, c3, hf, hg'', hsz, hbel, hgl⟩ := hq)
    | (go_at_call 55; refine (hNil _).mono ?_; rintro e w3 ⟨rfl, rfl⟩)
    | (go_at_call 24; refine (hRng _ (by assumption)).mono ?_; rintro e w4 ⟨⟨a, m, y, q, x, rfl, hrep⟩, hw4⟩; have hs4 := hs3.step hw4; have hq := hs4; obtain ⟨t0, t1, c0, c1, c2, c3, hf, hg'', hsz, hbel, hgl⟩ := hq))
  all_goals first
    | exact (no_1 s (by assumption) (by assumption)).elim
    | exact (no_2 s (by assumption) (by assumption)).elim
    | exact (no_3 s (by assumption) (by assumption)).elim
    | exact (no_4 s (by assumption) (by assumption)).elim
    | skip
  all_goals clear hg
  all_goals (try simp only [Exit.inBlock, Exit.then])
  all_goals (refine bodyPost_ret (by simp [results, Tryz.results33, go_sem, *]; try rfl) rfl ?_)
  all_goals refine ⟨⟨_, rfl, fun S w' => ?_⟩, ?_⟩
  all_goals first
    | exact Two.wr hs4 _ _ _ _
    | exact Two.wr hs3 _ _ _ _
    | exact Two.wr hs2 _ _ _ _
    | exact hst.bel
    | exact bad_rep (bad_empty s (by assumption))
    | exact bad_rep (none_of _ (sign_43 s (by assumption) (by assumption)) ((ext_size s).trans (by assumption)))
    | exact bad_rep (none_of _ (sign_45' s (by assumption) (by assumption) (by assumption)) ((ext_size s).trans (by assumption)))
    | exact bad_rep (bad_of _ (sign_43 s (by assumption) (by assumption)) t ht _ (ext_size s) (by assumption))
    | exact bad_rep (bad_of _ (sign_45' s (by assumption) (by assumption) (by assumption)) t ht _ (ext_size s) (by assumption))
    | exact bad_rep (bad_of _ (sign_no' s (by assumption) (by assumption) (by assumption)) t ht _ rfl (by assumption))
    | exact bad_rep (long_of _ (sign_43 s (by assumption) (by assumption)) _ (ext_size s) (by assumption))
    | exact bad_rep (long_of _ (sign_45' s (by assumption) (by assumption) (by assumption)) _ (ext_size s) (by assumption))
    | exact bad_rep (long_of _ (sign_no' s (by assumption) (by assumption) (by assumption)) _ rfl (by assumption))
    | (rw [numZ_good hgood (hv hgood)]; exact hrep _ _)
set_option maxHeartbeats 8000000 in
theorem num_walk_out (s : ByteArray) (hss : s.size ≤ 1048576) (b : Int) (w : World) (ap : Addr) (hg : w.cell? ⟨1, 0, none⟩ = some (.iface 158 (.pointer (some ap)))) (h1 : 1 < w.heap.size)
  (hv : ¬ Bad s.data.toList → Cast.numN (signW s.data.toList).1 ((signW s.data.toList).2.map Cast.dig) = none)
  (hParse : ¬ Bad s.data.toList → ∀ (w1 : World), w1.cell? ⟨1, 0, none⟩ = some (.iface 158 (.pointer (some ap))) → Calls Tryz.prog 54 #[.string s, .int .i64 10, .int .i64 64] w1 fun e w' => (∃ v N, e = .returned (.tuple #[.int .i64 v, .iface 127 (.pointer (some ⟨N, 0, none⟩))]) ∧ w'.cell? ⟨N, 2, none⟩ = some (.iface 158 (.pointer (some ap)))) ∧ Below w1.heap.size w1 w') :
    Calls Tryz.prog 33 #[.string s, .agg #[.int .i64 b, .int .i64 0]] w fun e w' => (∃ c, e = .returned c ∧ ∀ S w', RepP S w' (.tup (numZ b s.data.toList)) c) ∧ Below w.heap.size w w' := by
  have hst := Two.start w b 0 (.iface 158 (.pointer (some ap))) hg h1
  go_enter Tryz.func33, Tryz.ntmps33
  go_wp2_with (first
    | (go_at_call 25; refine (trim_digits _ _ (by first | exact hss | (rw [ext_size]; omega))).mono ?_; rintro e w' ⟨t, rfl, ht, hw'⟩; have hs2 := hst.step hw'; have hq := hs2; obtain ⟨t0, t1, c0, c1, c2, c3, hf, hg', hsz, hbel, hgl⟩ := hq)
    | (go_at_call 54; have hgood : ¬ Bad s.data.toList := (by first
        | exact (no_1 s (by assumption) (by assumption)).elim
        | exact (no_2 s (by assumption) (by assumption)).elim
        | exact good_of _ (sign_43 s (by assumption) (by assumption)) t ht _ (ext_size s) (by assumption)
        | exact good_of _ (sign_45' s (by assumption) (by assumption) (by assumption)) t ht _ (ext_size s) (by assumption)
        | exact good_of _ (sign_no' s (by assumption) (by assumption) (by assumption)) t ht _ rfl (by assumption)); refine (hParse hgood _ hg').mono ?_; rintro e w'' ⟨⟨v, N, rfl, hN⟩, hw''⟩; have hs3 := hs2.step hw''; have hq := hs3; obtain ⟨t0, t1, c0, c1, c2, c3, hf, hg'', hsz, hbel, hgl⟩ := hq)
    | (go_at_call 55; refine (is_wrap _ _ _ hN).mono ?_; rintro e w3 ⟨rfl, rfl⟩))
  all_goals first
    | exact (no_1 s (by assumption) (by assumption)).elim
    | exact (no_2 s (by assumption) (by assumption)).elim
    | exact (no_3 s (by assumption) (by assumption)).elim
    | exact (no_4 s (by assumption) (by assumption)).elim
    | skip
  all_goals clear hg
  all_goals (try simp only [Exit.inBlock, Exit.then])
  all_goals (refine bodyPost_ret (by simp [results, Tryz.results33, go_sem, *]; try rfl) rfl ?_)
  all_goals refine ⟨⟨_, rfl, fun S w' => ?_⟩, ?_⟩
  all_goals first
    | exact Two.wr hs4 _ _ _ _
    | exact Two.wr hs3 _ _ _ _
    | exact Two.wr hs2 _ _ _ _
    | exact hst.bel
    | exact bad_rep (bad_empty s (by assumption))
    | exact bad_rep (none_of _ (sign_43 s (by assumption) (by assumption)) ((ext_size s).trans (by assumption)))
    | exact bad_rep (none_of _ (sign_45' s (by assumption) (by assumption) (by assumption)) ((ext_size s).trans (by assumption)))
    | exact bad_rep (bad_of _ (sign_43 s (by assumption) (by assumption)) t ht _ (ext_size s) (by assumption))
    | exact bad_rep (bad_of _ (sign_45' s (by assumption) (by assumption) (by assumption)) t ht _ (ext_size s) (by assumption))
    | exact bad_rep (bad_of _ (sign_no' s (by assumption) (by assumption) (by assumption)) t ht _ rfl (by assumption))
    | exact bad_rep (long_of _ (sign_43 s (by assumption) (by assumption)) _ (ext_size s) (by assumption))
    | exact bad_rep (long_of _ (sign_45' s (by assumption) (by assumption) (by assumption)) _ (ext_size s) (by assumption))
    | exact bad_rep (long_of _ (sign_no' s (by assumption) (by assumption) (by assumption)) _ rfl (by assumption))
    | exact out_rep hgood (hv hgood)
end Go.Ab.Cols
