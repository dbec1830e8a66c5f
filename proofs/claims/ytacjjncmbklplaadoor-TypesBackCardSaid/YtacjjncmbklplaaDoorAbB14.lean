/- Contracts of the library at this program: strings.Trim, Repeat, strconv.FormatInt, ParseInt, errors.Is. -/
import Derived.Test.YtacjjncmbklplaaDoorAbB13
import Derived.Shelf.Strings.Trim
import Derived.Shelf.Strings.Repeat
import Derived.Shelf.Strconv.Itoa4
import Derived.Lib.AppendIntMem
import Derived.Shelf.Strings.SlTrimAscii
import Derived.Shelf.Strconv.ParseIntPublic10
import Derived.WalkKit
import Derived.ProofKit
import Derived.Lib.SmallJoins
set_option maxRecDepth 1000000
namespace Go.Ab.Back
open Go Go.Ab Go.Proofs Go.RowKit
def ren160 : Go.Shelf.Ren where
  f := fun x => match x with
    | 160 => 14
    | 232 => 26
    | 231 => 25
    | 227 => 27
    | 234 => 29
    | 233 => 28
    | 236 => 31
    | 235 => 30
    | 228 => 46
    | 271 => 49
    | 151 => 48
    | 197 => 47
    | 120 => 67
    | 152 => 66
    | 260 => 65
    | 137 => 77
    | 119 => 78
    | 224 => 79
    | 225 => 80
    | 217 => 85
    | 266 => 86
    | n => n
  t := fun x => match x with
    | 9 => 9
    | 4 => 4
    | 3 => 3
    | 5 => 5
    | 117 => 58
    | 116 => 57
    | 0 => 0
    | 124 => 61
    | 21 => 21
    | 105 => 88
    | 46 => 69
    | 119 => 130
    | 139 => 133
    | 138 => 132
    | n => n
  g := fun x => match x with
    | 3 => 3
    | 4 => 4
    | n => n
theorem lays160 : Lays.n160 Tryd.prog ren160 := by
  constructor <;> first | kernel_rfl | (intro w; kernel_rfl)
def ren105 : Go.Shelf.Ren where
  f := fun x => match x with
    | 105 => 22
    | 212 => 36
    | 99 => 37
    | 165 => 38
    | 166 => 39
    | 170 => 40
    | 169 => 41
    | 263 => 55
    | 264 => 56
    | 206 => 57
    | 240 => 58
    | 241 => 59
    | 276 => 73
    | 277 => 74
    | n => n
  t := fun x => match x with
    | 9 => 9
    | 3 => 3
    | 4 => 4
    | 20 => 20
    | 0 => 0
    | 46 => 69
    | 109 => 70
    | 5 => 5
    | 72 => 75
    | 76 => 77
    | 51 => 96
    | 146 => 97
    | 53 => 82
    | 148 => 99
    | 70 => 73
    | 37 => 62
    | 75 => 64
    | 127 => 101
    | 164 => 126
    | 80 => 80
    | n => n
  g := fun x => x
theorem lays105 : Lays.n105 Tryd.prog ren105 := by
  constructor <;> first | kernel_rfl | (intro w; kernel_rfl)
def ren173 : Go.Shelf.Ren where
  f := fun x => match x with
    | 173 => 13
    | 246 => 24
    | 283 => 42
    | 284 => 43
    | 285 => 44
    | 286 => 45
    | 129 => 61
    | 317 => 60
    | 318 => 62
    | 319 => 63
    | 320 => 64
    | 337 => 75
    | 338 => 76
    | n => n
  t := fun x => match x with
    | 2 => 2
    | 3 => 3
    | 9 => 9
    | 4 => 4
    | 171 => 81
    | 0 => 0
    | 53 => 82
    | 37 => 62
    | 5 => 5
    | 173 => 85
    | 212 => 104
    | 51 => 96
    | 20 => 20
    | 213 => 105
    | 46 => 69
    | 232 => 142
    | 233 => 143
    | n => n
  g := fun x => match x with
    | 17 => 2
    | 18 => 7
    | 19 => 8
    | n => n
theorem lays173 : Lays.n173 Tryd.prog ren173 := by
  constructor <;> first | kernel_rfl | (intro w; kernel_rfl)
theorem laysM173 : LaysM.n173 Tryd.prog ren173 := by
  refine @LaysM.n173.mk _ _ lays173 ?_ ?_ ?_ ?_ ?_ ?_ ?_ ?_ ?_ ?_ ?_ ?_ ?_ ?_ ?_ ?_ ?_ ?_ ?_ <;> kernel_rfl
def ren174 : Go.Shelf.Ren where
  f := fun x => match x with
    | 174 => 32
    | 247 => 50
    | 245 => 51
    | 287 => 68
    | 279 => 69
    | 280 => 70
    | 281 => 71
    | 282 => 72
    | 321 => 81
    | 322 => 82
    | 316 => 83
    | 171 => 34
    | 205 => 84
    | 243 => 54
    | 246 => 24
    | 283 => 42
    | 284 => 43
    | 285 => 44
    | 286 => 45
    | 129 => 61
    | 317 => 60
    | 318 => 62
    | 319 => 63
    | 320 => 64
    | 337 => 75
    | 338 => 76
    | n => n
  t := fun x => match x with
    | 9 => 9
    | 3 => 3
    | 2 => 2
    | 75 => 64
    | 85 => 65
    | 4 => 4
    | 167 => 109
    | 5 => 5
    | 53 => 82
    | 175 => 110
    | 46 => 69
    | 168 => 112
    | 37 => 62
    | 0 => 0
    | 210 => 140
    | 21 => 21
    | 127 => 101
    | 145 => 146
    | 143 => 144
    | 171 => 81
    | 173 => 85
    | 212 => 104
    | 51 => 96
    | 20 => 20
    | 213 => 105
    | 232 => 142
    | 233 => 143
    | 80 => 80
    | n => n
  g := fun x => match x with
    | 15 => 5
    | 16 => 1
    | 17 => 2
    | 18 => 7
    | 19 => 8
    | n => n
theorem laysN174 : Lays.n174 Tryd.prog ren174 := by
  constructor <;> first | kernel_rfl | (intro w; kernel_rfl)
theorem laysM174 : LaysM.n174 Tryd.prog ren174 := by
  constructor <;> first | exact laysN174 | kernel_rfl | (intro w; kernel_rfl)
theorem lays174 : LaysC.n174 Tryd.prog ren174 := by
  constructor <;> first | exact laysM174 | kernel_rfl | (intro w; kernel_rfl)
theorem extra105 : Builder.Extra Tryd.prog ren105 where
  sizeBuilder := by kernel_rfl
  liesBuilder := by kernel_rfl
  t5 := by kernel_rfl
  a5 := fun w => by kernel_rfl
  z5 := fun w => by kernel_rfl
  v5 := fun w => by kernel_rfl
  infoByte := by kernel_rfl
  cellsByte := by kernel_rfl
  sizeByte := by kernel_rfl
  neB5 := by decide
theorem repeat_one (n : Nat) : Lib.repeatL [32] n = List.replicate n 32 := by
  induction n with
  | zero => rfl
  | succ n ih => rw [Lib.repeatL, ih, List.replicate_succ]; rfl
theorem mk_list (s : ByteArray) (l : List UInt8) (h : s.data.toList = l) : s = ⟨l.toArray⟩ := by
  subst h; simp
theorem enters_of_func {P : Program} {f : Nat} {fn : Func} {c : Code} (h : P.funcs[f]? = some fn) (hb : fn.body = some c) (hn : fn.name ≠ "runtime.NumGoroutine") : Enters P f := ⟨fn, c, h, hb, hn⟩
theorem trimS_none (cs s : List UInt8) (h : ∀ x ∈ s, cs.contains x = true) : Lib.trimS s cs = [] := by
  unfold Lib.trimS Lib.trimLeftS Lib.trimRightS
  have e : s.reverse.dropWhile (cs.contains ·) = [] := by
    have : ∀ l : List UInt8, (∀ x ∈ l, cs.contains x = true) → l.dropWhile (cs.contains ·) = [] := by
      intro l
      induction l with
      | nil => intro _; rfl
      | cons a r ih =>
        intro hl
        rw [List.dropWhile_cons, if_pos (hl a (by simp))]
        exact ih fun x hx => hl x (List.mem_cons_of_mem _ hx)
    exact this _ fun x hx => h x (by simpa using hx)
  rw [e]
  rfl
theorem trim_ok : RawOK Tryd.prog G 14 (extP trimO) := by
  refine extP_sound ⟨Tryd.f14, _, Tryd.func14, rfl, by decide⟩ ?_
  intro ps v hv S w cargs hG hr
  unfold trimO at hv
  split at hv
  · rename_i s c
    obtain ⟨cl⟩ := cargs
    simp only at hr
    cases hr with
    | cons h1 hr =>
      cases hr with
      | cons h2 hr =>
        cases hr with
        | nil =>
          cases h1 with
          | @str _ s' h1 =>
            cases h2 with
            | @str _ c' h2 =>
              subst h1
              split at hv
              · rename_i hc
                obtain rfl := Option.some.inj hv
                rw [hc.1] at h2
                have hc2 : c' = ⟨#[32]⟩ := by have := mk_list _ _ h2; simpa using this
                subst hc2
                refine (Any.strings_Trim_one lays160 s' 32 (by decide) w (by rw [Lib.size_eq]; exact hc.2)).mono fun e w' ⟨he, hw⟩ => ⟨⟨_, he, fun S w' => .str (by simp)⟩, ?_⟩
                rcases hw with rfl | rfl
                · exact Below.refl _ _
                · exact (Below.refl _ _).drew
              · split at hv
                · rename_i hc
                  obtain ⟨hc1, hc2, hc3, hc4⟩ := hc
                  obtain rfl := Option.some.inj hv
                  rw [hc1] at h2
                  have hcs : c'.size = 10 := by rw [Lib.size_eq, h2]; rfl
                  refine (Any.strings_Trim_set lays160 (fun w => by kernel_rfl) (by kernel_rfl) s' c' w (by omega) (by rw [Lib.size_eq]; exact hc2) (by rw [Lib.size_eq]; omega) (by omega) ?_).mono fun e w' ⟨he, hw⟩ => ⟨⟨_, he, fun S w' => .str ?_⟩, ?_⟩
                  · intro j b hb
                    rw [h2] at hb
                    have := List.mem_of_getElem? hb
                    simp at this
                    rcases this with rfl | rfl | rfl | rfl | rfl | rfl | rfl | rfl | rfl | rfl <;> decide
                  · rw [h2]
                    have : Lib.trimS s'.data.toList [48, 49, 50, 51, 52, 53, 54, 55, 56, 57] = [] := by
                      apply trimS_none
                      intro x hx
                      have hd := of_decide_eq_true (List.all_eq_true.1 hc4 x hx)
                      have : x.toNat = 48 ∨ x.toNat = 49 ∨ x.toNat = 50 ∨ x.toNat = 51 ∨ x.toNat = 52 ∨ x.toNat = 53 ∨ x.toNat = 54 ∨ x.toNat = 55 ∨ x.toNat = 56 ∨ x.toNat = 57 := by omega
                      have hx : ∀ n : UInt8, x.toNat = n.toNat → x = n := fun n h => UInt8.toNat_inj.1 h
                      rcases this with h | h | h | h | h | h | h | h | h | h
                      · rw [hx 48 h]; rfl
                      · rw [hx 49 h]; rfl
                      · rw [hx 50 h]; rfl
                      · rw [hx 51 h]; rfl
                      · rw [hx 52 h]; rfl
                      · rw [hx 53 h]; rfl
                      · rw [hx 54 h]; rfl
                      · rw [hx 55 h]; rfl
                      · rw [hx 56 h]; rfl
                      · rw [hx 57 h]; rfl
                    rw [this]
                  · obtain ⟨q, rfl⟩ := hw
                    have b1 := ((Below.refl w.heap.size w).alloc (Nat.le_refl _) (.cells (Lib.setCells c'.data.toList) (ren160.t 116)))
                    have b2 := b1.alloc (by simp) (.cells (Lib.setCells c'.data.toList) (ren160.t 116))
                    exact ⟨b2.os, b2.tape, b2.output, b2.size, b2.block⟩
                · cases hv
  · cases hv
theorem rep_ok : RawOK Tryd.prog G 22 (extP repO) := by
  refine extP_sound ⟨Tryd.f22, _, Tryd.func22, rfl, by decide⟩ ?_
  intro ps v hv S w cargs hG hr
  unfold repO at hv
  split at hv
  · rename_i s k n
    split at hv
    · rename_i hc
      obtain ⟨rfl, rfl, h0, hn⟩ := hc
      obtain rfl := Option.some.inj hv
      obtain ⟨cl⟩ := cargs
      simp only at hr
      cases hr with
      | cons h1 hr =>
        cases hr with
        | cons h2 hr =>
          cases hr with
          | nil =>
            cases h1 with
            | @str _ s' h1 =>
              cases h2 with
              | int _ _ =>
                obtain ⟨m, rfl⟩ : ∃ m : Nat, n = m := ⟨n.toNat, by omega⟩
                have hs : s'.size = 1 := by rw [Lib.size_eq, h1]; rfl
                refine (Any.strings_Repeat lays105 extra105 s' m w (by omega) (by rw [hs]; omega)).mono fun e w' hw => ⟨⟨_, hw.1, fun S w' => .str (by rw [h1, repeat_one]; simp)⟩, hw.2⟩
    · cases hv
  · cases hv
theorem tab_of {S : Nat → Nat → Prop} {w : World} (hG : GlobOK S w G) : Lib.TabIs Tryd.prog w "internal/strconv.uint64pow10" .u64 Lib.pow10Tab := by
  obtain ⟨hc, _, hend⟩ := hG 2 powG rfl
  have hcell : ∀ (j : Nat) v, powG[j]? = some v → ∃ c, w.cell? ⟨2, j, none⟩ = some c ∧ RepP S w v c := by
    intro j v hj
    obtain ⟨_, c, h1, _, h3⟩ := hc.get hj
    exact ⟨c, by simpa using h1, h3⟩
  have hp : ∀ j, j < 20 → powG[j]? = some (.int .u64 ((10 ^ j : Nat) : Int)) := by
    intro j hj
    unfold powG
    rw [List.getElem?_map, List.getElem?_range hj]
    rfl
  obtain ⟨c0, h0, _⟩ := hcell 0 _ (hp 0 (by omega))
  have hlen : powG.length = 20 := by simp [powG]
  unfold Lib.TabIs World.var?
  rw [show Tryd.prog.globalNamed "internal/strconv.uint64pow10" = some 2 by kernel_rfl]
  simp only [Option.bind_some]
  unfold World.cell? at h0 hend hcell
  simp only at h0 hend hcell
  rw [hlen] at hend
  cases hb : w.heap[2]? with
  | none => rw [hb] at h0; cases h0
  | some o =>
    rw [hb] at h0 hend hcell
    cases o with
    | cells cs e fz =>
      simp only [Option.isSome_none, Bool.false_eq_true, if_false] at h0 hend hcell ⊢
      congr 1
      apply Array.ext_getElem?
      intro j
      by_cases hj : j < 20
      · obtain ⟨c, k1, k2⟩ := hcell j _ (hp j hj)
        cases k2
        rw [k1]
        simp [Lib.pow10Tab, hj]
      · have hsz : cs.size ≤ 20 := by
          rcases Nat.lt_or_ge 20 cs.size with h | h
          · rw [Array.getElem?_eq_getElem h] at hend; cases hend
          · exact h
        rw [Array.getElem?_eq_none (by omega), Array.getElem?_eq_none (by simp [Lib.pow10Tab]; omega)]
    | _ => simp at h0
theorem itoa_ok : RawOK Tryd.prog G 13 (extP itoaO) := by
  refine extP_sound ⟨Tryd.f13, _, Tryd.func13, rfl, by decide⟩ ?_
  intro ps v hv S w cargs hG hr
  unfold itoaO at hv
  split at hv
  · rename_i k n j b
    split at hv
    · rename_i hc
      obtain ⟨rfl, rfl, rfl, h0, h1⟩ := hc
      obtain rfl := Option.some.inj hv
      obtain ⟨cl⟩ := cargs
      simp only at hr
      cases hr with
      | cons r1 hr =>
        cases hr with
        | cons r2 hr =>
          cases hr with
          | nil =>
            cases r1 with
            | int _ _ =>
              cases r2 with
              | int _ _ =>
                refine (Any.strconv_FormatInt_10 laysM173 n h0 h1 w (tab_of hG)).mono fun e w' hw => ⟨⟨_, hw.1, fun S w' => .str (by simp)⟩, ?_⟩
                obtain ⟨k, os, rfl⟩ := hw.2
                exact Lib.below_grow _ _ (Nat.le_refl _) _ _
    · cases hv
  · cases hv
theorem parse_ok : RawOK Tryd.prog G 32 (extP parseO) := by
  refine extP_sound ⟨Tryd.f32, _, Tryd.func32, rfl, by decide⟩ ?_
  intro ps v hv S w cargs hG hr
  unfold parseO at hv
  split at hv
  · rename_i s k b j z
    split at hv
    · rename_i hc
      obtain ⟨rfl, rfl, rfl, rfl, hl⟩ := hc
      split at hv
      · rename_i v hp
        obtain rfl := Option.some.inj hv
        obtain ⟨cl⟩ := cargs
        simp only at hr
        cases hr with
        | cons r1 hr =>
          cases hr with
          | cons r2 hr =>
            cases hr with
            | cons r3 hr =>
              cases hr with
              | nil =>
                cases r1 with
                | @str _ s' h1 =>
                  cases r2 with
                  | int _ _ =>
                    cases r3 with
                    | int _ _ =>
                      subst h1
                      refine (Any.strconv_ParseInt_10_at64_ok lays174 s' (by rw [Lib.size_eq]; omega) v hp w).mono fun e w' hw => ⟨⟨_, hw.1, fun S w' => .tup (.cons (.int _ _) (.cons .nilif .nil))⟩, ?_⟩
                      rcases hw.2 with rfl | ⟨t, rfl⟩
                      · exact Below.refl _ _
                      · exact Go.Joins.below_bytesWorld _ _ _ _ (Nat.le_refl _)
      · cases hv
    · cases hv
  · cases hv
theorem eq_nil (t : TypeId) (v : Value) (w : World) : (binOp .eql 64 .nilIface (.iface t v)).run Tryd.prog w = .ok (.bool false) w := by
  first
    | kernel_rfl
    | (simp [binOp, run_underlying Tryd.underlying64])
theorem is_walk (t : TypeId) (v : Value) (w : World) : Calls Tryd.prog 33 #[.nilIface, .iface t v] w fun e w' => e = .returned (.bool false) ∧ w' = w := by
  go_enter Tryd.func33, Tryd.ntmps33
  go_wp2
  rw [eq_nil]
  go_wp2
  go_ret
  exact ⟨rfl, rfl⟩
theorem is_ok : RawOK Tryd.prog G 33 (extP isO) := by
  refine extP_sound ⟨Tryd.f33, _, Tryd.func33, rfl, by decide⟩ ?_
  intro ps v hv S w cargs hG hr
  unfold isO at hv
  split at hv
  · obtain rfl := Option.some.inj hv
    obtain ⟨cl⟩ := cargs
    simp only at hr
    cases hr with
    | cons r1 hr =>
      cases hr with
      | cons r2 hr =>
        cases hr with
        | nil =>
          cases r1 with
          | nilif =>
            cases r2 with
            | iface h =>
              refine (is_walk _ _ w).mono fun e w' hw => ⟨⟨_, hw.1, fun S w' => .bool _⟩, ?_⟩
              rw [hw.2]
              exact Below.refl _ _
  · cases hv

end Go.Ab.Back
