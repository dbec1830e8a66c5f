/- ZW -/
import Derived.Test.YtikebbklkiodlaaGreatDoorAbZV
import Derived.Shelf.Strings.Trim
import Derived.Shelf.Strings.Replace
import Derived.Shelf.Strings.Builder1
set_option maxRecDepth 1000000
set_option linter.all false
namespace Go.Ab.Keep
open Go Go.Ab Go.Ab.Plan Go.Ab.Key Go.Ab.Cnt Go.Ab.Turn Go.Proofs Go.RowKit
def ren162 : Go.Shelf.Ren where
 f := fun x => match x with
   | 162 => 31
   | 232 => 48
   | 227 => 49
   | 234 => 50
   | 236 => 51
   | 228 => 81
   | 271 => 82
   | 151 => 83
   | 120 => 98
   | 197 => 79
   | 152 => 99
   | 260 => 97
   | 137 => 107
   | 119 => 108
   | 224 => 105
   | 225 => 104
   | 217 => 103
   | 266 => 109
   | n => n
 t := fun x => match x with
   | 9 => 9
   | 4 => 4
   | 3 => 3
   | 5 => 5
   | 117 => 115
   | 116 => 114
   | 0 => 0
   | 124 => 118
   | 21 => 21
   | 105 => 146
   | 46 => 106
   | 119 => 169
   | 139 => 172
   | 138 => 171
   | n => n
 g := fun x => match x with
   | 3 => 2
   | 4 => 3
   | n => n
theorem Qy2 : Lays.n162 Tryz.prog ren162 := by
 constructor <;> first | kernel_rfl | (intro w; kernel_rfl)
def Qw0 : Go.Shelf.Ren where
 f := fun x => match x with
   | 155 => 30
   | 154 => 47
   | 138 => 75
   | 165 => 76
   | 143 => 77
   | 166 => 78
   | 197 => 79
   | 169 => 80
   | 195 => 92
   | 218 => 93
   | 240 => 94
   | 241 => 95
   | 219 => 96
   | 260 => 97
   | 276 => 101
   | 277 => 102
   | 217 => 103
   | 225 => 104
   | 224 => 105
   | 267 => 106
   | 266 => 109
   | 314 => 110
   | n => n
 t := fun x => match x with
   | 9 => 9
   | 3 => 3
   | 4 => 4
   | 72 => 140
   | 0 => 0
   | 76 => 144
   | 105 => 146
   | 21 => 21
   | 5 => 5
   | 70 => 138
   | 20 => 20
   | 37 => 94
   | 75 => 143
   | 127 => 162
   | 164 => 165
   | 46 => 106
   | 119 => 169
   | 139 => 172
   | 138 => 171
   | 146 => 175
   | 51 => 174
   | 80 => 148
   | n => n
 g := fun x => match x with
   | 1 => 1
   | 3 => 2
   | 4 => 3
   | n => n
theorem Qyp : Lays.n155 Tryz.prog Qw0 := by
 constructor <;> first | kernel_rfl | (intro w; kernel_rfl)
theorem Qt4 : Builder.Extra Tryz.prog Qw0 where
 sizeBuilder := by kernel_rfl
 liesBuilder := by kernel_rfl
 t5 := by kernel_rfl
 a5 := fun w => by kernel_rfl
 z5 := fun w => by kernel_rfl
 v5 := fun w => by kernel_rfl
 infoByte := by kernel_rfl
 cellsByte := by kernel_rfl
 sizeByte := by kernel_rfl
 neB5 := by decide
theorem Qix (s : ByteArray) (l : List UInt8) (h : s.data.toList = l) : s = ⟨l.toArray⟩ := by
 subst h; simp
section
variable [Mx]
theorem Qx2 : Qfy Tryz.prog GT 31 (extP Enc.trimO) := by
 refine Qdh ⟨Tryz.f31, _, Tryz.func31, rfl, by decide⟩ ?_
 intro ps v hv S w cargs hG hr
 unfold Enc.trimO at hv
 split at hv
 · rename_i s c
   split at hv
   · rename_i hc
     obtain rfl := Option.some.inj hv
     obtain ⟨cl⟩ := cargs
     simp only at hr
     cases hr with
     | cons h1 hr =>
       cases hr with
       | cons h2 hr =>
         cases hr with
         | nil =>
           cases h1 with
           | @str _ s' h1 =>
             cases h2 with
             | @str _ c' h2 =>
               subst h1
               rw [hc.1] at h2
               have hc2 : c' = ⟨#[32]⟩ := by have := Qix _ _ h2; simpa using this
               subst hc2
               have hsz : s'.size <= 9223372036854775807 := by
                 rw [Lib.size_eq]
                 exact Nat.le_trans hc.2 (by decide)
               refine (Any.strings_TrimRight_one Qy2 s' 32 (by decide) w hsz).mono fun e w' hw => ⟨⟨_, hw.1, fun S w' => .str (by simp)⟩, ?_⟩
               have hw := hw.2
               subst hw; exact Below.refl _ _
   · cases hv
 · cases hv
end
theorem idx_ne {b : UInt8} (s : List UInt8) (h : b ≠ 0) : Lib.index (b :: s) [0] = if Lib.index s [0] == -1 then -1 else Lib.index s [0] + 1 := by
 rw [Lib.index_one, Lib.index_one]
 have : (b == 0) = false := by simpa using h
 simp only [Lib.indexByte, this]
 simp
theorem Qvq (s : List UInt8) : Lib.index (0 :: s) [0] = 0 := by
 rw [Lib.index_one]
 simp [Lib.indexByte]
theorem Vm : ∀ (s : List UInt8) (k : Nat), s.count 0 = k -> Lib.replaceK [0] [0, 255] k s = esc s
 | [], k, h => by
   have : k = 0 := by simpa using h.symm
   subst this; rfl
 | b :: s, k, h => by
   by_cases hb : b = 0
   · subst hb
     obtain ⟨k, rfl⟩ : ∃ j, k = j + 1 := ⟨s.count 0, by simpa using h.symm⟩
     have ih := Vm s k (by simpa using h)
     have h0 : ¬ (Lib.index (0 :: s) [0] == -1) = true := by rw [Qvq]; decide
     rw [Lib.replaceK, if_neg h0, Qvq]
     simp [esc, ih]
   · have hc : s.count 0 = k := by
       rw [List.count_cons_of_ne hb] at h
       exact h
     have ih := Vm s k hc
     simp only [esc, hb, if_false]
     rw [<- ih]
     cases k with
     | zero => rfl
     | succ k =>
       rw [Lib.replaceK, Lib.replaceK, idx_ne s hb]
       have hge := Lib.index_ge s [0]
       by_cases hm : Lib.index s [0] = -1
       · simp [hm]
       · have hm' : (Lib.index s [0] == -1) = false := by simpa using hm
         have hm2 : ¬ (Lib.index s [0] + 1 == -1) = true := by
           intro h
           have := beq_iff_eq.1 h
           omega
         simp only [hm', Bool.false_eq_true, if_false, hm2]
         have e : (Lib.index s [0] + 1).toNat = (Lib.index s [0]).toNat + 1 := by omega
         rw [e]
         simp only [List.take_succ_cons, List.cons_append]
         congr 1
theorem Qcm (s : List UInt8) : Lib.replaceAll s [0] [0, 255] = esc s := by
 unfold Lib.replaceAll Lib.replace
 rw [if_neg (by decide)]
 refine Vm s _ ?_
 unfold Lib.replaceNum
 rw [if_pos (.inl (by decide)), Lib.count_one]
section
variable [Mx]
theorem Qzr : Qfy Tryz.prog GT 30 (extP Enc.replO) := by
 refine Qdh ⟨Tryz.f30, _, Tryz.func30, rfl, by decide⟩ ?_
 intro ps v hv S w cargs hG hr
 unfold Enc.replO at hv
 split at hv
 · rename_i s o n
   split at hv
   · rename_i hc
     obtain rfl := Option.some.inj hv
     obtain ⟨cl⟩ := cargs
     simp only at hr
     cases hr with
     | cons h1 hr =>
       cases hr with
       | cons h2 hr =>
         cases hr with
         | cons h3 hr =>
           cases hr
           cases h1 with
           | @str _ s' h1 =>
             cases h2 with
             | @str _ o' h2 =>
               cases h3 with
               | @str _ n' h3 =>
                 subst h1
                 obtain ⟨ho, hn, hs⟩ := hc
                 subst ho hn
                 have ho2 : o' = ⟨#[0]⟩ := by have := Qix _ _ h2; simpa using this
                 have hn2 : n' = ⟨#[0, 255]⟩ := by have := Qix _ _ h3; simpa using this
                 subst ho2 hn2
                 have hcell : w.cell? ⟨1, 0, none⟩ = some (.int .i64 Mx.m) := by
                   have := (hG 1 [.int .i64 Mx.m] (by simp [GT])).1
                   cases this with
                   | cons _ hc _ h _ => rw [hc, h.int_inv]
                 have hcount : Lib.countB s' ⟨#[0]⟩ <= 16777216 + 1 := by
                   have := Lib.count_le s'.data.toList [0]
                   have e : Lib.countB s' ⟨#[0]⟩ = Lib.count s'.data.toList [0] := rfl
                   omega
                 have hsz : s'.size = s'.data.toList.length := Lib.size_eq s'
                 have h2' : (⟨#[0, 255]⟩ : ByteArray).size = 2 := rfl
                 refine (Any.strings_ReplaceAll Qyp Qt4 s' ⟨#[0]⟩ ⟨#[0, 255]⟩ Mx.m w (by omega) hcell (by decide) (by rw [h2']; omega)).mono fun e w' hw => ⟨⟨_, hw.1, fun S w' => .str ?_⟩, hw.2⟩
                 simp [Qcm]
   · cases hv
 · cases hv
theorem lit103_is : Yh Tryz.prog GT [] Tryz.f3 = some lit103 := by kernel_rfl
theorem lit14_is : Yh Tryz.prog GT [] Tryz.f4 = some lit14 := by kernel_rfl
theorem lit15_is : Yh Tryz.prog GT [] Tryz.f6 = some lit15 := by kernel_rfl
theorem lit16_is : Yh Tryz.prog GT [] Tryz.f7 = some lit16 := by kernel_rfl
theorem lit17_is : Yh Tryz.prog GT [] Tryz.f8 = some lit17 := by kernel_rfl
theorem lit109_is : Yh Tryz.prog GT [] Tryz.f9 = some lit109 := by kernel_rfl
theorem lit110_is : Yh Tryz.prog GT [] Tryz.f10 = some lit110 := by kernel_rfl
theorem lit111_is : Yh Tryz.prog GT [] Tryz.f11 = some lit111 := by kernel_rfl
theorem lit22_is : Yh Tryz.prog GT [] Tryz.f16 = some lit22 := by kernel_rfl
theorem lit23_is : Yh Tryz.prog GT [] Tryz.f17 = some lit23 := by kernel_rfl
theorem lit24_is : Yh Tryz.prog GT [] Tryz.f18 = some lit24 := by kernel_rfl
theorem lit25_is : Yh Tryz.prog GT [] Tryz.f19 = some lit25 := by kernel_rfl
theorem lit26_is : Yh Tryz.prog GT [] Tryz.f20 = some lit26 := by kernel_rfl
theorem lit27_is : Yh Tryz.prog GT [] Tryz.f21 = some lit27 := by kernel_rfl
theorem lit28_is : Yh Tryz.prog GT [] Tryz.f22 = some lit28 := by kernel_rfl
theorem lit123_is : Yh Tryz.prog GT [] Tryz.f23 = some lit123 := by kernel_rfl
theorem lit124_is : Yh Tryz.prog GT [] Tryz.f24 = some lit124 := by kernel_rfl
theorem lit125_is : Yh Tryz.prog GT [] Tryz.f25 = some lit125 := by kernel_rfl
theorem lit29_is : Yh Tryz.prog GT [] Tryz.f26 = some lit29 := by kernel_rfl
theorem lit30_is : Yh Tryz.prog GT [] Tryz.f27 = some lit30 := by kernel_rfl
theorem lit31_is : Yh Tryz.prog GT [] Tryz.f28 = some lit31 := by kernel_rfl
theorem lit132_is : Yh Tryz.prog GT [] Tryz.f32 = some lit132 := by kernel_rfl
theorem lit133_is : Yh Tryz.prog GT [] Tryz.f33 = some lit133 := by kernel_rfl
theorem lit134_is : Yh Tryz.prog GT [] Tryz.f34 = some lit134 := by kernel_rfl
theorem lit135_is : Yh Tryz.prog GT [] Tryz.f35 = some lit135 := by kernel_rfl
theorem lit136_is : Yh Tryz.prog GT [] Tryz.f36 = some lit136 := by kernel_rfl
theorem lit137_is : Yh Tryz.prog GT [] Tryz.f37 = some lit137 := by kernel_rfl
theorem lit138_is : Yh Tryz.prog GT [] Tryz.f38 = some lit138 := by kernel_rfl
theorem lit139_is : Yh Tryz.prog GT [] Tryz.f39 = some lit139 := by kernel_rfl
theorem lit140_is : Yh Tryz.prog GT [] Tryz.f40 = some lit140 := by kernel_rfl
theorem lit141_is : Yh Tryz.prog GT [] Tryz.f41 = some lit141 := by kernel_rfl
theorem lit142_is : Yh Tryz.prog GT [] Tryz.f42 = some lit142 := by kernel_rfl
theorem lit143_is : Yh Tryz.prog GT [] Tryz.f43 = some lit143 := by kernel_rfl
theorem lit35_is : Yh Tryz.prog GT [] Tryz.f44 = some lit35 := by kernel_rfl
theorem lit36_is : Yh Tryz.prog GT [] Tryz.f45 = some lit36 := by kernel_rfl
theorem lit152_is : Yh Tryz.prog GT [] Tryz.f52 = some lit152 := by kernel_rfl
theorem lit153_is : Yh Tryz.prog GT [] Tryz.f53 = some lit153 := by kernel_rfl
theorem lit154_is : Yh Tryz.prog GT [] Tryz.f54 = some lit154 := by kernel_rfl
theorem lit155_is : Yh Tryz.prog GT [] Tryz.f55 = some lit155 := by kernel_rfl
theorem lit156_is : Yh Tryz.prog GT [] Tryz.f56 = some lit156 := by kernel_rfl
theorem lit157_is : Yh Tryz.prog GT [] Tryz.f57 = some lit157 := by kernel_rfl
theorem lit158_is : Yh Tryz.prog GT [] Tryz.f58 = some lit158 := by kernel_rfl
theorem lit159_is : Yh Tryz.prog GT [] Tryz.f59 = some lit159 := by kernel_rfl
theorem lit160_is : Yh Tryz.prog GT [] Tryz.f60 = some lit160 := by kernel_rfl
theorem lit161_is : Yh Tryz.prog GT [] Tryz.f61 = some lit161 := by kernel_rfl
theorem lit162_is : Yh Tryz.prog GT [] Tryz.f62 = some lit162 := by kernel_rfl
theorem lit163_is : Yh Tryz.prog GT [] Tryz.f63 = some lit163 := by kernel_rfl
theorem lit164_is : Yh Tryz.prog GT [] Tryz.f64 = some lit164 := by kernel_rfl
theorem lit165_is : Yh Tryz.prog GT [] Tryz.f65 = some lit165 := by kernel_rfl
theorem lit166_is : Yh Tryz.prog GT [] Tryz.f66 = some lit166 := by kernel_rfl
theorem lit167_is : Yh Tryz.prog GT [] Tryz.f67 = some lit167 := by kernel_rfl
theorem lit168_is : Yh Tryz.prog GT [] Tryz.f68 = some lit168 := by kernel_rfl
theorem lit169_is : Yh Tryz.prog GT [] Tryz.f69 = some lit169 := by kernel_rfl
theorem lit170_is : Yh Tryz.prog GT [] Tryz.f70 = some lit170 := by kernel_rfl
theorem lit171_is : Yh Tryz.prog GT [] Tryz.f71 = some lit171 := by kernel_rfl
theorem lit172_is : Yh Tryz.prog GT [] Tryz.f72 = some lit172 := by kernel_rfl
theorem lit173_is : Yh Tryz.prog GT [] Tryz.f73 = some lit173 := by kernel_rfl
theorem lit174_is : Yh Tryz.prog GT [] Tryz.f74 = some lit174 := by kernel_rfl
theorem lit184_is : Yh Tryz.prog GT [] Tryz.f84 = some lit184 := by kernel_rfl
theorem lit185_is : Yh Tryz.prog GT [] Tryz.f85 = some lit185 := by kernel_rfl
theorem lit186_is : Yh Tryz.prog GT [] Tryz.f86 = some lit186 := by kernel_rfl
theorem lit187_is : Yh Tryz.prog GT [] Tryz.f87 = some lit187 := by kernel_rfl
theorem lit188_is : Yh Tryz.prog GT [] Tryz.f88 = some lit188 := by kernel_rfl
theorem lit189_is : Yh Tryz.prog GT [] Tryz.f89 = some lit189 := by kernel_rfl
theorem lit190_is : Yh Tryz.prog GT [] Tryz.f90 = some lit190 := by kernel_rfl
theorem lit191_is : Yh Tryz.prog GT [] Tryz.f91 = some lit191 := by kernel_rfl
theorem lit200_is : Yh Tryz.prog GT [] Tryz.f100 = some lit200 := by kernel_rfl
theorem Qqe : Wx Tryz.prog GT TT := by
 refine Qkc ?_ (Qkc Qs9 Qti)
 intro f i h
 unfold TX at h
 split at h
 · obtain rfl := Option.some.inj h; exact ⟨by decide, Tryz.f3, [], Tryz.func3, lit103_is⟩
 · obtain rfl := Option.some.inj h; exact ⟨by decide, Tryz.f4, [], Tryz.func4, lit14_is⟩
 · obtain rfl := Option.some.inj h; exact ⟨by decide, Tryz.f6, [], Tryz.func6, lit15_is⟩
 · obtain rfl := Option.some.inj h; exact ⟨by decide, Tryz.f7, [], Tryz.func7, lit16_is⟩
 · obtain rfl := Option.some.inj h; exact ⟨by decide, Tryz.f8, [], Tryz.func8, lit17_is⟩
 · obtain rfl := Option.some.inj h; exact ⟨by decide, Tryz.f9, [], Tryz.func9, lit109_is⟩
 · obtain rfl := Option.some.inj h; exact ⟨by decide, Tryz.f10, [], Tryz.func10, lit110_is⟩
 · obtain rfl := Option.some.inj h; exact ⟨by decide, Tryz.f11, [], Tryz.func11, lit111_is⟩
 · obtain rfl := Option.some.inj h; exact ⟨by decide, rfl, Tryz.f16, [], Tryz.func16, lit22_is⟩
 · obtain rfl := Option.some.inj h; exact ⟨by decide, Tryz.f17, [], Tryz.func17, lit23_is⟩
 · obtain rfl := Option.some.inj h; exact ⟨by decide, rfl, Tryz.f18, [], Tryz.func18, lit24_is⟩
 · obtain rfl := Option.some.inj h; exact ⟨by decide, rfl, Tryz.f19, [], Tryz.func19, lit25_is⟩
 · obtain rfl := Option.some.inj h; exact ⟨by decide, Tryz.f20, [], Tryz.func20, lit26_is⟩
 · obtain rfl := Option.some.inj h; exact ⟨by decide, Tryz.f21, [], Tryz.func21, lit27_is⟩
 · obtain rfl := Option.some.inj h; exact ⟨by decide, Tryz.f22, [], Tryz.func22, lit28_is⟩
 · obtain rfl := Option.some.inj h; exact ⟨by decide, Tryz.f23, [], Tryz.func23, lit123_is⟩
 · obtain rfl := Option.some.inj h; exact ⟨by decide, Tryz.f24, [], Tryz.func24, lit124_is⟩
 · obtain rfl := Option.some.inj h; exact ⟨by decide, Tryz.f25, [], Tryz.func25, lit125_is⟩
 · obtain rfl := Option.some.inj h; exact ⟨by decide, rfl, Tryz.f26, [], Tryz.func26, lit29_is⟩
 · obtain rfl := Option.some.inj h; exact ⟨by decide, Tryz.f27, [], Tryz.func27, lit30_is⟩
 · obtain rfl := Option.some.inj h; exact ⟨by decide, Tryz.f28, [], Tryz.func28, lit31_is⟩
 · obtain rfl := Option.some.inj h; exact ⟨by decide, Qzr⟩
 · obtain rfl := Option.some.inj h; exact ⟨by decide, Qx2⟩
 · obtain rfl := Option.some.inj h; exact ⟨by decide, Tryz.f32, [], Tryz.func32, lit132_is⟩
 · obtain rfl := Option.some.inj h; exact ⟨by decide, Tryz.f33, [], Tryz.func33, lit133_is⟩
 · obtain rfl := Option.some.inj h; exact ⟨by decide, Tryz.f34, [], Tryz.func34, lit134_is⟩
 · obtain rfl := Option.some.inj h; exact ⟨by decide, Tryz.f35, [], Tryz.func35, lit135_is⟩
 · obtain rfl := Option.some.inj h; exact ⟨by decide, Tryz.f36, [], Tryz.func36, lit136_is⟩
 · obtain rfl := Option.some.inj h; exact ⟨by decide, Tryz.f37, [], Tryz.func37, lit137_is⟩
 · obtain rfl := Option.some.inj h; exact ⟨by decide, Tryz.f38, [], Tryz.func38, lit138_is⟩
 · obtain rfl := Option.some.inj h; exact ⟨by decide, Tryz.f39, [], Tryz.func39, lit139_is⟩
 · obtain rfl := Option.some.inj h; exact ⟨by decide, Tryz.f40, [], Tryz.func40, lit140_is⟩
 · obtain rfl := Option.some.inj h; exact ⟨by decide, Tryz.f41, [], Tryz.func41, lit141_is⟩
 · obtain rfl := Option.some.inj h; exact ⟨by decide, Tryz.f42, [], Tryz.func42, lit142_is⟩
 · obtain rfl := Option.some.inj h; exact ⟨by decide, Tryz.f43, [], Tryz.func43, lit143_is⟩
 · obtain rfl := Option.some.inj h; exact ⟨by decide, Tryz.f44, [], Tryz.func44, lit35_is⟩
 · obtain rfl := Option.some.inj h; exact ⟨by decide, Tryz.f45, [], Tryz.func45, lit36_is⟩
 · obtain rfl := Option.some.inj h; exact ⟨by decide, Tryz.f52, [], Tryz.func52, lit152_is⟩
 · obtain rfl := Option.some.inj h; exact ⟨by decide, Tryz.f53, [], Tryz.func53, lit153_is⟩
 · obtain rfl := Option.some.inj h; exact ⟨by decide, Tryz.f54, [], Tryz.func54, lit154_is⟩
 · obtain rfl := Option.some.inj h; exact ⟨by decide, Tryz.f55, [], Tryz.func55, lit155_is⟩
 · obtain rfl := Option.some.inj h; exact ⟨by decide, Tryz.f56, [], Tryz.func56, lit156_is⟩
 · obtain rfl := Option.some.inj h; exact ⟨by decide, Tryz.f57, [], Tryz.func57, lit157_is⟩
 · obtain rfl := Option.some.inj h; exact ⟨by decide, Tryz.f58, [], Tryz.func58, lit158_is⟩
 · obtain rfl := Option.some.inj h; exact ⟨by decide, Tryz.f59, [], Tryz.func59, lit159_is⟩
 · obtain rfl := Option.some.inj h; exact ⟨by decide, Tryz.f60, [], Tryz.func60, lit160_is⟩
 · obtain rfl := Option.some.inj h; exact ⟨by decide, Tryz.f61, [], Tryz.func61, lit161_is⟩
 · obtain rfl := Option.some.inj h; exact ⟨by decide, Tryz.f62, [], Tryz.func62, lit162_is⟩
 · obtain rfl := Option.some.inj h; exact ⟨by decide, Tryz.f63, [], Tryz.func63, lit163_is⟩
 · obtain rfl := Option.some.inj h; exact ⟨by decide, Tryz.f64, [], Tryz.func64, lit164_is⟩
 · obtain rfl := Option.some.inj h; exact ⟨by decide, Tryz.f65, [], Tryz.func65, lit165_is⟩
 · obtain rfl := Option.some.inj h; exact ⟨by decide, Tryz.f66, [], Tryz.func66, lit166_is⟩
 · obtain rfl := Option.some.inj h; exact ⟨by decide, Tryz.f67, [], Tryz.func67, lit167_is⟩
 · obtain rfl := Option.some.inj h; exact ⟨by decide, Tryz.f68, [], Tryz.func68, lit168_is⟩
 · obtain rfl := Option.some.inj h; exact ⟨by decide, Tryz.f69, [], Tryz.func69, lit169_is⟩
 · obtain rfl := Option.some.inj h; exact ⟨by decide, Tryz.f70, [], Tryz.func70, lit170_is⟩
 · obtain rfl := Option.some.inj h; exact ⟨by decide, Tryz.f71, [], Tryz.func71, lit171_is⟩
 · obtain rfl := Option.some.inj h; exact ⟨by decide, Tryz.f72, [], Tryz.func72, lit172_is⟩
 · obtain rfl := Option.some.inj h; exact ⟨by decide, Tryz.f73, [], Tryz.func73, lit173_is⟩
 · obtain rfl := Option.some.inj h; exact ⟨by decide, Tryz.f74, [], Tryz.func74, lit174_is⟩
 · obtain rfl := Option.some.inj h; exact ⟨by decide, Tryz.f84, [], Tryz.func84, lit184_is⟩
 · obtain rfl := Option.some.inj h; exact ⟨by decide, Tryz.f85, [], Tryz.func85, lit185_is⟩
 · obtain rfl := Option.some.inj h; exact ⟨by decide, Tryz.f86, [], Tryz.func86, lit186_is⟩
 · obtain rfl := Option.some.inj h; exact ⟨by decide, Tryz.f87, [], Tryz.func87, lit187_is⟩
 · obtain rfl := Option.some.inj h; exact ⟨by decide, Tryz.f88, [], Tryz.func88, lit188_is⟩
 · obtain rfl := Option.some.inj h; exact ⟨by decide, Tryz.f89, [], Tryz.func89, lit189_is⟩
 · obtain rfl := Option.some.inj h; exact ⟨by decide, Tryz.f90, [], Tryz.func90, lit190_is⟩
 · obtain rfl := Option.some.inj h; exact ⟨by decide, Tryz.f91, [], Tryz.func91, lit191_is⟩
 · obtain rfl := Option.some.inj h; exact ⟨by decide, Tryz.f100, [], Tryz.func100, lit200_is⟩
 · obtain rfl := Option.some.inj h; exact rfl
 · cases h
end
end Go.Ab.Keep
