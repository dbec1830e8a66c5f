/- U1 -/
import Derived.Test.YtikebbklkiodlaaGreatDoorAbE2
import Derived.Test.YtikebbklkiodlaaGreatDoorAbV1
set_option maxRecDepth 1000000
set_option linter.all false
namespace Go.Ab.Turn
open Go Go.Ab Go.Ab.Plan Go.Ab.Key Go.Ab.Cnt Go.Proofs
mutual
def cells : T -> List PV
 | .mk op s n l => [.str op, .str s, .int .i64 n, .vsl (Zs l) l.length]
def Zs : List T -> List PV
 | [] => []
 | t :: r => cells t ++ Zs r
end
abbrev node (t : T) : PV := .agg (cells t)
theorem W8 (t : T) : (cells t).length = 4 := by cases t; rfl
theorem z6 : ∀ l : List T, (Zs l).length = l.length * 4
 | [] => rfl
 | t :: r => by simp [Zs, W8, z6 r]; omega
theorem Qca : ∀ (l : List T) (i : Nat) (c : T), l[i]? = some c -> ((Zs l).drop (i * 4)).take 4 = cells c
 | [], i, c, h => by simp at h
 | t :: r, 0, c, h => by
   simp at h
   subst h
   simp only [Zs, Nat.zero_mul, List.drop_zero]
   rw [<- W8 t, List.take_left]
 | t :: r, i + 1, c, h => by
   simp at h
   have e : (i + 1) * 4 = (cells t).length + i * 4 := by rw [W8]; omega
   rw [Zs, e, List.drop_append, List.drop_of_length_le (Nat.le_add_right _ _), List.nil_append, Nat.add_sub_cancel_left, Qca r i c h]
mutual
def deep : T -> Nat
 | .mk _ _ _ l => Qsh l + 1
def Qsh : List T -> Nat
 | [] => 0
 | t :: r => Nat.max (deep t) (Qsh r)
end
mutual
def zz : T -> Nat
 | .mk _ _ _ l => Nat.max l.length (yb l)
def yb : List T -> Nat
 | [] => 0
 | t :: r => Nat.max (zz t) (yb r)
end
theorem Ua : ∀ {l : List T} {c : T}, c ∈ l -> deep c <= Qsh l
 | t :: r, c, h => by
   rcases List.mem_cons.1 h with rfl | h
   · exact Nat.le_max_left _ _
   · exact Nat.le_trans (Ua h) (Nat.le_max_right _ _)
theorem Qc6 : ∀ {l : List T} {c : T}, c ∈ l -> zz c <= yb l
 | t :: r, c, h => by
   rcases List.mem_cons.1 h with rfl | h
   · exact Nat.le_max_left _ _
   · exact Nat.le_trans (Qc6 h) (Nat.le_max_right _ _)
mutual
def allT (p : Word -> Word -> Int -> Nat -> Prop) : T -> Prop
 | .mk op s n l => p op s n l.length /\ Qp7 p l
def Qp7 (p : Word -> Word -> Int -> Nat -> Prop) : List T -> Prop
 | [] => True
 | t :: r => allT p t /\ Qp7 p r
end
theorem R9 {p : Word -> Word -> Int -> Nat -> Prop} : ∀ {l : List T} {c : T}, Qp7 p l -> c ∈ l -> allT p c
 | t :: r, c, h, hc => by
   rcases List.mem_cons.1 hc with rfl | hc
   · exact h.1
   · exact R9 h.2 hc
abbrev okT : T -> Prop := allT fun _ s n k => inR n /\ s.length <= 1048576 /\ k <= 1048576
def lit14 : Q2 := { ntmps := 31, results := [.tmp 4], body := (Q0.region [Ml 2 (.box 4 (.t 0)), Ml 4 (.mv (Mm 0))]).seq ((Q0.region [Ml 5 (.mv (Mm 1))]).seq (((Q0.region [Ml 6 (.mv (Mm 0))]).seq (Q0.block 0 (Q0.loop none (((Q0.region [Mk 7 6, Mo 8 3 2, Mn 9 8, Ml 10 (.len false (.t 9)), Ml 11 (.bin (.plain .lss) (.t 7) (.t 10)), Mk 12 11, ⟨some 13, .mv (.t 5), some (12, true)⟩, ⟨some 14, .mv (.t 1), some (12, true)⟩, ⟨some 15, .bin (.plain .leq) (.t 13) (.t 14), some (12, true)⟩, Ml 16 (.pick (.t 12) (.t 15) (.c (.p (.bool false))))]).seq (Q0.cond (.t 16) Q0.skip (Q0.exit 0))).seq ((Q0.block 1 (Q0.region [Mk 19 5, Mo 20 3 2, Mn 21 20, Mk 22 6, Ml 23 (.idx 4 (.t 21) (.t 22)), Ml 24 (.load true 4 (.t 23)), Mk 25 1, Mk 26 5, Ml 27 (.bin (.plain .sub) (.t 25) (.t 26)), Ml 28 (.call (.c (.p (.fn 4))) [.t 24, .t 27]), Ml 29 (.bin (.plain .add) (.t 19) (.t 28)), Mk 5 29])).seq (Q0.region [Mk 17 6, Ml 18 (.bin (.plain .add) (.t 17) (Mm 1)), Mk 6 18])))))).seq ((Q0.region [Mk 30 5, Mk 4 30]).seq Q0.ret))) }
def lit15 : Q2 := { ntmps := 17, results := [.cell 2 true 5], body := (Q0.region [Ml 2 (.alloc 33 [.p (.str []), .nil0, .nil0, .nil0, .nil0])]).seq ((Q0.region [Ml 4 (.build [.p (.int .i64 0), .p (.int .i64 0)] [(0, 1, Mm 2)]), Ml 5 (.build [.p (.str []), .p (.int .i64 0), .p (.int .i64 0), .p (.bool false)] [(0, 1, .c (.p (.str [97]))), (1, 2, .t 4)]), Ml 6 (.build [.p (.int .i64 0), .p (.int .i64 0)] [(0, 1, Mm 3)]), Ml 7 (.build [.p (.str []), .p (.int .i64 0), .p (.int .i64 0), .p (.bool false)] [(0, 1, .c (.p (.str [98]))), (1, 2, .t 6)]), Ml 8 (.build [.p (.int .i64 0), .p (.int .i64 0)] [(0, 1, Mm 5), (1, 1, Mm 9)]), Ml 9 (.build [.p (.str []), .p (.int .i64 0), .p (.int .i64 0), .p (.bool false)] [(0, 1, .c (.p (.str [99]))), (1, 2, .t 8)]), Ml 10 (.buildSlice [.p (.str []), .p (.int .i64 0), .p (.int .i64 0), .p (.bool false)] 3 4 [(0, 4, .t 5), (4, 4, .t 7), (8, 4, .t 9)]), Ml 11 (.build [.p (.str []), .nil0, .nil0, .nil0, .nil0] [(0, 1, .c (.p (.str [116]))), (1, 1, .t 10)]), Ml 3 (.alloc 33 [.p (.str []), .nil0, .nil0, .nil0, .nil0]), ⟨none, .store 5 (.t 3) (.t 11), none⟩]).seq ((Q0.region [Mk 12 0, Ml 13 (.build [.p (.str []), .nil0, .p (.bool false)] [(1, 1, .t 12), (2, 1, .c (.p (.bool true)))]), Ml 14 (.buildSlice [.p (.str []), .nil0, .p (.bool false)] 1 3 [(0, 3, .t 13)]), Mo 15 2 3, ⟨none, .store 1 (.t 15) (.t 14), none⟩]).seq ((Q0.region [Ml 16 (.load true 5 (.t 3)), ⟨none, .store 5 (.t 2) (.t 16), none⟩]).seq Q0.ret))) }
def Qoe : Q0 := .region [Ml 2 (.mv (.c .nil0))]
def Qop : Q0 := .region [Ml 3 (.mv (.c .nil0))]
def Qi4 : Q0 := .region [Ml 4 (.mv (Mm 0))]
def wv : Q0 := .region [Mk 8 4, Mk 9 0, Ml 10 (.len false (.t 9)), Ml 11 (.bin (.plain .lss) (.t 8) (.t 10)), Mk 12 11, ⟨some 13, .mv (.t 4), some (12, true)⟩, ⟨some 14, .bin (.plain .lss) (.t 13) (Mm 6), some (12, true)⟩, Ml 15 (.pick (.t 12) (.t 14) (.c (.p (.bool false))))]
def zv : Q0 := .cond (.t 15) Q0.skip (Q0.exit 0)
def q9 : Q0 := .seq wv zv
def T4 : Q0 := .region [Mk 18 0, Mk 19 4, Ml 20 (.idx 1 (.t 18) (.t 19)), Mn 21 20, Mk 5 21]
def Rh : Q0 := .region [Mk 22 5, Ml 23 (.bin (.plain .lss) (.t 22) (Mm 0))]
def Rf : Q0 := .cond (.t 23) (Q0.region [Mk 24 5, Ml 25 (.bin (.plain .add) (.t 24) (Mm 1)), Ml 26 (.un .neg (.t 25)), Mk 5 26]) Q0.skip
def Pg : Q0 := .seq Rh Rf
def Pd : Q0 := .region [Mk 27 5, Ml 28 (.bin (.plain .rem) (.t 27) (Mm 3)), Mk 5 28]
def Pc : Q0 := .region [Ml 6 (.mv (.c (.p (.bool false))))]
def Rk : Q0 := .region [Ml 7 (.mv (Mm 0))]
def V5 : Q0 := .region [Mk 29 7, Mk 30 3, Ml 31 (.len false (.t 30)), Ml 32 (.bin (.plain .lss) (.t 29) (.t 31))]
def V2 : Q0 := .cond (.t 32) Q0.skip (Q0.exit 2)
def Xz : Q0 := .seq V5 V2
def V7 : Q0 := .region [Mk 35 6, Mk 36 35, ⟨some 37, .mv (.t 3), some (36, false)⟩, ⟨some 38, .mv (.t 7), some (36, false)⟩, ⟨some 39, .idx 1 (.t 37) (.t 38), some (36, false)⟩, ⟨some 40, .load false 1 (.t 39), some (36, false)⟩, ⟨some 41, .mv (.t 5), some (36, false)⟩, ⟨some 42, .bin (.plain .eql) (.t 40) (.t 41), some (36, false)⟩, Ml 43 (.pick (.t 36) (.c (.p (.bool true))) (.t 42)), Mk 6 43]
def Xy : Q0 := .block 3 V7
def X1 : Q0 := .region [Mk 33 7, Ml 34 (.bin (.plain .add) (.t 33) (Mm 1)), Mk 7 34]
def Sy : Q0 := .seq Xz (.seq Xy X1)
def Un : Q0 := .loop none Sy
def V0 : Q0 := .block 2 Un
def Pa : Q0 := .seq Rk V0
def Mr : Q0 := .region [Mk 44 6, Ml 45 (.un .not (.t 44))]
def Mp : Q0 := .cond (.t 45) (Q0.region [Mk 46 3, Mk 47 5, Ml 48 (.buildSlice [.p (.int .i64 0)] 1 1 [(0, 1, .t 47)]), Ml 49 (.append 3 1 [.p (.int .i64 0)] (.t 46) (.t 48)), Mk 3 49]) Q0.skip
def Wm : Q0 := .seq T4 (.seq Pg (.seq Pd (.seq Pc (.seq Pa (.seq Mr Mp)))))
def qg : Q0 := .block 1 Wm
def Qbx : Q0 := .region [Mk 16 4, Ml 17 (.bin (.plain .add) (.t 16) (Mm 1)), Mk 4 17]
def zp : Q0 := .seq q9 (.seq qg Qbx)
def Qj2 : Q0 := .loop none zp
def Qnm : Q0 := .block 0 Qj2
def Qx5 : Q0 := .seq Qi4 Qnm
def Qiz : Q0 := .region [Mk 50 3, Ml 51 (.len false (.t 50)), Ml 52 (.bin (.plain .eql) (.t 51) (Mm 0))]
def Qit : Q0 := .cond (.t 52) ((Q0.region [Ml 53 (.buildSlice [.p (.int .i64 0)] 1 1 [(0, 1, Mm 0)]), Mk 2 53]).seq Q0.ret) Q0.skip
def Qyn : Q0 := .seq Qiz Qit
def Qzj : Q0 := .region [Mk 54 3, Mk 2 54]
def n16 : Q0 := .seq Qoe (.seq Qop (.seq Qx5 (.seq Qyn (.seq Qzj Q0.ret))))
def lit16 : Q2 := { ntmps := 55, results := [.tmp 2], body := n16 }
def Qt2 : Q0 := .region [Ml 3 (.box 5 (.t 0)), Ml 5 (.box 1 (.t 2)), Ml 6 (.alloc 37 [.p (.bool false), .p (.str []), .p (.str []), .p (.bool false)])]
def Qny : Q0 := .region [Mk 17 1, Ml 18 (.len false (.t 17)), Ml 19 (.bin (.plain .eql) (.t 18) (Mm 0)), Mk 20 19, ⟨some 21, .fieldAddr 2 (.t 3), some (20, false)⟩, ⟨some 22, .load false 1 (.t 21), some (20, false)⟩, ⟨some 23, .len false (.t 22), some (20, false)⟩, ⟨some 24, .bin (.plain .eql) (.t 23) (Mm 0), some (20, false)⟩, Ml 25 (.pick (.t 20) (.c (.p (.bool true))) (.t 24))]
def Qp4 : Q0 := .cond (.t 25) ((Q0.region [Ml 26 (.build [.p (.bool false), .p (.str []), .p (.str []), .p (.bool false)] [(0, 1, .c (.p (.bool true)))]), ⟨none, .store 4 (.t 6) (.t 26), none⟩]).seq Q0.ret) Q0.skip
def Qtt : Q0 := .seq Qny Qp4
def Qr6 : Q0 := .region [Ml 7 (.alloc 73 [.nil0])]
def Qij : Q0 := .region [Mk 27 1, Ml 28 (.idx 4 (.t 27) (Mm 0)), Ml 29 (.load true 4 (.t 28)), Ml 30 (.call (.c (.p (.fn 16))) [.t 29])]
def Ph : Q0 := .rng [31] (Q0.region [Ml 8 (.alloc 25 [.p (.str []), .p (.str []), .p (.int .i64 0), .nil0]), ⟨none, .store 4 (.t 8) (.t 31), none⟩]) (Q0.block 1 ((Q0.region [Ml 33 (.load true 5 (.t 3)), Ml 34 (.load true 4 (.t 8)), Mn 35 5, Ml 36 (.call (.c (.p (.fn 17))) [.t 33, .t 34, .t 35]), Mk 32 36, Ml 37 (.extract 0 (.t 32)), Ml 38 (.extract 1 (.t 32)), Ml 9 (.alloc 78 [.p (.int .i64 0), .p (.str []), .p (.int .i64 0), .p (.int .i64 0), .p (.str []), .p (.bool false)]), ⟨none, .store 6 (.t 9) (.t 37), none⟩, Mk 10 38]).seq ((Q0.region [Mk 39 10]).seq (Q0.cond (.t 39) (Q0.region [Mn 40 7, Ml 41 (.load true 6 (.t 9)), Ml 42 (.buildSlice [.p (.int .i64 0), .p (.str []), .p (.int .i64 0), .p (.int .i64 0), .p (.str []), .p (.bool false)] 1 6 [(0, 6, .t 41)]), Ml 43 (.append 78 6 [.p (.int .i64 0), .p (.str []), .p (.int .i64 0), .p (.int .i64 0), .p (.str []), .p (.bool false)] (.t 40) (.t 42)), ⟨none, .store 1 (.t 7) (.t 43), none⟩]) Q0.skip)))) (.t 30) [43, 42, 40, 41, 7, 39, 10, 38, 37, 9, 32, 36, 35, 34, 33, 5, 3, 31, 8]
def Qim : Q0 := .block 0 Ph
def Qxy : Q0 := .seq Qij Qim
def Qrx : Q0 := .region [Mo 44 2 3, Mn 45 44, Ml 46 (.idx 3 (.t 45) (Mm 0)), Mo 47 1 46, Mn 48 47, Mk 11 48]
def Qtj : Q0 := .region [Ml 12 (.mv (.c .nil0))]
def Qft : Q0 := .region [Mk 49 11, Ml 50 (.len false (.t 49)), Ml 51 (.mv (Mm 0))]
def Om : Q0 := .region [Ml 52 (.bin (.plain .lss) (.t 51) (.t 50))]
def Oq : Q0 := .cond (.t 52) Q0.skip (Q0.exit 2)
def Pp : Q0 := .region [Ml 53 (.idx 1 (.t 49) (.t 51)), Mn 54 53, Ml 14 (.alloc 3 [.p (.int .i64 0)]), ⟨none, .store 1 (.t 14) (.t 54), none⟩]
def Mt : Q0 := .region [Mn 55 7, Ml 56 (.mkFunc 19 [] [.t 14]), Ml 57 (.call (.c (.p (.fn 18))) [.t 55, .t 56]), Mk 15 57]
def Rj : Q0 := .region [Mk 58 15, Ml 59 (.bin (.plain .lss) (.t 58) (Mm 0))]
def Re : Q0 := .cond (.t 59) (Q0.exit 2) Q0.skip
def M0 : Q0 := .seq Rj Re
def Pe : Q0 := .region [Mk 60 12, Mn 61 7, Mk 62 15, Ml 63 (.idx 6 (.t 61) (.t 62)), Mo 64 2 63, Ml 65 (.load true 4 (.t 64)), Ml 66 (.buildSlice [.p (.int .i64 0), .p (.int .i64 0), .p (.str []), .p (.bool false)] 1 4 [(0, 4, .t 65)]), Ml 67 (.append 54 4 [.p (.int .i64 0), .p (.int .i64 0), .p (.str []), .p (.bool false)] (.t 60) (.t 66)), Mk 12 67]
def j9 : Q0 := .seq Pp (.seq Mt (.seq M0 Pe))
def Qcg : Q0 := .block 3 j9
def Vf : Q0 := .region [Ml 68 (.bin (.plain .add) (.t 51) (Mm 1)), Mk 51 68]
def Nu : Q0 := .seq Om (.seq Oq (.seq Qcg Vf))
def Qkw : Q0 := .loop none Nu
def Qon : Q0 := .block 2 Qkw
def Qxu : Q0 := .seq Qft Qon
def Qrv : Q0 := .region [Mk 69 12, Ml 70 (.call (.c (.p (.fn 20))) [.t 69]), Mk 71 12, Ml 72 (.call (.c (.p (.fn 20))) [.t 71]), Ml 73 (.build [.p (.bool false), .p (.str []), .p (.str []), .p (.bool false)] [(1, 1, .t 70), (2, 1, .t 72)]), Ml 16 (.alloc 37 [.p (.bool false), .p (.str []), .p (.str []), .p (.bool false)]), ⟨none, .store 4 (.t 16) (.t 73), none⟩]
def Qbp : Q0 := .region [Mk 74 12, Ml 75 (.len false (.t 74))]
def Ow : Q0 := .region [Mk 77 11, Ml 78 (.len false (.t 77)), Ml 79 (.bin (.plain .eql) (.t 75) (.t 78)), Mk 76 79]
def wh : Q0 := .region [Ml 80 (.load true 4 (.t 16)), ⟨none, .store 4 (.t 6) (.t 80), none⟩]
def Qb9 : Q0 := .seq wh Q0.ret
def Rx : Q0 := .region [Ml 82 (.bin (.plain .eql) (.t 75) (Mm 0)), Mk 81 82]
def L3 : Q0 := .cond (.t 81) ((Q0.draw 6 [0, 0, 2, 6, 15, 31] [Mn 83 7, Mk 84 11, Ml 85 (.idx 1 (.t 84) (Mm 0)), Mn 86 85, Ml 87 (.call (.c (.p (.fn 21))) [.t 83, .t 86]), ⟨none, .store 4 (.t 6) (.t 87), none⟩]).seq Q0.ret) Q0.skip
def wc : Q0 := .seq Rx L3
def Xr : Q0 := .cond (.t 76) Qb9 wc
def Qah : Q0 := .seq Ow Xr
def Us : Q0 := .block 4 Qah
def Qpn : Q0 := .seq Qbp Us
def Ql5 : Q0 := .region [Mo 88 2 16, Mn 89 88, Ml 90 (.call (.c (.p (.fn 22))) [.t 89]), Mo 91 2 16, ⟨none, .store 1 (.t 91) (.t 90), none⟩]
def Qk2 : Q0 := .region [Ml 92 (.load true 4 (.t 16)), ⟨none, .store 4 (.t 6) (.t 92), none⟩]
def n17 : Q0 := .seq Qt2 (.seq Qtt (.seq Qr6 (.seq Qxy (.seq Qrx (.seq Qtj (.seq Qxu (.seq Qrv (.seq Qpn (.seq Ql5 (.seq Qk2 Q0.ret))))))))))
def lit17 : Q2 := { ntmps := 93, results := [.cell 6 true 4], body := n17 }
def lit22 : Q2 := { ntmps := 4, results := [.tmp 2], body := (Q0.region [Ml 1 (.box 4 (.t 0)), Ml 2 (.mv (.c (.p .nilfn)))]).seq ((Q0.region [Ml 3 (.mkFunc 26 [] [.t 1]), Mk 2 3]).seq Q0.ret) }
def Qmu : Q0 := .region [Ml 3 (.box 5 (.t 0)), Ml 4 (.box 4 (.t 1)), Ml 6 (.alloc 78 [.p (.int .i64 0), .p (.str []), .p (.int .i64 0), .p (.int .i64 0), .p (.str []), .p (.bool false)]), Ml 7 (.mv (.c (.p (.bool false))))]
def Qmw : Q0 := .region [Mo 10 0 4, Mn 11 10, Mo 12 1 6, ⟨none, .store 1 (.t 12) (.t 11), none⟩]
def Qep : Q0 := .region [Mo 13 1 6, Mn 14 13, Ml 15 (.call (.c (.p (.fn 27))) [.t 14]), Ml 16 (.bin (.plain .eql) (.t 15) (.c (.p (.str [])))), Mk 17 16, ⟨some 18, .fieldAddr 3 (.t 4), some (17, false)⟩, ⟨some 19, .load false 1 (.t 18), some (17, false)⟩, ⟨some 20, .len false (.t 19), some (17, false)⟩, ⟨some 21, .bin (.plain .neq) (.t 20) (Mm 2), some (17, false)⟩, Ml 22 (.pick (.t 17) (.c (.p (.bool true))) (.t 21))]
def Qeh : Q0 := .cond (.t 22) ((Q0.region [Ml 23 (.load true 6 (.t 6)), ⟨none, .store 6 (.t 6) (.t 23), none⟩, Ml 7 (.mv (.c (.p (.bool false))))]).seq Q0.ret) Q0.skip
def Qmt : Q0 := .seq Qep Qeh
def Qss : Q0 := .draw 12 [0, 1, 3, 7, 0, 16, 48, 112, 0, 0, 783, 2047] [Mo 24 3 4, Mn 25 24, Ml 26 (.idx 4 (.t 25) (Mm 0)), Ml 27 (.load true 4 (.t 26)), Mo 28 3 4, Mn 29 28, Ml 30 (.idx 4 (.t 29) (Mm 1)), Ml 31 (.load true 4 (.t 30)), Ml 8 (.alloc 25 [.p (.str []), .p (.str []), .p (.int .i64 0), .nil0]), Ml 9 (.alloc 25 [.p (.str []), .p (.str []), .p (.int .i64 0), .nil0]), ⟨none, .store 4 (.t 8) (.t 27), none⟩, ⟨none, .store 4 (.t 9) (.t 31), none⟩]
def Qi8 : Q0 := .region [Mo 32 0 8, Mn 33 32, Ml 34 (.bin (.plain .neq) (.t 33) (.c (.p (.str [115, 108, 111, 116]))))]
def xu : Q0 := .draw 9 [0, 0, 0, 4, 12, 31, 63, 127, 255] [Ml 35 (.load true 4 (.t 9)), Ml 36 (.load true 4 (.t 8)), Mo 37 1 6, Mn 38 37, Ml 39 (.call (.c (.p (.fn 27))) [.t 38]), ⟨none, .store 4 (.t 8) (.t 35), none⟩, ⟨none, .store 4 (.t 9) (.t 36), none⟩, Mo 40 1 6, ⟨none, .store 1 (.t 40) (.t 39), none⟩]
def Qh8 : Q0 := .cond (.t 34) xu Q0.skip
def Qp1 : Q0 := .seq Qi8 Qh8
def Qtk : Q0 := .region [Ml 42 (.load true 4 (.t 9)), Ml 43 (.call (.c (.p (.fn 28))) [.t 42]), Mk 41 43, Ml 44 (.extract 0 (.t 41)), Ml 45 (.extract 1 (.t 41)), Mo 46 2 6, ⟨none, .store 4 (.t 46) (.t 44), none⟩, Mk 7 45]
def jt : Q0 := .region [Mk 47 7, Ml 48 (.un .not (.t 47)), Mk 49 48, ⟨some 50, .fieldAddr 0 (.t 8), some (49, false)⟩, ⟨some 51, .load false 1 (.t 50), some (49, false)⟩, ⟨some 52, .bin (.plain .neq) (.t 51) (.c (.p (.str [115, 108, 111, 116]))), some (49, false)⟩, Ml 53 (.pick (.t 49) (.c (.p (.bool true))) (.t 52)), Mk 54 53, ⟨some 55, .fieldAddr 2 (.t 8), some (54, false)⟩, ⟨some 56, .load false 1 (.t 55), some (54, false)⟩, ⟨some 57, .mv (.t 2), some (54, false)⟩, ⟨some 58, .bin (.plain .lss) (.t 56) (.t 57), some (54, false)⟩, Ml 59 (.pick (.t 54) (.c (.p (.bool true))) (.t 58)), Mk 60 59, ⟨some 61, .fieldAddr 2 (.t 8), some (60, false)⟩, ⟨some 62, .load false 1 (.t 61), some (60, false)⟩, ⟨some 63, .mv (.t 2), some (60, false)⟩, ⟨some 64, .fieldAddr 1 (.t 3), some (60, false)⟩, ⟨some 65, .load false 1 (.t 64), some (60, false)⟩, ⟨some 66, .len false (.t 65), some (60, false)⟩, ⟨some 67, .bin (.plain .add) (.t 63) (.t 66), some (60, false)⟩, ⟨some 68, .minmax false [Mm 1000, .t 67], some (60, false)⟩, ⟨some 69, .bin (.plain .geq) (.t 62) (.t 68), some (60, false)⟩, Ml 70 (.pick (.t 60) (.c (.p (.bool true))) (.t 69))]
def jo : Q0 := .cond (.t 70) ((Q0.region [Ml 71 (.load true 6 (.t 6)), ⟨none, .store 6 (.t 6) (.t 71), none⟩, Ml 7 (.mv (.c (.p (.bool false))))]).seq Q0.ret) Q0.skip
def Qei : Q0 := .seq jt jo
def Que : Q0 := .region [Mo 72 2 8, Mn 73 72, Mk 74 2, Ml 75 (.bin (.plain .sub) (.t 73) (.t 74)), Mo 76 0 6, ⟨none, .store 1 (.t 76) (.t 75), none⟩]
def yx : Q0 := .draw 15 [0, 0, 2, 0, 8, 30, 62, 126, 254, 0, 512, 1536, 4094, 4095, 16383] [Ml 77 (.load true 6 (.t 6)), Mo 78 1 3, Mn 79 78, Mo 80 0 6, Mn 81 80, Ml 82 (.idx 4 (.t 79) (.t 81)), Mo 83 1 82, Ml 84 (.load true 2 (.t 83)), Ml 85 (.call (.c (.p (.fn 29))) [.t 84]), Mo 86 2 6, Mo 87 0 86, Mn 88 87, Ml 89 (.bin (.plain .eql) (.t 85) (.t 88)), ⟨none, .store 6 (.t 6) (.t 77), none⟩, Mk 7 89]
def n23 : Q0 := .seq Qmu (.seq Qmw (.seq Qmt (.seq Qss (.seq Qp1 (.seq Qtk (.seq Qei (.seq Que (.seq yx Q0.ret))))))))
def lit23 : Q2 := { ntmps := 90, results := [.cell 6 true 6, .tmp 7], body := n23 }
def Qrz : Q0 := .region [Ml 4 (.mv (Mm 0))]
def Qdu : Q0 := .region [Mk 6 0, Ml 7 (.len false (.t 6)), Ml 8 (.mv (Mm 0))]
def Vt : Q0 := .region [Ml 9 (.bin (.plain .lss) (.t 8) (.t 7))]
def Uu : Q0 := .cond (.t 9) Q0.skip (Q0.exit 0)
def Tw : Q0 := .region [Mk 10 8, Mk 5 10]
def Ts : Q0 := .region [Mk 11 1, Mk 12 0, Mk 13 5, Ml 14 (.idx 6 (.t 12) (.t 13)), Ml 15 (.load true 6 (.t 14)), Ml 16 (.call (.t 11) [.t 15])]
def Tn : Q0 := .cond (.t 16) ((Q0.region [Mk 17 5, Mk 4 17]).seq Q0.ret) Q0.skip
def Wj : Q0 := .seq Tw (.seq Ts Tn)
def qv : Q0 := .block 1 Wj
def Qbv : Q0 := .region [Ml 18 (.bin (.plain .add) (.t 8) (Mm 1)), Mk 8 18]
def Rc : Q0 := .seq Vt (.seq Uu (.seq qv Qbv))
def Qfx : Q0 := .loop none Rc
def Qbh : Q0 := .block 0 Qfx
def n24_2 : Q0 := .seq Qdu Qbh
def n24_3 : Q0 := .region [Ml 4 (.mv (.c (.p (.int .i64 ((-1))))))]
def n24 : Q0 := .seq Qrz (.seq n24_2 (.seq n24_3 Q0.ret))
def lit24 : Q2 := { ntmps := 19, results := [.tmp 4], body := n24 }
def lit25 : Q2 := { ntmps := 13, results := [.tmp 3], body := (Q0.region [Ml 2 (.box 6 (.t 0)), Ml 3 (.mv (.c (.p (.bool false))))]).seq ((Q0.region [Mo 4 0 2, Mn 5 4, Mn 6 1, Ml 7 (.bin (.plain .eql) (.t 5) (.t 6)), Mk 8 7, ⟨some 9, .fieldAddr 1 (.t 2), some (8, true)⟩, ⟨some 10, .load false 1 (.t 9), some (8, true)⟩, ⟨some 11, .bin (.plain .eql) (.t 10) (.c (.p (.str [61]))), some (8, true)⟩, Ml 12 (.pick (.t 8) (.t 11) (.c (.p (.bool false)))), Mk 3 12]).seq Q0.ret) }
def lit26 : Q2 := { ntmps := 69, results := [.tmp 2], body := (Q0.region [Ml 2 (.mv (.c (.p (.str []))))]).seq ((Q0.region [Ml 3 (.mv (.c .nil0))]).seq (((Q0.region [Mk 8 0, Ml 9 (.len false (.t 8)), Ml 10 (.mv (Mm 0))]).seq (Q0.block 0 (Q0.loop none ((Q0.region [Ml 11 (.bin (.plain .lss) (.t 10) (.t 9))]).seq ((Q0.cond (.t 11) Q0.skip (Q0.exit 0)).seq ((Q0.block 1 ((Q0.region [Ml 12 (.idx 4 (.t 8) (.t 10)), Ml 13 (.load true 4 (.t 12)), Ml 5 (.alloc 54 [.p (.int .i64 0), .p (.int .i64 0), .p (.str []), .p (.bool false)]), ⟨none, .store 4 (.t 5) (.t 13), none⟩]).seq ((Q0.region [Mo 14 0 5, Mn 15 14]).seq (Q0.block 2 ((Q0.region [Ml 17 (.bin (.plain .eql) (.t 15) (Mm 0)), Mk 16 17]).seq (Q0.cond (.t 16) (Q0.region [Mk 18 3, Ml 19 (.buildSlice [.p (.int .u8 0)] 1 1 [(0, 1, .c (.p (.int .u8 1)))]), Ml 20 (.append 5 1 [.p (.int .u8 0)] (.t 18) (.t 19)), Mk 3 20]) ((Q0.region [Ml 22 (.bin (.plain .eql) (.t 15) (Mm 1)), Mk 21 22]).seq (Q0.cond (.t 21) ((Q0.region [Mk 23 3, Ml 24 (.buildSlice [.p (.int .u8 0)] 1 1 [(0, 1, .c (.p (.int .u8 2)))]), Ml 25 (.append 5 1 [.p (.int .u8 0)] (.t 23) (.t 24)), Mk 3 25]).seq ((Q0.region [Mo 26 1 5, Mn 27 26, Ml 28 (.convInt .u64 (.t 27)), Ml 29 (.bin (.plain .xor) (.t 28) (.c (.p (.int .u64 9223372036854775808)))), Mk 6 29, Ml 7 (.mv (Mm 56))]).seq (Q0.block 3 (Q0.loop none (((Q0.region [Mk 30 7, Ml 31 (.bin (.plain .geq) (.t 30) (Mm 0))]).seq (Q0.cond (.t 31) Q0.skip (Q0.exit 3))).seq ((Q0.block 4 (Q0.region [Mk 34 3, Mk 35 6, Mk 36 7, Ml 37 (.bin (.plain .shr) (.t 35) (.t 36)), Ml 38 (.convInt .u8 (.t 37)), Ml 39 (.buildSlice [.p (.int .u8 0)] 1 1 [(0, 1, .t 38)]), Ml 40 (.append 5 1 [.p (.int .u8 0)] (.t 34) (.t 39)), Mk 3 40])).seq (Q0.region [Mk 32 7, Ml 33 (.bin (.plain .sub) (.t 32) (Mm 8)), Mk 7 33]))))))) ((Q0.region [Ml 42 (.bin (.plain .eql) (.t 15) (Mm 2)), Mk 41 42]).seq (Q0.cond (.t 41) ((Q0.region [Mk 43 3, Ml 44 (.buildSlice [.p (.int .u8 0)] 1 1 [(0, 1, .c (.p (.int .u8 3)))]), Ml 45 (.append 5 1 [.p (.int .u8 0)] (.t 43) (.t 44)), Mk 3 45]).seq ((Q0.region [Mk 46 3, Mo 47 2 5, Mn 48 47, Ml 49 (.call (.c (.p (.fn 31))) [.t 48, .c (.p (.str [32]))]), Ml 50 (.call (.c (.p (.fn 30))) [.t 49, .c (.p (.str [0])), .c (.p (.str [0, 255]))]), Ml 51 (.append 5 1 [.p (.int .u8 0)] (.t 46) (.t 50)), Mk 3 51]).seq (Q0.region [Mk 52 3, Ml 53 (.append 5 1 [.p (.int .u8 0)] (.t 52) (.c (.p (.str [0, 0])))), Mk 3 53]))) ((Q0.region [Ml 55 (.bin (.plain .eql) (.t 15) (Mm 3)), Mk 54 55]).seq (Q0.cond (.t 54) ((Q0.region [Mk 56 3, Ml 57 (.buildSlice [.p (.int .u8 0)] 2 1 [(0, 1, .c (.p (.int .u8 4))), (1, 1, .c (.p (.int .u8 0)))]), Ml 58 (.append 5 1 [.p (.int .u8 0)] (.t 56) (.t 57)), Mk 3 58]).seq ((Q0.region [Mo 59 3 5, Mn 60 59]).seq (Q0.cond (.t 60) (Q0.region [Mk 61 3, Mk 62 3, Ml 63 (.len false (.t 62)), Ml 64 (.bin (.plain .sub) (.t 63) (Mm 1)), Ml 65 (.idx 1 (.t 61) (.t 64)), ⟨none, .store 1 (.t 65) (.c (.p (.int .u8 1))), none⟩]) Q0.skip))) Q0.skip)))))))))))).seq (Q0.region [Ml 66 (.bin (.plain .add) (.t 10) (Mm 1)), Mk 10 66]))))))).seq ((Q0.region [Mk 67 3, Ml 68 (.bytesStr (.t 67)), Mk 2 68]).seq Q0.ret))) }
def Qs8 : Q0 := .region [Ml 4 (.alloc 37 [.p (.bool false), .p (.str []), .p (.str []), .p (.bool false)])]
def Qru : Q0 := .region [Ml 10 (.build [.p (.bool false), .p (.str []), .p (.str []), .p (.bool false)] [(2, 1, .c (.p (.str [255])))]), Ml 5 (.alloc 37 [.p (.bool false), .p (.str []), .p (.str []), .p (.bool false)]), ⟨none, .store 4 (.t 5) (.t 10), none⟩, Ml 6 (.mv (.c (.p (.bool false))))]
def Qef : Q0 := .region [Mk 11 0, Ml 12 (.len false (.t 11)), Ml 13 (.mv (Mm 0))]
def R5 : Q0 := .region [Ml 14 (.bin (.plain .lss) (.t 13) (.t 12))]
def Sf : Q0 := .cond (.t 14) Q0.skip (Q0.exit 0)
def Pj : Q0 := .region [Ml 15 (.idx 6 (.t 11) (.t 13)), Ml 16 (.load true 6 (.t 15)), Ml 8 (.alloc 78 [.p (.int .i64 0), .p (.str []), .p (.int .i64 0), .p (.int .i64 0), .p (.str []), .p (.bool false)]), ⟨none, .store 6 (.t 8) (.t 16), none⟩]
def M9 : Q0 := .region [Mo 17 0 8, Mn 18 17, Mk 19 1, Ml 20 (.bin (.plain .neq) (.t 18) (.t 19)), Mk 21 20, ⟨some 22, .fieldAddr 1 (.t 8), some (21, false)⟩, ⟨some 23, .load false 1 (.t 22), some (21, false)⟩, ⟨some 24, .bin (.plain .eql) (.t 23) (.c (.p (.str [61]))), some (21, false)⟩, Ml 25 (.pick (.t 21) (.c (.p (.bool true))) (.t 24))]
def M8 : Q0 := .cond (.t 25) (Q0.exit 1) Q0.skip
def Hb : Q0 := .seq M9 M8
def Mv : Q0 := .region [Ml 6 (.mv (.c (.p (.bool true))))]
def Mw : Q0 := .region [Mo 26 2 8, Ml 27 (.load true 4 (.t 26)), Ml 28 (.buildSlice [.p (.int .i64 0), .p (.int .i64 0), .p (.str []), .p (.bool false)] 1 4 [(0, 4, .t 27)]), Ml 29 (.call (.c (.p (.fn 20))) [.t 28]), Mk 9 29]
def Fb : Q0 := .region [Mo 30 1 8, Mn 31 30, Ml 32 (.atStr (.t 31) (Mm 0)), Ml 33 (.bin (.plain .eql) (.t 32) (.c (.p (.int .u8 62))))]
def Nr : Q0 := .region [Mo 34 1 5, Mn 35 34, Mk 36 9, Ml 37 (.minmax true [.t 35, .t 36]), Mo 38 1 5, ⟨none, .store 1 (.t 38) (.t 37), none⟩]
def Nw : Q0 := .draw 7 [0, 1, 0, 4, 15, 31, 63] [Mo 39 2 5, Mn 40 39, Mk 41 9, Ml 42 (.call (.c (.p (.fn 22))) [.t 41]), Ml 43 (.minmax false [.t 40, .t 42]), Mo 44 2 5, ⟨none, .store 1 (.t 44) (.t 43), none⟩]
def Hd : Q0 := .cond (.t 33) Nr Nw
def yj : Q0 := .seq Pj (.seq Hb (.seq Mv (.seq Mw (.seq Fb Hd))))
def Qb7 : Q0 := .block 1 yj
def R8 : Q0 := .region [Ml 45 (.bin (.plain .add) (.t 13) (Mm 1)), Mk 13 45]
def Pz : Q0 := .seq R5 (.seq Sf (.seq Qb7 R8))
def Qk8 : Q0 := .loop none Pz
def Qjh : Q0 := .block 0 Qk8
def n27_3 : Q0 := .seq Qef Qjh
def x9 : Q0 := .region [Mk 47 6, Ml 48 (.un .not (.t 47)), Mk 46 48]
def Qby : Q0 := .region [Ml 49 (.build [.p (.bool false), .p (.str []), .p (.str []), .p (.bool false)] [(0, 1, .c (.p (.bool true)))]), ⟨none, .store 4 (.t 4) (.t 49), none⟩]
def Qh0 : Q0 := .seq Qby Q0.ret
def qy : Q0 := .region [Mo 51 1 5, Mn 52 51, Mo 53 2 5, Mn 54 53, Ml 55 (.bin (.plain .gtr) (.t 52) (.t 54)), Mk 50 55]
def qx : Q0 := .cond (.t 50) ((Q0.region [Ml 56 (.build [.p (.bool false), .p (.str []), .p (.str []), .p (.bool false)] [(3, 1, .c (.p (.bool true)))]), ⟨none, .store 4 (.t 4) (.t 56), none⟩]).seq Q0.ret) Q0.skip
def Qbm : Q0 := .seq qy qx
def xi : Q0 := .cond (.t 46) Qh0 Qbm
def Qjs : Q0 := .seq x9 xi
def Qt9 : Q0 := .block 2 Qjs
def n27_5 : Q0 := .region [Ml 57 (.load true 4 (.t 5)), ⟨none, .store 4 (.t 4) (.t 57), none⟩]
def n27 : Q0 := .seq Qs8 (.seq Qru (.seq n27_3 (.seq Qt9 (.seq n27_5 Q0.ret))))
def lit27 : Q2 := { ntmps := 58, results := [.cell 4 true 4], body := n27 }
def lit28 : Q2 := { ntmps := 5, results := [.tmp 2], body := (Q0.region [Ml 2 (.mv (.c (.p (.str []))))]).seq ((Q0.region [Mk 3 0, Ml 4 (.bin (.plain .add) (.t 3) (.c (.p (.str [255])))), Mk 2 4]).seq Q0.ret) }
def Qiw : Q0 := .region [Ml 2 (.box 1 (.t 0))]
def Qes : Q0 := .region [Mo 6 0 1, Mn 7 6, Ml 8 (.bin (.plain .neq) (.t 7) (.c (.p (.str [97, 110, 100])))), Mk 9 8, ⟨some 10, .fieldAddr 3 (.t 1), some (9, false)⟩, ⟨some 11, .load false 1 (.t 10), some (9, false)⟩, ⟨some 12, .len false (.t 11), some (9, false)⟩, ⟨some 13, .bin (.plain .neq) (.t 12) (Mm 2), some (9, false)⟩, Ml 14 (.pick (.t 9) (.c (.p (.bool true))) (.t 13))]
def Qfg : Q0 := .cond (.t 14) ((Q0.region [Mn 15 2, Ml 16 (.load true 4 (.t 1)), Ml 17 (.call (.t 15) [.t 16])]).seq Q0.ret) Q0.skip
def Qhl : Q0 := .seq Qes Qfg
def Qo4 : Q0 := .region [Mo 18 3 1, Mn 19 18, Ml 20 (.len false (.t 19)), Ml 21 (.mv (Mm 0))]
def wq : Q0 := .region [Ml 22 (.bin (.plain .lss) (.t 21) (.t 20))]
def zf : Q0 := .cond (.t 22) Q0.skip (Q0.exit 0)
def We : Q0 := .region [Ml 23 (.idx 4 (.t 19) (.t 21)), Ml 24 (.load true 4 (.t 23)), Ml 4 (.alloc 25 [.p (.str []), .p (.str []), .p (.int .i64 0), .nil0]), ⟨none, .store 4 (.t 4) (.t 24), none⟩]
def Wr : Q0 := .region [Ml 25 (.load true 4 (.t 4)), Ml 26 (.call (.c (.p (.fn 16))) [.t 25])]
def Et : Q0 := .rng [27] (Q0.region [Ml 5 (.alloc 25 [.p (.str []), .p (.str []), .p (.int .i64 0), .nil0]), ⟨none, .store 4 (.t 5) (.t 27), none⟩]) (Q0.block 3 ((Q0.region [Mn 28 2, Ml 29 (.load true 4 (.t 5)), Ml 30 (.call (.t 28) [.t 29]), Ml 31 (.un .not (.t 30))]).seq (Q0.cond (.t 31) Q0.ret Q0.skip))) (.t 26) [31, 30, 29, 28, 2, 27, 5]
def W5 : Q0 := .block 2 Et
def Qc2 : Q0 := .seq We (.seq Wr W5)
def Qcd : Q0 := .block 1 Qc2
def Qf3 : Q0 := .region [Ml 32 (.bin (.plain .add) (.t 21) (Mm 1)), Mk 21 32]
def Qb1 : Q0 := .seq wq (.seq zf (.seq Qcd Qf3))
def Qwh : Q0 := .loop none Qb1
def Qxn : Q0 := .block 0 Qwh
def n29 : Q0 := .seq Qiw (.seq Qhl (.seq Qo4 Qxn))
def lit29 : Q2 := { ntmps := 33, results := [], body := n29 }
def lit30 : Q2 := { ntmps := 14, results := [.tmp 2], body := (Q0.region [Ml 2 (.mv (.c (.p (.str []))))]).seq (((Q0.region [Mk 3 0]).seq (Q0.block 0 ((Q0.region [Ml 5 (.bin (.plain .eql) (.t 3) (.c (.p (.str [61])))), Mk 4 5]).seq (Q0.cond (.t 4) ((Q0.region [Ml 2 (.mv (.c (.p (.str [61]))))]).seq Q0.ret) ((Q0.region [Ml 7 (.bin (.plain .eql) (.t 3) (.c (.p (.str [60])))), Mk 6 7]).seq (Q0.cond (.t 6) ((Q0.region [Ml 2 (.mv (.c (.p (.str [62]))))]).seq Q0.ret) ((Q0.region [Ml 9 (.bin (.plain .eql) (.t 3) (.c (.p (.str [60, 61])))), Mk 8 9]).seq (Q0.cond (.t 8) ((Q0.region [Ml 2 (.mv (.c (.p (.str [62, 61]))))]).seq Q0.ret) ((Q0.region [Ml 11 (.bin (.plain .eql) (.t 3) (.c (.p (.str [62])))), Mk 10 11]).seq (Q0.cond (.t 10) ((Q0.region [Ml 2 (.mv (.c (.p (.str [60]))))]).seq Q0.ret) ((Q0.region [Ml 13 (.bin (.plain .eql) (.t 3) (.c (.p (.str [62, 61])))), Mk 12 13]).seq (Q0.cond (.t 12) ((Q0.region [Ml 2 (.mv (.c (.p (.str [60, 61]))))]).seq Q0.ret) Q0.skip)))))))))))).seq ((Q0.region [Ml 2 (.mv (.c (.p (.str []))))]).seq Q0.ret)) }
def Qy1 : Q0 := .region [Ml 1 (.box 4 (.t 0)), Ml 2 (.alloc 54 [.p (.int .i64 0), .p (.int .i64 0), .p (.str []), .p (.bool false)]), Ml 3 (.mv (.c (.p (.bool false))))]
def Qir : Q0 := .region [Mo 4 0 1, Mn 5 4]
def L1 : Q0 := .region [Ml 7 (.bin (.plain .eql) (.t 5) (.c (.p (.str [110, 117, 109])))), Mk 6 7]
def Ey : Q0 := .region [Mo 8 2 1, Mn 9 8, Ml 10 (.call (.c (.p (.fn 44))) [.t 9]), ⟨none, .store 4 (.t 2) (.t 10), none⟩, Ml 3 (.mv (.c (.p (.bool true))))]
def I7 : Q0 := .seq Ey Q0.ret
def Ev : Q0 := .region [Ml 12 (.bin (.plain .eql) (.t 5) (.c (.p (.str [116, 101, 120, 116])))), Mk 11 12]
def Bf : Q0 := .region [Mo 13 1 1, Mn 14 13, Ml 15 (.call (.c (.p (.fn 45))) [.t 14]), ⟨none, .store 4 (.t 2) (.t 15), none⟩, Ml 3 (.mv (.c (.p (.bool true))))]
def Dl : Q0 := .seq Bf Q0.ret
def Bh : Q0 := .region [Ml 17 (.bin (.plain .eql) (.t 5) (.c (.p (.str [98, 111, 111, 108])))), Mk 16 17]
def Yd : Q0 := .region [Mo 18 2 1, Mn 19 18, Ml 20 (.bin (.plain .neq) (.t 19) (Mm 0)), Ml 21 (.build [.p (.int .i64 0), .p (.int .i64 0), .p (.str []), .p (.bool false)] [(0, 1, Mm 3), (3, 1, .t 20)]), ⟨none, .store 4 (.t 2) (.t 21), none⟩, Ml 3 (.mv (.c (.p (.bool true))))]
def Yx : Q0 := .seq Yd Q0.ret
def Ye : Q0 := .region [Ml 23 (.bin (.plain .eql) (.t 5) (.c (.p (.str [110, 101, 103])))), Mk 22 23]
def Ge : Q0 := .region [Mo 24 3 1, Mn 25 24, Ml 26 (.len false (.t 25)), Ml 27 (.bin (.plain .eql) (.t 26) (Mm 1)), Mk 28 27, ⟨some 29, .fieldAddr 3 (.t 1), some (28, true)⟩, ⟨some 30, .load false 1 (.t 29), some (28, true)⟩, ⟨some 31, .idx 4 (.t 30) (Mm 0), some (28, true)⟩, ⟨some 32, .fieldAddr 0 (.t 31), some (28, true)⟩, ⟨some 33, .load false 1 (.t 32), some (28, true)⟩, ⟨some 34, .bin (.plain .eql) (.t 33) (.c (.p (.str [110, 117, 109]))), some (28, true)⟩, Ml 35 (.pick (.t 28) (.t 34) (.c (.p (.bool false))))]
def Jx : Q0 := .region [Mo 36 3 1, Mn 37 36, Ml 38 (.idx 4 (.t 37) (Mm 0)), Mo 39 2 38, Mn 40 39, Ml 41 (.un .neg (.t 40)), Ml 42 (.call (.c (.p (.fn 44))) [.t 41]), ⟨none, .store 4 (.t 2) (.t 42), none⟩, Ml 3 (.mv (.c (.p (.bool true))))]
def J6 : Q0 := .seq Jx Q0.ret
def Gb : Q0 := .cond (.t 35) J6 Q0.skip
def Gy : Q0 := .seq Ge Gb
def Yb : Q0 := .cond (.t 22) Gy Q0.skip
def Yv : Q0 := .seq Ye Yb
def Bg : Q0 := .cond (.t 16) Yx Yv
def Dn : Q0 := .seq Bh Bg
def Ez : Q0 := .cond (.t 11) Dl Dn
def Iu : Q0 := .seq Ev Ez
def L8 : Q0 := .cond (.t 6) I7 Iu
def Qjz : Q0 := .seq L1 L8
def Qnp : Q0 := .block 0 Qjz
def n31_2 : Q0 := .seq Qir Qnp
def Qfh : Q0 := .region [Ml 43 (.build [.p (.int .i64 0), .p (.int .i64 0), .p (.str []), .p (.bool false)] []), ⟨none, .store 4 (.t 2) (.t 43), none⟩, Ml 3 (.mv (.c (.p (.bool false))))]
def n31 : Q0 := .seq Qy1 (.seq n31_2 (.seq Qfh Q0.ret))
def lit31 : Q2 := { ntmps := 44, results := [.cell 2 true 4, .tmp 3], body := n31 }
def lit35 : Q2 := { ntmps := 5, results := [.cell 2 true 4], body := (Q0.region [Ml 2 (.alloc 54 [.p (.int .i64 0), .p (.int .i64 0), .p (.str []), .p (.bool false)])]).seq ((Q0.region [Mk 3 0, Ml 4 (.build [.p (.int .i64 0), .p (.int .i64 0), .p (.str []), .p (.bool false)] [(0, 1, Mm 1), (1, 1, .t 3)]), ⟨none, .store 4 (.t 2) (.t 4), none⟩]).seq Q0.ret) }
def lit36 : Q2 := { ntmps := 5, results := [.cell 2 true 4], body := (Q0.region [Ml 2 (.alloc 54 [.p (.int .i64 0), .p (.int .i64 0), .p (.str []), .p (.bool false)])]).seq ((Q0.region [Mk 3 0, Ml 4 (.build [.p (.int .i64 0), .p (.int .i64 0), .p (.str []), .p (.bool false)] [(0, 1, Mm 2), (2, 1, .t 3)]), ⟨none, .store 4 (.t 2) (.t 4), none⟩]).seq Q0.ret) }
end Go.Ab.Turn
namespace Go.Ab.Turn
open Go Go.Ab Go.Ab.Plan Go.Ab.Key Go.Ab.Cnt Go.Proofs
attribute [local simp] Uw Qe7 AV.cells N0 O5 finA qc resA resV ansV
variable [Q4]
def yu : Q0 := (((Q0.region [Mk 7 6, Mo 8 3 2, Mn 9 8, Ml 10 (.len false (.t 9)), Ml 11 (.bin (.plain .lss) (.t 7) (.t 10)), Mk 12 11, ⟨some 13, .mv (.t 5), some (12, true)⟩, ⟨some 14, .mv (.t 1), some (12, true)⟩, ⟨some 15, .bin (.plain .leq) (.t 13) (.t 14), some (12, true)⟩, Ml 16 (.pick (.t 12) (.t 15) (.c (.p (.bool false))))]).seq (Q0.cond (.t 16) Q0.skip (Q0.exit 0))).seq ((Q0.block 1 (Q0.region [Mk 19 5, Mo 20 3 2, Mn 21 20, Mk 22 6, Ml 23 (.idx 4 (.t 21) (.t 22)), Ml 24 (.load true 4 (.t 23)), Mk 25 1, Mk 26 5, Ml 27 (.bin (.plain .sub) (.t 25) (.t 26)), Ml 28 (.call (.c (.p (.fn 4))) [.t 24, .t 27]), Ml 29 (.bin (.plain .add) (.t 19) (.t 28)), Mk 5 29])).seq (Q0.region [Mk 17 6, Ml 18 (.bin (.plain .add) (.t 17) (Mm 1)), Mk 6 18])))
theorem lit14_eq : lit14.body = (Q0.region [Ml 2 (.box 4 (.t 0)), Ml 4 (.mv (Mm 0))]).seq ((Q0.region [Ml 5 (.mv (Mm 1))]).seq (((Q0.region [Ml 6 (.mv (Mm 0))]).seq (Q0.block 0 (Q0.loop none yu))).seq ((Q0.region [Mk 30 5, Mk 4 30]).seq Q0.ret))) := rfl
abbrev int (n : Int) : AV := .p (.int .i64 n)
section
variable (C : Zj) (L : Nat) (op s : Word) (n left : Int) (l : List T) (M : Env) (i : Nat) (k : Int)
structure At14 (M : Env) (i : Nat) (k : Int) : Prop where
 t1 : M.get 1 = some (int left)
 t2 : M.get 2 = some (.ptr 0 0 0)
 t5 : M.get 5 = some (int k)
 t6 : M.get 6 = some (int i)
abbrev W7 : Heap := [.arr (.pv (cells (.mk op s n l))) 0 0 none]
theorem stop14 (h : At14 left M i k) (hs : l.length <= i ∨ left < k) : ∃ M' : Env, exec C L yu ⟨M, [], W7 op s n l⟩ = some (.exit 0, ⟨M', [], W7 op s n l⟩) /\ M'.get 5 = some (int k) := by
 by_cases hi : (i : Int) < (l.length : Int)
 · have hk : ¬ k <= left := by omega
   exact ⟨_, by simp [yu, cells, W7, h.t1, h.t2, h.t5, h.t6, hi, hk, lenA]; rfl, by simp [h.t5]⟩
 · exact ⟨_, by simp [yu, cells, W7, h.t1, h.t2, h.t5, h.t6, hi, lenA]; rfl, by simp [h.t5]⟩
theorem go14 (h : At14 left M i k) (c : T) (hc : l[i]? = some c) (hl : l.length <= 1048576) (hk : k <= left) (K : Int)
   (hC : ∀ σ, C 4 [.p (node c), int (IntKind.i64.wrap (left - k))] σ = some (.ret (int K), σ)) :
   ∃ M' : Env, exec C L yu ⟨M, [], W7 op s n l⟩ = some (.normal, ⟨M', [], W7 op s n l⟩) /\ At14 left M' (i + 1) (IntKind.i64.wrap (k + K)) := by
 have hi : i < l.length := (List.getElem?_eq_some_iff.1 hc).1
 have hi' : (i : Int) < (l.length : Int) := by omega
 have d1 := Qca l i c hc
 have d3 : 4 <= (Zs l).length - i * 4 := by rw [z6]; omega
 have e1 : IntKind.i64.wrap ((i : Int) + 1) = (i : Int) + 1 := J5 _ (by omega) (by omega)
 refine ⟨_, by simp [yu, cells, W7, idxA, h.t1, h.t2, h.t5, h.t6, hi, hi', hk, lenA, d1, d3, e1, hC]; rfl, ⟨?_, ?_, ?_, ?_⟩⟩
 · simp [h.t1]
 · simp [h.t2]
 · simp
 · simp
end
theorem Qwp (C : Zj) (L : Nat) (op s : Word) (n left : Int) (l : List T) (hl : l.length <= 1048576)
   (hC : ∀ c ∈ l, ∀ x, ∃ K, ∀ σ, C 4 [.p (node c), int x] σ = some (.ret (int K), σ)) :
   ∀ (d f i : Nat) (k : Int) (M : Env), l.length - i <= d -> d < f -> At14 left M i k ->
   ∃ (M' : Env) (K : Int), iter (exec C L yu) none f ⟨M, [], W7 op s n l⟩ = some (.exit 0, ⟨M', [], W7 op s n l⟩) /\ M'.get 5 = some (int K)
 | d, f, i, k, M, hd, hf, h => by
   obtain ⟨f, rfl⟩ : ∃ m, f = m + 1 := ⟨f - 1, by omega⟩
   by_cases hs : l.length <= i ∨ left < k
   · obtain ⟨M', e, g5⟩ := stop14 C L op s n left l M i k h hs
     exact ⟨M', k, by simp only [iter, St.keep, e], g5⟩
   · have hi : i < l.length := by omega
     have ex : l[i]? = some l[i] := List.getElem?_eq_getElem hi
     obtain ⟨K, hK⟩ := hC _ (List.getElem_mem hi) (IntKind.i64.wrap (left - k))
     obtain ⟨M1, e, h1⟩ := go14 C L op s n left l M i k h _ ex hl (by omega) K hK
     obtain ⟨d, rfl⟩ : ∃ m, d = m + 1 := ⟨d - 1, by omega⟩
     obtain ⟨M', K', e', q⟩ := Qwp C L op s n left l hl hC d f (i + 1) _ M1 (by omega) (by omega) h1
     exact ⟨M', K', by simp only [iter, St.keep, e]; exact e', q⟩
theorem Qqc {T : Ld} {L : Nat} (hT : T 4 = some (.code lit14 true)) : ∀ (m : Nat) (t : Turn.T), deep t <= m -> okT t -> zz t < L -> ∀ x, ∃ K, ∀ σ, (cAt T L m).1 4 [.p (node t), int x] σ = some (.ret (int K), σ)
 | 0, .mk _ _ _ _, h, _, _, _ => by simp [deep] at h
 | m + 1, .mk op s n l, h, hok, hb, x => by
   simp only [deep, Nat.add_le_add_iff_right] at h
   simp only [zz] at hb
   simp only [okT, allT] at hok
   have hl : l.length < L := Nat.lt_of_le_of_lt (Nat.le_max_left _ _) hb
   have ih : ∀ c ∈ l, ∀ x, ∃ K, ∀ σ, (cAt T L m).1 4 [.p (node c), int x] σ = some (.ret (int K), σ) := fun c hc x =>
     Qqc hT m c (Nat.le_trans (Ua hc) h) (R9 hok.2 hc) (Nat.lt_of_le_of_lt (Qc6 hc) (Nat.lt_of_le_of_lt (Nat.le_max_right _ _) hb)) x
   have key : ∃ K, ansV (Z8 (cAt T L m).1 (cAt T L m).2 L lit14 [.p (node (.mk op s n l)), int x] []) = some (.int .i64 K) := by
     generalize (cAt T L m).1 = C at ih ⊢
     generalize (cAt T L m).2 = D
     obtain ⟨M', K, e, g5⟩ := Qwp C L op s n x l hok.1.2.2 ih l.length L 0 1 [(6, int 0), (5, int 1), (4, int 0), (2, .ptr 0 0 0), (0, .p (node (.mk op s n l))), (1, int x)] (by omega) hl ⟨rfl, rfl, rfl, rfl⟩
     refine ⟨K, ?_⟩
     rw [Zp, lit14_eq]
     rw [seqN (a := .region _) (by simp [params, cells]; rfl), seqN (a := .region _) (by simp; rfl)]
     have e3 : exec C L (.seq (.region [{ dst := some 6, op := AOp.mv (Opd.c (int 0)), guard := none }]) (.block 0 (.loop none yu))) ⟨[(5, int 1), (4, int 0), (2, .ptr 0 0 0), (0, .p (node (.mk op s n l))), (1, int x)], [], W7 op s n l⟩ = some (.normal, ⟨M', [], W7 op s n l⟩) := by
       rw [seqN (a := .region _) (by simp; rfl)]
       simp only [exec, e, if_true]
     erw [seqN e3]
     simp [finX, Hp, lit14, g5]
   obtain ⟨K, hK⟩ := key
   exact ⟨K, fun σ => Z7 (ps := [node (.mk op s n l), .int .i64 x]) (n := m) hT (by rfl) hK σ⟩
end Go.Ab.Turn
namespace Go.Ab.Turn
open Go Go.Ab Go.Ab.Plan Go.Ab.Key Go.Ab.Cnt Go.Proofs
attribute [local simp] Uw Qe7 AV.cells N0 O5 finA qc resA resV ansV
variable [Q4]
def own : AV -> List Nat
 | .sl id _ _ _ _ => [id]
 | _ => []
def Buf (ety esz : Nat) (σ : Heap) (b : AV) (l : List PV) (n : Nat) : Prop :=
 l.length = n * esz /\ ((b = .nil0 /\ n = 0) ∨ (n ≠ 0 /\ ∃ id ver, b = .sl id ver 0 n esz /\ σ[id]? = some (.arr (.pv l) ver 0 (some ety))))
theorem Buf.nil {ety esz : Nat} {σ : Heap} : Buf ety esz σ .nil0 [] 0 := ⟨by simp, .inl ⟨rfl, rfl⟩⟩
theorem Buf.lt {ety esz : Nat} {σ : Heap} {b : AV} {l : List PV} {n : Nat} (h : Buf ety esz σ b l n) {j : Nat} (hj : j ∈ own b) : j < σ.length := by
 rcases h.2 with ⟨rfl, _⟩ | ⟨_, id, ver, rfl, ho⟩
 · cases hj
 · simp [own] at hj
   subst hj
   exact (List.getElem?_eq_some_iff.1 ho).1
theorem Buf.same {ety esz : Nat} {σ σ' : Heap} {b : AV} {l : List PV} {n : Nat} (h : Buf ety esz σ b l n) (he : ∀ j ∈ own b, σ'[j]? = σ[j]?) : Buf ety esz σ' b l n := by
 refine ⟨h.1, ?_⟩
 rcases h.2 with h | ⟨hn, id, ver, rfl, ho⟩
 · exact .inl h
 · exact .inr ⟨hn, id, ver, rfl, by rw [he id (by simp [own])]; exact ho⟩
theorem Buf.push {ety esz : Nat} {σ : Heap} {b : AV} {l : List PV} {n : Nat} (h : Buf ety esz σ b l n) (τ : Heap) : Buf ety esz (σ ++ τ) b l n :=
 h.same fun _ hj => List.getElem?_append_left (h.lt hj)
theorem Buf.app {ety esz : Nat} {σ : Heap} {b : AV} {l : List PV} {n : Nat} (h : Buf ety esz σ b l n) (new : List PV) (hn : new.length = esz) (hl : n + 1 <= LIM) :
   ∃ b2 σ2, Dm σ ety esz b 1 (.pv new) = some (b2, σ2) /\ Buf ety esz σ2 b2 (l ++ new) (n + 1) /\ (∀ j, j < σ.length -> j ∉ own b -> σ2[j]? = σ[j]?) /\ σ.length <= σ2.length /\ (∀ j ∈ own b2, j ∈ own b ∨ σ.length <= j) := by
 obtain ⟨h1, h2⟩ := h
 have hlen : (l ++ new).length = (n + 1) * esz := by rw [List.length_append, h1, hn, Nat.add_mul]; omega
 rcases h2 with ⟨rfl, rfl⟩ | ⟨hne, id, ver, rfl, ho⟩
 · have h0 : l = [] := by
     rw [Nat.zero_mul] at h1
     exact List.eq_nil_of_length_eq_zero h1
   subst h0
   refine ⟨.sl σ.length 0 0 1 esz, σ ++ [.arr (.pv new) 0 0 (some ety)], ?_, ⟨hlen, .inr ⟨by omega, σ.length, 0, rfl, by simp⟩⟩, fun j hj _ => List.getElem?_append_left hj, by simp, fun j hj => ?_⟩
   · have : 1 <= LIM := by decide
     simp [Dm, this]
   · simp [own] at hj
     exact .inr (by omega)
 · have hid : id < σ.length := (List.getElem?_eq_some_iff.1 ho).1
   refine ⟨.sl id (ver + 1) 0 (n + 1) esz, σ.set id (.arr (.pv (l ++ new)) (ver + 1) 0 (some ety)), ?_, ⟨hlen, .inr ⟨by omega, id, ver + 1, rfl, ?_⟩⟩, fun j hj hb => ?_, by simp, fun j hj => .inl hj⟩
   · have ht : l.take (n * esz) = l := List.take_of_length_le (by omega)
     simp [Dm, ho, hl, Bu, catC, ht, h1]
   · rw [List.getElem?_set_self hid]
   · have : id ≠ j := by
       intro he
       exact hb (by simp [own, he])
     rw [List.getElem?_set_ne this]
theorem xy {T : Ld} {L n f : Nat} {af : Q2} {ps : List PV} {v : AV} {p : PV} {σr σ2 : Heap} (hT : T f = some (.ans af)) (hf : fits af (ps.map .p) = true)
   (h : Z8 (cAt T L n).1 (cAt T L n).2 L af (ps.map .p) [] = some (.ret v, σr)) (hz : frz (List.range σr.length) 9 σr v = some (p, σ2)) (σ : Heap) :
   (cAt T L (n + 1)).1 f (ps.map .p) σ = some (.ret (.p p), σ) := by
 simp only [cAt, w6, hT]
 refine Qay (σr := σ2) ?_ σ
 unfold Qh5 N2
 rw [hf]
 simp only [h, hz]
theorem Buf.frz {ety esz : Nat} {σ : Heap} {b : AV} {l : List PV} {n d : Nat} (h : Buf ety esz σ b l n) : ∃ σ2, frz (List.range σ.length) (d + 1) σ b = some (.vsl l n, σ2) /\ σ2.length = σ.length := by
 obtain ⟨h1, h2⟩ := h
 rcases h2 with ⟨rfl, rfl⟩ | ⟨hne, id, ver, rfl, ho⟩
 · have h0 : l = [] := by
     rw [Nat.zero_mul] at h1
     exact List.eq_nil_of_length_eq_zero h1
   subst h0
   exact ⟨σ, rfl, rfl⟩
 · have hid : id < σ.length := (List.getElem?_eq_some_iff.1 ho).1
   have hc : (List.range σ.length).contains id = true := by simp [hid]
   have ht : l.take (n * esz) = l := List.take_of_length_le (by omega)
   refine ⟨σ.set id (.arr (.pv l) ver (Nat.max 0 (0 + n * esz)) (some ety)), ?_, by simp⟩
   simp only [Go.Ab.frz, ho, Q1.len, hc, Nat.zero_add, List.drop_zero, ht, and_true, true_and]
   rw [if_pos (by omega)]
def Xa : Q0 := (((Q0.region [Mk 29 7, Mk 30 3, Ml 31 (.len false (.t 30)), Ml 32 (.bin (.plain .lss) (.t 29) (.t 31))]).seq (Q0.cond (.t 32) Q0.skip (Q0.exit 2))).seq ((Q0.block 3 (Q0.region [Mk 35 6, Mk 36 35, ⟨some 37, .mv (.t 3), some (36, false)⟩, ⟨some 38, .mv (.t 7), some (36, false)⟩, ⟨some 39, .idx 1 (.t 37) (.t 38), some (36, false)⟩, ⟨some 40, .load false 1 (.t 39), some (36, false)⟩, ⟨some 41, .mv (.t 5), some (36, false)⟩, ⟨some 42, .bin (.plain .eql) (.t 40) (.t 41), some (36, false)⟩, Ml 43 (.pick (.t 36) (.c (.p (.bool true))) (.t 42)), Mk 6 43])).seq (Q0.region [Mk 33 7, Ml 34 (.bin (.plain .add) (.t 33) (Mm 1)), Mk 7 34])))
def Qc8 : Q0 := (((Q0.region [Mk 8 4, Mk 9 0, Ml 10 (.len false (.t 9)), Ml 11 (.bin (.plain .lss) (.t 8) (.t 10)), Mk 12 11, ⟨some 13, .mv (.t 4), some (12, true)⟩, ⟨some 14, .bin (.plain .lss) (.t 13) (Mm 6), some (12, true)⟩, Ml 15 (.pick (.t 12) (.t 14) (.c (.p (.bool false))))]).seq (Q0.cond (.t 15) Q0.skip (Q0.exit 0))).seq ((Q0.block 1 ((Q0.region [Mk 18 0, Mk 19 4, Ml 20 (.idx 1 (.t 18) (.t 19)), Mn 21 20, Mk 5 21]).seq (((Q0.region [Mk 22 5, Ml 23 (.bin (.plain .lss) (.t 22) (Mm 0))]).seq (Q0.cond (.t 23) (Q0.region [Mk 24 5, Ml 25 (.bin (.plain .add) (.t 24) (Mm 1)), Ml 26 (.un .neg (.t 25)), Mk 5 26]) Q0.skip)).seq ((Q0.region [Mk 27 5, Ml 28 (.bin (.plain .rem) (.t 27) (Mm 3)), Mk 5 28]).seq ((Q0.region [Ml 6 (.mv (.c (.p (.bool false))))]).seq (((Q0.region [Ml 7 (.mv (Mm 0))]).seq (Q0.block 2 (Q0.loop none Xa))).seq ((Q0.region [Mk 44 6, Ml 45 (.un .not (.t 44))]).seq (Q0.cond (.t 45) (Q0.region [Mk 46 3, Mk 47 5, Ml 48 (.buildSlice [.p (.int .i64 0)] 1 1 [(0, 1, .t 47)]), Ml 49 (.append 3 1 [.p (.int .i64 0)] (.t 46) (.t 48)), Mk 3 49]) Q0.skip)))))))).seq (Q0.region [Mk 16 4, Ml 17 (.bin (.plain .add) (.t 16) (Mm 1)), Mk 4 17])))
abbrev cols (k : List Nat) : List PV := k.map fun c : Nat => PV.int .i64 (c : Int)
abbrev ints (l : List Int) : List PV := l.map fun c : Int => PV.int .i64 c
section
variable (C : Zj) (L : Nat) (x : List Int) (M : Env) (σ : Heap) (b : AV) (k : List Nat) (i j : Nat)
structure Al16 (M M' : Env) : Prop where
 t0 : M'.get 0 = M.get 0
 t3 : M'.get 3 = M.get 3
 t4 : M'.get 4 = M.get 4
 t5 : M'.get 5 = M.get 5
theorem Al16.trans {M1 M2 M3 : Env} (h : Al16 M1 M2) (g : Al16 M2 M3) : Al16 M1 M3 := ⟨g.1.trans h.1, g.2.trans h.2, g.3.trans h.3, g.4.trans h.4⟩
theorem Buf.len {ety esz : Nat} {σ : Heap} {b : AV} {l : List PV} {n : Nat} (h : Buf ety esz σ b l n) : lenA b = some n := by
 rcases h.2 with ⟨rfl, rfl⟩ | ⟨_, id, ver, rfl, _⟩ <;> rfl
theorem Qyh (h3 : M.get 3 = some b) (hb : Buf 3 1 σ b (cols k) k.length) (h7 : M.get 7 = some (int k.length)) : ∃ M' : Env, exec C L Xa ⟨M, [], σ⟩ = some (.exit 2, ⟨M', [], σ⟩) /\ Al16 M M' /\ M'.get 6 = M.get 6 := by
 have hl := hb.len
 rcases hb.2 with ⟨rfl, hk⟩ | ⟨_, id, ver, rfl, _⟩
 · exact ⟨_, by simp [Xa, lenA, h3, h7, hk]; rfl, ⟨by simp, by simp, by simp, by simp⟩, by simp⟩
 · exact ⟨_, by simp [Xa, lenA, h3, h7]; rfl, ⟨by simp, by simp, by simp, by simp⟩, by simp⟩
theorem go16n (c : Int) (q : Bool) (h3 : M.get 3 = some b) (hb : Buf 3 1 σ b (cols k) k.length) (hj : j < k.length) (hk : k.length <= 6) (h5 : M.get 5 = some (int c)) (h6 : M.get 6 = some (.p (.bool q))) (h7 : M.get 7 = some (int j)) :
   ∃ (M' : Env) (q' : Bool), exec C L Xa ⟨M, [], σ⟩ = some (.normal, ⟨M', [], σ⟩) /\ Al16 M M' /\ M'.get 6 = some (.p (.bool q')) /\ M'.get 7 = some (int ((j + 1 : Nat) : Int)) := by
 obtain ⟨_, id, ver, rfl, ho⟩ := hb.2.resolve_left (by rintro ⟨_, h⟩; omega)
 have hj' : (j : Int) < (k.length : Int) := by omega
 have e1 : IntKind.i64.wrap ((j : Int) + 1) = (j : Int) + 1 := J5 _ (by omega) (by omega)
 have d1 : ((cols k).drop j).take 1 = [.int .i64 (k[j] : Int)] := by
   rw [List.drop_eq_getElem_cons (by simpa using hj)]
   simp
 have d2 : (cols k)[j]? = some (.int .i64 (k[j] : Int)) := by simp [hj]
 cases q with
 | true =>
   exact ⟨_, true, by simp [Xa, lenA, h3, h7, h6, hj', e1]; rfl, ⟨by simp, by simp, by simp, by simp⟩, by simp, by simp⟩
 | false =>
   exact ⟨_, (k[j] : Int) == c, by simp [Xa, lenA, idxA, h3, h5, h7, h6, hj', hj, e1, ho, d1, d2, Bu, Fd, Q1.get?]; rfl, ⟨by simp, by simp, by simp, by simp⟩, by simp, by simp⟩
end
end Go.Ab.Turn
namespace Go.Ab.Turn
open Go Go.Ab
theorem lit16_tree : lit16.body = n16 := rfl
theorem lit17_tree : lit17.body = n17 := rfl
theorem lit23_tree : lit23.body = n23 := rfl
theorem lit24_tree : lit24.body = n24 := rfl
theorem lit27_tree : lit27.body = n27 := rfl
theorem lit29_tree : lit29.body = n29 := rfl
theorem lit31_tree : lit31.body = n31 := rfl
end Go.Ab.Turn
namespace Go.Ab.Turn
open Go Go.Ab Go.Ab.Plan Go.Ab.Key Go.Ab.Cnt Go.Proofs
attribute [local simp] Uw Qe7 AV.cells N0 O5 finA qc resA resV ansV
variable [Q4]
theorem Qrh (C : Zj) (L : Nat) (σ : Heap) (b : AV) (k : List Nat) (hb : Buf 3 1 σ b (cols k) k.length) (hk : k.length <= 6) (c : Int) :
   ∀ (d f j : Nat) (M : Env) (q : Bool), k.length - j <= d -> d < f -> j <= k.length -> M.get 3 = some b -> M.get 5 = some (int c) -> M.get 6 = some (.p (.bool q)) -> M.get 7 = some (int j) ->
   ∃ (M' : Env) (q' : Bool), iter (exec C L Xa) none f ⟨M, [], σ⟩ = some (.exit 2, ⟨M', [], σ⟩) /\ Al16 M M' /\ M'.get 6 = some (.p (.bool q'))
 | d, f, j, M, q, hd, hf, hjk, h3, h5, h6, h7 => by
   obtain ⟨f, rfl⟩ : ∃ m, f = m + 1 := ⟨f - 1, by omega⟩
   by_cases hs : j = k.length
   · subst hs
     obtain ⟨M', e, ha, g6⟩ := Qyh C L M σ b k h3 hb h7
     exact ⟨M', q, by simp only [iter, St.keep, e], ha, g6.trans h6⟩
   · obtain ⟨M1, q1, e, ha, g6, g7⟩ := go16n C L M σ b k j c q h3 hb (by omega) hk h5 h6 h7
     obtain ⟨d, rfl⟩ : ∃ m, d = m + 1 := ⟨d - 1, by omega⟩
     obtain ⟨M', q', e', ha', h6'⟩ := Qrh C L σ b k hb hk c d f (j + 1) M1 q1 (by omega) (by omega) (by omega) (ha.t3.trans h3) (ha.t5.trans h5) g6 g7
     exact ⟨M', q', by simp only [iter, St.keep, e]; exact e', ha.trans ha', h6'⟩
section
variable (C : Zj) (L : Nat) (x : List Int) (M : Env) (σ : Heap) (b : AV) (k : List Nat) (i : Nat)
structure At16 (M : Env) (σ : Heap) (i : Nat) (b : AV) (k : List Nat) : Prop where
 t0 : M.get 0 = some (.p (.vsl (ints x) x.length))
 t3 : M.get 3 = some b
 t4 : M.get 4 = some (int i)
 bf : Buf 3 1 σ b (cols k) k.length
 le : k.length <= i
 lt : i <= 6
 in3 : ∀ c ∈ k, c < 3
theorem stop16 (h : At16 x M σ i b k) (hs : x.length <= i ∨ 6 <= i) : ∃ M' : Env, exec C L Qc8 ⟨M, [], σ⟩ = some (.exit 0, ⟨M', [], σ⟩) /\ M'.get 3 = some b := by
 by_cases hi : (i : Int) < (x.length : Int)
 · have h6 : ¬ (i : Int) < 6 := by omega
   exact ⟨_, by simp [Qc8, h.t0, h.t4, hi, h6, lenA]; rfl, by simp [h.t3]⟩
 · exact ⟨_, by simp [Qc8, h.t0, h.t4, hi, lenA]; rfl, by simp [h.t3]⟩
def Qa9 (c : Int) : Nat := ((if c < 0 then -(c + 1) else c) % 3).toNat
theorem Qza {c : Int} (hc : inR c) (h : c < 0) : IntKind.i64.wrap (-(IntKind.i64.wrap (c + 1))) = -(c + 1) := by
 unfold inR at hc
 have e1 : IntKind.i64.wrap (c + 1) = c + 1 := J5 _ (by omega) (by omega)
 rw [e1, J5 _ (by omega) (by omega)]
theorem Qrg : Qc8 = zp := rfl
structure K16 (M M' : Env) : Prop where
 t0 : M'.get 0 = M.get 0
 t3 : M'.get 3 = M.get 3
 t4 : M'.get 4 = M.get 4
theorem K16.trans {M1 M2 M3 : Env} (h : K16 M1 M2) (g : K16 M2 M3) : K16 M1 M3 := ⟨g.1.trans h.1, g.2.trans h.2, g.3.trans h.3⟩
theorem p16a (h : At16 x M σ i b k) (hi : i < x.length) (h6 : i < 6) : ∃ M', exec C L q9 ⟨M, [], σ⟩ = some (.normal, ⟨M', [], σ⟩) /\ K16 M M' := by
 have hi' : (i : Int) < (x.length : Int) := by omega
 have h6' : (i : Int) < 6 := by omega
 exact ⟨_, by simp [q9, wv, zv, h.t0, h.t4, hi', h6', lenA]; rfl, by simp, by simp, by simp⟩
theorem p16b (c : Int) (hx : x[i]? = some c) (h0 : M.get 0 = some (.p (.vsl (ints x) x.length))) (h4 : M.get 4 = some (int i)) : ∃ M', exec C L T4 ⟨M, [], σ⟩ = some (.normal, ⟨M', [], σ⟩) /\ K16 M M' /\ M'.get 5 = some (int c) := by
 have hi : i < x.length := (List.getElem?_eq_some_iff.1 hx).1
 have hi' : (i : Int) < (x.length : Int) := by omega
 have ex : x[i] = c := by
   have := List.getElem?_eq_getElem hi
   rw [hx] at this
   exact (Option.some.inj this).symm
 have d1 : ((ints x).drop i).take 1 = [.int .i64 c] := by
   rw [List.drop_eq_getElem_cons (by simpa using hi)]
   simp [ex]
 exact ⟨_, by simp [T4, idxA, h0, h4, hi', hi, d1, Bu, Fd, Q1.get?, ex]; rfl, ⟨by simp, by simp, by simp⟩, by simp⟩
theorem p16c (c : Int) (hc : inR c) (h5 : M.get 5 = some (int c)) : ∃ M', exec C L (.seq Pg Pd) ⟨M, [], σ⟩ = some (.normal, ⟨M', [], σ⟩) /\ K16 M M' /\ M'.get 5 = some (int (Qa9 c)) := by
 by_cases h : c < 0
 · have e1 := Qza hc h
   have hcc : ((Qa9 c : Nat) : Int) = (-(c + 1)) % 3 := by
     unfold Qa9
     rw [if_pos h]
     omega
   have e2 : (-(c + 1)).tmod 3 = (Qa9 c : Int) := by rw [hcc, Int.tmod_eq_emod_of_nonneg (by omega)]
   exact ⟨_, by simp [Pg, Rh, Rf, Pd, h5, h, e1, e2]; rfl, ⟨by simp, by simp, by simp⟩, by simp⟩
 · have hcc : ((Qa9 c : Nat) : Int) = c % 3 := by
     unfold Qa9
     rw [if_neg h]
     omega
   have e2 : c.tmod 3 = (Qa9 c : Int) := by rw [hcc, Int.tmod_eq_emod_of_nonneg (by omega)]
   exact ⟨_, by simp [Pg, Rh, Rf, Pd, h5, h, e2]; rfl, ⟨by simp, by simp, by simp⟩, by simp⟩
theorem Quf (c : Int) : Qa9 c < 3 := by
 unfold Qa9
 split <;> omega
theorem p16d (c : Nat) (q : Bool) (h3 : M.get 3 = some b) (hb : Buf 3 1 σ b (cols k) k.length) (hk : k.length <= 6) (h5 : M.get 5 = some (int c)) (h6 : M.get 6 = some (.p (.bool q))) :
   ∃ M' σ' b' k', exec C L (.seq Mr Mp) ⟨M, [], σ⟩ = some (.normal, ⟨M', [], σ'⟩) /\ M'.get 0 = M.get 0 /\ M'.get 4 = M.get 4 /\ M'.get 3 = some b' /\ Buf 3 1 σ' b' (cols k') k'.length /\ k'.length <= k.length + 1 /\ (∀ u ∈ k', u ∈ k ∨ u = c) := by
 cases q with
 | true => exact ⟨_, σ, b, k, by simp [Mr, Mp, h6]; rfl, by simp, by simp, by simp [h3], hb, by omega, fun u hu => .inl hu⟩
 | false =>
   have hL : LIM = 4294967296 := rfl
   obtain ⟨b2, σ2, hA, hb2, _, _⟩ := (hb.push [.arr (.pv [.int .i64 (c : Int)]) 0 0 none]).app [.int .i64 (c : Int)] rfl (by omega)
   refine ⟨_, σ2, b2, k ++ [c], by simp [Mr, Mp, Zo, Jk, Bu, Fd, h6, h3, h5, hA]; rfl, by simp, by simp, by simp, by simpa [cols] using hb2, by simp, fun u hu => by simpa using hu⟩
theorem go16 (h : At16 x M σ i b k) (c : Int) (hx : x[i]? = some c) (hc : inR c) (h6 : i < 6) (hL : 7 < L) :
   ∃ (M' : Env) (σ' : Heap) (b' : AV) (k' : List Nat), exec C L Qc8 ⟨M, [], σ⟩ = some (.normal, ⟨M', [], σ'⟩) /\ At16 x M' σ' (i + 1) b' k' := by
 have hi : i < x.length := (List.getElem?_eq_some_iff.1 hx).1
 have e1 : IntKind.i64.wrap ((i : Int) + 1) = (i : Int) + 1 := J5 _ (by omega) (by omega)
 obtain ⟨M1, r1, k1⟩ := p16a C L x M σ b k i h hi h6
 obtain ⟨M2, r2, k2, g5⟩ := p16b C L x M1 σ i c hx (k1.t0.trans h.t0) (k1.t4.trans h.t4)
 obtain ⟨M3, r3, k3, g5⟩ := p16c C L M2 σ c hc g5
 have k123 := (k1.trans k2).trans k3
 have hk : k.length <= 6 := Nat.le_trans h.le h.lt
 obtain ⟨M4, q, r4, k4, g6⟩ := Qrh C L σ b k h.bf hk (Qa9 c) k.length L 0 ((7, int 0) :: (6, .p (.bool false)) :: M3) false (by omega) (by omega) (by omega) (by simp [k123.t3, h.t3]) (by simp [g5]) rfl rfl
 obtain ⟨M5, σ5, b5, k5, r5, a0, a4, a3, hb5, hl5, hm5⟩ := p16d C L M4 σ b k (Qa9 c) q (k4.t3.trans (by simp [k123.t3, h.t3])) h.bf hk (k4.t5.trans (by simp [g5])) g6
 have a4 : M5.get 4 = some (int i) := a4.trans (k4.t4.trans (by simp [k123.t4, h.t4]))
 have a0 : M5.get 0 = some (.p (.vsl (ints x) x.length)) := a0.trans (k4.t0.trans (by simp [k123.t0, h.t0]))
 have r45 : exec C L (.seq Pc (.seq Pa (.seq Mr Mp))) ⟨M3, [], σ⟩ = some (.normal, ⟨M5, [], σ5⟩) := by
   rw [seqN (a := Pc) (by simp [Pc]; rfl)]
   have e : exec C L Pa ⟨(6, .p (.bool false)) :: M3, [], σ⟩ = some (.normal, ⟨M4, [], σ⟩) := by
     unfold Pa
     rw [seqN (a := Rk) (by simp [Rk]; rfl)]
     have r4' : iter (exec C L Sy) none L ⟨(7, int 0) :: (6, .p (.bool false)) :: M3, [], σ⟩ = some (.exit 2, ⟨M4, [], σ⟩) := r4
     simp only [V0, Un, exec, r4', if_true]
   rw [seqN e, r5]
 have r35 : exec C L Wm ⟨M1, [], σ⟩ = some (.normal, ⟨M5, [], σ5⟩) := by
   unfold Wm
   rw [seqN r2]
   have : ∀ a b c st, exec C L (.seq a (.seq b c)) st = exec C L (.seq (.seq a b) c) st := by
     intro a b c st
     simp only [exec]
     cases exec C L a st with
     | none => rfl
     | some r =>
       obtain ⟨e, s⟩ := r
       cases e <;> rfl
   rw [this, seqN r3, r45]
 refine ⟨(4, int (i + 1)) :: (17, int (i + 1)) :: (16, int i) :: M5, σ5, b5, k5, ?_, ⟨by simp [a0], by simp [a3], by simp, hb5, by have := h.le; omega, by omega, fun u hu => ?_⟩⟩
 · rw [Qrg]
   unfold zp
   rw [seqN r1, seqN (a := qg) (by unfold qg; exact Lp r35)]
   simp [Qbx, a4, e1]
 · rcases hm5 u hu with hu | rfl
   · exact h.in3 u hu
   · exact Quf c
end
theorem Qum (C : Zj) (L : Nat) (x : List Int) (hx : ∀ c ∈ x, inR c) (hL : 7 < L) : ∀ (d f i : Nat) (M : Env) (σ : Heap) (b : AV) (k : List Nat), 6 - i <= d -> d < f -> At16 x M σ i b k ->
   ∃ (M' : Env) (σ' : Heap) (b' : AV) (k' : List Nat), iter (exec C L Qc8) none f ⟨M, [], σ⟩ = some (.exit 0, ⟨M', [], σ'⟩) /\ M'.get 3 = some b' /\ Buf 3 1 σ' b' (cols k') k'.length /\ k'.length <= 6 /\ (∀ c ∈ k', c < 3)
 | d, f, i, M, σ, b, k, hd, hf, h => by
   obtain ⟨f, rfl⟩ : ∃ m, f = m + 1 := ⟨f - 1, by omega⟩
   by_cases hs : x.length <= i ∨ 6 <= i
   · obtain ⟨M', e, g3⟩ := stop16 C L x M σ b k i h hs
     exact ⟨M', σ, b, k, by simp only [iter, St.keep, e], g3, h.bf, Nat.le_trans h.le h.lt, h.in3⟩
   · have hi : i < x.length := by omega
     obtain ⟨M1, σ1, b1, k1, e, h1⟩ := go16 C L x M σ b k i h x[i] (List.getElem?_eq_getElem hi) (hx _ (List.getElem_mem hi)) (by omega) hL
     obtain ⟨d, rfl⟩ : ∃ m, d = m + 1 := ⟨d - 1, by omega⟩
     obtain ⟨M', σ', b', k', e', q⟩ := Qum C L x hx hL d f (i + 1) M1 σ1 b1 k1 (by omega) (by omega) h1
     exact ⟨M', σ', b', k', by simp only [iter, St.keep, e]; exact e', q⟩
theorem keys16 {T : Ld} {L n : Nat} (hT : T 7 = some (.ans lit16)) (hL : 7 < L) (x : List Int) (hx : ∀ c ∈ x, inR c) :
   ∃ k : List Nat, k.length <= 6 /\ (∀ c ∈ k, c < 3) /\ ∀ σ, (cAt T L (n + 1)).1 7 [.p (.vsl (ints x) x.length)] σ = some (.ret (.p (.vsl (cols k) k.length)), σ) := by
 have key : ∃ (k : List Nat) (b : AV) (σ1 σ2 : Heap), k.length <= 6 /\ (∀ c ∈ k, c < 3) /\ Z8 (cAt T L n).1 (cAt T L n).2 L lit16 [.p (.vsl (ints x) x.length)] [] = some (.ret b, σ1) /\ frz (List.range σ1.length) 9 σ1 b = some (.vsl (cols k) k.length, σ2) := by
   generalize (cAt T L n).1 = C
   generalize (cAt T L n).2 = D
   obtain ⟨M', σ', b', k', e, g3, hb, hk, hm⟩ := Qum C L x hx hL 6 L 0 [(4, int 0), (3, .nil0), (2, .nil0), (0, .p (.vsl (ints x) x.length))] [] .nil0 [] (by omega) (by omega) ⟨rfl, rfl, rfl, .nil, by simp, by omega, by simp⟩
   have e3 : exec C L Qx5 ⟨[(3, .nil0), (2, .nil0), (0, .p (.vsl (ints x) x.length))], [], []⟩ = some (.normal, ⟨M', [], σ'⟩) := by
     unfold Qx5
     rw [seqN (a := Qi4) (by simp [Qi4]; rfl)]
     have e' : iter (exec C L zp) none L ⟨[(4, int 0), (3, .nil0), (2, .nil0), (0, .p (.vsl (ints x) x.length))], [], []⟩ = some (.exit 0, ⟨M', [], σ'⟩) := e
     simp only [Qnm, Qj2, exec, e', if_true]
   have hlen := hb.len
   by_cases h0 : k' = []
   · subst h0
     obtain rfl : b' = .nil0 := by
       rcases hb.2 with ⟨h, _⟩ | ⟨h, _⟩
       · exact h
       · exact absurd rfl h
     refine ⟨[0], .sl σ'.length 0 0 1 1, σ' ++ [Obj.arr (.pv [.int .i64 0]) 0 0 none], (σ' ++ [Obj.arr (.pv [.int .i64 0]) 0 0 none]).set σ'.length (Obj.arr (.pv [.int .i64 0]) 0 1 none), by simp, by simp, ?_, ?_⟩
     · rw [Zp, lit16_tree]
       unfold n16
       rw [seqN (a := Qoe) (by simp [Qoe, params]; rfl), seqN (a := Qop) (by simp [Qop]; rfl), seqN e3]
       simp [Qyn, Qiz, Qit, Qzj, finX, Hp, lit16, g3, lenA, Zo]
     · simp [frz]
   · have h0' : ((k'.length : Int) == 0) = false := by
       rw [beq_eq_false_iff_ne]
       intro h
       exact h0 (List.eq_nil_of_length_eq_zero (by omega))
     obtain ⟨σ2, hz, _⟩ := hb.frz (d := 8)
     refine ⟨k', b', σ', σ2, hk, hm, ?_, hz⟩
     obtain ⟨_, id, ver, rfl, _⟩ := hb.2.resolve_left (by rintro ⟨_, h⟩; exact h0 (List.eq_nil_of_length_eq_zero h))
     rw [Zp, lit16_tree]
     unfold n16
     rw [seqN (a := Qoe) (by simp [Qoe, params]; rfl), seqN (a := Qop) (by simp [Qop]; rfl), seqN e3]
     simp [Qyn, Qiz, Qit, Qzj, finX, Hp, lit16, g3, lenA, h0', h0]
 obtain ⟨k, b, σ1, σ2, hk, hm, hr, hz⟩ := key
 exact ⟨k, hk, hm, fun σ => xy (ps := [.vsl (ints x) x.length]) hT (by rfl) hr hz σ⟩
end Go.Ab.Turn
