/- XG -/
import Derived.Test.YtikebbklkiodlaaGreatDoorAbW1
set_option maxRecDepth 1000000
set_option linter.all false
namespace Go.Ab.Keep
open Go Go.Ab Go.Ab.Plan Go.Ab.Key Go.Ab.Cnt Go.Ab.Turn Go.Proofs
attribute [local simp] Fj Ms V3 refV oneH
abbrev Qyx : List PV := [.str [], .str [115, 109, 97, 108, 108, 105, 110, 116], .str [105, 110, 116, 101, 103, 101, 114], .str [98, 105, 103, 105, 110, 116], .str [99, 104, 97, 114], .str [118, 97, 114, 99, 104, 97, 114], .str [98, 111, 111, 108, 101, 97, 110]]
abbrev Zx (op s : Word) (z : Int) (l : PV) (b k : Int) : Heap := [.arr (.pv [.str op, .str s, .int .i64 z, l]) 0 0 none, .arr (.pv [.int .i64 b, .int .i64 k]) 0 0 (some 70), .arr (.pv Qyx) 0 0 none]
structure At37 (M : Env) (i : Int) : Prop where
 t1 : M.get 1 = some (.ptr 0 0 0)
 t2 : M.get 2 = some (.ptr 1 0 0)
 t3 : M.get 3 = some (.sl 2 0 0 7 1)
 t4 : M.get 4 = some (int i)
section
variable [Mx] (C : Zj) (L : Nat) (op s : Word) (z : Int) (l : PV) (M : Env)
theorem Qlv (h : At37 M 1) (c : Bool) (hc : ([115, 109, 97, 108, 108, 105, 110, 116] == s) = c) : ∃ M', exec C L Je ⟨M, [], Zx op s z l 0 0⟩ = some (.normal, ⟨M', [], Zx op s z l 0 0⟩) /\ At37 M' 1 /\ M'.get 19 = some (.p (.bool (!c))) := by
 obtain ⟨t1, t2, t3, t4⟩ := h
 have fin : (∃ s1 : Go.Ab.Tr, Zy C 0 (opsD Je) ⟨⟨M, [], Zx op s z l 0 0⟩, [], []⟩ = some (none, s1) /\ s1.wrs = [] /\ s1.st.defers = [] /\ s1.st.heap = Zx op s z l 0 0 /\ At37 s1.st.env 1 /\ s1.st.env.get 19 = some (.p (.bool (!c)))) ->
     ∃ M', exec C L Je ⟨M, [], Zx op s z l 0 0⟩ = some (.normal, ⟨M', [], Zx op s z l 0 0⟩) /\ At37 M' 1 /\ M'.get 19 = some (.p (.bool (!c))) := by
   rintro ⟨⟨⟨M', d, σ'⟩, rds, wrs⟩, hr, h2, h3, h4, hA⟩
   simp only at h2 h3 h4
   subst h2 h3 h4
   exact ⟨M', L9 hr Ru, hA⟩
 exact fin ⟨_, by
     show Zy C 0 (_ :: _) _ = _
     refine (Zf rfl rfl (by simp [t1, t3, t4, hc]; rfl)).trans ?_
     refine (Zf rfl rfl (by simp [t1, t3, t4, hc]; rfl)).trans ?_
     refine (Zf rfl rfl (by simp [t1, t3, t4, hc]; rfl)).trans ?_
     refine (Eu rfl rfl (by simp [t1, t3, t4, hc]; exact ⟨rfl, rfl⟩)).trans ?_
     refine (Zf rfl rfl (by simp [t1, t3, t4, hc]; rfl)).trans ?_
     refine (Eu rfl rfl (by simp [t1, t3, t4, hc]; exact ⟨rfl, rfl⟩)).trans ?_
     refine (Zf rfl rfl (by simp [t1, t3, t4, hc]; rfl)).trans ?_
     exact rfl, by rfl, by rfl, by rfl, ⟨by simp [t1], by simp [t2], by simp [t3], by simp [t4]⟩, by simp⟩
theorem Qro (h : At37 M 1) (hc : ([115, 109, 97, 108, 108, 105, 110, 116] == s) = false) : ∃ M', exec C L Zz ⟨M, [], Zx op s z l 0 0⟩ = some (.normal, ⟨M', [], Zx op s z l 0 0⟩) /\ At37 M' 2 := by
 obtain ⟨M1, e1, h1, g1⟩ := Qlv C L op s z l ((10, .p (.bool true)) :: (9, int 7) :: (8, .sl 2 0 0 7 1) :: (7, int 1) :: M) ⟨by simp [h.t1], by simp [h.t2], by simp [h.t3], by simp [h.t4]⟩ false hc
 refine ⟨(4, int 2) :: (12, int 2) :: (11, int 1) :: M1, ?_, ⟨by simp [h1.t1], by simp [h1.t2], by simp [h1.t3], by simp⟩⟩
 unfold Zz
 have e0 : exec C L Jl ⟨M, [], Zx op s z l 0 0⟩ = some (.normal, ⟨(10, .p (.bool true)) :: (9, int 7) :: (8, .sl 2 0 0 7 1) :: (7, int 1) :: M, [], Zx op s z l 0 0⟩) := by
   simp [Jl, G4, G5, h.t3, h.t4]
 have e2 : exec C L Jy ⟨(10, .p (.bool true)) :: (9, int 7) :: (8, .sl 2 0 0 7 1) :: (7, int 1) :: M, [], Zx op s z l 0 0⟩ = some (.normal, ⟨M1, [], Zx op s z l 0 0⟩) := by
   unfold Jy Gn J1
   refine F0 ?_
   rw [<- Zn, seqN e1]
   exact seqX (by simp [Ji, g1])
 rw [seqN e0, seqN e2]
 simp [Lq, h1.t4, IntKind.wrap, IntKind.bits, IntKind.signed]
theorem Qzo (h : At37 M 1) (hc : ([115, 109, 97, 108, 108, 105, 110, 116] == s) = true) : ∃ M' k, TyOK 1 k /\ exec C L Zz ⟨M, [], Zx op s z l 0 0⟩ = some (.ret, ⟨M', [], Zx op s z l 1 k⟩) /\ M'.get 2 = some (.ptr 1 0 0) := by
 obtain ⟨M1, e1, h1, g1⟩ := Qlv C L op s z l ((10, .p (.bool true)) :: (9, int 7) :: (8, .sl 2 0 0 7 1) :: (7, int 1) :: M) ⟨by simp [h.t1], by simp [h.t2], by simp [h.t3], by simp [h.t4]⟩ true hc
 have e0 : exec C L Jl ⟨M, [], Zx op s z l 0 0⟩ = some (.normal, ⟨(10, .p (.bool true)) :: (9, int 7) :: (8, .sl 2 0 0 7 1) :: (7, int 1) :: M, [], Zx op s z l 0 0⟩) := by
   simp [Jl, G4, G5, h.t3, h.t4]
 exact ⟨_, 0, .inl ⟨by decide, rfl⟩, by
   unfold Zz
   rw [seqN e0]
   refine seqR ?_
   unfold Jy Gn J1
   refine E5 ?_
   rw [<- Zn, seqN e1, seqN (by simp [Ji, g1]; rfl), seqN (by simp [Yt]; rfl)]
   simp [Yr, G1, G3, Yq, h1.t1, h1.t2, h1.t4]
   rfl, by simp [h1.t2]⟩
theorem Qjm (h : At37 M 2) (c : Bool) (hc : ([105, 110, 116, 101, 103, 101, 114] == s) = c) : ∃ M', exec C L Je ⟨M, [], Zx op s z l 0 0⟩ = some (.normal, ⟨M', [], Zx op s z l 0 0⟩) /\ At37 M' 2 /\ M'.get 19 = some (.p (.bool (!c))) := by
 obtain ⟨t1, t2, t3, t4⟩ := h
 have fin : (∃ s1 : Go.Ab.Tr, Zy C 0 (opsD Je) ⟨⟨M, [], Zx op s z l 0 0⟩, [], []⟩ = some (none, s1) /\ s1.wrs = [] /\ s1.st.defers = [] /\ s1.st.heap = Zx op s z l 0 0 /\ At37 s1.st.env 2 /\ s1.st.env.get 19 = some (.p (.bool (!c)))) ->
     ∃ M', exec C L Je ⟨M, [], Zx op s z l 0 0⟩ = some (.normal, ⟨M', [], Zx op s z l 0 0⟩) /\ At37 M' 2 /\ M'.get 19 = some (.p (.bool (!c))) := by
   rintro ⟨⟨⟨M', d, σ'⟩, rds, wrs⟩, hr, h2, h3, h4, hA⟩
   simp only at h2 h3 h4
   subst h2 h3 h4
   exact ⟨M', L9 hr Ru, hA⟩
 exact fin ⟨_, by
     show Zy C 0 (_ :: _) _ = _
     refine (Zf rfl rfl (by simp [t1, t3, t4, hc]; rfl)).trans ?_
     refine (Zf rfl rfl (by simp [t1, t3, t4, hc]; rfl)).trans ?_
     refine (Zf rfl rfl (by simp [t1, t3, t4, hc]; rfl)).trans ?_
     refine (Eu rfl rfl (by simp [t1, t3, t4, hc]; exact ⟨rfl, rfl⟩)).trans ?_
     refine (Zf rfl rfl (by simp [t1, t3, t4, hc]; rfl)).trans ?_
     refine (Eu rfl rfl (by simp [t1, t3, t4, hc]; exact ⟨rfl, rfl⟩)).trans ?_
     refine (Zf rfl rfl (by simp [t1, t3, t4, hc]; rfl)).trans ?_
     exact rfl, by rfl, by rfl, by rfl, ⟨by simp [t1], by simp [t2], by simp [t3], by simp [t4]⟩, by simp⟩
theorem Qr9 (h : At37 M 2) (hc : ([105, 110, 116, 101, 103, 101, 114] == s) = false) : ∃ M', exec C L Zz ⟨M, [], Zx op s z l 0 0⟩ = some (.normal, ⟨M', [], Zx op s z l 0 0⟩) /\ At37 M' 3 := by
 obtain ⟨M1, e1, h1, g1⟩ := Qjm C L op s z l ((10, .p (.bool true)) :: (9, int 7) :: (8, .sl 2 0 0 7 1) :: (7, int 2) :: M) ⟨by simp [h.t1], by simp [h.t2], by simp [h.t3], by simp [h.t4]⟩ false hc
 refine ⟨(4, int 3) :: (12, int 3) :: (11, int 2) :: M1, ?_, ⟨by simp [h1.t1], by simp [h1.t2], by simp [h1.t3], by simp⟩⟩
 unfold Zz
 have e0 : exec C L Jl ⟨M, [], Zx op s z l 0 0⟩ = some (.normal, ⟨(10, .p (.bool true)) :: (9, int 7) :: (8, .sl 2 0 0 7 1) :: (7, int 2) :: M, [], Zx op s z l 0 0⟩) := by
   simp [Jl, G4, G5, h.t3, h.t4]
 have e2 : exec C L Jy ⟨(10, .p (.bool true)) :: (9, int 7) :: (8, .sl 2 0 0 7 1) :: (7, int 2) :: M, [], Zx op s z l 0 0⟩ = some (.normal, ⟨M1, [], Zx op s z l 0 0⟩) := by
   unfold Jy Gn J1
   refine F0 ?_
   rw [<- Zn, seqN e1]
   exact seqX (by simp [Ji, g1])
 rw [seqN e0, seqN e2]
 simp [Lq, h1.t4, IntKind.wrap, IntKind.bits, IntKind.signed]
theorem Qxc (h : At37 M 2) (hc : ([105, 110, 116, 101, 103, 101, 114] == s) = true) : ∃ M' k, TyOK 2 k /\ exec C L Zz ⟨M, [], Zx op s z l 0 0⟩ = some (.ret, ⟨M', [], Zx op s z l 2 k⟩) /\ M'.get 2 = some (.ptr 1 0 0) := by
 obtain ⟨M1, e1, h1, g1⟩ := Qjm C L op s z l ((10, .p (.bool true)) :: (9, int 7) :: (8, .sl 2 0 0 7 1) :: (7, int 2) :: M) ⟨by simp [h.t1], by simp [h.t2], by simp [h.t3], by simp [h.t4]⟩ true hc
 have e0 : exec C L Jl ⟨M, [], Zx op s z l 0 0⟩ = some (.normal, ⟨(10, .p (.bool true)) :: (9, int 7) :: (8, .sl 2 0 0 7 1) :: (7, int 2) :: M, [], Zx op s z l 0 0⟩) := by
   simp [Jl, G4, G5, h.t3, h.t4]
 exact ⟨_, 0, .inl ⟨by decide, rfl⟩, by
   unfold Zz
   rw [seqN e0]
   refine seqR ?_
   unfold Jy Gn J1
   refine E5 ?_
   rw [<- Zn, seqN e1, seqN (by simp [Ji, g1]; rfl), seqN (by simp [Yt]; rfl)]
   simp [Yr, G1, G3, Yq, h1.t1, h1.t2, h1.t4]
   rfl, by simp [h1.t2]⟩
theorem Qj4 (h : At37 M 3) (c : Bool) (hc : ([98, 105, 103, 105, 110, 116] == s) = c) : ∃ M', exec C L Je ⟨M, [], Zx op s z l 0 0⟩ = some (.normal, ⟨M', [], Zx op s z l 0 0⟩) /\ At37 M' 3 /\ M'.get 19 = some (.p (.bool (!c))) := by
 obtain ⟨t1, t2, t3, t4⟩ := h
 have fin : (∃ s1 : Go.Ab.Tr, Zy C 0 (opsD Je) ⟨⟨M, [], Zx op s z l 0 0⟩, [], []⟩ = some (none, s1) /\ s1.wrs = [] /\ s1.st.defers = [] /\ s1.st.heap = Zx op s z l 0 0 /\ At37 s1.st.env 3 /\ s1.st.env.get 19 = some (.p (.bool (!c)))) ->
     ∃ M', exec C L Je ⟨M, [], Zx op s z l 0 0⟩ = some (.normal, ⟨M', [], Zx op s z l 0 0⟩) /\ At37 M' 3 /\ M'.get 19 = some (.p (.bool (!c))) := by
   rintro ⟨⟨⟨M', d, σ'⟩, rds, wrs⟩, hr, h2, h3, h4, hA⟩
   simp only at h2 h3 h4
   subst h2 h3 h4
   exact ⟨M', L9 hr Ru, hA⟩
 exact fin ⟨_, by
     show Zy C 0 (_ :: _) _ = _
     refine (Zf rfl rfl (by simp [t1, t3, t4, hc]; rfl)).trans ?_
     refine (Zf rfl rfl (by simp [t1, t3, t4, hc]; rfl)).trans ?_
     refine (Zf rfl rfl (by simp [t1, t3, t4, hc]; rfl)).trans ?_
     refine (Eu rfl rfl (by simp [t1, t3, t4, hc]; exact ⟨rfl, rfl⟩)).trans ?_
     refine (Zf rfl rfl (by simp [t1, t3, t4, hc]; rfl)).trans ?_
     refine (Eu rfl rfl (by simp [t1, t3, t4, hc]; exact ⟨rfl, rfl⟩)).trans ?_
     refine (Zf rfl rfl (by simp [t1, t3, t4, hc]; rfl)).trans ?_
     exact rfl, by rfl, by rfl, by rfl, ⟨by simp [t1], by simp [t2], by simp [t3], by simp [t4]⟩, by simp⟩
theorem Qsn (h : At37 M 3) (hc : ([98, 105, 103, 105, 110, 116] == s) = false) : ∃ M', exec C L Zz ⟨M, [], Zx op s z l 0 0⟩ = some (.normal, ⟨M', [], Zx op s z l 0 0⟩) /\ At37 M' 4 := by
 obtain ⟨M1, e1, h1, g1⟩ := Qj4 C L op s z l ((10, .p (.bool true)) :: (9, int 7) :: (8, .sl 2 0 0 7 1) :: (7, int 3) :: M) ⟨by simp [h.t1], by simp [h.t2], by simp [h.t3], by simp [h.t4]⟩ false hc
 refine ⟨(4, int 4) :: (12, int 4) :: (11, int 3) :: M1, ?_, ⟨by simp [h1.t1], by simp [h1.t2], by simp [h1.t3], by simp⟩⟩
 unfold Zz
 have e0 : exec C L Jl ⟨M, [], Zx op s z l 0 0⟩ = some (.normal, ⟨(10, .p (.bool true)) :: (9, int 7) :: (8, .sl 2 0 0 7 1) :: (7, int 3) :: M, [], Zx op s z l 0 0⟩) := by
   simp [Jl, G4, G5, h.t3, h.t4]
 have e2 : exec C L Jy ⟨(10, .p (.bool true)) :: (9, int 7) :: (8, .sl 2 0 0 7 1) :: (7, int 3) :: M, [], Zx op s z l 0 0⟩ = some (.normal, ⟨M1, [], Zx op s z l 0 0⟩) := by
   unfold Jy Gn J1
   refine F0 ?_
   rw [<- Zn, seqN e1]
   exact seqX (by simp [Ji, g1])
 rw [seqN e0, seqN e2]
 simp [Lq, h1.t4, IntKind.wrap, IntKind.bits, IntKind.signed]
theorem Qyr (h : At37 M 3) (hc : ([98, 105, 103, 105, 110, 116] == s) = true) : ∃ M' k, TyOK 3 k /\ exec C L Zz ⟨M, [], Zx op s z l 0 0⟩ = some (.ret, ⟨M', [], Zx op s z l 3 k⟩) /\ M'.get 2 = some (.ptr 1 0 0) := by
 obtain ⟨M1, e1, h1, g1⟩ := Qj4 C L op s z l ((10, .p (.bool true)) :: (9, int 7) :: (8, .sl 2 0 0 7 1) :: (7, int 3) :: M) ⟨by simp [h.t1], by simp [h.t2], by simp [h.t3], by simp [h.t4]⟩ true hc
 have e0 : exec C L Jl ⟨M, [], Zx op s z l 0 0⟩ = some (.normal, ⟨(10, .p (.bool true)) :: (9, int 7) :: (8, .sl 2 0 0 7 1) :: (7, int 3) :: M, [], Zx op s z l 0 0⟩) := by
   simp [Jl, G4, G5, h.t3, h.t4]
 exact ⟨_, 0, .inl ⟨by decide, rfl⟩, by
   unfold Zz
   rw [seqN e0]
   refine seqR ?_
   unfold Jy Gn J1
   refine E5 ?_
   rw [<- Zn, seqN e1, seqN (by simp [Ji, g1]; rfl), seqN (by simp [Yt]; rfl)]
   simp [Yr, G1, G3, Yq, h1.t1, h1.t2, h1.t4]
   rfl, by simp [h1.t2]⟩
theorem Qme (h : At37 M 4) (c : Bool) (hc : ([99, 104, 97, 114] == s) = c) : ∃ M', exec C L Je ⟨M, [], Zx op s z l 0 0⟩ = some (.normal, ⟨M', [], Zx op s z l 0 0⟩) /\ At37 M' 4 /\ M'.get 19 = some (.p (.bool (!c))) := by
 obtain ⟨t1, t2, t3, t4⟩ := h
 have fin : (∃ s1 : Go.Ab.Tr, Zy C 0 (opsD Je) ⟨⟨M, [], Zx op s z l 0 0⟩, [], []⟩ = some (none, s1) /\ s1.wrs = [] /\ s1.st.defers = [] /\ s1.st.heap = Zx op s z l 0 0 /\ At37 s1.st.env 4 /\ s1.st.env.get 19 = some (.p (.bool (!c)))) ->
     ∃ M', exec C L Je ⟨M, [], Zx op s z l 0 0⟩ = some (.normal, ⟨M', [], Zx op s z l 0 0⟩) /\ At37 M' 4 /\ M'.get 19 = some (.p (.bool (!c))) := by
   rintro ⟨⟨⟨M', d, σ'⟩, rds, wrs⟩, hr, h2, h3, h4, hA⟩
   simp only at h2 h3 h4
   subst h2 h3 h4
   exact ⟨M', L9 hr Ru, hA⟩
 exact fin ⟨_, by
     show Zy C 0 (_ :: _) _ = _
     refine (Zf rfl rfl (by simp [t1, t3, t4, hc]; rfl)).trans ?_
     refine (Zf rfl rfl (by simp [t1, t3, t4, hc]; rfl)).trans ?_
     refine (Zf rfl rfl (by simp [t1, t3, t4, hc]; rfl)).trans ?_
     refine (Eu rfl rfl (by simp [t1, t3, t4, hc]; exact ⟨rfl, rfl⟩)).trans ?_
     refine (Zf rfl rfl (by simp [t1, t3, t4, hc]; rfl)).trans ?_
     refine (Eu rfl rfl (by simp [t1, t3, t4, hc]; exact ⟨rfl, rfl⟩)).trans ?_
     refine (Zf rfl rfl (by simp [t1, t3, t4, hc]; rfl)).trans ?_
     exact rfl, by rfl, by rfl, by rfl, ⟨by simp [t1], by simp [t2], by simp [t3], by simp [t4]⟩, by simp⟩
theorem Qt6 (h : At37 M 4) (hc : ([99, 104, 97, 114] == s) = false) : ∃ M', exec C L Zz ⟨M, [], Zx op s z l 0 0⟩ = some (.normal, ⟨M', [], Zx op s z l 0 0⟩) /\ At37 M' 5 := by
 obtain ⟨M1, e1, h1, g1⟩ := Qme C L op s z l ((10, .p (.bool true)) :: (9, int 7) :: (8, .sl 2 0 0 7 1) :: (7, int 4) :: M) ⟨by simp [h.t1], by simp [h.t2], by simp [h.t3], by simp [h.t4]⟩ false hc
 refine ⟨(4, int 5) :: (12, int 5) :: (11, int 4) :: M1, ?_, ⟨by simp [h1.t1], by simp [h1.t2], by simp [h1.t3], by simp⟩⟩
 unfold Zz
 have e0 : exec C L Jl ⟨M, [], Zx op s z l 0 0⟩ = some (.normal, ⟨(10, .p (.bool true)) :: (9, int 7) :: (8, .sl 2 0 0 7 1) :: (7, int 4) :: M, [], Zx op s z l 0 0⟩) := by
   simp [Jl, G4, G5, h.t3, h.t4]
 have e2 : exec C L Jy ⟨(10, .p (.bool true)) :: (9, int 7) :: (8, .sl 2 0 0 7 1) :: (7, int 4) :: M, [], Zx op s z l 0 0⟩ = some (.normal, ⟨M1, [], Zx op s z l 0 0⟩) := by
   unfold Jy Gn J1
   refine F0 ?_
   rw [<- Zn, seqN e1]
   exact seqX (by simp [Ji, g1])
 rw [seqN e0, seqN e2]
 simp [Lq, h1.t4, IntKind.wrap, IntKind.bits, IntKind.signed]
theorem Qxm (h : At37 M 4) (hc : ([99, 104, 97, 114] == s) = true) : ∃ M' k, TyOK 4 k /\ exec C L Zz ⟨M, [], Zx op s z l 0 0⟩ = some (.ret, ⟨M', [], Zx op s z l 4 k⟩) /\ M'.get 2 = some (.ptr 1 0 0) := by
 obtain ⟨M1, e1, h1, g1⟩ := Qme C L op s z l ((10, .p (.bool true)) :: (9, int 7) :: (8, .sl 2 0 0 7 1) :: (7, int 4) :: M) ⟨by simp [h.t1], by simp [h.t2], by simp [h.t3], by simp [h.t4]⟩ true hc
 have e0 : exec C L Jl ⟨M, [], Zx op s z l 0 0⟩ = some (.normal, ⟨(10, .p (.bool true)) :: (9, int 7) :: (8, .sl 2 0 0 7 1) :: (7, int 4) :: M, [], Zx op s z l 0 0⟩) := by
   simp [Jl, G4, G5, h.t3, h.t4]
 rcases Int.lt_or_le 1000 z with q | q
 · have q1 : (1000 < z) = True := eq_true q
   have q2 : (0 < z) = True := eq_true (by omega)
   exact ⟨_, 1000, .inr ⟨by decide, by decide, by decide⟩, by
     unfold Zz
     rw [seqN e0]
     refine seqR ?_
     unfold Jy Gn J1
     refine E5 ?_
     rw [<- Zn, seqN e1, seqN (by simp [Ji, g1]; rfl), seqN (by simp [Yt]; rfl)]
     simp [Yr, G1, G3, Yq, h1.t1, h1.t2, h1.t4, maxA, q1, q2]
     rfl, by simp [h1.t2]⟩
 · have q1 : (1000 < z) = False := eq_false (by omega)
   rcases Int.lt_or_le 0 z with p | p
   · have q2 : (0 < z) = True := eq_true p
     exact ⟨_, z, .inr ⟨by decide, by omega, by omega⟩, by
       unfold Zz
       rw [seqN e0]
       refine seqR ?_
       unfold Jy Gn J1
       refine E5 ?_
       rw [<- Zn, seqN e1, seqN (by simp [Ji, g1]; rfl), seqN (by simp [Yt]; rfl)]
       simp [Yr, G1, G3, Yq, h1.t1, h1.t2, h1.t4, maxA, q1, q2]
       rfl, by simp [h1.t2]⟩
   · have q2 : (0 < z) = False := eq_false (by omega)
     exact ⟨_, 0, .inr ⟨by decide, by decide, by decide⟩, by
       unfold Zz
       rw [seqN e0]
       refine seqR ?_
       unfold Jy Gn J1
       refine E5 ?_
       rw [<- Zn, seqN e1, seqN (by simp [Ji, g1]; rfl), seqN (by simp [Yt]; rfl)]
       simp [Yr, G1, G3, Yq, h1.t1, h1.t2, h1.t4, maxA, q1, q2]
       rfl, by simp [h1.t2]⟩
theorem Qkm (h : At37 M 5) (c : Bool) (hc : ([118, 97, 114, 99, 104, 97, 114] == s) = c) : ∃ M', exec C L Je ⟨M, [], Zx op s z l 0 0⟩ = some (.normal, ⟨M', [], Zx op s z l 0 0⟩) /\ At37 M' 5 /\ M'.get 19 = some (.p (.bool (!c))) := by
 obtain ⟨t1, t2, t3, t4⟩ := h
 have fin : (∃ s1 : Go.Ab.Tr, Zy C 0 (opsD Je) ⟨⟨M, [], Zx op s z l 0 0⟩, [], []⟩ = some (none, s1) /\ s1.wrs = [] /\ s1.st.defers = [] /\ s1.st.heap = Zx op s z l 0 0 /\ At37 s1.st.env 5 /\ s1.st.env.get 19 = some (.p (.bool (!c)))) ->
     ∃ M', exec C L Je ⟨M, [], Zx op s z l 0 0⟩ = some (.normal, ⟨M', [], Zx op s z l 0 0⟩) /\ At37 M' 5 /\ M'.get 19 = some (.p (.bool (!c))) := by
   rintro ⟨⟨⟨M', d, σ'⟩, rds, wrs⟩, hr, h2, h3, h4, hA⟩
   simp only at h2 h3 h4
   subst h2 h3 h4
   exact ⟨M', L9 hr Ru, hA⟩
 exact fin ⟨_, by
     show Zy C 0 (_ :: _) _ = _
     refine (Zf rfl rfl (by simp [t1, t3, t4, hc]; rfl)).trans ?_
     refine (Zf rfl rfl (by simp [t1, t3, t4, hc]; rfl)).trans ?_
     refine (Zf rfl rfl (by simp [t1, t3, t4, hc]; rfl)).trans ?_
     refine (Eu rfl rfl (by simp [t1, t3, t4, hc]; exact ⟨rfl, rfl⟩)).trans ?_
     refine (Zf rfl rfl (by simp [t1, t3, t4, hc]; rfl)).trans ?_
     refine (Eu rfl rfl (by simp [t1, t3, t4, hc]; exact ⟨rfl, rfl⟩)).trans ?_
     refine (Zf rfl rfl (by simp [t1, t3, t4, hc]; rfl)).trans ?_
     exact rfl, by rfl, by rfl, by rfl, ⟨by simp [t1], by simp [t2], by simp [t3], by simp [t4]⟩, by simp⟩
theorem Qty (h : At37 M 5) (hc : ([118, 97, 114, 99, 104, 97, 114] == s) = false) : ∃ M', exec C L Zz ⟨M, [], Zx op s z l 0 0⟩ = some (.normal, ⟨M', [], Zx op s z l 0 0⟩) /\ At37 M' 6 := by
 obtain ⟨M1, e1, h1, g1⟩ := Qkm C L op s z l ((10, .p (.bool true)) :: (9, int 7) :: (8, .sl 2 0 0 7 1) :: (7, int 5) :: M) ⟨by simp [h.t1], by simp [h.t2], by simp [h.t3], by simp [h.t4]⟩ false hc
 refine ⟨(4, int 6) :: (12, int 6) :: (11, int 5) :: M1, ?_, ⟨by simp [h1.t1], by simp [h1.t2], by simp [h1.t3], by simp⟩⟩
 unfold Zz
 have e0 : exec C L Jl ⟨M, [], Zx op s z l 0 0⟩ = some (.normal, ⟨(10, .p (.bool true)) :: (9, int 7) :: (8, .sl 2 0 0 7 1) :: (7, int 5) :: M, [], Zx op s z l 0 0⟩) := by
   simp [Jl, G4, G5, h.t3, h.t4]
 have e2 : exec C L Jy ⟨(10, .p (.bool true)) :: (9, int 7) :: (8, .sl 2 0 0 7 1) :: (7, int 5) :: M, [], Zx op s z l 0 0⟩ = some (.normal, ⟨M1, [], Zx op s z l 0 0⟩) := by
   unfold Jy Gn J1
   refine F0 ?_
   rw [<- Zn, seqN e1]
   exact seqX (by simp [Ji, g1])
 rw [seqN e0, seqN e2]
 simp [Lq, h1.t4, IntKind.wrap, IntKind.bits, IntKind.signed]
theorem Qw7 (h : At37 M 5) (hc : ([118, 97, 114, 99, 104, 97, 114] == s) = true) : ∃ M' k, TyOK 5 k /\ exec C L Zz ⟨M, [], Zx op s z l 0 0⟩ = some (.ret, ⟨M', [], Zx op s z l 5 k⟩) /\ M'.get 2 = some (.ptr 1 0 0) := by
 obtain ⟨M1, e1, h1, g1⟩ := Qkm C L op s z l ((10, .p (.bool true)) :: (9, int 7) :: (8, .sl 2 0 0 7 1) :: (7, int 5) :: M) ⟨by simp [h.t1], by simp [h.t2], by simp [h.t3], by simp [h.t4]⟩ true hc
 have e0 : exec C L Jl ⟨M, [], Zx op s z l 0 0⟩ = some (.normal, ⟨(10, .p (.bool true)) :: (9, int 7) :: (8, .sl 2 0 0 7 1) :: (7, int 5) :: M, [], Zx op s z l 0 0⟩) := by
   simp [Jl, G4, G5, h.t3, h.t4]
 rcases Int.lt_or_le 1000 z with q | q
 · have q1 : (1000 < z) = True := eq_true q
   have q2 : (0 < z) = True := eq_true (by omega)
   exact ⟨_, 1000, .inr ⟨by decide, by decide, by decide⟩, by
     unfold Zz
     rw [seqN e0]
     refine seqR ?_
     unfold Jy Gn J1
     refine E5 ?_
     rw [<- Zn, seqN e1, seqN (by simp [Ji, g1]; rfl), seqN (by simp [Yt]; rfl)]
     simp [Yr, G1, G3, Yq, h1.t1, h1.t2, h1.t4, maxA, q1, q2]
     rfl, by simp [h1.t2]⟩
 · have q1 : (1000 < z) = False := eq_false (by omega)
   rcases Int.lt_or_le 0 z with p | p
   · have q2 : (0 < z) = True := eq_true p
     exact ⟨_, z, .inr ⟨by decide, by omega, by omega⟩, by
       unfold Zz
       rw [seqN e0]
       refine seqR ?_
       unfold Jy Gn J1
       refine E5 ?_
       rw [<- Zn, seqN e1, seqN (by simp [Ji, g1]; rfl), seqN (by simp [Yt]; rfl)]
       simp [Yr, G1, G3, Yq, h1.t1, h1.t2, h1.t4, maxA, q1, q2]
       rfl, by simp [h1.t2]⟩
   · have q2 : (0 < z) = False := eq_false (by omega)
     exact ⟨_, 0, .inr ⟨by decide, by decide, by decide⟩, by
       unfold Zz
       rw [seqN e0]
       refine seqR ?_
       unfold Jy Gn J1
       refine E5 ?_
       rw [<- Zn, seqN e1, seqN (by simp [Ji, g1]; rfl), seqN (by simp [Yt]; rfl)]
       simp [Yr, G1, G3, Yq, h1.t1, h1.t2, h1.t4, maxA, q1, q2]
       rfl, by simp [h1.t2]⟩
theorem Qkt (h : At37 M 6) (c : Bool) (hc : ([98, 111, 111, 108, 101, 97, 110] == s) = c) : ∃ M', exec C L Je ⟨M, [], Zx op s z l 0 0⟩ = some (.normal, ⟨M', [], Zx op s z l 0 0⟩) /\ At37 M' 6 /\ M'.get 19 = some (.p (.bool (!c))) := by
 obtain ⟨t1, t2, t3, t4⟩ := h
 have fin : (∃ s1 : Go.Ab.Tr, Zy C 0 (opsD Je) ⟨⟨M, [], Zx op s z l 0 0⟩, [], []⟩ = some (none, s1) /\ s1.wrs = [] /\ s1.st.defers = [] /\ s1.st.heap = Zx op s z l 0 0 /\ At37 s1.st.env 6 /\ s1.st.env.get 19 = some (.p (.bool (!c)))) ->
     ∃ M', exec C L Je ⟨M, [], Zx op s z l 0 0⟩ = some (.normal, ⟨M', [], Zx op s z l 0 0⟩) /\ At37 M' 6 /\ M'.get 19 = some (.p (.bool (!c))) := by
   rintro ⟨⟨⟨M', d, σ'⟩, rds, wrs⟩, hr, h2, h3, h4, hA⟩
   simp only at h2 h3 h4
   subst h2 h3 h4
   exact ⟨M', L9 hr Ru, hA⟩
 exact fin ⟨_, by
     show Zy C 0 (_ :: _) _ = _
     refine (Zf rfl rfl (by simp [t1, t3, t4, hc]; rfl)).trans ?_
     refine (Zf rfl rfl (by simp [t1, t3, t4, hc]; rfl)).trans ?_
     refine (Zf rfl rfl (by simp [t1, t3, t4, hc]; rfl)).trans ?_
     refine (Eu rfl rfl (by simp [t1, t3, t4, hc]; exact ⟨rfl, rfl⟩)).trans ?_
     refine (Zf rfl rfl (by simp [t1, t3, t4, hc]; rfl)).trans ?_
     refine (Eu rfl rfl (by simp [t1, t3, t4, hc]; exact ⟨rfl, rfl⟩)).trans ?_
     refine (Zf rfl rfl (by simp [t1, t3, t4, hc]; rfl)).trans ?_
     exact rfl, by rfl, by rfl, by rfl, ⟨by simp [t1], by simp [t2], by simp [t3], by simp [t4]⟩, by simp⟩
theorem Qta (h : At37 M 6) (hc : ([98, 111, 111, 108, 101, 97, 110] == s) = false) : ∃ M', exec C L Zz ⟨M, [], Zx op s z l 0 0⟩ = some (.normal, ⟨M', [], Zx op s z l 0 0⟩) /\ At37 M' 7 := by
 obtain ⟨M1, e1, h1, g1⟩ := Qkt C L op s z l ((10, .p (.bool true)) :: (9, int 7) :: (8, .sl 2 0 0 7 1) :: (7, int 6) :: M) ⟨by simp [h.t1], by simp [h.t2], by simp [h.t3], by simp [h.t4]⟩ false hc
 refine ⟨(4, int 7) :: (12, int 7) :: (11, int 6) :: M1, ?_, ⟨by simp [h1.t1], by simp [h1.t2], by simp [h1.t3], by simp⟩⟩
 unfold Zz
 have e0 : exec C L Jl ⟨M, [], Zx op s z l 0 0⟩ = some (.normal, ⟨(10, .p (.bool true)) :: (9, int 7) :: (8, .sl 2 0 0 7 1) :: (7, int 6) :: M, [], Zx op s z l 0 0⟩) := by
   simp [Jl, G4, G5, h.t3, h.t4]
 have e2 : exec C L Jy ⟨(10, .p (.bool true)) :: (9, int 7) :: (8, .sl 2 0 0 7 1) :: (7, int 6) :: M, [], Zx op s z l 0 0⟩ = some (.normal, ⟨M1, [], Zx op s z l 0 0⟩) := by
   unfold Jy Gn J1
   refine F0 ?_
   rw [<- Zn, seqN e1]
   exact seqX (by simp [Ji, g1])
 rw [seqN e0, seqN e2]
 simp [Lq, h1.t4, IntKind.wrap, IntKind.bits, IntKind.signed]
theorem Qy9 (h : At37 M 6) (hc : ([98, 111, 111, 108, 101, 97, 110] == s) = true) : ∃ M' k, TyOK 6 k /\ exec C L Zz ⟨M, [], Zx op s z l 0 0⟩ = some (.ret, ⟨M', [], Zx op s z l 6 k⟩) /\ M'.get 2 = some (.ptr 1 0 0) := by
 obtain ⟨M1, e1, h1, g1⟩ := Qkt C L op s z l ((10, .p (.bool true)) :: (9, int 7) :: (8, .sl 2 0 0 7 1) :: (7, int 6) :: M) ⟨by simp [h.t1], by simp [h.t2], by simp [h.t3], by simp [h.t4]⟩ true hc
 have e0 : exec C L Jl ⟨M, [], Zx op s z l 0 0⟩ = some (.normal, ⟨(10, .p (.bool true)) :: (9, int 7) :: (8, .sl 2 0 0 7 1) :: (7, int 6) :: M, [], Zx op s z l 0 0⟩) := by
   simp [Jl, G4, G5, h.t3, h.t4]
 exact ⟨_, 0, .inl ⟨by decide, rfl⟩, by
   unfold Zz
   rw [seqN e0]
   refine seqR ?_
   unfold Jy Gn J1
   refine E5 ?_
   rw [<- Zn, seqN e1, seqN (by simp [Ji, g1]; rfl), seqN (by simp [Yt]; rfl)]
   simp [Yr, G1, G3, Yq, h1.t1, h1.t2, h1.t4]
   rfl, by simp [h1.t2]⟩
end
section
variable [Mx] (C : Zj) (L : Nat) (op s : Word) (z : Int) (l : PV)
def Qi0 (x : Option (AExit × St)) : Prop := ∃ M', (x = some (.exit 0, ⟨M', [], Zx op s z l 0 0⟩) ∨ ∃ b k, TyOK b k /\ x = some (.ret, ⟨M', [], Zx op s z l b k⟩)) /\ M'.get 2 = some (.ptr 1 0 0)
theorem last37 (f : Nat) (M : Env) (h : At37 M 7) : Qi0 op s z l (iter (exec C L Zz) none (f + 1) ⟨M, [], Zx op s z l 0 0⟩) := by
 refine ⟨_, .inl (by simp only [iter, St.keep]; simp [Zz, Jl, G4, G5, h.t3, h.t4]; rfl), by simp [h.t2]⟩
theorem Qrk (f : Nat) (M : Env) (h : At37 M 6) : Qi0 op s z l (iter (exec C L Zz) none (f + 2) ⟨M, [], Zx op s z l 0 0⟩) := by
 cases hc : ([98, 111, 111, 108, 101, 97, 110] == s) with
 | true =>
   obtain ⟨M', k, h1, h2, h3⟩ := Qy9 C L op s z l M h hc
   exact ⟨M', .inr ⟨6, k, h1, by simp only [iter, St.keep, h2]⟩, h3⟩
 | false =>
   obtain ⟨M', h1, h2⟩ := Qta C L op s z l M h hc
   obtain ⟨M2, q1, q2⟩ := last37 C L op s z l f M' h2
   have e : iter (exec C L Zz) none (f + 2) ⟨M, [], Zx op s z l 0 0⟩ = iter (exec C L Zz) none (f + 1) ⟨M', [], Zx op s z l 0 0⟩ := by
     conv => lhs; rw [show f + 2 = (f + 1) + 1 from rfl]
     simp only [iter, St.keep, h1]
   rw [e]
   exact ⟨M2, q1, q2⟩
theorem Qto (f : Nat) (M : Env) (h : At37 M 5) : Qi0 op s z l (iter (exec C L Zz) none (f + 3) ⟨M, [], Zx op s z l 0 0⟩) := by
 cases hc : ([118, 97, 114, 99, 104, 97, 114] == s) with
 | true =>
   obtain ⟨M', k, h1, h2, h3⟩ := Qw7 C L op s z l M h hc
   exact ⟨M', .inr ⟨5, k, h1, by simp only [iter, St.keep, h2]⟩, h3⟩
 | false =>
   obtain ⟨M', h1, h2⟩ := Qty C L op s z l M h hc
   obtain ⟨M2, q1, q2⟩ := Qrk C L op s z l f M' h2
   have e : iter (exec C L Zz) none (f + 3) ⟨M, [], Zx op s z l 0 0⟩ = iter (exec C L Zz) none (f + 2) ⟨M', [], Zx op s z l 0 0⟩ := by
     conv => lhs; rw [show f + 3 = (f + 2) + 1 from rfl]
     simp only [iter, St.keep, h1]
   rw [e]
   exact ⟨M2, q1, q2⟩
theorem Qrq (f : Nat) (M : Env) (h : At37 M 4) : Qi0 op s z l (iter (exec C L Zz) none (f + 4) ⟨M, [], Zx op s z l 0 0⟩) := by
 cases hc : ([99, 104, 97, 114] == s) with
 | true =>
   obtain ⟨M', k, h1, h2, h3⟩ := Qxm C L op s z l M h hc
   exact ⟨M', .inr ⟨4, k, h1, by simp only [iter, St.keep, h2]⟩, h3⟩
 | false =>
   obtain ⟨M', h1, h2⟩ := Qt6 C L op s z l M h hc
   obtain ⟨M2, q1, q2⟩ := Qto C L op s z l f M' h2
   have e : iter (exec C L Zz) none (f + 4) ⟨M, [], Zx op s z l 0 0⟩ = iter (exec C L Zz) none (f + 3) ⟨M', [], Zx op s z l 0 0⟩ := by
     conv => lhs; rw [show f + 4 = (f + 3) + 1 from rfl]
     simp only [iter, St.keep, h1]
   rw [e]
   exact ⟨M2, q1, q2⟩
theorem Qry (f : Nat) (M : Env) (h : At37 M 3) : Qi0 op s z l (iter (exec C L Zz) none (f + 5) ⟨M, [], Zx op s z l 0 0⟩) := by
 cases hc : ([98, 105, 103, 105, 110, 116] == s) with
 | true =>
   obtain ⟨M', k, h1, h2, h3⟩ := Qyr C L op s z l M h hc
   exact ⟨M', .inr ⟨3, k, h1, by simp only [iter, St.keep, h2]⟩, h3⟩
 | false =>
   obtain ⟨M', h1, h2⟩ := Qsn C L op s z l M h hc
   obtain ⟨M2, q1, q2⟩ := Qrq C L op s z l f M' h2
   have e : iter (exec C L Zz) none (f + 5) ⟨M, [], Zx op s z l 0 0⟩ = iter (exec C L Zz) none (f + 4) ⟨M', [], Zx op s z l 0 0⟩ := by
     conv => lhs; rw [show f + 5 = (f + 4) + 1 from rfl]
     simp only [iter, St.keep, h1]
   rw [e]
   exact ⟨M2, q1, q2⟩
theorem Qub (f : Nat) (M : Env) (h : At37 M 2) : Qi0 op s z l (iter (exec C L Zz) none (f + 6) ⟨M, [], Zx op s z l 0 0⟩) := by
 cases hc : ([105, 110, 116, 101, 103, 101, 114] == s) with
 | true =>
   obtain ⟨M', k, h1, h2, h3⟩ := Qxc C L op s z l M h hc
   exact ⟨M', .inr ⟨2, k, h1, by simp only [iter, St.keep, h2]⟩, h3⟩
 | false =>
   obtain ⟨M', h1, h2⟩ := Qr9 C L op s z l M h hc
   obtain ⟨M2, q1, q2⟩ := Qry C L op s z l f M' h2
   have e : iter (exec C L Zz) none (f + 6) ⟨M, [], Zx op s z l 0 0⟩ = iter (exec C L Zz) none (f + 5) ⟨M', [], Zx op s z l 0 0⟩ := by
     conv => lhs; rw [show f + 6 = (f + 5) + 1 from rfl]
     simp only [iter, St.keep, h1]
   rw [e]
   exact ⟨M2, q1, q2⟩
theorem Qsc (f : Nat) (M : Env) (h : At37 M 1) : Qi0 op s z l (iter (exec C L Zz) none (f + 7) ⟨M, [], Zx op s z l 0 0⟩) := by
 cases hc : ([115, 109, 97, 108, 108, 105, 110, 116] == s) with
 | true =>
   obtain ⟨M', k, h1, h2, h3⟩ := Qzo C L op s z l M h hc
   exact ⟨M', .inr ⟨1, k, h1, by simp only [iter, St.keep, h2]⟩, h3⟩
 | false =>
   obtain ⟨M', h1, h2⟩ := Qro C L op s z l M h hc
   obtain ⟨M2, q1, q2⟩ := Qub C L op s z l f M' h2
   have e : iter (exec C L Zz) none (f + 7) ⟨M, [], Zx op s z l 0 0⟩ = iter (exec C L Zz) none (f + 6) ⟨M', [], Zx op s z l 0 0⟩ := by
     conv => lhs; rw [show f + 7 = (f + 6) + 1 from rfl]
     simp only [iter, St.keep, h1]
   rw [e]
   exact ⟨M2, q1, q2⟩
end
theorem type37 [Mx] (L n : Nat) (t : T) : ∃ b k, TyOK b k /\ ∀ σ, (cAt TT (L + 8) (n + 1)).1 37 [.p (node t)] σ = some (.ret (.p (tyP b k)), σ) := by
 obtain ⟨op, s, z, l⟩ := t
 have key : ∃ b k, TyOK b k /\ ansV (Z8 (cAt TT (L + 8) n).1 (cAt TT (L + 8) n).2 (L + 8) lit137 [.p (node (.mk op s z l))] []) = some (tyP b k) := by
   generalize (cAt TT (L + 8) n).1 = C
   generalize (cAt TT (L + 8) n).2 = D
   generalize hl : PV.vsl (Zs l) l.length = lv
   have ec : cells (.mk op s z l) = [.str op, .str s, .int .i64 z, lv] := by rw [<- hl]; rfl
   simp only [node, ec]
   obtain ⟨M', h1, h2⟩ := Qsc C (L + 8) op s z lv (L + 1) [(4, int 1), (3, .sl 2 0 0 7 1), (6, .sl 2 0 0 7 1), (2, .ptr 1 0 0), (1, .ptr 0 0 0), (0, .p (.agg [.str op, .str s, .int .i64 z, lv]))] ⟨rfl, rfl, rfl, rfl⟩
   rw [Zp, lit137_tree]
   unfold n137 Qve
   rw [seqN (by simp [Qu5, params]; rfl), seqN (by simp [Qu9]; rfl), <- Zn, seqN (by simp [Qki]; rfl)]
   have e3 : exec C (L + 8) y9 ⟨[(4, int 1), (3, .sl 2 0 0 7 1), (6, .sl 2 0 0 7 1), (2, .ptr 1 0 0), (1, .ptr 0 0 0), (0, .p (.agg [.str op, .str s, .int .i64 z, lv]))], [], Zx op s z lv 0 0⟩ = exec C (L + 8) (.block 0 zj) ⟨[(4, int 1), (3, .sl 2 0 0 7 1), (6, .sl 2 0 0 7 1), (2, .ptr 1 0 0), (1, .ptr 0 0 0), (0, .p (.agg [.str op, .str s, .int .i64 z, lv]))], [], Zx op s z lv 0 0⟩ := rfl
   rcases h1 with h1 | ⟨b, k, hk, h1⟩
   · have e4 := e3.trans (F0 (id := 0) (b := zj) h1)
     refine ⟨0, 0, .inl ⟨by decide, rfl⟩, ?_⟩
     rw [seqN (a := y9) (by exact e4)]
     simp [Qvu, lit137, h2]
   · have e4 := e3.trans (E5 (id := 0) (b := zj) h1)
     refine ⟨b, k, hk, ?_⟩
     rw [seqR (a := y9) (by exact e4)]
     simp [lit137, h2]
 obtain ⟨b, k, h1, h2⟩ := key
 exact ⟨b, k, h1, fun σ => Z7 (ps := [node (.mk op s z l)]) q137 (by rfl) h2 σ⟩
end Go.Ab.Keep
namespace Go.Ab.Keep
open Go Go.Ab Go.Ab.Plan Go.Ab.Key Go.Ab.Cnt Go.Ab.Turn Go.Proofs
theorem lit155_tree : lit155.body = n155 := rfl
theorem lit158_tree : lit158.body = n158 := rfl
theorem lit186_tree : lit186.body = n186 := rfl
section
variable [Mx] (C : Zj) (L : Nat) (b k : Int) (s : Word) (M : Env)
abbrev jc (b k : Int) : Heap := [.arr (.pv [.int .i64 b, .int .i64 k]) 0 0 none, .arr (.pv (vc .null)) 0 0 (some 54)]
structure At155 (M : Env) (s : Word) : Prop where
 t0 : M.get 0 = some (.p (.str s))
 t3 : M.get 3 = some (.ptr 0 0 0)
 t4 : M.get 4 = some (.ptr 1 0 0)
theorem Qzl (h : At155 M s) (hs : ¬ (b = 4 /\ (s.length : Int) < k)) : ∃ M', exec C L Ve ⟨M, [], jc b k⟩ = some (.exit 0, ⟨M', [], jc b k⟩) /\ At155 M' s := by
 by_cases hb : b = 4
 · have hl : ((s.length : Int) < k) = False := eq_false fun h => hs ⟨hb, h⟩
   subst hb
   exact ⟨_, by simp [Ve, Xm, Tf, S5, Xi, Vj, h.t0, h.t3, hl]; rfl, ⟨by simp [h.t0], by simp [h.t3], by simp [h.t4]⟩⟩
 · have hb' : (b == 4) = false := beq_eq_false_iff_ne.2 hb
   exact ⟨_, by simp [Ve, Xm, Tf, S5, Xi, Vj, h.t0, h.t3, hb']; rfl, ⟨by simp [h.t0], by simp [h.t3], by simp [h.t4]⟩⟩
theorem go155 (h : At155 M s) (hb : b = 4) (hs : (s.length : Int) < k) (hk : k <= 1000) : ∃ M', exec C L Ve ⟨M, [], jc b k⟩ = some (.normal, ⟨M', [], jc b k⟩) /\ At155 M' (s ++ [32]) := by
 subst hb
 have hl : s.length + 1 <= LIM := by have : LIM = 4294967296 := rfl; omega
 exact ⟨_, by simp [Ve, Xm, Tf, S5, Xi, Vj, h.t0, h.t3, hs, hl]; rfl, ⟨by simp, by simp [h.t3], by simp [h.t4]⟩⟩
theorem Qot (hk : k <= 1000) : ∀ (d f : Nat) (s : Word) (M : Env), At155 M s -> 1000 - s.length <= d -> d < f -> ∃ M' s', iter (exec C L Ve) none f ⟨M, [], jc b k⟩ = some (.exit 0, ⟨M', [], jc b k⟩) /\ At155 M' s' /\ (s'.length <= s.length ∨ s'.length <= 1000)
 | d, f, s, M, h, hd, hf => by
   obtain ⟨f, rfl⟩ : ∃ m, f = m + 1 := ⟨f - 1, by omega⟩
   by_cases hs : b = 4 /\ (s.length : Int) < k
   · obtain ⟨hb, hs⟩ := hs
     obtain ⟨M1, e1, h1⟩ := go155 C L b k s M h hb hs hk
     obtain ⟨d, rfl⟩ : ∃ m, d = m + 1 := ⟨d - 1, by omega⟩
     have hl1 : (s ++ [32]).length = s.length + 1 := by simp
     obtain ⟨M', s', e2, h2, h3⟩ := Qot hk d f (s ++ [32]) M1 h1 (by omega) (by omega)
     exact ⟨M', s', by simp only [iter, St.keep, e1]; exact e2, h2, by omega⟩
   · obtain ⟨M1, e1, h1⟩ := Qzl C L b k s M h hs
     exact ⟨M1, s, by simp only [iter, St.keep, e1], h1, .inl (Nat.le_refl _)⟩
end
section
variable [Mx] (L n : Nat)
theorem Qr3 (s : Word) (b k : Int) (hk : k <= 1000) (hL : 1000 < L) : ∃ s' : Word, (s'.length <= s.length ∨ s'.length <= 1000) /\ ∀ σ, (cAt TT L (n + 2)).1 55 [.p (.str s), .p (tyP b k)] σ = some (.ret (.p (val (.text s'))), σ) := by
 have key : ∃ s' : Word, (s'.length <= s.length ∨ s'.length <= 1000) /\ ansV (Z8 (cAt TT L (n + 1)).1 (cAt TT L (n + 1)).2 L lit155 [.p (.str s), .p (tyP b k)] []) = some (val (.text s')) := by
   have e1 := Qnj L n
   generalize (cAt TT L (n + 1)).1 = C at *
   generalize (cAt TT L (n + 1)).2 = D
   simp only [val, vc] at e1
   obtain ⟨M', s', e2, h2, h3⟩ := Qot C L b k hk 1000 L s [(4, .ptr 1 0 0), (3, .ptr 0 0 0), (0, .p (.str s)), (1, .p (tyP b k))] ⟨rfl, rfl, rfl⟩ (by omega) hL
   refine ⟨s', h3, ?_⟩
   rw [Zp, lit155_tree]
   unfold n155
   rw [seqN (by simp [Qwm, params]; rfl)]
   rw [seqN (a := Qwo) (by exact F0 (id := 0) (b := Qpr) e2)]
   simp [Qwv, lit155, h2.t0, h2.t4, e1, vc]
 obtain ⟨s', h1, h2⟩ := key
 exact ⟨s', h1, fun σ => Z7 (ps := [.str s, tyP b k]) (n := n + 1) q155 (by rfl) h2 σ⟩
end
end Go.Ab.Keep
namespace Go.Ab.Keep
open Go Go.Ab Go.Ab.Plan Go.Ab.Key Go.Ab.Cnt Go.Ab.Turn Go.Proofs
section
variable [Mx] (C : Zj) (L : Nat) (s : Word) (M : Env)
theorem Qno (h : M.get 0 = some (.p (.str s))) (hs : ∀ r, s ≠ 32 :: r) : ∃ M', exec C L Uv ⟨M, [], []⟩ = some (.exit 0, ⟨M', [], []⟩) /\ M'.get 0 = some (.p (.str s)) := by
 cases s with
 | nil => exact ⟨_, by simp [Uv, Xg, Td, S4, Xd, Vp, Zt, h]; rfl, by simp [h]⟩
 | cons c r =>
   have hc : ((c.toNat : Int) == 32) = false := Qex (k := 32) fun e => hs r (by rw [e])
   have hp : (0 : Int) < (r.length : Int) + 1 := by omega
   exact ⟨_, by simp [Uv, Xg, Td, S4, Xd, Vp, Zt, h, hc, hp]; rfl, by simp [h]⟩
theorem go158 (r : Word) (h : M.get 0 = some (.p (.str (32 :: r)))) : ∃ M', exec C L Uv ⟨M, [], []⟩ = some (.normal, ⟨M', [], []⟩) /\ M'.get 0 = some (.p (.str r)) := by
 have hp : (0 : Int) < (r.length : Int) + 1 := by omega
 have hq : (1 : Int) <= (r.length : Int) + 1 := by omega
 exact ⟨_, by simp [Uv, Xg, Td, S4, Xd, Vp, Zt, Ks, Iz, Th, h, hp, hq]; rfl, by simp⟩
end
theorem Qqg [Mx] (C : Zj) (L : Nat) : ∀ (s : Word) (f : Nat) (M : Env), s.length < f -> M.get 0 = some (.p (.str s)) -> ∃ M' s', iter (exec C L Uv) none f ⟨M, [], []⟩ = some (.exit 0, ⟨M', [], []⟩) /\ M'.get 0 = some (.p (.str s')) /\ s'.length <= s.length
 | [], f, M, hf, h => by
   obtain ⟨f, rfl⟩ : ∃ m, f = m + 1 := ⟨f - 1, by omega⟩
   obtain ⟨M', e, g⟩ := Qno C L [] M h (fun r => by simp)
   exact ⟨M', [], by simp only [iter, St.keep, e], g, Nat.le_refl _⟩
 | c :: r, f, M, hf, h => by
   obtain ⟨f, rfl⟩ : ∃ m, f = m + 1 := ⟨f - 1, by omega⟩
   by_cases hc : c = 32
   · rw [hc] at h
     obtain ⟨M1, e, g⟩ := go158 C L M r h
     obtain ⟨M', s', e2, g2, hl⟩ := Qqg C L r f M1 (by simp at hf; omega) g
     exact ⟨M', s', by simp only [iter, St.keep, e]; exact e2, g2, by simp; omega⟩
   · obtain ⟨M', e, g⟩ := Qno C L (c :: r) M h (fun r' e => hc (List.cons.inj e).1)
     exact ⟨M', c :: r, by simp only [iter, St.keep, e], g, Nat.le_refl _⟩
theorem Qra [Mx] (L n : Nat) (s : Word) (hs : s.length < L) (hm : s.length <= 9223372036854775807) : ∃ s' : Word, s'.length <= s.length /\ ∀ σ, (cAt TT L (n + 2)).1 58 [.p (.str s)] σ = some (.ret (.p (.str s')), σ) := by
 have key : ∃ s' : Word, s'.length <= s.length /\ ansV (Z8 (cAt TT L (n + 1)).1 (cAt TT L (n + 1)).2 L lit158 [.p (.str s)] []) = some (.str s') := by
   have e1 := Qgc L n s hs hm
   have hl := Enc.trim_len s
   generalize (cAt TT L (n + 1)).1 = C at *
   generalize (cAt TT L (n + 1)).2 = D
   generalize Fg s = u at *
   obtain ⟨M', s', e2, h2, h3⟩ := Qqg C L u L [(0, .p (.str u)), (4, .p (.str u)), (3, .p (.str s)), (2, .p (.str [])), (0, .p (.str s))] (by omega) rfl
   refine ⟨s', by omega, ?_⟩
   rw [Zp, lit158_tree]
   unfold n158
   rw [seqN (by simp [Qwb, params]; rfl), seqN (by simp [Qw1, e1]; rfl)]
   rw [seqN (a := Qvd) (by exact F0 (id := 0) (b := Qnk) e2)]
   simp [Quw, lit158, h2]
 obtain ⟨s', h1, h2⟩ := key
 exact ⟨s', h1, fun σ => Z7 (ps := [.str s]) (n := n + 1) q158 (by rfl) h2 σ⟩
end Go.Ab.Keep
namespace Go.Ab.Keep
open Go Go.Ab Go.Ab.Plan Go.Ab.Key Go.Ab.Cnt Go.Ab.Turn Go.Proofs
abbrev digs : Word := [48, 49, 50, 51, 52, 53, 54, 55, 56, 57]
theorem Qyc (k : Nat) (h : k <= 9) : ((digs.drop k).take 1).length = 1 := by
 simp; omega
section
variable [Mx] (C : Zj) (L : Nat) (z : Int) (sg acc : Word) (M : Env)
structure At186 (M : Env) (z : Int) (sg acc : Word) : Prop where
 t0 : M.get 0 = some (int z)
 t1 : M.get 1 = some (.p (.str sg))
 t5 : M.get 5 = some (.p (.str acc))
theorem go186 (h : At186 M z sg acc) (h1 : -9223372036854775808 <= z) (h2 : z <= 0) (ha : acc.length <= 30) (hg : sg.length <= 1) : ∃ M' d, d.length = 1 /\
   ((z.tdiv 10 ≠ 0 /\ exec C L Xu ⟨M, [], []⟩ = some (.normal, ⟨M', [], []⟩) /\ At186 M' (z.tdiv 10) sg (d ++ acc)) ∨ (z.tdiv 10 = 0 /\ exec C L Xu ⟨M, [], []⟩ = some (.ret, ⟨M', [], []⟩) /\ M'.get 4 = some (.p (.str (sg ++ (d ++ acc)))))) := by
 obtain ⟨t0, t1, t5⟩ := h
 obtain ⟨k, hk, hm⟩ : ∃ k : Nat, k <= 9 /\ z.tmod 10 = -(k : Int) := by
   refine ⟨(-(z.tmod 10)).toNat, ?_, ?_⟩
   · have := Int.tmod_lt_of_pos (-z) (show (0 : Int) < 10 by decide)
     rw [Int.neg_tmod] at this
     omega
   · have := Int.tmod_nonneg (10 : Int) (show (0 : Int) <= -z by omega)
     rw [Int.neg_tmod] at this
     omega
 have hq : z.tdiv 10 <= 0 /\ z <= z.tdiv 10 := by
   have e := Int.tmod_add_mul_tdiv z 10
   rw [hm] at e
   omega
 have eq : IntKind.i64.wrap (z.tdiv 10) = z.tdiv 10 := J5 _ (by omega) (by omega)
 have e1 : IntKind.i64.wrap (k : Int) = (k : Int) := J5 _ (by omega) (by omega)
 have e2 : IntKind.i64.wrap ((k : Int) + 1) = (k : Int) + 1 := J5 _ (by omega) (by omega)
 have hd := Qyc k hk
 have hlim : 1 + acc.length <= LIM := by have : LIM = 4294967296 := rfl; omega
 have hlim2 : sg.length + (1 + acc.length) <= LIM := by have : LIM = 4294967296 := rfl; omega
 have hb : (0 : Int) <= (k : Int) + 1 /\ (k : Int) + 1 <= 10 := by omega
 have hb2 : (k : Int) <= ((((k : Int) + 1).toNat : Nat) : Int) := by omega
 have ht : ((k : Int) + 1).toNat = k + 1 := by omega
 have hs : Ks 1 (.p (.str digs)) (some (int k)) (some (int ((k : Int) + 1))) = some (.p (.str ((digs.drop k).take 1))) := by
   have g1 : (0 : Int) <= (k : Int) + 1 /\ (k : Int) + 1 <= (([48, 49, 50, 51, 52, 53, 54, 55, 56, 57] : Word).length : Nat) := ⟨by omega, by simp; omega⟩
   have g2 : (0 : Int) <= (k : Int) /\ (k : Int) <= ((k + 1 : Nat) : Int) := by omega
   have g3 : k + 1 - ((k : Int)).toNat = 1 := by omega
   have g4 : ((k : Int)).toNat = k := by omega
   simp only [Ks, Iz, Th, digs, if_pos g1, ht, if_pos g2, g4]
   rw [show k + 1 - k = 1 by omega]
 generalize (digs.drop k).take 1 = d at *
 simp only [digs] at hs
 by_cases hz : z.tdiv 10 = 0
 · refine ⟨_, d, hd, .inr ⟨hz, by simp [Xu, Qa0, qw, qn, qz, qo, t0, t1, t5, hm, eq, e1, e2, hs, hd, hlim, hlim2, hz]; rfl, by simp⟩⟩
 · have hz' : (z.tdiv 10 == 0) = false := beq_eq_false_iff_ne.2 hz
   refine ⟨_, d, hd, .inl ⟨hz, by simp [Xu, Qa0, qw, qn, qz, qo, t0, t1, t5, hm, eq, e1, e2, hs, hd, hlim, hz']; rfl, ⟨by simp, by simp [t1], by simp⟩⟩⟩
end
theorem Qpl [Mx] (C : Zj) (L : Nat) (sg : Word) (hg : sg.length <= 1) : ∀ (d f : Nat) (z : Int) (acc : Word) (M : Env), At186 M z sg acc -> -9223372036854775808 <= z -> z <= 0 -> -z < 10 ^ d -> 1 <= d -> acc.length + d <= 20 -> d < f -> ∃ M' s', iter (exec C L Xu) none f ⟨M, [], []⟩ = some (.ret, ⟨M', [], []⟩) /\ M'.get 4 = some (.p (.str s')) /\ s'.length <= 21
 | 0, f, z, acc, M, h, h1, h2, h3, h4, ha, hf => by omega
 | d + 1, f, z, acc, M, h, h1, h2, h3, h4, ha, hf => by
   obtain ⟨f, rfl⟩ : ∃ m, f = m + 1 := ⟨f - 1, by omega⟩
   obtain ⟨M1, c, hc, hh⟩ := go186 C L z sg acc M h h1 h2 (by omega) hg
   rcases hh with ⟨hz, e, g⟩ | ⟨hz, e, g⟩
   · have hq : z.tdiv 10 <= 0 /\ z <= z.tdiv 10 /\ 10 * (-(z.tdiv 10)) <= -z := by
       have e := Int.tmod_add_mul_tdiv z 10
       have := Int.tmod_nonneg (10 : Int) (show (0 : Int) <= -z by omega)
       rw [Int.neg_tmod] at this
       have := Int.tmod_lt_of_pos (-z) (show (0 : Int) < 10 by decide)
       rw [Int.neg_tmod] at this
       omega
     have hp : -(z.tdiv 10) < 10 ^ d := by
       have : (10 : Int) ^ (d + 1) = 10 ^ d * 10 := Int.pow_succ _ _
       omega
     have hd : 1 <= d := by
       rcases Nat.eq_zero_or_pos d with h0 | h0
       · subst h0
         have : (10 : Int) ^ 0 = 1 := rfl
         omega
       · exact h0
     obtain ⟨M', s', e2, g2, hl⟩ := Qpl C L sg hg d f (z.tdiv 10) (c ++ acc) M1 g (by omega) (by omega) hp hd (by simp [hc]; omega) (by omega)
     exact ⟨M', s', by simp only [iter, St.keep, e]; exact e2, g2, hl⟩
   · exact ⟨M1, _, by simp only [iter, St.keep, e], g, by simp [hc]; omega⟩
theorem Qhf [Mx] (L n : Nat) (hL : 30 < L) (z : Int) (sg : Word) (hg : sg.length <= 1) (h1 : -9223372036854775808 <= z) (h2 : z <= 0) : ∃ s' : Word, s'.length <= 21 /\ ∀ σ, (cAt TT L (n + 1)).1 86 [int z, .p (.str sg)] σ = some (.ret (.p (.str s')), σ) := by
 have key : ∃ s' : Word, s'.length <= 21 /\ ansV (Z8 (cAt TT L n).1 (cAt TT L n).2 L lit186 [int z, .p (.str sg)] []) = some (.str s') := by
   generalize (cAt TT L n).1 = C
   generalize (cAt TT L n).2 = D
   obtain ⟨M', s', e2, g2, hl⟩ := Qpl C L sg hg 20 L z [] [(5, .p (.str [])), (4, .p (.str [])), (0, int z), (1, .p (.str sg))] ⟨rfl, rfl, rfl⟩ h1 h2 (by omega) (by decide) (by decide) (by omega)
   refine ⟨s', hl, ?_⟩
   rw [Zp, lit186_tree]
   unfold n186
   rw [seqN (by simp [Qu3, params]; rfl), seqN (by simp [Qvg]; rfl)]
   rw [show exec C L Qv9 _ = _ from E5 (id := 0) (b := Qo8) e2]
   simp [lit186, g2]
 obtain ⟨s', h1, h2⟩ := key
 exact ⟨s', h1, fun σ => Z7 (ps := [.int .i64 z, .str sg]) q186 (by rfl) h2 σ⟩
theorem Qtw [Mx] (L n : Nat) (hL : 30 < L) (z : Int) (hz : inR z) : ∃ s' : Word, s'.length <= 21 /\ ∀ σ, (cAt TT L (n + 2)).1 56 [int z] σ = some (.ret (.p (.str s')), σ) := by
 have key : ∃ s' : Word, s'.length <= 21 /\ ansV (Z8 (cAt TT L (n + 1)).1 (cAt TT L (n + 1)).2 L lit156 [int z] []) = some (.str s') := by
   unfold inR at hz
   rcases Int.lt_or_le z 0 with h | h
   · obtain ⟨s', hl, e⟩ := Qhf L n hL z [45] (by decide) hz.1 (by omega)
     refine ⟨s', hl, ?_⟩
     have hh : (0 <= z) = False := eq_false (by omega)
     generalize (cAt TT L (n + 1)).1 = C at *
     generalize (cAt TT L (n + 1)).2 = D
     simp [lit156, Z8, params, e, hh]
   · obtain ⟨s', hl, e⟩ := Qhf L n hL (-z) [] (by decide) (by omega) (by omega)
     refine ⟨s', hl, ?_⟩
     have hh : (0 <= z) = True := eq_true h
     have e1 : IntKind.i64.wrap (-z) = -z := J5 _ (by omega) (by omega)
     have e2 : IntKind.i64.wrap (-z - 1) = -z - 1 := J5 _ (by omega) (by omega)
     generalize (cAt TT L (n + 1)).1 = C at *
     generalize (cAt TT L (n + 1)).2 = D
     simp [lit156, Z8, params, e, hh, e1, e2]
 obtain ⟨s', h1, h2⟩ := key
 exact ⟨s', h1, fun σ => Z7 (ps := [.int .i64 z]) (n := n + 1) q156 (by rfl) h2 σ⟩
end Go.Ab.Keep
namespace Go.Ab.Keep
open Go Go.Ab Go.Ab.Plan Go.Ab.Key Go.Ab.Cnt Go.Ab.Turn Go.Proofs
theorem lit159_tree : lit159.body = n159 := rfl
theorem Qsk (n : Int) : (Utf8.encode n).data.toList.length <= 4 := by
 unfold Utf8.encode
 generalize (if Utf8.valid n = true then n.toNat else Utf8.runeError) = c
 simp only []
 by_cases h1 : c < 0x80
 · rw [if_pos h1]; simp
 · rw [if_neg h1]
   by_cases h2 : c < 0x800
   · rw [if_pos h2]; simp
   · rw [if_neg h2]
     by_cases h3 : c < 0x10000
     · rw [if_pos h3]; simp
     · rw [if_neg h3]; simp
section
variable [Mx] (C : Zj) (L : Nat) (s low : Word) (i : Nat) (M : Env)
structure At159 (M : Env) (s low : Word) (i : Nat) : Prop where
 t0 : M.get 0 = some (.p (.str s))
 t2 : M.get 2 = some (.ptr 0 0 0)
 t4 : M.get 4 = some (.p (.str low))
 t5 : M.get 5 = some (int i)
abbrev Ty : Heap := [.arr (.pv (vc .null)) 0 0 (some 54)]
theorem Qxe (h : At159 M s low i) (hi : s.length <= i) : ∃ M', exec C L Ou ⟨M, [], Ty⟩ = some (.exit 0, ⟨M', [], Ty⟩) /\ At159 M' s low i := by
 have hl : ((i : Int) < (s.length : Int)) = False := eq_false (by omega)
 have hl' : (i < s.length) = False := eq_false (by omega)
 exact ⟨_, by simp [Ou, Wf, Tt, Tz, Wi, Vq, R7, H1, Hx, H3, Sg, V6, h.t0, h.t5, hl, hl']; rfl, ⟨by simp [h.t0], by simp [h.t2], by simp [h.t4], by simp [h.t5]⟩⟩
theorem go159 (h : At159 M s low i) (c : UInt8) (hc : s[i]? = some c) (hm : s.length <= 1048576) (hl : low.length <= 4 * i) : ∃ M' low', exec C L Ou ⟨M, [], Ty⟩ = some (.normal, ⟨M', [], Ty⟩) /\ At159 M' s low' (i + 1) /\ low'.length <= 4 * (i + 1) := by
 obtain ⟨hi, _⟩ := List.getElem?_eq_some_iff.1 hc
 have hl1 : ((i : Int) < (s.length : Int)) = True := eq_true (by omega)
 have hl2 : (i < s.length) = True := eq_true hi
 have e1 : IntKind.i64.wrap ((i : Int) + 1) = (i : Int) + 1 := J5 _ (by omega) (by omega)
 have f1 : ((65 <= (c.toNat : Int)) = True) ∨ ((65 <= (c.toNat : Int)) = False) := by by_cases q : 65 <= (c.toNat : Int) <;> simp [q]
 have f2 : (((c.toNat : Int) <= 90) = True) ∨ (((c.toNat : Int) <= 90) = False) := by by_cases q : (c.toNat : Int) <= 90 <;> simp [q]
 have key : ∀ (y : Int), (f1 : ∃ r, exec C L H1 ⟨(6, .p (.int .u8 (c.toNat : Int))) :: (15, .p (.int .u8 (c.toNat : Int))) :: (14, int i) :: (13, .p (.str s)) :: (10, .p (.bool true)) :: (9, int s.length) :: (8, .p (.str s)) :: (7, int i) :: M, [], Ty⟩ = some (.normal, ⟨r, [], Ty⟩) /\ r.get 6 = some (.p (.int .u8 y)) /\ At159 r s low i) ->
     ∃ M' low', exec C L Ou ⟨M, [], Ty⟩ = some (.normal, ⟨M', [], Ty⟩) /\ At159 M' s low' (i + 1) /\ low'.length <= 4 * (i + 1) := by
   rintro y ⟨r, q1, q2, q3⟩
   have hr := Qsk (IntKind.i32.wrap y)
   generalize he : (Utf8.encode (IntKind.i32.wrap y)).data.toList = u at hr
   have hlim : low.length + u.length <= LIM := by have : LIM = 4294967296 := rfl; omega
   refine ⟨_, low ++ u, by
     unfold Ou Wi Vq
     rw [seqN (by simp [Wf, Tt, Tz, h.t0, h.t5, hl1, hl2]; rfl)]
     rw [seqN (Lp (by
       rw [seqN (by simp [R7, Zt, h.t0, h.t5, hc]; rfl), seqN q1]
       simp [Sg, q2, q3.t4, he, hlim]
       rfl))]
     simp [V6, q3.t5, e1]
     rfl, ⟨by simp [q3.t0], by simp [q3.t2], by simp, by simp⟩, by simp; omega⟩
 have st : ∀ r, r = ((6, AV.p (.int .u8 (c.toNat : Int))) :: (15, .p (.int .u8 (c.toNat : Int))) :: (14, int i) :: (13, .p (.str s)) :: (10, .p (.bool true)) :: (9, int s.length) :: (8, .p (.str s)) :: (7, int i) :: M) -> At159 r s low i := by
   rintro r rfl
   exact ⟨by simp [h.t0], by simp [h.t2], by simp [h.t4], by simp [h.t5]⟩
 obtain ⟨s0, s2, s4, s5⟩ := st _ rfl
 have s6 : Env.get ((6, AV.p (.int .u8 (c.toNat : Int))) :: (15, .p (.int .u8 (c.toNat : Int))) :: (14, int i) :: (13, .p (.str s)) :: (10, .p (.bool true)) :: (9, int s.length) :: (8, .p (.str s)) :: (7, int i) :: M) 6 = some (.p (.int .u8 (c.toNat : Int))) := by simp
 clear st
 generalize ((6, AV.p (.int .u8 (c.toNat : Int))) :: (15, .p (.int .u8 (c.toNat : Int))) :: (14, int i) :: (13, .p (.str s)) :: (10, .p (.bool true)) :: (9, int s.length) :: (8, .p (.str s)) :: (7, int i) :: M : Env) = r6 at *
 rcases f1 with f1 | f1
 · rcases f2 with f2 | f2
   · exact key (IntKind.u8.wrap ((c.toNat : Int) + 32)) ⟨_, by simp [H1, Hx, H3, s6, f1, f2]; rfl, by simp, ⟨by simp [s0], by simp [s2], by simp [s4], by simp [s5]⟩⟩
   · exact key (c.toNat : Int) ⟨_, by simp [H1, Hx, H3, s6, f1, f2]; rfl, by simp [s6], ⟨by simp [s0], by simp [s2], by simp [s4], by simp [s5]⟩⟩
 · exact key (c.toNat : Int) ⟨_, by simp [H1, Hx, H3, s6, f1]; rfl, by simp [s6], ⟨by simp [s0], by simp [s2], by simp [s4], by simp [s5]⟩⟩
end
theorem Qne [Mx] (C : Zj) (L : Nat) (s : Word) (hm : s.length <= 1048576) : ∀ (d f i : Nat) (low : Word) (M : Env), At159 M s low i -> s.length - i <= d -> d < f -> low.length <= 4 * i -> ∃ M' low', iter (exec C L Ou) none f ⟨M, [], Ty⟩ = some (.exit 0, ⟨M', [], Ty⟩) /\ M'.get 4 = some (.p (.str low')) /\ M'.get 2 = some (.ptr 0 0 0)
 | d, f, i, low, M, h, hd, hf, hl => by
   obtain ⟨f, rfl⟩ : ∃ m, f = m + 1 := ⟨f - 1, by omega⟩
   by_cases hi : s.length <= i
   · obtain ⟨M', e, g⟩ := Qxe C L s low i M h hi
     exact ⟨M', low, by simp only [iter, St.keep, e], g.t4, g.t2⟩
   · have hi : i < s.length := by omega
     obtain ⟨M1, low1, e, g, hl1⟩ := go159 C L s low i M h s[i] (List.getElem?_eq_getElem hi) hm hl
     obtain ⟨d, rfl⟩ : ∃ m, d = m + 1 := ⟨d - 1, by omega⟩
     obtain ⟨M', low', e2, g2, g3⟩ := Qne C L s hm d f (i + 1) low1 M1 g (by omega) (by omega) hl1
     exact ⟨M', low', by simp only [iter, St.keep, e]; exact e2, g2, g3⟩
theorem Qw4 [Mx] (L n : Nat) (s : Word) (hs : s.length < L) (hm : s.length <= 1048576) : ∃ v w, okV v /\ ∀ σ, (cAt TT L (n + 1)).1 59 [.p (.str s)] σ = some (.ret (.p (Z3 (v, w))), σ) := by
 have key : ∃ v w, okV v /\ ansV (Z8 (cAt TT L n).1 (cAt TT L n).2 L lit159 [.p (.str s)] []) = some (Z3 (v, w)) := by
   generalize (cAt TT L n).1 = C
   generalize (cAt TT L n).2 = D
   obtain ⟨M', low, e2, g4, g2⟩ := Qne C L s hm s.length L 0 [] [(5, int 0), (4, .p (.str [])), (3, .p (.str [])), (2, .ptr 0 0 0), (0, .p (.str s))] ⟨rfl, rfl, rfl, rfl⟩ (by omega) hs (by simp)
   rw [Zp, lit159_tree]
   unfold n159 Qvi
   rw [seqN (by simp [Qw3, params]; rfl), seqN (by simp [Qvl]; rfl), <- Zn, seqN (by simp [Qmc]; rfl)]
   rw [seqN (a := Qlj) (by exact F0 (id := 0) (b := Qhs) e2)]
   by_cases h1 : low = [116, 114, 117, 101]
   · subst h1
     exact ⟨.bool true, Zi, trivial, by simp [Qmk, x7, Qae, Qmj, lit159, g4, g2, Z3, vc]⟩
   · have h1' : (low == [116, 114, 117, 101]) = false := J8 h1
     by_cases h2 : low = [102, 97, 108, 115, 101]
     · subst h2
       exact ⟨.bool false, Zi, trivial, by simp [Qmk, x7, Qae, Qmj, lit159, g4, g2, Z3, vc]⟩
     · have h2' : (low == [102, 97, 108, 115, 101]) = false := J8 h2
       exact ⟨.null, [50, 50, 48, 49, 56], trivial, by simp [Qmk, x7, Qae, Qmj, lit159, g4, g2, h1', h2', Z3, vc]⟩
 obtain ⟨v, w, h1, h2⟩ := key
 exact ⟨v, w, h1, fun σ => Z7 (ps := [.str s]) q159 (by rfl) h2 σ⟩
end Go.Ab.Keep
namespace Go.Ab.Keep
open Go Go.Ab Go.Ab.Plan Go.Ab.Key Go.Ab.Cnt Go.Ab.Turn Go.Proofs
attribute [local simp] Fj Ms V3 refV oneH Nz Oe Eo D9 idsL idsV idsO Sp
theorem lit157_tree : lit157.body = n157 := rfl
theorem vc4 (v : V) : ∃ p q r s, vc v = [p, q, r, s] := by cases v <;> exact ⟨_, _, _, _, rfl⟩
section
variable [Mx] (C : Zj) (L : Nat) (b k : Int) (s : Word) (m : Bool) (i : Nat) (v : V) (w : Word) (M : Env)
structure At157 (M : Env) (s : Word) (m : Bool) (i : Nat) (w : Word) : Prop where
 t0 : M.get 0 = some (.p (.str s))
 t3 : M.get 3 = some (.ptr 0 0 0)
 t4 : M.get 4 = some (.ptr 1 0 0)
 t6 : M.get 6 = some (.p (.bool m))
 t7 : M.get 7 = some (.ptr 2 0 0)
 t8 : M.get 8 = some (.p (.str w))
 t9 : M.get 9 = some (int i)
abbrev Gh (b k : Int) (v : V) : Heap := [.arr (.pv [.int .i64 b, .int .i64 k]) 0 0 none, .arr (.pv (vc .null)) 0 0 (some 54), .arr (.pv (vc v)) 0 0 (some 54)]
structure E157 (C : Zj) : Prop where
 num : ∀ (z : Int) (σ : Heap), C 33 [int z] σ = some (.ret (.p (val (.num z))), σ)
 mul : ∀ v u, ∃ v' w', okV v' /\ ∀ σ, C 63 [.p (val v), .p (val u)] σ = some (.ret (.p (Z3 (v', w'))), σ)
 sub : ∀ v u σ, C 62 [.p (val v), .p (val u)] σ = some (.ret (.p (Z3 (subV v u))), σ)
theorem mul157 (hE : E157 C) (h : At157 M s m i w) : ∃ v' w', okV v' /\ ∃ M', exec C L H7 ⟨M, [], Gh b k v⟩ = some (.normal, ⟨M', [], Gh b k v'⟩) /\ At157 M' s m i w' := by
 obtain ⟨t0, t3, t4, t6, t7, t8, t9⟩ := h
 obtain ⟨v', w', hv', e2⟩ := hE.mul v (.num 10)
 have e1 := hE.num 10
 have r63 : Q4.raw 63 = false := by rfl
 have r33 : Q4.raw 33 = false := by rfl
 have hz : vc (.num 10) = [.int .i64 1, .int .i64 10, .str [], .bool false] := rfl
 have h0 : vc .null = [.int .i64 0, .int .i64 0, .str [], .bool false] := rfl
 obtain ⟨p, q, r, x, ev'⟩ := vc4 v
 obtain ⟨p', q', r', x', ew'⟩ := vc4 v'
 refine ⟨v', w', hv', ?_⟩
 simp only [val, Z3, ev', ew', hz, h0, Gh] at e1 e2 ⊢
 have fin : ∀ (H H' : Heap), (∃ s1 : Go.Ab.Tr, Zy C 0 (opsD H7) ⟨⟨M, [], H⟩, [], []⟩ = some (none, s1) /\ okRW [0, 0, 3, 7, 15, 15, 31, 127] (opsD H7) s1 = true /\ s1.st.defers = [] /\ s1.st.heap = H' /\ At157 s1.st.env s m i w') ->
     ∃ M', exec C L H7 ⟨M, [], H⟩ = some (.normal, ⟨M', [], H'⟩) /\ At157 M' s m i w' := by
   rintro H H' ⟨⟨⟨M', d, σ'⟩, rds, wrs⟩, hr, hok, hd, hh, hA⟩
   simp only at hd hh
   subst hd hh
   exact ⟨M', L9 hr hok, hA⟩
 exact fin _ _ ⟨_, by
     show Zy C 0 (_ :: _) _ = _
     refine (Eu rfl rfl (by simp [t7, r63, r33, e1, e2]; exact ⟨rfl, rfl⟩)).trans ?_
     refine (B8 rfl rfl (by simp [Zo, Jk, Q1.toList, t7, r63, r33, e1, e2]; rfl) (by simp; rfl) (by simp [t7, r63, r33, e1, e2]; rfl)).trans ?_
     refine (B8 rfl rfl (by simp [Zo, Jk, Q1.toList, t7, r63, r33, e1, e2]; rfl) (by simp; rfl) (by simp [t7, r63, r33, e1, e2]; rfl)).trans ?_
     refine (Zf rfl rfl (by simp [t7, r63, r33, e1, e2]; rfl)).trans ?_
     refine (Zf rfl rfl (by simp [t7, r63, r33, e1, e2]; rfl)).trans ?_
     refine (Zf rfl rfl (by simp [t7, r63, r33, e1, e2]; rfl)).trans ?_
     refine (B8 rfl rfl (by simp [Zo, Jk, Q1.toList, t7, r63, r33, e1, e2]; rfl) (by simp; rfl) (by simp [t7, r63, r33, e1, e2]; rfl)).trans ?_
     refine (Zf rfl rfl (by simp [t7, r63, r33, e1, e2]; rfl)).trans ?_
     exact rfl, by kernel_rfl, by rfl, by rfl, ⟨by simp [t0], by simp [t3], by simp [t4], by simp [t6], by simp [t7], by simp, by simp [t9]⟩⟩
theorem sub157 (hE : E157 C) (h : At157 M s m i w) (c : UInt8) (hc : s[i]? = some c) : ∃ v' w', okV v' /\ ∃ M', exec C L Fv ⟨M, [], Gh b k v⟩ = some (.normal, ⟨M', [], Gh b k v'⟩) /\ At157 M' s m i w' := by
 obtain ⟨t0, t3, t4, t6, t7, t8, t9⟩ := h
 have e2 := hE.sub v (.num (IntKind.i64.wrap (IntKind.u8.wrap ((c.toNat : Int) - 48))))
 have hv' := Qo5 (a := v) (b := .num (IntKind.i64.wrap (IntKind.u8.wrap ((c.toNat : Int) - 48))))
 have e1 := hE.num (IntKind.i64.wrap (IntKind.u8.wrap ((c.toNat : Int) - 48)))
 generalize subV v (.num (IntKind.i64.wrap (IntKind.u8.wrap ((c.toNat : Int) - 48)))) = o at e2 hv'
 obtain ⟨v', w'⟩ := o
 have r62 : Q4.raw 62 = false := by rfl
 have r33 : Q4.raw 33 = false := by rfl
 have hz : ∀ z, vc (.num z) = [.int .i64 1, .int .i64 z, .str [], .bool false] := fun _ => rfl
 have h0 : vc .null = [.int .i64 0, .int .i64 0, .str [], .bool false] := rfl
 obtain ⟨p, q, r, x, ev'⟩ := vc4 v
 obtain ⟨p', q', r', x', ew'⟩ := vc4 v'
 refine ⟨v', w', hv', ?_⟩
 simp only [val, Z3, ev', ew', hz, h0, Gh] at e1 e2 ⊢
 have fin : ∀ (H H' : Heap), (∃ s1 : Go.Ab.Tr, Zy C 0 (opsD Fv) ⟨⟨M, [], H⟩, [], []⟩ = some (none, s1) /\ okRW [0, 0, 0, 6, 14, 30, 62, 127, 255, 511, 511, 1023, 4095] (opsD Fv) s1 = true /\ s1.st.defers = [] /\ s1.st.heap = H' /\ At157 s1.st.env s m i w') ->
     ∃ M', exec C L Fv ⟨M, [], H⟩ = some (.normal, ⟨M', [], H'⟩) /\ At157 M' s m i w' := by
   rintro H H' ⟨⟨⟨M', d, σ'⟩, rds, wrs⟩, hr, hok, hd, hh, hA⟩
   simp only at hd hh
   subst hd hh
   exact ⟨M', L9 hr hok, hA⟩
 exact fin _ _ ⟨_, by
     show Zy C 0 (_ :: _) _ = _
     refine (Eu rfl rfl (by simp [t0, t7, t9, Zt, hc, r62, r33, e1, e2]; exact ⟨rfl, rfl⟩)).trans ?_
     refine (Zf rfl rfl (by simp [t0, t7, t9, Zt, hc, r62, r33, e1, e2]; rfl)).trans ?_
     refine (Zf rfl rfl (by simp [t0, t7, t9, Zt, hc, r62, r33, e1, e2]; rfl)).trans ?_
     refine (Zf rfl rfl (by simp [t0, t7, t9, Zt, hc, r62, r33, e1, e2]; rfl)).trans ?_
     refine (Zf rfl rfl (by simp [t0, t7, t9, Zt, hc, r62, r33, e1, e2]; rfl)).trans ?_
     refine (Zf rfl rfl (by simp [t0, t7, t9, Zt, hc, r62, r33, e1, e2]; rfl)).trans ?_
     refine (B8 rfl rfl (by simp [Zo, Jk, Q1.toList, t0, t7, t9, Zt, hc, r62, r33, e1, e2]; rfl) (by simp; rfl) (by simp [t0, t7, t9, Zt, hc, r62, r33, e1, e2]; rfl)).trans ?_
     refine (B8 rfl rfl (by simp [Zo, Jk, Q1.toList, t0, t7, t9, Zt, hc, r62, r33, e1, e2]; rfl) (by simp; rfl) (by simp [t0, t7, t9, Zt, hc, r62, r33, e1, e2]; rfl)).trans ?_
     refine (Zf rfl rfl (by simp [t0, t7, t9, Zt, hc, r62, r33, e1, e2]; rfl)).trans ?_
     refine (Zf rfl rfl (by simp [t0, t7, t9, Zt, hc, r62, r33, e1, e2]; rfl)).trans ?_
     refine (Zf rfl rfl (by simp [t0, t7, t9, Zt, hc, r62, r33, e1, e2]; rfl)).trans ?_
     refine (B8 rfl rfl (by simp [Zo, Jk, Q1.toList, t0, t7, t9, Zt, hc, r62, r33, e1, e2]; rfl) (by simp; rfl) (by simp [t0, t7, t9, Zt, hc, r62, r33, e1, e2]; rfl)).trans ?_
     refine (Zf rfl rfl (by simp [t0, t7, t9, Zt, hc, r62, r33, e1, e2]; rfl)).trans ?_
     exact rfl, by kernel_rfl, by rfl, by rfl, ⟨by simp [t0], by simp [t3], by simp [t4], by simp [t6], by simp [t7], by simp, by simp [t9]⟩⟩
theorem At157.app {s : Word} {m : Bool} {i : Nat} {w : Word} {M : Env} (h : At157 M s m i w) (r : Env) (hr : ∀ t, t < 10 -> Env.get r t = none) : At157 (r ++ M) s m i w := by
 have e : ∀ t, t < 10 -> Env.get (r ++ M) t = M.get t := by
   intro t ht
   have h1 := hr t ht
   clear hr
   induction r with
   | nil => rfl
   | cons x r ih =>
     obtain ⟨y, z⟩ := x
     rw [List.cons_append]
     rw [Env.get_cons] at h1 ⊢
     split at h1
     · cases h1
     · rename_i hne
       rw [if_neg hne]
       exact ih h1
 exact ⟨(e 0 (by omega)).trans h.t0, (e 3 (by omega)).trans h.t3, (e 4 (by omega)).trans h.t4, (e 6 (by omega)).trans h.t6, (e 7 (by omega)).trans h.t7, (e 8 (by omega)).trans h.t8, (e 9 (by omega)).trans h.t9⟩
end
end Go.Ab.Keep
