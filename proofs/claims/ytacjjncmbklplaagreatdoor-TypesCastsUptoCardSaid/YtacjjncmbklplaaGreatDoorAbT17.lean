/- TypesCasts: the table's rows are the program's; raw values as they come in. -/
import Derived.Test.YtacjjncmbklplaaGreatDoorAbT16
import Derived.Test.YtacjjncmbklplaaGreatDoorAbT11
import Derived.Lib.SmallJoins
set_option linter.unusedSectionVars false
set_option linter.unusedSimpArgs false
set_option linter.unusedVariables false
set_option maxRecDepth 1000000
namespace Go.Ab.Cols
open Go Go.Ab Go.Ab.Names Go.Proofs Go.ChangeShapes Go.WideShapes Go.RowKit Go.Proofs.YtacjjncmbklplaaGreatDoor Go.Joins Go.ChangeMaps
theorem table_ok : TableOK Tryz.prog Names.G TC := by
  intro f i h
  unfold TC at h
  split at h
  · obtain rfl := Option.some.inj h; exact ⟨Tryz.f4, [], Tryz.func4, c4⟩
  · obtain rfl := Option.some.inj h; exact ⟨Tryz.f5, [], Tryz.func5, c5⟩
  · obtain rfl := Option.some.inj h; exact ⟨Tryz.f6, [], Tryz.func6, c6⟩
  · obtain rfl := Option.some.inj h; exact ⟨Tryz.f7, [], Tryz.func7, Names.c7⟩
  · obtain rfl := Option.some.inj h; exact ⟨Tryz.f8, [], Tryz.func8, Names.c8⟩
  · obtain rfl := Option.some.inj h; exact ⟨Tryz.f9, [], Tryz.func9, Names.c9⟩
  · obtain rfl := Option.some.inj h; exact ⟨Tryz.f10, [], Tryz.func10, Names.c10⟩
  · obtain rfl := Option.some.inj h; exact ⟨Tryz.f12, [], Tryz.func12, Names.c12⟩
  · obtain rfl := Option.some.inj h; exact ⟨Tryz.f13, [], Tryz.func13, Names.c13⟩
  · obtain rfl := Option.some.inj h; exact ⟨Tryz.f14, [], Tryz.func14, c14⟩
  · obtain rfl := Option.some.inj h; exact ⟨Tryz.f15, [], Tryz.func15, c15⟩
  · obtain rfl := Option.some.inj h; exact ⟨Tryz.f16, [], Tryz.func16, c16⟩
  · obtain rfl := Option.some.inj h; exact ⟨Tryz.f17, [], Tryz.func17, c17⟩
  · obtain rfl := Option.some.inj h; exact ⟨Tryz.f18, [], Tryz.func18, c18⟩
  · obtain rfl := Option.some.inj h; exact ⟨Tryz.f19, [], Tryz.func19, c19⟩
  · obtain rfl := Option.some.inj h; exact ⟨Tryz.f20, [], Tryz.func20, c20⟩
  · obtain rfl := Option.some.inj h; exact ⟨Tryz.f21, [], Tryz.func21, Names.c21⟩
  · obtain rfl := Option.some.inj h; exact ⟨Tryz.f23, [], Tryz.func23, c23⟩
  · obtain rfl := Option.some.inj h; exact ⟨Tryz.f24, [], Tryz.func24, c24⟩
  · obtain rfl := Option.some.inj h; exact trim_ok
  · obtain rfl := Option.some.inj h; exact ⟨Tryz.f26, [], Tryz.func26, c26⟩
  · obtain rfl := Option.some.inj h; exact ⟨Tryz.f27, [], Tryz.func27, c27⟩
  · obtain rfl := Option.some.inj h; exact ⟨Tryz.f28, [], Tryz.func28, Names.c28⟩
  · obtain rfl := Option.some.inj h; exact ⟨Tryz.f29, [], Tryz.func29, c29⟩
  · obtain rfl := Option.some.inj h; exact ⟨Tryz.f30, [], Tryz.func30, c30⟩
  · obtain rfl := Option.some.inj h; exact itoa_ok
  · obtain rfl := Option.some.inj h; exact ⟨Tryz.f32, [], Tryz.func32, c32⟩
  · obtain rfl := Option.some.inj h; exact num_ok
  · obtain rfl := Option.some.inj h; exact ⟨Tryz.f34, [], Tryz.func34, c34⟩
  · obtain rfl := Option.some.inj h; exact ⟨Tryz.f35, [], Tryz.func35, c35⟩
  · obtain rfl := Option.some.inj h; exact ⟨Tryz.f36, [], Tryz.func36, c36⟩
  · obtain rfl := Option.some.inj h; exact ⟨Tryz.f37, [], Tryz.func37, Names.c37⟩
  · obtain rfl := Option.some.inj h; exact ⟨Tryz.f38, [], Tryz.func38, Names.c38⟩
  · obtain rfl := Option.some.inj h; exact ⟨Tryz.f39, [], Tryz.func39, c39⟩
  · obtain rfl := Option.some.inj h; exact ⟨Tryz.f40, [], Tryz.func40, c40⟩
  · obtain rfl := Option.some.inj h; exact cmp_ok
  · obtain rfl := Option.some.inj h; exact ⟨Tryz.f42, [], Tryz.func42, c42⟩
  · obtain rfl := Option.some.inj h; exact ⟨Tryz.f44, [], Tryz.func44, c44⟩
  · obtain rfl := Option.some.inj h; exact rep_ok
  · obtain rfl := Option.some.inj h; exact ⟨Tryz.f56, [], Tryz.func56, c56⟩
  · obtain rfl := Option.some.inj h; exact ⟨Tryz.f57, [], Tryz.func57, c57⟩
  · obtain rfl := Option.some.inj h; exact ⟨Tryz.f58, [], Tryz.func58, c58⟩
  · obtain rfl := Option.some.inj h; exact ⟨Tryz.f59, [], Tryz.func59, c59⟩
  · obtain rfl := Option.some.inj h; exact ⟨Tryz.f60, [], Tryz.func60, c60⟩
  · obtain rfl := Option.some.inj h; exact ⟨Tryz.f61, [], Tryz.func61, c61⟩
  · obtain rfl := Option.some.inj h; exact trimR_ok
  · obtain rfl := Option.some.inj h; exact ⟨Tryz.f82, [], Tryz.func82, c82⟩
  · obtain rfl := Option.some.inj h; exact ⟨Tryz.f83, [], Tryz.func83, c83⟩
  · obtain rfl := Option.some.inj h; exact ⟨Tryz.f84, [], Tryz.func84, c84⟩
  · cases h
section
variable {H : Type} {enc : TypeId × Value → H} {W : World} {base : Nat} {sp : Nat → Bool} {held : Bool}
theorem open_raw {r : Reach} {b0 : Nat} {v : Value} {d : DataW H} {p : List MemPlace} (hv : Value.okWide Tryz.prog W r b0 32 v) (h : DataW.Trod enc Tryz.prog W base sp held 32 v d p) :
    ∃ (c n : Int) (s : ByteArray) (b : Bool), v = .agg #[.int .i64 c, .int .i64 n, .string s, .bool b] ∧ d = .agg [.lit (.int .i64 c), .lit (.int .i64 n), .lit (.string s.data.toList), .lit (.bool b)] ∧ p = [] ∧
      (Lit.int .i64 c).wf = true ∧ (Lit.int .i64 n).wf = true ∧ s.size ≤ maxLen := by
  obtain ⟨v0, v1, v2, v3, y0, y1, y2, y3, n, rfl, rfl, rfl, h0, h1, h2, h3⟩ := open_agg4 Tryz.underlying32 (by kernel_rfl) (by kernel_rfl) hv h
  obtain ⟨c, e0, rfl, w0⟩ := DataW.trod_int Tryz.underlying3 h0
  obtain ⟨n, e1, rfl, w1⟩ := DataW.trod_int Tryz.underlying2 h1
  obtain ⟨s, e2, rfl, w2⟩ := DataW.trod_string Tryz.underlying9 h2
  obtain ⟨b, e3, rfl⟩ := DataW.trod_bool Tryz.underlying4 h3
  simp only [List.cons.injEq, and_true] at e0 e1 e2 e3
  subst e0 e1 e2 e3
  exact ⟨c, n, s, b, rfl, rfl, rfl, w0, w1, w2⟩
theorem shut_raw {c n : Int} {s : ByteArray} {b : Bool} (w0 : (Lit.int .i64 c).wf = true) (w1 : (Lit.int .i64 n).wf = true) (w2 : s.size ≤ maxLen) :
    DataW.Trod enc Tryz.prog W base sp held 32 (.agg #[.int .i64 c, .int .i64 n, .string s, .bool b]) (.agg [.lit (.int .i64 c), .lit (.int .i64 n), .lit (.string s.data.toList), .lit (.bool b)]) [] :=
  shut_agg4 Tryz.underlying32 (by kernel_rfl) (by kernel_rfl) (field_of_Trod (shut_int Tryz.underlying3 w0) rfl) (field_of_Trod (shut_int Tryz.underlying2 w1) rfl) (field_of_Trod (shut_string Tryz.underlying9 w2) rfl) (field_of_Trod (shut_bool Tryz.underlying4 _) rfl)
end

theorem valOf_form (c n : Int) (s : List UInt8) (b : Bool) (h1 : -9223372036854775808 ≤ n) (h2 : n ≤ 9223372036854775807) :
    ∃ (k m : Int) (x : List UInt8) (t : Bool), valOf c n s b = val k m x t ∧ isVal k m x t ∧ -9223372036854775808 ≤ m ∧ m ≤ 9223372036854775807 ∧ x.length ≤ s.length := by
  unfold valOf
  split
  · exact ⟨1, n, [], false, rfl, .inr (.inl ⟨rfl, rfl, rfl⟩), h1, h2, by simp⟩
  · split
    · exact ⟨2, 0, s, false, rfl, .inr (.inr (.inl ⟨rfl, rfl, rfl⟩)), by omega, by omega, Nat.le_refl _⟩
    · split
      · exact ⟨3, 0, [], b, rfl, .inr (.inr (.inr ⟨rfl, rfl, rfl⟩)), by omega, by omega, by simp⟩
      · exact ⟨0, 0, [], false, rfl, .inl ⟨rfl, rfl, rfl, rfl⟩, by omega, by omega, by simp⟩
end Go.Ab.Cols
