/- TypesCasts: the plain law: a word in small letters, as the document writes it (byte by byte, each as the text of a character) and as the program does: the same for words of bytes below 128 (no program in sight). -/
set_option linter.unusedSectionVars false
set_option linter.unusedSimpArgs false
set_option linter.unusedVariables false
namespace Go.Ab.Cast
/-- a letter, small -/
def low1 (c : UInt8) : UInt8 := if 65 ≤ c ∧ c ≤ 90 then c + 32 else c
/-- as the program writes it -/
def lowP (s : List UInt8) : List UInt8 := s.map low1
/-- as the document writes it; what a character above 127 is written as is left open: it begins with a byte above 127 -/
def lowD (utf : UInt8 → List UInt8) : List UInt8 → List UInt8
  | [] => []
  | c :: r => utf (low1 c) ++ lowD utf r
theorem lowD_eq (utf : UInt8 → List UInt8) (h1 : ∀ c : UInt8, c < 128 → utf c = [c]) (h2 : ∀ c : UInt8, ¬ c < 128 → ∃ a r, utf c = a :: r ∧ ¬ a < 128) :
    ∀ (s w : List UInt8), (∀ c ∈ w, c < 128) → (lowD utf s = w ↔ lowP s = w)
  | [], w, _ => Iff.rfl
  | c :: s, w, hw => by
    simp only [lowD, lowP, List.map_cons]
    by_cases hc : low1 c < 128
    · rw [h1 _ hc]
      cases w with
      | nil => simp
      | cons a w =>
        have ih := lowD_eq utf h1 h2 s w (fun c hc => hw c (List.mem_cons_of_mem _ hc))
        simp only [lowP] at ih
        simp only [List.singleton_append, List.cons.injEq, ih]
    · obtain ⟨a, r, ha, hn⟩ := h2 _ hc
      rw [ha]
      cases w with
      | nil => simp
      | cons b w =>
        have hb := hw b (List.mem_cons_self ..)
        simp only [List.cons_append, List.cons.injEq]
        constructor
        · rintro ⟨rfl, _⟩; exact absurd hb hn
        · rintro ⟨rfl, _⟩; exact absurd hb hc
end Go.Ab.Cast
