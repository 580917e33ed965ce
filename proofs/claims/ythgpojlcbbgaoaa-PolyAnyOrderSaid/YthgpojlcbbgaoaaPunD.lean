/- What a puncture leaves to the other leaves, and to its own: the plain mathematics. -/
import Derived.Test.YthgpojlcbbgaoaaPunC
set_option autoImplicit false
set_option maxRecDepth 100000
set_option linter.unusedVariables false
set_option linter.unusedSimpArgs false
set_option linter.unnecessarySimpa false
namespace Go.Proofs.Ythgpojlcbbgaoaa
open Go.RowKit

theorem div2 (u a b : Nat) : u / 2 ^ a / 2 ^ b = u / 2 ^ (a + b) := by rw [Nat.div_div_eq_div_mul, ← Nat.pow_add]
theorem walkK_add (u : Nat) : ∀ (b a : Nat) (k : Key), walkK u (a + b) k = walkK u a (walkK (u / 2 ^ a) b k)
  | 0, a, k => rfl
  | b + 1, a, k => by
    rw [← Nat.add_assoc, walkK, walkK_add u b a, walkK, div2]
def sibL (l T : Nat) (k : Key) (t : Nat) : Lab := (((l / 2 ^ t ^^^ 1 : Nat) : Int), 0, chK (walkK (l / 2 ^ (t + 1)) (T - (t + 1)) k) (l / 2 ^ t ^^^ 1))
theorem walkS_iff (l : Nat) : ∀ (T : Nat) (k : Key) (y : Lab), y ∈ walkS l T k ↔ ∃ t, t < T ∧ y = sibL l T k t
  | 0, k, y => by simp [walkS]
  | T + 1, k, y => by
    rw [walkS, List.mem_cons, walkS_iff l T]
    constructor
    · rintro (rfl | ⟨t, ht, rfl⟩)
      · refine ⟨T, by omega, ?_⟩
        unfold sibL
        rw [Nat.sub_self]
        rfl
      · refine ⟨t, by omega, ?_⟩
        unfold sibL
        rw [show T + 1 - (t + 1) = (T - (t + 1)) + 1 by omega, walkK, div2, show t + 1 + (T - (t + 1)) = T by omega]
    · rintro ⟨t, ht, rfl⟩
      by_cases e : t = T
      · subst e
        refine .inl ?_
        unfold sibL
        rw [Nat.sub_self]
        rfl
      · refine .inr ⟨t, by omega, ?_⟩
        unfold sibL
        rw [show T + 1 - (t + 1) = (T - (t + 1)) + 1 by omega, walkK, div2, show t + 1 + (T - (t + 1)) = T by omega]

/-! ### the order of nodes -/
theorem bel_trans {a b c : Nat} (ha : a < 128) (hc : 1 ≤ c) (h1 : belowN a b = true) (h2 : belowN b c = true) : belowN a c = true := by
  obtain ⟨t, ht, rfl⟩ := belowN_iff.1 h1
  obtain ⟨s, hs, rfl⟩ := belowN_iff.1 h2
  rw [div2] at hc ⊢
  refine belowN_iff.2 ⟨t + s, ?_, rfl⟩
  rcases Nat.lt_or_ge (t + s) 8 with h | h
  · exact h
  · exfalso
    have : a / 2 ^ (t + s) ≤ a / 2 ^ 8 := Nat.div_le_div_left (Nat.pow_le_pow_right (by decide) h) (by decide)
    have : a / 2 ^ 8 = 0 := Nat.div_eq_of_lt (by omega)
    omega
theorem bel_refl (a : Nat) : belowN a a = true := belowN_iff.2 ⟨0, by decide, by simp⟩
theorem bel_comp {l a b : Nat} (h1 : belowN l a = true) (h2 : belowN l b = true) : belowN a b = true ∨ belowN b a = true := by
  rcases Nat.lt_trichotomy a b with h | rfl | h
  · exact .inr (belowN_up h1 h2 h)
  · exact .inl (bel_refl a)
  · exact .inl (belowN_up h2 h1 h)
theorem sib_not {l t : Nat} (hl : l < 128) (ht : t < 7) (h1 : 1 ≤ l / 2 ^ (t + 1)) : belowN l (l / 2 ^ t ^^^ 1) = false := by
  have : ∀ (l : Fin 128) (t : Fin 7), 1 ≤ l.val / 2 ^ (t.val + 1) → belowN l.val (l.val / 2 ^ t.val ^^^ 1) = false := by decide +kernel
  exact this ⟨l, hl⟩ ⟨t, ht⟩ h1
theorem sib_sib {l t s : Nat} (hl : l < 128) (ht : t < 7) (hs : s < 7) (h1 : 1 ≤ l / 2 ^ (t + 1)) (h2 : 1 ≤ l / 2 ^ (s + 1)) (hne : t ≠ s) : belowN (l / 2 ^ t ^^^ 1) (l / 2 ^ s ^^^ 1) = false := by
  have : ∀ (l : Fin 128) (t s : Fin 7), 1 ≤ l.val / 2 ^ (t.val + 1) → 1 ≤ l.val / 2 ^ (s.val + 1) → t.val ≠ s.val → belowN (l.val / 2 ^ t.val ^^^ 1) (l.val / 2 ^ s.val ^^^ 1) = false := by decide +kernel
  exact this ⟨l, hl⟩ ⟨t, ht⟩ ⟨s, hs⟩ h1 h2 hne
theorem sib_pos {l t : Nat} (h1 : 1 ≤ l / 2 ^ (t + 1)) (hl : l < 128) : 2 ≤ l / 2 ^ t ^^^ 1 := by
  have hx := xor1 (x := l / 2 ^ t) (Nat.lt_of_le_of_lt (Nat.div_le_self _ _) hl)
  rw [anc_half] at h1
  omega
theorem anc_ge {l t T : Nat} (h : 1 ≤ l / 2 ^ T) (ht : t ≤ T) : 1 ≤ l / 2 ^ t := by
  have : l / 2 ^ T ≤ l / 2 ^ t := Nat.div_le_div_left (Nat.pow_le_pow_right (by decide) ht) (Nat.two_pow_pos _)
  omega
/-- Two leaves under one node part at a node whose children they lie under. -/
theorem part_at {l m T : Nat} (hl : l < 128) (hm : m < 128) (hne : l ≠ m) (h : l / 2 ^ T = m / 2 ^ T) : ∃ t, t < T ∧ m / 2 ^ t = l / 2 ^ t ^^^ 1 ∧ l / 2 ^ (t + 1) = m / 2 ^ (t + 1) := by
  induction T with
  | zero => simp at h; exact absurd h hne
  | succ T ih =>
    by_cases e : l / 2 ^ T = m / 2 ^ T
    · obtain ⟨t, h1, h2, h3⟩ := ih e
      exact ⟨t, by omega, h2, h3⟩
    · refine ⟨T, by omega, ?_, h⟩
      rw [anc_half, anc_half] at h
      have hb : ∀ a b : Fin 128, a.val / 2 = b.val / 2 → a.val ≠ b.val → b.val = a.val ^^^ 1 := by decide +kernel
      exact hb ⟨_, Nat.lt_of_le_of_lt (Nat.div_le_self _ _) hl⟩ ⟨_, Nat.lt_of_le_of_lt (Nat.div_le_self _ _) hm⟩ h e
end Go.Proofs.Ythgpojlcbbgaoaa
