/- Slices among a law's arguments, opened. Plain theorems. -/
import Derived.Test.YthgpojlcbbgaoaaOpen
set_option autoImplicit false
set_option maxRecDepth 100000
set_option linter.unusedVariables false
namespace Go.Proofs.Ythgpojlcbbgaoaa
open Go.ChangeShapes Go.WideShapes Go.ChangeAt Go.RowKit

section
variable {H : Type} {enc : TypeId × Value → H} {W : World} {base : Nat} {sp : Nat → Bool} {held : Bool}
/-- A slice of numbers of one cell. -/
theorem open_ints {t e : TypeId} {k : IntKind} {fuel : Nat} {v : Value} {x : DataW H × List MemPlace} (ht : Try.prog.underlying t = some (.slice e)) (he : Try.prog.underlying e = some (.int k)) (hc : Try.prog.cellsOf e = 1)
    (h : DataW.trod enc Try.prog W base sp held fuel t [v] = some x) :
    ∃ (A : Option Addr) (n c : Nat) (l : List Int), v = .slice A n c ∧ l.length = n ∧ Rd W A (l.map (Value.int k)) ∧ (∀ z ∈ l, (Lit.int k z).wf = true) ∧ ((n = 0 ∧ x.1 = .nil) ∨ ∃ es ss, x.1 = .slice es ss ∧ es.length = n) := by
  rcases Go.Deep.open_slice1 ht hc h with ⟨h1, rfl⟩ | ⟨a, len, cap, m, n, V, D, Pl, h1, _, hlc, _, hm, rfl, hx⟩
  · obtain rfl : v = .slice none 0 0 := by simpa using h1
    exact ⟨none, 0, 0, [], rfl, rfl, .inl rfl, fun z hz => (by cases hz), .inl ⟨rfl, rfl⟩⟩
  · obtain rfl : v = .slice (some a) len cap := by simpa using h1
    have hlm : len ≤ m := by rw [hm]; split <;> omega
    have hz : ∀ i, i < len → ∃ z : Int, V i = .int k z ∧ (Lit.int k z).wf = true := fun i hi => by
      obtain ⟨_, h2⟩ := hx i (by omega)
      obtain ⟨z, e1, _, e2⟩ := DataW.trod_int he h2
      exact ⟨z, by simpa using e1, e2⟩
    obtain ⟨f, hf⟩ := Go.Deep.choose_lt hz
    refine ⟨some a, len, cap, (List.range len).map f, rfl, by simp, ?_, fun z hz' => ?_, .inr ⟨_, _, rfl, by simp⟩⟩
    · rcases Nat.eq_zero_or_pos len with rfl | hpos
      · exact .inl rfl
      · obtain ⟨b, off, spot⟩ := a
        obtain rfl : spot = none := by
          have := World.cell?_spot (hx 0 (by omega)).1
          simpa [Addr.add] using this
        refine .inr ⟨b, off, rfl, fun j u hj => ?_⟩
        rw [List.map_map, List.getElem?_map] at hj
        by_cases hjl : j < len
        · rw [List.getElem?_range hjl] at hj
          have h3 := (hx j (by omega)).1
          rw [(hf j hjl).1, add_loc] at h3
          have : u = .int k (f j) := by simpa using hj.symm
          rw [this]
          exact h3
        · rw [List.getElem?_eq_none (by simpa using hjl)] at hj
          cases hj
    · obtain ⟨i, hi, rfl⟩ := List.mem_map.1 hz'
      exact (hf i (List.mem_range.1 hi)).2
theorem bytes3 : Try.prog.bytesOf 3 = 8 := by kernel_rfl
theorem open_list {r : Reach} {b0 : Nat} {v : Value} {d : DataW H} {ps : List MemPlace} (hv : Value.okWide Try.prog W r b0 41 v) (h : DataW.Trod enc Try.prog W base sp held 41 v d ps) :
    ∃ (A : Option Addr) (n c : Nat) (l : List Int), v = .slice A n c ∧ l.length = n ∧ Rd W A (l.map I) ∧ (∀ z ∈ l, (Lit.int .i64 z).wf = true) ∧ ((n = 0 ∧ d = .nil) ∨ ∃ es ss, d = .slice es ss ∧ es.length = n) := by
  obtain ⟨a0, len, cap, rfl⟩ := okWide_slice Try.underlying41 hv
  obtain ⟨fuel, hf⟩ := h
  obtain ⟨A, n, c, l, e, rest⟩ := open_ints Try.underlying41 Try.underlying3 cells1.2.2.2.1 (v := .slice a0 len cap) hf
  exact ⟨A, n, c, l, e, rest⟩
end
end Go.Proofs.Ythgpojlcbbgaoaa
