/- A list of bytes among a law's arguments, opened. Plain theorems. -/
import Derived.Test.YthgpojlcbbgaoaaOpenSt
set_option autoImplicit false
set_option maxRecDepth 100000
set_option linter.unusedVariables false
namespace Go.Proofs.Ythgpojlcbbgaoaa
open Go.ChangeShapes Go.WideShapes Go.ChangeAt Go.RowKit
section
variable {H : Type} {enc : TypeId × Value → H} {W : World} {base : Nat} {sp : Nat → Bool} {held : Bool}
theorem trod_u8 {fuel : Nat} {cs : List Value} {x : DataW H × List MemPlace} (h : DataW.trod enc Try.prog W base sp held fuel 5 cs = some x) : ∃ n : Nat, cs = [B8 n] ∧ n < 256 := by
  obtain ⟨n, e, _, w⟩ := DataW.trod_int Try.underlying5 h
  obtain ⟨k, rfl, hk⟩ := wf_u8 w
  exact ⟨k, e, hk⟩
theorem fm_byte (l : List Nat) : (l.flatMap fun n => [B8 n]) = l.map B8 := by
  induction l with
  | nil => rfl
  | cons a l ih => rw [List.flatMap_cons, ih]; rfl
theorem open_bytes {r : Reach} {b0 : Nat} {v : Value} {d : DataW H} {ps : List MemPlace} (hv : Value.okWide Try.prog W r b0 108 v) (h : DataW.Trod enc Try.prog W base sp held 108 v d ps) :
    ∃ (A : Option Addr) (n c : Nat) (l : List Nat), v = .slice A n c ∧ n ≤ c ∧ l.length = n ∧ Rd W A (l.map B8) ∧ (∀ z ∈ l, z < 256) ∧ LenD n d := by
  obtain ⟨a0, len, cap, rfl⟩ := okWide_slice Try.underlying108 hv
  obtain ⟨fuel, hf⟩ := h
  obtain ⟨A, n, c, l, e, hc, hl, hR, rest⟩ := open_rows (f := fun n : Nat => [B8 n]) (p := fun n => n < 256) Try.underlying108 cells1.1 (by decide) (fun m cs x h => trod_u8 h) (cs := [.slice a0 len cap]) hf
  rw [fm_byte] at hR
  exact ⟨A, n, c, l, by simpa using e, hc, hl, hR, rest⟩
end
section
variable {H : Type} {enc : TypeId × Value → H} {W : World} {base : Nat} {sp : Nat → Bool} {held : Bool}
theorem open_u8 {r : Reach} {b0 : Nat} {v : Value} {d : DataW H} {ps : List MemPlace} (hv : Value.okWide Try.prog W r b0 5 v) (h : DataW.Trod enc Try.prog W base sp held 5 v d ps) : ∃ n : Nat, v = B8 n ∧ n < 256 := by
  obtain ⟨n, rfl, _, _, hw⟩ := open_int Try.underlying5 hv h
  obtain ⟨k, rfl, hk⟩ := wf_u8 hw
  exact ⟨k, rfl, hk⟩
end
theorem bytes5 : Try.prog.bytesOf 5 = 1 := by kernel_rfl
end Go.Proofs.Ythgpojlcbbgaoaa
