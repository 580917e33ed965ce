/- Punctured keys among a law's arguments, opened. Plain theorems. -/
import Derived.Test.YthgpojlcbbgaoaaOpenSt
import Derived.Test.YthgpojlcbbgaoaaPun
set_option autoImplicit false
set_option maxRecDepth 100000
set_option linter.unusedVariables false
namespace Go.Proofs.Ythgpojlcbbgaoaa
open Go.ChangeShapes Go.WideShapes Go.ChangeAt Go.RowKit
section
variable {H : Type} {enc : TypeId × Value → H} {W : World} {base : Nat} {sp : Nat → Bool} {held : Bool}
theorem cells83 : Try.prog.cellsOf 83 = 2 := by kernel_rfl
theorem open_pun {r : Reach} {b0 : Nat} {v : Value} {d : DataW H} {ps : List MemPlace} (hv : Value.okWide Try.prog W r b0 83 v) (h : DataW.Trod enc Try.prog W base sp held 83 v d ps) :
    ∃ (dp : Int) (A : Option Addr) (n c : Nat) (l : List (Int × Int × Key)) (d0 d1 : DataW H), v = PuV dp (.slice A n c) ∧ (-9223372036854775808 ≤ dp ∧ dp < 9223372036854775808) ∧ n ≤ c ∧ l.length = n ∧ Rd W A (l.flatMap lc) ∧ (∀ z ∈ l, labB z) ∧ d = .agg [d0, d1] ∧ LenD n d1 := by
  obtain ⟨cs, rfl, _⟩ := okWide_struct Try.underlying83 hv
  obtain ⟨fuel, hf⟩ := h
  obtain ⟨xs, m, _, hx, hl, hlen, hi⟩ := DataW.trod_struct Try.underlying83 hf
  rw [cells83] at hl
  obtain ⟨n0, e0, w0⟩ := fld 0 0 hi hlen rfl rfl rfl cells1.2.2.2.1 Try.underlying3
  have g1 := fldT 1 1 1 hi rfl rfl rfl cells2.2.2.2.2.2.2.1
  match xs, hlen, hx with
  | [x0, x1], _, hx =>
    simp only [List.getElem?_cons_zero, List.getElem?_cons_succ] at g1
    obtain ⟨A, n, c, l, e1, hc, hl1, hR, hp, hL⟩ := open_rows (f := lc) (p := labB) Try.underlying29 cells2.2.1 (by decide) (fun m cs x h => trod_lab h) g1
    refine ⟨n0, A, n, c, l, x0.1, x1.1, ?_, wf_i64 w0, hc, hl1, hR, hp, ?_, hL⟩
    · have h4 : cs.toList = [I n0, .slice A n c] := two_of hl e0 (one_of e1)
      show Value.agg cs = .agg [I n0, .slice A n c].toArray
      rw [← h4]
    · have := congrArg Prod.fst hx
      simpa using this
end
end Go.Proofs.Ythgpojlcbbgaoaa
