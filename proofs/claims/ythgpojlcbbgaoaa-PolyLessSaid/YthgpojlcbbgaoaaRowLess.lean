/- A puncture takes its leaf and no other, for every punctured key; nothing is changed; no condition. -/
import Derived.Test.YthgpojlcbbgaoaaLess
import Derived.Test.YthgpojlcbbgaoaaOpenPu
import Derived.Test.YthgpojlcbbgaoaaRows
set_option autoImplicit false
set_option linter.unusedVariables false
namespace Go.Proofs.Ythgpojlcbbgaoaa
open Go.ChangeShapes Go.WideShapes Go.ChangeAt Go.RowKit

set_option maxRecDepth 100000 in
theorem less_lifted (os : Os) (started : os.Started) (H : Type) (enc : TypeId × Value → H) :
    ReturnsInHanded {} Try.checked os 16 .any (Rows.polyLessSpec.pre6 enc Try.prog Try.f16 Rows.polyLessRow.domain false) (Rows.polyLessSpec.post enc Try.prog Try.f16 false true false false) := by
  refine returnsInHanded_of_change_sized (C := Try.checked) ownT started (by kernel_rfl) Try.func16
    (ChangeSpec.witness6 (enc := enc) (C := Try.checked) false ⟨#[], #[.agg #[.int .i64 0, .slice none 0 0], .int .i64 0, .int .i64 0], []⟩ 8 (by kernel_rfl) (by kernel_rfl) (by kernel_rfl) (by kernel_rfl)) ?_
  intro W base args ds gs before hval0 hW hcnd hsz _
  have hval : ∀ (j : Nat) t v, Try.f16.params[j]? = some t → args[j]? = some v → Value.okWide Try.prog W .any base t v := hval0
  have hW' := hW
  obtain ⟨p, q, hA0, hV, rfl, hfz, hnd⟩ := hW
  have hA : DataW.TrodAll enc Try.prog W 0 (fun _ => true) true Try.f16.params.toList args.toList ds p := hA0
  have hsz2 : (DataW.weightsEach Try.prog (Try.f16.params.toList ++ Rows.polyLessSpec.plain.varTypes Try.prog) (ds ++ gs)).all (· ≤ reachBytes) = true := hsz
  rw [Try.params16] at hA hval hsz2
  obtain ⟨v0, vs0, d0, ds0, p0, q0, hargs, rfl, rfl, h0, r0⟩ := trodAll_cons hA
  obtain ⟨v1, vs1, d1, ds1, p1, q1, rfl, rfl, rfl, h1, r1⟩ := trodAll_cons r0
  obtain ⟨v2, vs2, d2, ds2, p2, q2, rfl, rfl, rfl, h2, r2⟩ := trodAll_cons r1
  obtain ⟨rfl, rfl, rfl⟩ := trodAll_nil r2
  obtain rfl : args = #[v0, v1, v2] := by cases args; simp_all
  obtain ⟨rfl, rfl⟩ := trodVars_none hV
  obtain ⟨d, A, n, c, L, e0, e1, rfl, _, hcp, hl, hR, _, rfl, hL⟩ := open_pun (hval 0 83 v0 rfl rfl) h0
  obtain ⟨m, rfl, hma_, hmb_⟩ := open_i64 (hval 1 3 v1 rfl rfl) h1
  obtain ⟨m2, rfl, hm2a_, hm2b_⟩ := open_i64 (hval 2 3 v2 rfl rfl) h2
  have z1 := sized_len (sized_field hsz2 (j := 0) (t := 83) rfl rfl Try.underlying83) (j := 1) (t := 29) (e := 95) hL rfl rfl Try.underlying29 bytes2.1 (by decide)
  clear hA0 hval0
  refine (PolyLess_c d n c A L hl hcp (by omega) m hma_ hmb_ m2 hm2a_ hm2b_ W hR).mono fun e W' ⟨v, he, hx, hv⟩ => ?_
  subst he
  obtain rfl : v = .bool true := hv
  exact ⟨_, rfl, post_law hW' rfl rfl (by kernel_rfl) (by kernel_rfl) hx⟩

theorem less_holds : Rows.PolyLessSaid :=
  OpenClaim.holds_of_wide 16 Try.f16 rfl rfl rfl rfl rfl rfl rfl ⟨rfl, rfl, rfl, rfl, rfl⟩ rfl rfl rfl rfl rfl (by kernel_rfl) Try.func16 (by kernel_rfl)
    (of_decide_eq_true (by kernel_rfl)) (by unfold Func.isWrapper; first | (rw [if_pos (by decide +kernel)]; kernel_rfl) | (rw [if_neg (by decide +kernel)]; exact ⟨rfl, rfl⟩))
    (fun os started H enc _ => less_lifted os started H enc)
end Go.Proofs.Ythgpojlcbbgaoaa
