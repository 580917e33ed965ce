/- What a header hides, for every input; nothing is changed; no condition. -/
import Derived.Test.YthgpojlcbbgaoaaHidden
import Derived.Test.YthgpojlcbbgaoaaOpenSt
import Derived.Test.YthgpojlcbbgaoaaRows
set_option autoImplicit false
set_option linter.unusedVariables false
namespace Go.Proofs.Ythgpojlcbbgaoaa
open Go.ChangeShapes Go.WideShapes Go.ChangeAt Go.RowKit

set_option maxRecDepth 100000 in
theorem hidden_lifted (os : Os) (started : os.Started) (H : Type) (enc : TypeId × Value → H) :
    ReturnsInHanded {} Try.checked os 6 .any (Rows.polyHiddenSpec.pre6 enc Try.prog Try.f6 Rows.polyHiddenRow.domain false) (Rows.polyHiddenSpec.post enc Try.prog Try.f6 false true false false) := by
  refine returnsInHanded_of_change_sized (C := Try.checked) ownT started (by kernel_rfl) Try.func6
    (ChangeSpec.witness6 (enc := enc) (C := Try.checked) false ⟨#[], #[.agg (Array.replicate 16 (.int .u8 0)), .agg #[.int .u8 0, .int .i64 0, .int .i64 0, .int .u64 0, .int .u64 0, .int .u64 0], .slice none 0 0, .agg (Array.replicate 16 (.int .u8 0)), .int .u64 0, .int .u64 0, .int .u64 0], []⟩ 8 (by kernel_rfl) (by kernel_rfl) (by kernel_rfl) (by kernel_rfl)) ?_
  intro W base args ds gs before hval0 hW hcnd hsz _
  have hval : ∀ (j : Nat) t v, Try.f6.params[j]? = some t → args[j]? = some v → Value.okWide Try.prog W .any base t v := hval0
  have hW' := hW
  obtain ⟨p, q, hA0, hV, rfl, hfz, hnd⟩ := hW
  have hA : DataW.TrodAll enc Try.prog W 0 (fun _ => true) true Try.f6.params.toList args.toList ds p := hA0
  have hsz2 : (DataW.weightsEach Try.prog (Try.f6.params.toList ++ Rows.polyHiddenSpec.plain.varTypes Try.prog) (ds ++ gs)).all (· ≤ reachBytes) = true := hsz
  rw [Try.params6] at hA hval hsz2
  obtain ⟨v0, vs0, d0, ds0, p0, q0, hargs, rfl, rfl, h0, r0⟩ := trodAll_cons hA
  obtain ⟨v1, vs1, d1, ds1, p1, q1, rfl, rfl, rfl, h1, r1⟩ := trodAll_cons r0
  obtain ⟨v2, vs2, d2, ds2, p2, q2, rfl, rfl, rfl, h2, r2⟩ := trodAll_cons r1
  obtain ⟨v3, vs3, d3, ds3, p3, q3, rfl, rfl, rfl, h3, r3⟩ := trodAll_cons r2
  obtain ⟨v4, vs4, d4, ds4, p4, q4, rfl, rfl, rfl, h4, r4⟩ := trodAll_cons r3
  obtain ⟨v5, vs5, d5, ds5, p5, q5, rfl, rfl, rfl, h5, r5⟩ := trodAll_cons r4
  obtain ⟨v6, vs6, d6, ds6, p6, q6, rfl, rfl, rfl, h6, r6⟩ := trodAll_cons r5
  obtain ⟨rfl, rfl, rfl⟩ := trodAll_nil r6
  obtain rfl : args = #[v0, v1, v2, v3, v4, v5, v6] := by cases args; simp_all
  obtain ⟨rfl, rfl⟩ := trodVars_none hV
  obtain ⟨root, rfl⟩ := open_key (hval 0 23 v0 rfl rfl) h0
  obtain ⟨kd, dp, dg, p, q, g, rfl, _, _, _, _, _, hp, hq, hg⟩ := open_sch (hval 1 28 v1 rfl rfl) h1
  obtain ⟨A, m, c, l, rfl, hl, hR, _, hL⟩ := open_list (hval 2 41 v2 rfl rfl) h2
  obtain ⟨session, rfl⟩ := open_key (hval 3 23 v3 rfl rfl) h3
  obtain ⟨nonce, rfl, hnonce_⟩ := open_u64 (hval 4 24 v4 rfl rfl) h4
  obtain ⟨v, rfl, hv_⟩ := open_u64 (hval 5 24 v5 rfl rfl) h5
  obtain ⟨y, rfl, hy_⟩ := open_u64 (hval 6 24 v6 rfl rfl) h6
  have z1 := sized_len hsz2 (j := 2) (t := 41) (e := 3) hL rfl rfl Try.underlying41 bytes3 (by decide)
  clear hA0 hval0
  refine (PolyHidden_c root session kd dp dg p q g nonce m c A l hp hq hg hnonce_ hl (by omega) v y hv_ hy_ W hR).mono fun e W' ⟨v, he, hx, hv⟩ => ?_
  subst he
  obtain rfl : v = .bool true := hv
  exact ⟨_, rfl, post_law hW' rfl rfl (by kernel_rfl) (by kernel_rfl) hx⟩

theorem hidden_holds : Rows.PolyHiddenSaid :=
  OpenClaim.holds_of_wide 6 Try.f6 rfl rfl rfl rfl rfl rfl rfl ⟨rfl, rfl, rfl, rfl, rfl⟩ rfl rfl rfl rfl rfl (by kernel_rfl) Try.func6 (by kernel_rfl)
    (of_decide_eq_true (by kernel_rfl)) (by unfold Func.isWrapper; first | (rw [if_pos (by decide +kernel)]; kernel_rfl) | (rw [if_neg (by decide +kernel)]; exact ⟨rfl, rfl⟩))
    (fun os started H enc _ => hidden_lifted os started H enc)
end Go.Proofs.Ythgpojlcbbgaoaa
