/- What poly.Open returns is what the specification returns, for every scheme, secret and header, and neither is changed; no condition. -/
import Derived.Test.YthgpojlcbbgaoaaOpn2
import Derived.Test.YthgpojlcbbgaoaaOpenSt
import Derived.Test.YthgpojlcbbgaoaaRows
set_option autoImplicit false
set_option linter.unusedVariables false
namespace Go.Proofs.Ythgpojlcbbgaoaa
open Go.ChangeShapes Go.WideShapes Go.ChangeAt Go.RowKit

set_option maxRecDepth 100000 in
theorem opens_lifted (os : Os) (started : os.Started) (H : Type) (enc : TypeId × Value → H) :
    ReturnsInHanded {} Try.checked os 5 .any (Rows.polyOpensSpec.pre6 enc Try.prog Try.f5 Rows.polyOpensRow.domain false) (Rows.polyOpensSpec.post enc Try.prog Try.f5 false true false false) := by
  refine returnsInHanded_of_change_sized (C := Try.checked) ownT started (by kernel_rfl) Try.func5
    (ChangeSpec.witness6 (enc := enc) (C := Try.checked) false ⟨#[], #[.agg #[.int .u8 0, .int .i64 0, .int .i64 0, .int .u64 0, .int .u64 0, .int .u64 0], .agg #[.int .i64 0, .slice none 0 0, .int .u64 0, .int .u64 0], .agg (#[.slice none 0 0, .int .u64 0, .slice none 0 0] ++ Array.replicate 32 (.int .u8 0))], []⟩ 8 (by kernel_rfl) (by kernel_rfl) (by kernel_rfl) (by kernel_rfl)) ?_
  intro W base args ds gs before hval0 hW hcnd hsz _
  have hval : ∀ (j : Nat) t v, Try.f5.params[j]? = some t → args[j]? = some v → Value.okWide Try.prog W .any base t v := hval0
  have hW' := hW
  obtain ⟨p, q, hA0, hV, rfl, hfz, hnd⟩ := hW
  have hA : DataW.TrodAll enc Try.prog W 0 (fun _ => true) true Try.f5.params.toList args.toList ds p := hA0
  have hsz2 : (DataW.weightsEach Try.prog (Try.f5.params.toList ++ Rows.polyOpensSpec.plain.varTypes Try.prog) (ds ++ gs)).all (· ≤ reachBytes) = true := hsz
  rw [Try.params5] at hA hval hsz2
  obtain ⟨v0, vs0, d0, ds0, p0, q0, hargs, rfl, rfl, h0, r0⟩ := trodAll_cons hA
  obtain ⟨v1, vs1, d1, ds1, p1, q1, rfl, rfl, rfl, h1, r1⟩ := trodAll_cons r0
  obtain ⟨v2, vs2, d2, ds2, p2, q2, rfl, rfl, rfl, h2, r2⟩ := trodAll_cons r1
  obtain ⟨rfl, rfl, rfl⟩ := trodAll_nil r2
  obtain rfl : args = #[v0, v1, v2] := by cases args; simp_all
  obtain ⟨rfl, rfl⟩ := trodVars_none hV
  obtain ⟨kd, dp, dg, p, q, g, rfl, _, _, _, _, _, hp, hq, hg⟩ := open_sch (hval 0 28 v0 rfl rfl) h0
  obtain ⟨rc, Al, m, cl, labs, sx, sy, s0, s1, s2, rfl, _, _, hll, hRl, _, _, _, rfl, hLl⟩ := open_sec (hval 1 33 v1 rfl rfl) h1
  obtain ⟨Ai, ni, ci, its, bs, A, n, c, pts, box, chk, e0, e1, e2, e3, e4, rfl, _, hil, hRi, _, hl, hR, _, rfl, hLi, hLp⟩ := open_hdr (hval 2 45 v2 rfl rfl) h2
  have z1 := sized_len (sized_field hsz2 (j := 1) (t := 33) rfl rfl Try.underlying33) (j := 1) (t := 29) (e := 95) hLl rfl rfl Try.underlying29 bytes2.1 (by decide)
  have hz2 := sized_field hsz2 (j := 2) (t := 45) rfl rfl Try.underlying45
  have z2 := sized_len hz2 (j := 0) (t := 42) (e := 131) hLi rfl rfl Try.underlying42 bytes2.2.1 (by decide)
  have z3 := sized_len hz2 (j := 2) (t := 43) (e := 31) hLp rfl rfl Try.underlying43 bytes2.2.2.1 (by decide)
  clear hA0 hval0
  refine (PolyOpens_c kd dp dg p q g rc sx sy m cl Al labs ni ci bs n c Ai A its pts box chk hp hq hg hll (by omega) hil (by omega) hl (by omega) W hRl hRi hR).mono fun e W' ⟨v, he, hx, hv⟩ => ?_
  subst he
  obtain rfl : v = .bool true := hv
  exact ⟨_, rfl, post_law hW' rfl rfl (by kernel_rfl) (by kernel_rfl) hx⟩

theorem opens_holds : Rows.PolyOpensSaid :=
  OpenClaim.holds_of_wide 5 Try.f5 rfl rfl rfl rfl rfl rfl rfl ⟨rfl, rfl, rfl, rfl, rfl⟩ rfl rfl rfl rfl rfl (by kernel_rfl) Try.func5 (by kernel_rfl)
    (of_decide_eq_true (by kernel_rfl)) (by unfold Func.isWrapper; first | (rw [if_pos (by decide +kernel)]; kernel_rfl) | (rw [if_neg (by decide +kernel)]; exact ⟨rfl, rfl⟩))
    (fun os started H enc _ => opens_lifted os started H enc)
end Go.Proofs.Ythgpojlcbbgaoaa
