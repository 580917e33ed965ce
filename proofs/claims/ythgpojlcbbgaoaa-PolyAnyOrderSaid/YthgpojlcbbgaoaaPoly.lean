/- schemes, polynomials, secrets: of the program and of the reference -/
import Derived.Test.YthgpojlcbbgaoaaCall

set_option autoImplicit false
set_option maxRecDepth 100000
set_option linter.unusedVariables false
namespace Go.Proofs.Ythgpojlcbbgaoaa
open Go.RowKit


theorem sl116 : SlT Try.prog 116 24 1 8 := ⟨Try.underlying116, ⟨_, _, info24, rfl, rfl, rfl, rfl⟩, by decide⟩
/-! ### schemes -/
abbrev SV (kd : Nat) (dp dg : Int) (p q g : Nat) : Value := .agg [B8 kd, I dp, I dg, U p, U q, U g].toArray
/-- Whether a scheme is valid. -/
def okS (kd : Nat) (dp dg : Int) (p q g : Nat) : Bool := (((((decide (kd = 4) && decide (0 ≤ dp)) && decide (dp ≤ 6)) && decide (1 ≤ dg)) && decide (dg ≤ 8)) && okG p q g) && decide (2 ^ dp.toNat + dg.toNat < q)
theorem okS_all {kd : Nat} {dp dg : Int} {p q g : Nat} (h : okS kd dp dg p q g = true) : kd = 4 ∧ 0 ≤ dp ∧ dp ≤ 6 ∧ 1 ≤ dg ∧ dg ≤ 8 ∧ okG p q g = true ∧ 2 ^ dp.toNat + dg.toNat < q := by
  simp only [okS, Bool.and_eq_true, decide_eq_true_eq] at h
  obtain ⟨⟨⟨⟨⟨⟨h1, h2⟩, h3⟩, h4⟩, h5⟩, h6⟩, h7⟩ := h
  exact ⟨h1, h2, h3, h4, h5, h6, h7⟩
theorem okS_mk {kd : Nat} {dp dg : Int} {p q g : Nat} (h1 : kd = 4) (h2 : 0 ≤ dp) (h3 : dp ≤ 6) (h4 : 1 ≤ dg) (h5 : dg ≤ 8) (h6 : okG p q g = true) : okS kd dp dg p q g = decide (2 ^ dp.toNat + dg.toNat < q) := by
  simp [okS, h1, h2, h3, h4, h5, h6]
theorem okS_no {kd : Nat} {dp dg : Int} {p q g : Nat} (h : (((((!decide (kd = 4) || decide (dp < 0)) || decide (6 < dp)) || decide (dg < 1)) || decide (8 < dg)) || !okG p q g) = true) : okS kd dp dg p q g = false := by
  cases hz : okS kd dp dg p q g with
  | false => rfl
  | true =>
    obtain ⟨h1, h2, h3, h4, h5, h6, _⟩ := okS_all hz
    rw [h6] at h
    simp only [Bool.or_eq_true, Bool.not_eq_true', decide_eq_true_eq, decide_eq_false_iff_not, Bool.not_true, Bool.false_eq_true, or_false] at h
    omega
theorem pow_le64 {d : Nat} (h : d ≤ 6) : 2 ^ d ≤ 64 := Nat.pow_le_pow_right (by decide) h
theorem sh1 {P : Program} {t : TypeId} {d : Int} (h0 : 0 ≤ d) (h6 : d ≤ 6) : R2 P .shl t (I 1) (I d) (I ((2 ^ d.toNat : Nat) : Int)) := by
  have h := r_shl (P := P) (t := t) (k := .i64) (k' := .i64) (a := 1) (b := d) h0 (by simp [IntKind.bits]; omega)
  have h1 := pow_le64 (d := d.toNat) (by omega)
  rw [show (1 : Int) * 2 ^ d.toNat = ((2 ^ d.toNat : Nat) : Int) by simp, wrap_i64_nat (by omega)] at h
  exact h
theorem addI_nat {a : Nat} {b : Int} (h : 0 ≤ b) : (a : Int) + b = ((a + b.toNat : Nat) : Int) := by omega


theorem valid_c (kd : Nat) (dp dg : Int) (p q g : Nat) (hp : p < 18446744073709551616) (hq : q < 18446744073709551616) (hg : g < 18446744073709551616) (w : World) : RetF Try.prog 63 [SV kd dp dg p q g].toArray w (.is (.bool (okS kd dp dg p q g))) := by
  refine enter Try.func63 rfl Try.ntmps63 rfl fun a hF => ?_
  have hw := Own.start w
  refine wp_seq (wp_region_lit ?_)
  refine t_net 0 1 (by kernel_rfl) rfl hF ?_
  refine net_cons rfl rfl (n_box rfl (ev rfl) rfl) ?_
  refine net_nil fun a w1 hF hx => ?_
  obtain ⟨b1, h_, hw⟩ := hw.blk hx (hF.at_ 1 _ rfl)
  replace hF := hF.now h_
  replace hF := hF.keep (.cons (t := 1) rfl .nil)
  refine t_net 1 1 (by kernel_rfl) rfl hF ?_
  refine net_cons rfl rfl (n_assign rfl evc) ?_
  refine net_nil fun a w1 hF hx => ?_
  replace hw := hw.next hx
  replace hF := hF.keep (.cons (t := 1) rfl (.cons (t := 2) rfl .nil))
  refine wpList_nil ?_
  refine wp_seq (reg_draw 43 mixed (by kernel_rfl) (hF _ _) ?_)
  refine net_cons rfl rfl (n_fieldAddrO (off' := 0) rfl (ev rfl) Try.runUnderlying28 rfl Try.sizeOf5 rfl) ?_
  refine net_cons rfl rfl (n_load rfl (ev rfl) (ld1 hw (i := 0) rfl Try.isAgg5 rfl)) ?_
  refine net_cons rfl rfl (n_bin rfl (ev rfl) evc (r_eqlN (b := 4))) ?_
  refine net_cons rfl rfl (n_move rfl (ev rfl)) ?_
  refine net_if rfl rfl rfl rfl (fun hc => (n_fieldAddrO (off' := 1) rfl (ev rfl) Try.runUnderlying28 rfl Try.sizeOf3 rfl)) ?_
  refine net_if rfl rfl rfl rfl (fun hc => (n_load rfl (evi rfl hc) (ld1 hw (i := 0) rfl Try.isAgg3 rfl))) ?_
  refine net_if rfl rfl rfl rfl (fun hc => (n_bin rfl (evi rfl hc) evc r_geq)) ?_
  refine net_cons rfl rfl (n_pick_and rfl (ev rfl) (fun h => (evi rfl h))) ?_
  refine net_cons rfl rfl (n_move rfl (ev rfl)) ?_
  refine net_if rfl rfl rfl rfl (fun hc => (n_fieldAddrO (off' := 1) rfl (ev rfl) Try.runUnderlying28 rfl Try.sizeOf3 rfl)) ?_
  refine net_if rfl rfl rfl rfl (fun hc => (n_load rfl (evi rfl hc) (ld1 hw (i := 0) rfl Try.isAgg3 rfl))) ?_
  refine net_if rfl rfl rfl rfl (fun hc => (n_bin rfl (evi rfl hc) evc r_leq)) ?_
  refine net_cons rfl rfl (n_pick_and rfl (ev rfl) (fun h => (evi rfl h))) ?_
  refine net_cons rfl rfl (n_move rfl (ev rfl)) ?_
  refine net_if rfl rfl rfl rfl (fun hc => (n_fieldAddrO (off' := 2) rfl (ev rfl) Try.runUnderlying28 rfl Try.sizeOf3 rfl)) ?_
  refine net_if rfl rfl rfl rfl (fun hc => (n_load rfl (evi rfl hc) (ld1 hw (i := 0) rfl Try.isAgg3 rfl))) ?_
  refine net_if rfl rfl rfl rfl (fun hc => (n_bin rfl (evi rfl hc) evc r_geq)) ?_
  refine net_cons rfl rfl (n_pick_and rfl (ev rfl) (fun h => (evi rfl h))) ?_
  refine net_cons rfl rfl (n_move rfl (ev rfl)) ?_
  refine net_if rfl rfl rfl rfl (fun hc => (n_fieldAddrO (off' := 2) rfl (ev rfl) Try.runUnderlying28 rfl Try.sizeOf3 rfl)) ?_
  refine net_if rfl rfl rfl rfl (fun hc => (n_load rfl (evi rfl hc) (ld1 hw (i := 0) rfl Try.isAgg3 rfl))) ?_
  refine net_if rfl rfl rfl rfl (fun hc => (n_bin rfl (evi rfl hc) evc r_leq)) ?_
  refine net_cons rfl rfl (n_pick_and rfl (ev rfl) (fun h => (evi rfl h))) ?_
  refine net_cons rfl rfl (n_move rfl (ev rfl)) ?_
  refine net_if rfl rfl rfl rfl (fun hc => (n_fieldAddrO (off' := 3) rfl (ev rfl) Try.runUnderlying28 rfl Try.sizeOf26 rfl)) ?_
  refine net_if rfl rfl rfl rfl (fun hc => (n_load rfl (evi rfl hc) (ldN hw (i := 0) (vs := _) rfl Try.isAgg26 Try.sizeOf26 rfl rfl))) ?_
  refine net_if rfl rfl rfl rfl (fun hc => (n_ret rfl Try.call117 (.cons (evi rfl hc) .nil) (fun _ hx => CheckGroup_c _ _ _ hp hq hg _))) ?_
  refine net_if rfl rfl rfl rfl (fun hc => (n_to (n_bin rfl (evi rfl hc) evc r_eql) (congrArg Value.bool (show _ = okG p q g by cases okG p q g <;> rfl)))) ?_
  refine net_cons rfl rfl (n_pick_and rfl (ev rfl) (fun h => (evi rfl h))) ?_
  refine net_cons rfl rfl (n_move rfl (ev rfl)) ?_
  refine net_if rfl rfl rfl rfl (fun hc => (n_fieldAddrO (off' := 3) rfl (ev rfl) Try.runUnderlying28 rfl Try.sizeOf26 rfl)) ?_
  refine net_if rfl rfl rfl rfl (fun hc => (n_fieldAddrO (off' := 4) rfl (evi rfl hc) Try.runUnderlying26 rfl Try.sizeOf24 rfl)) ?_
  refine net_if rfl rfl rfl rfl (fun hc => (n_load rfl (evi rfl hc) (ld1 hw (i := 0) rfl Try.isAgg24 rfl))) ?_
  refine net_if rfl rfl rfl rfl (fun hc => (n_fieldAddrO (off' := 1) rfl (ev rfl) Try.runUnderlying28 rfl Try.sizeOf3 rfl)) ?_
  refine net_if rfl rfl rfl rfl (fun hc => (n_load rfl (evi rfl hc) (ld1 hw (i := 0) rfl Try.isAgg3 rfl))) ?_
  refine net_if rfl rfl rfl rfl (fun hc => (n_bin rfl evc (evi rfl hc) (sh1 (by simp only [Bool.and_eq_true, decide_eq_true_eq] at hc; omega) (by simp only [Bool.and_eq_true, decide_eq_true_eq] at hc; omega)))) ?_
  refine net_if rfl rfl rfl rfl (fun hc => (n_fieldAddrO (off' := 2) rfl (ev rfl) Try.runUnderlying28 rfl Try.sizeOf3 rfl)) ?_
  refine net_if rfl rfl rfl rfl (fun hc => (n_load rfl (evi rfl hc) (ld1 hw (i := 0) rfl Try.isAgg3 rfl))) ?_
  refine net_if rfl rfl rfl rfl (fun hc => (n_to (n_bin rfl (evi rfl hc) (evi rfl hc) (r_addI (by have := pow_le64 (d := dp.toNat) (by simp only [Bool.and_eq_true, decide_eq_true_eq] at hc; omega); have := Int.natCast_nonneg (2 ^ dp.toNat); simp only [Bool.and_eq_true, decide_eq_true_eq] at hc; omega) (by have := pow_le64 (d := dp.toNat) (by simp only [Bool.and_eq_true, decide_eq_true_eq] at hc; omega); have := Int.natCast_nonneg (2 ^ dp.toNat); simp only [Bool.and_eq_true, decide_eq_true_eq] at hc; omega))) (congrArg (Value.int .i64) (addI_nat (by simp only [Bool.and_eq_true, decide_eq_true_eq] at hc; omega))))) ?_
  refine net_if rfl rfl rfl rfl (fun hc => (n_convT rfl (evi rfl hc) Try.underlying3 Try.underlying24 (wrap_u64_nat (by have := pow_le64 (d := dp.toNat) (by simp only [Bool.and_eq_true, decide_eq_true_eq] at hc; omega); have := Int.natCast_nonneg (2 ^ dp.toNat); simp only [Bool.and_eq_true, decide_eq_true_eq] at hc; omega)))) ?_
  refine net_if rfl rfl rfl rfl (fun hc => (n_bin rfl (evi rfl hc) (evi rfl hc) r_gtrN)) ?_
  refine net_cons rfl rfl (n_pick_and rfl (ev rfl) (fun h => (evi rfl h))) ?_
  refine net_cons rfl rfl (n_assign rfl (ev rfl)) ?_
  refine net_nil fun a w1 hF hx => ?_
  replace hw := hw.next hx
  replace hF := hF.keep (.cons (t := 2) rfl .nil)
  refine wpList_nil ?_
  refine wp_ret (ret1 hF Try.results63 rfl ?_)
  exact ⟨_, rfl, hw.ext, rfl⟩

theorem Receivers_c (z : Int) (h0 : 0 ≤ z) (h6 : z ≤ 6) (w : World) : RetF Try.prog 66 [I z].toArray w (.is (I ((2 ^ z.toNat : Nat) : Int))) := by
  obtain ⟨d, rfl⟩ := Int.eq_ofNat_of_zero_le h0
  have hd : d ≤ 6 := by omega
  refine enter Try.func66 rfl Try.ntmps66 rfl fun a hF => ?_
  have hw := Own.start w
  refine wp_seq (reg_seq 1 (hF _ _) (by kernel_rfl) ?_)
  refine net_cons rfl rfl (n_assign rfl evc) ?_
  refine net_nil fun a w1 hF hx => ?_
  replace hw := hw.next hx
  replace hF := hF.keep (.cons (t := 0) rfl (.cons (t := 2) rfl .nil))
  refine wpList_nil ?_
  refine wp_seq (reg_seq 1 (hF _ _) (by kernel_rfl) ?_)
  refine net_cons rfl rfl (n_assign rfl evc) ?_
  refine net_nil fun a w1 hF hx => ?_
  replace hw := hw.next hx
  replace hF := hF.keep (.cons (t := 0) rfl (.cons (t := 2) rfl (.cons (t := 3) rfl .nil)))
  refine wpList_nil ?_
  refine wp_seq ?_
  refine wp_seq (reg_seq 1 (hF _ _) (by kernel_rfl) ?_)
  refine net_cons rfl rfl (n_assign rfl evc) ?_
  refine net_nil fun a w1 hF hx => ?_
  replace hw := hw.next hx
  replace hF := hF.keep (.cons (t := 0) rfl (.cons (t := 2) rfl (.cons (t := 3) rfl (.cons (t := 4) rfl .nil))))
  refine wpList_nil ?_
  refine wp_block ?_
  refine wp_loop_ix (α := Nat) (fun i a w1 => FrV 13 [] [(0, .is (I (d : Int))) , (3, .is (I ((2 ^ i : Nat) : Int))) , (4, .is (I (i : Int)))] a ∧ Own w w1 [] ∧ (i ≤ d)) (fun i => d - i) (0) ⟨hF.keep (.cons (t := 0) rfl (.cons (t := 3) rfl (.cons (t := 4) rfl (.nil)))), hw, by omega⟩ ?_
  rintro i a w1 ⟨hF, hw, hi0⟩
  refine wp_seq ?_
  refine wp_seq (reg_seq 3 (hF _ _) (by kernel_rfl) ?_)
  refine net_cons rfl rfl (n_move rfl (ev rfl)) ?_
  refine net_cons rfl rfl (n_move rfl (ev rfl)) ?_
  refine net_cons rfl rfl (n_bin rfl (ev rfl) (ev rfl) r_lssN) ?_
  refine net_nil fun a w1 hF hx => ?_
  replace hw := hw.next hx
  replace hF := hF.keep (.cons (t := 0) rfl (.cons (t := 3) rfl (.cons (t := 4) rfl (.cons (t := 7) rfl .nil))))
  refine wpList_nil ?_
  refine wp_cond_split (hF.ev (ev rfl)) (fun h7 => ?_) (fun h7 => ?_)
  · have hi : i < d := of_bool_t h7
    have hpw := pow_le64 (d := i) (by omega)
    have hpw0 := Int.natCast_nonneg (2 ^ i)
    refine wp_skip ?_
    refine wp_seq (wp_block ?_)
    refine reg_seq 3 (hF _ _) (by kernel_rfl) ?_
    refine net_cons rfl rfl (n_move rfl (ev rfl)) ?_
    refine net_cons rfl rfl (n_to (n_bin rfl evc (ev rfl) (r_mulI (by omega) (by omega))) (congrArg (Value.int .i64) (show (2 : Int) * ((2 ^ i : Nat) : Int) = ((2 ^ (i + 1) : Nat) : Int) by rw [Nat.pow_succ, Int.natCast_mul]; omega))) ?_
    refine net_cons rfl rfl (n_assign rfl (ev rfl)) ?_
    refine net_nil fun a w1 hF hx => ?_
    replace hw := hw.next hx
    replace hF := hF.keep (.cons (t := 0) rfl (.cons (t := 3) rfl (.cons (t := 4) rfl (.cons (t := 7) rfl .nil))))
    refine wpList_nil ?_
    refine reg_seq 3 (hF _ _) (by kernel_rfl) ?_
    refine net_cons rfl rfl (n_move rfl (ev rfl)) ?_
    refine net_cons rfl rfl (n_bin rfl (ev rfl) evc (r_inc (by omega))) ?_
    refine net_cons rfl rfl (n_assign rfl (ev rfl)) ?_
    refine net_nil fun a w1 hF hx => ?_
    replace hw := hw.next hx
    replace hF := hF.keep (.cons (t := 0) rfl (.cons (t := 3) rfl (.cons (t := 4) rfl (.cons (t := 7) rfl .nil))))
    refine wpList_nil ?_
    exact ⟨i + 1, ⟨hF.keep (.cons (t := 0) rfl (.cons (t := 3) rfl (.cons (t := 4) rfl (.nil)))), hw, by omega⟩, by omega⟩
  · obtain rfl : i = d := by have := of_bool_f h7; omega
    refine wp_exit (go_then_e (go_then_e (go_exit ?_)))
    refine wp_seq (reg_seq 2 (hF _ _) (by kernel_rfl) ?_)
    refine net_cons rfl rfl (n_move rfl (ev rfl)) ?_
    refine net_cons rfl rfl (n_assign rfl (ev rfl)) ?_
    refine net_nil fun a w1 hF hx => ?_
    replace hw := hw.next hx
    replace hF := hF.keep (.cons (t := 0) rfl (.cons (t := 2) rfl (.cons (t := 3) rfl (.cons (t := 4) rfl (.cons (t := 7) rfl .nil)))))
    refine wpList_nil ?_
    refine wp_ret (ret1 hF Try.results66 rfl ?_)
    exact ⟨_, rfl, hw.ext, rfl⟩

theorem Valid_c (kd : Nat) (dp dg : Int) (p q g : Nat) (hp : p < 18446744073709551616) (hq : q < 18446744073709551616) (hg : g < 18446744073709551616) (w : World) : RetF Try.prog 30 [SV kd dp dg p q g].toArray w (.is (.bool (okS kd dp dg p q g))) := by
  refine enter Try.func30 rfl Try.ntmps30 rfl fun a hF => ?_
  have hw := Own.start w
  refine wp_seq (wp_region_lit ?_)
  refine t_net 0 1 (by kernel_rfl) rfl hF ?_
  refine net_cons rfl rfl (n_box rfl (ev rfl) rfl) ?_
  refine net_nil fun a w1 hF hx => ?_
  obtain ⟨b1, h_, hw⟩ := hw.blk hx (hF.at_ 1 _ rfl)
  replace hF := hF.now h_
  replace hF := hF.keep (.cons (t := 1) rfl .nil)
  refine t_net 1 1 (by kernel_rfl) rfl hF ?_
  refine net_cons rfl rfl (n_assign rfl evc) ?_
  refine net_nil fun a w1 hF hx => ?_
  replace hw := hw.next hx
  replace hF := hF.keep (.cons (t := 1) rfl (.cons (t := 2) rfl .nil))
  refine wpList_nil ?_
  refine wp_seq ?_
  refine wp_seq (reg_seq 29 (hF _ _) (by kernel_rfl) ?_)
  refine net_cons rfl rfl (n_fieldAddrO (off' := 0) rfl (ev rfl) Try.runUnderlying28 rfl Try.sizeOf5 rfl) ?_
  refine net_cons rfl rfl (n_load rfl (ev rfl) (ld1 hw (i := 0) rfl Try.isAgg5 rfl)) ?_
  refine net_cons rfl rfl (n_bin rfl (ev rfl) evc (r_neqN (b := 4))) ?_
  refine net_cons rfl rfl (n_move rfl (ev rfl)) ?_
  refine net_if rfl rfl rfl rfl (fun hc => (n_fieldAddrO (off' := 1) rfl (ev rfl) Try.runUnderlying28 rfl Try.sizeOf3 rfl)) ?_
  refine net_if rfl rfl rfl rfl (fun hc => (n_load rfl (evi rfl hc) (ld1 hw (i := 0) rfl Try.isAgg3 rfl))) ?_
  refine net_if rfl rfl rfl rfl (fun hc => (n_bin rfl (evi rfl hc) evc r_lss)) ?_
  refine net_cons rfl rfl (n_pick_or rfl (ev rfl) (fun h => (evi rfl h))) ?_
  refine net_cons rfl rfl (n_move rfl (ev rfl)) ?_
  refine net_if rfl rfl rfl rfl (fun hc => (n_fieldAddrO (off' := 1) rfl (ev rfl) Try.runUnderlying28 rfl Try.sizeOf3 rfl)) ?_
  refine net_if rfl rfl rfl rfl (fun hc => (n_load rfl (evi rfl hc) (ld1 hw (i := 0) rfl Try.isAgg3 rfl))) ?_
  refine net_if rfl rfl rfl rfl (fun hc => (n_bin rfl (evi rfl hc) evc r_gtr)) ?_
  refine net_cons rfl rfl (n_pick_or rfl (ev rfl) (fun h => (evi rfl h))) ?_
  refine net_cons rfl rfl (n_move rfl (ev rfl)) ?_
  refine net_if rfl rfl rfl rfl (fun hc => (n_fieldAddrO (off' := 2) rfl (ev rfl) Try.runUnderlying28 rfl Try.sizeOf3 rfl)) ?_
  refine net_if rfl rfl rfl rfl (fun hc => (n_load rfl (evi rfl hc) (ld1 hw (i := 0) rfl Try.isAgg3 rfl))) ?_
  refine net_if rfl rfl rfl rfl (fun hc => (n_bin rfl (evi rfl hc) evc r_lss)) ?_
  refine net_cons rfl rfl (n_pick_or rfl (ev rfl) (fun h => (evi rfl h))) ?_
  refine net_cons rfl rfl (n_move rfl (ev rfl)) ?_
  refine net_if rfl rfl rfl rfl (fun hc => (n_fieldAddrO (off' := 2) rfl (ev rfl) Try.runUnderlying28 rfl Try.sizeOf3 rfl)) ?_
  refine net_if rfl rfl rfl rfl (fun hc => (n_load rfl (evi rfl hc) (ld1 hw (i := 0) rfl Try.isAgg3 rfl))) ?_
  refine net_if rfl rfl rfl rfl (fun hc => (n_bin rfl (evi rfl hc) evc r_gtr)) ?_
  refine net_cons rfl rfl (n_pick_or rfl (ev rfl) (fun h => (evi rfl h))) ?_
  refine net_cons rfl rfl (n_move rfl (ev rfl)) ?_
  refine net_if rfl rfl rfl rfl (fun hc => (n_fieldAddrO (off' := 3) rfl (ev rfl) Try.runUnderlying28 rfl Try.sizeOf26 rfl)) ?_
  refine net_if rfl rfl rfl rfl (fun hc => (n_load rfl (evi rfl hc) (ldN hw (i := 0) (vs := _) rfl Try.isAgg26 Try.sizeOf26 rfl rfl))) ?_
  refine net_if rfl rfl rfl rfl (fun hc => (n_ret rfl Try.call86 (.cons (evi rfl hc) .nil) (fun _ hx => ValidGroup_c _ _ _ hp hq hg _))) ?_
  refine net_if rfl rfl rfl rfl (fun hc => (n_not rfl (evi rfl hc))) ?_
  refine net_cons rfl rfl (n_pick_or rfl (ev rfl) (fun h => (evi rfl h))) ?_
  refine net_nil fun a w1 hF hx => ?_
  replace hw := hw.next hx
  replace hF := hF.keep (.cons (t := 1) rfl (.cons (t := 2) rfl (.cons (t := 31) rfl .nil)))
  refine wpList_nil ?_
  refine wp_cond_split (hF.ev (ev rfl)) (fun h31 => ?_) (fun h31 => ?_)
  · have hz := okS_no h31
    refine wp_seq (reg_seq 1 (hF _ _) (by kernel_rfl) ?_)
    refine net_cons rfl rfl (n_assign rfl evc) ?_
    refine net_nil fun a w1 hF hx => ?_
    replace hw := hw.next hx
    replace hF := hF.keep (.cons (t := 1) rfl (.cons (t := 2) rfl (.cons (t := 31) rfl .nil)))
    refine wpList_nil ?_
    refine wp_ret (go_then_r (ret1 hF Try.results30 rfl ?_))
    exact ⟨_, rfl, hw.ext, (by rw [hz]; rfl)⟩
  · simp only [Bool.or_eq_false_iff, Bool.not_eq_false', decide_eq_true_eq, decide_eq_false_iff_not] at h31
    obtain ⟨⟨⟨⟨⟨h1, h2⟩, h3⟩, h4⟩, h5⟩, h6⟩ := h31
    replace h2 : 0 ≤ dp := by omega
    replace h3 : dp ≤ 6 := by omega
    replace h4 : 1 ≤ dg := by omega
    replace h5 : dg ≤ 8 := by omega
    have hz := okS_mk h1 h2 h3 h4 h5 h6
    have hpw := pow_le64 (d := dp.toNat) (by omega)
    have hpw0 := Int.natCast_nonneg (2 ^ dp.toNat)
    refine wp_skip ?_
    refine wp_seq (reg_draw 12 mixed (by kernel_rfl) (hF _ _) ?_)
    refine net_cons rfl rfl (n_fieldAddrO (off' := 3) rfl (ev rfl) Try.runUnderlying28 rfl Try.sizeOf26 rfl) ?_
    refine net_cons rfl rfl (n_fieldAddrO (off' := 4) rfl (ev rfl) Try.runUnderlying26 rfl Try.sizeOf24 rfl) ?_
    refine net_cons rfl rfl (n_load rfl (ev rfl) (ld1 hw (i := 0) rfl Try.isAgg24 rfl)) ?_
    refine net_cons rfl rfl (n_fieldAddrO (off' := 1) rfl (ev rfl) Try.runUnderlying28 rfl Try.sizeOf3 rfl) ?_
    refine net_cons rfl rfl (n_load rfl (ev rfl) (ld1 hw (i := 0) rfl Try.isAgg3 rfl)) ?_
    refine net_cons rfl rfl (n_ret rfl Try.call66 (.cons (ev rfl) .nil) (fun _ hx => Receivers_c _ h2 h3 _)) ?_
    refine net_cons rfl rfl (n_fieldAddrO (off' := 2) rfl (ev rfl) Try.runUnderlying28 rfl Try.sizeOf3 rfl) ?_
    refine net_cons rfl rfl (n_load rfl (ev rfl) (ld1 hw (i := 0) rfl Try.isAgg3 rfl)) ?_
    refine net_cons rfl rfl (n_to (n_bin rfl (ev rfl) (ev rfl) (r_addI (by omega) (by omega))) (congrArg (Value.int .i64) (addI_nat (by omega)))) ?_
    refine net_cons rfl rfl (n_convT rfl (ev rfl) Try.underlying3 Try.underlying24 (wrap_u64_nat (by omega))) ?_
    refine net_cons rfl rfl (n_bin rfl (ev rfl) (ev rfl) r_gtrN) ?_
    refine net_cons rfl rfl (n_assign rfl (ev rfl)) ?_
    refine net_nil fun a w1 hF hx => ?_
    replace hw := hw.next hx
    replace hF := hF.keep (.cons (t := 1) rfl (.cons (t := 2) rfl (.cons (t := 31) rfl .nil)))
    refine wpList_nil ?_
    refine wp_ret (ret1 hF Try.results30 rfl ?_)
    exact ⟨_, rfl, hw.ext, (by rw [hz]; rfl)⟩


/-! ### polynomials -/
/-- The value of a polynomial, not reduced. -/
def pv (l : List Nat) (x : Nat) : Nat := l.foldr (fun c acc => c + x * acc) 0
/-- The secret polynomial. -/
def cfs (root : Key) (n q : Nat) : List Nat := (List.range (n + 1)).map fun i => numK (derK root 40 0) i q
theorem cfs_len (root : Key) (n q : Nat) : (cfs root n q).length = n + 1 := by simp [cfs]
theorem cfs_at (root : Key) (n q i : Nat) (h : i < n + 1) : (cfs root n q)[i]? = some (numK (derK root 40 0) i q) := by simp [cfs, h]
theorem numK_lt (k : Key) (i : Nat) {q : Nat} (h : 0 < q) : numK k i q < q := by
  unfold numK
  rw [if_neg (by omega)]
  exact Nat.mod_lt _ h
theorem cfs_lt (root : Key) (n : Nat) {q : Nat} (h : 0 < q) : ∀ c ∈ cfs root n q, c < q := by
  intro c hc
  obtain ⟨i, _, rfl⟩ := List.mem_map.1 hc
  exact numK_lt _ _ h
/-- The first i cells of these, z behind. -/
def fillG (z : Value) (cs : List Value) (i : Nat) : List Value := cs.take i ++ List.replicate (cs.length - i) z
theorem fillG_len (z : Value) (cs : List Value) (i : Nat) : (fillG z cs i).length = cs.length := by
  simp only [fillG, List.length_append, List.length_take, List.length_replicate]
  omega
theorem fillG_zero (z : Value) {cs : List Value} {n : Nat} (h : cs.length = n) : fillG z cs 0 = List.replicate n z := by simp [fillG, h]
theorem fillG_full (z : Value) {cs : List Value} {n : Nat} (h : cs.length = n) : fillG z cs n = cs := by simp [fillG, h, take_len h]
theorem fillG_step {z : Value} {cs : List Value} {i : Nat} {x : Value} (h : cs[i]? = some x) : seg (fillG z cs i) i [x] = fillG z cs (i + 1) := by
  have hi := (List.getElem?_eq_some_iff.1 h).1
  rw [seg_one (by rw [fillG_len]; exact hi)]
  apply List.ext_getElem?
  intro n
  have e1 : min i cs.length = i := by omega
  have e2 : min (i + 1) cs.length = i + 1 := by omega
  simp only [fillG, List.getElem?_set, List.getElem?_append, List.length_append, List.length_take, List.getElem?_take, List.length_replicate, List.getElem?_replicate, e1, e2]
  by_cases h1 : i = n
  · subst h1
    rw [if_pos rfl, if_pos (by omega), if_pos (by omega), if_pos (by omega), h]
  · rw [if_neg h1]
    by_cases h2 : n < i
    · rw [if_pos h2, if_pos h2, if_pos (by omega), if_pos (by omega)]
    · rw [if_neg h2, if_neg (show ¬ n < i + 1 by omega)]
      by_cases h3 : n < cs.length
      · rw [if_pos (show n - i < cs.length - i by omega), if_pos (show n - (i + 1) < cs.length - (i + 1) by omega)]
      · rw [if_neg (show ¬ n - i < cs.length - i by omega), if_neg (show ¬ n - (i + 1) < cs.length - (i + 1) by omega)]
theorem one_U (l : List Nat) : ∀ u ∈ l.map U, u.oneCell' = true := by
  intro u hu
  obtain ⟨n, _, rfl⟩ := List.mem_map.1 hu
  rfl
theorem len_U (l : List Nat) {n : Nat} (h : l.length = n) : (l.map U).length = n * 1 := by rw [List.length_map, h, Nat.mul_one]


theorem secret_c (root : Key) (kd d n p q g : Nat) (hd : d ≤ 6) (hn : n ≤ 8) (hq : q < 18446744073709551616) (w : World) : RetF Try.prog 64 [K root, SV kd (d : Int) (n : Int) p q g].toArray w (.ex 24 1 (n + 1) ((cfs root n q).map U) (fun v => v)) := by
  refine enter Try.func64 rfl Try.ntmps64 rfl fun a hF => ?_
  have hw := Own.start w
  refine wp_seq (wp_region_lit ?_)
  refine t_net 0 1 (by kernel_rfl) rfl hF ?_
  refine net_cons rfl rfl (n_box rfl (ev rfl) rfl) ?_
  refine net_nil fun a w1 hF hx => ?_
  obtain ⟨b2, h_, hw⟩ := hw.blk hx (hF.at_ 2 _ rfl)
  replace hF := hF.now h_
  replace hF := hF.keep (.cons (t := 1) rfl (.cons (t := 2) rfl .nil))
  refine t_net 1 1 (by kernel_rfl) rfl hF ?_
  refine net_cons rfl rfl (n_box rfl (ev rfl) rfl) ?_
  refine net_nil fun a w1 hF hx => ?_
  obtain ⟨b3, h_, hw⟩ := hw.blk hx (hF.at_ 3 _ rfl)
  replace hF := hF.now h_
  replace hF := hF.keep (.cons (t := 2) rfl (.cons (t := 3) rfl .nil))
  refine t_net 2 1 (by kernel_rfl) rfl hF ?_
  refine net_cons rfl rfl (n_assign rfl evc) ?_
  refine net_nil fun a w1 hF hx => ?_
  replace hw := hw.next hx
  replace hF := hF.keep (.cons (t := 2) rfl (.cons (t := 3) rfl (.cons (t := 4) rfl .nil)))
  refine wpList_nil ?_
  refine wp_seq (wp_region_lit ?_)
  refine t_net 0 3 (by kernel_rfl) rfl hF ?_
  refine net_cons rfl rfl (n_load rfl (ev rfl) (ldN hw (i := 0) (vs := _) rfl Try.isAgg23 Try.sizeOf23 (kc_len _) (cut_whole (kc_len _)))) ?_
  refine net_cons rfl rfl (n_ret rfl Try.call37 (.cons (ev rfl) (.cons evc (.cons evc .nil))) (fun _ hx => Derive_c _ 40 0 (by decide) (by decide) _)) ?_
  refine net_cons rfl rfl (n_alloc rfl Try.zeroValue23 rfl) ?_
  refine net_nil fun a w1 hF hx => ?_
  obtain ⟨b5, h_, hw⟩ := hw.blk hx (hF.at_ 5 _ rfl)
  replace hF := hF.now h_
  replace hF := hF.keep (.cons (t := 3) rfl (.cons (t := 4) rfl (.cons (t := 5) rfl (.cons (t := 9) rfl .nil))))
  refine t_store (i := 2) rfl rfl rfl hF hw rfl (ev rfl) (ev rfl) rfl (kc_one _) Try.sizeOf23 (kc_len _) (by first | decide | (rw [kc_len]; decide)) (seg_whole (by rw [kc_len]; rfl)) fun w1 hw => ?_
  refine wpList_nil ?_
  refine wp_seq (wp_region_lit ?_)
  refine t_net 0 4 (by kernel_rfl) rfl hF ?_
  refine net_cons rfl rfl (n_fieldAddrO (off' := 2) rfl (ev rfl) Try.runUnderlying28 rfl Try.sizeOf3 rfl) ?_
  refine net_cons rfl rfl (n_load rfl (ev rfl) (ld1 hw (i := 1) rfl Try.isAgg3 rfl)) ?_
  refine net_cons rfl rfl (n_bin rfl (ev rfl) evc (r_inc (by omega))) ?_
  refine net_cons rfl rfl (n_mkU (n := n + 1) sl116 zU rfl (ev rfl) (ev rfl) (by omega) (by omega)) ?_
  refine net_nil fun a w1 hF hx => ?_
  obtain ⟨b13, h_, hw⟩ := hw.cap hx (hF.at_ 13 _ rfl)
  replace hF := hF.now (v := .slice (some ⟨b13, 0, none⟩) (n + 1) (n + 1)) h_
  replace hF := hF.keep (.cons (t := 3) rfl (.cons (t := 4) rfl (.cons (t := 5) rfl (.cons (t := 9) rfl (.cons (t := 13) rfl .nil)))))
  refine t_net 4 1 (by kernel_rfl) rfl hF ?_
  refine net_cons rfl rfl (n_assign rfl (ev rfl)) ?_
  refine net_nil fun a w1 hF hx => ?_
  replace hw := hw.next hx
  replace hF := hF.keep (.cons (t := 3) rfl (.cons (t := 4) rfl (.cons (t := 5) rfl (.cons (t := 6) rfl (.cons (t := 9) rfl .nil)))))
  refine wpList_nil ?_
  refine wp_seq ?_
  refine wp_seq (reg_seq 3 (hF _ _) (by kernel_rfl) ?_)
  refine net_cons rfl rfl (n_move rfl (ev rfl)) ?_
  refine net_cons rfl rfl (n_len rfl (ev rfl) Try.underlying116) ?_
  refine net_cons rfl rfl (n_move rfl evc) ?_
  refine net_nil fun a w1 hF hx => ?_
  replace hw := hw.next hx
  replace hF := hF.keep (.cons (t := 3) rfl (.cons (t := 4) rfl (.cons (t := 5) rfl (.cons (t := 6) rfl (.cons (t := 9) rfl (.cons (t := 15) rfl (.cons (t := 16) rfl .nil)))))))
  refine wpList_nil ?_
  refine wp_block ?_
  refine wp_loop_ix (α := Nat) (fun i a w1 => FrV 31 [] [(3, .is (.pointer (some ⟨b3, 0, none⟩))) , (5, .is (.pointer (some ⟨b5, 0, none⟩))) , (6, .is (.slice (some ⟨b13, 0, none⟩) (n + 1) (n + 1))) , (15, .is (I ((n + 1 : Nat) : Int))) , (16, .is (I (i : Int)))] a ∧ Own w w1 [.blk b2 23 (kc root), .blk b3 28 [B8 kd, I (d : Int), I (n : Int), U p, U q, U g], .blk b5 23 (kc (derK root 40 0)), .blk b13 24 (fillG (U 0) ((cfs root n q).map U) i)] ∧ (i ≤ n + 1)) (fun i => n + 1 - i) (0) ⟨hF.keep (.cons (t := 3) rfl (.cons (t := 5) rfl (.cons (t := 6) rfl (.cons (t := 15) rfl (.cons (t := 16) rfl (.nil)))))), (by rw [fillG_zero _ (by rw [List.length_map, cfs_len])]; exact hw), by omega⟩ ?_
  rintro i a w1 ⟨hF, hw, hi0⟩
  refine wp_seq (reg_seq 1 (hF _ _) (by kernel_rfl) ?_)
  refine net_cons rfl rfl (n_bin rfl (ev rfl) (ev rfl) r_lssN) ?_
  refine net_nil fun a w1 hF hx => ?_
  replace hw := hw.next hx
  replace hF := hF.keep (.cons (t := 3) rfl (.cons (t := 5) rfl (.cons (t := 6) rfl (.cons (t := 15) rfl (.cons (t := 16) rfl (.cons (t := 17) rfl .nil))))))
  refine wpList_nil ?_
  refine wp_seq ?_
  refine wp_cond_split (hF.ev (ev rfl)) (fun h17 => ?_) (fun h17 => ?_)
  · have hi : i < n + 1 := of_bool_t h17
    refine wp_skip ?_
    refine wp_seq (wp_block ?_)
    refine wp_seq (reg_seq 2 (hF _ _) (by kernel_rfl) ?_)
    refine net_cons rfl rfl (n_move rfl (ev rfl)) ?_
    refine net_cons rfl rfl (n_assign rfl (ev rfl)) ?_
    refine net_nil fun a w1 hF hx => ?_
    replace hw := hw.next hx
    replace hF := hF.keep (.cons (t := 3) rfl (.cons (t := 5) rfl (.cons (t := 6) rfl (.cons (t := 7) rfl (.cons (t := 15) rfl (.cons (t := 16) rfl (.cons (t := 17) rfl .nil)))))))
    refine wpList_nil ?_
    refine wp_region_lit ?_
    refine t_net 0 10 (by kernel_rfl) rfl hF ?_
    refine net_cons rfl rfl (n_move rfl (ev rfl)) ?_
    refine net_cons rfl rfl (n_move rfl (ev rfl)) ?_
    refine net_cons rfl rfl (n_load rfl (ev rfl) (ldN hw (i := 2) (vs := _) rfl Try.isAgg23 Try.sizeOf23 (kc_len _) (cut_whole (kc_len _)))) ?_
    refine net_cons rfl rfl (n_move rfl (ev rfl)) ?_
    refine net_cons rfl rfl (n_convT rfl (ev rfl) Try.underlying3 Try.underlying24 (wrap_u64_nat (by omega))) ?_
    refine net_cons rfl rfl (n_fieldAddrO (off' := 3) rfl (ev rfl) Try.runUnderlying28 rfl Try.sizeOf26 rfl) ?_
    refine net_cons rfl rfl (n_fieldAddrO (off' := 4) rfl (ev rfl) Try.runUnderlying26 rfl Try.sizeOf24 rfl) ?_
    refine net_cons rfl rfl (n_load rfl (ev rfl) (ld1 hw (i := 1) rfl Try.isAgg24 rfl)) ?_
    refine net_cons rfl rfl (n_ret rfl Try.call68 (.cons (ev rfl) (.cons (ev rfl) (.cons (ev rfl) .nil))) (fun _ hx => Number_c _ _ _ (by omega) hq _)) ?_
    refine net_cons rfl rfl (n_indexS (off' := i) rfl (ev rfl) (ev rfl) Try.underlying116 Try.sizeOf24 (by omega) (by omega)) ?_
    refine net_nil fun a w1 hF hx => ?_
    replace hw := hw.next hx
    replace hF := hF.keep (.cons (t := 3) rfl (.cons (t := 5) rfl (.cons (t := 6) rfl (.cons (t := 7) rfl (.cons (t := 15) rfl (.cons (t := 16) rfl (.cons (t := 17) rfl (.cons (t := 27) rfl (.cons (t := 28) rfl .nil)))))))))
    refine t_store (i := 3) rfl rfl rfl hF hw rfl (ev rfl) (ev rfl) rfl one1 Try.sizeOf24 rfl (by rw [fillG_len, List.length_map, cfs_len]; omega) (fillG_step (map_at (cfs_at root n q i hi))) fun w1 hw => ?_
    refine wpList_nil ?_
    refine reg_seq 2 (hF _ _) (by kernel_rfl) ?_
    refine net_cons rfl rfl (n_bin rfl (ev rfl) evc (r_inc (by omega))) ?_
    refine net_cons rfl rfl (n_move rfl (ev rfl)) ?_
    refine net_nil fun a w1 hF hx => ?_
    replace hw := hw.next hx
    replace hF := hF.keep (.cons (t := 3) rfl (.cons (t := 5) rfl (.cons (t := 6) rfl (.cons (t := 7) rfl (.cons (t := 15) rfl (.cons (t := 16) rfl (.cons (t := 17) rfl (.cons (t := 27) rfl (.cons (t := 28) rfl .nil)))))))))
    refine wpList_nil ?_
    exact ⟨i + 1, ⟨hF.keep (.cons (t := 3) rfl (.cons (t := 5) rfl (.cons (t := 6) rfl (.cons (t := 15) rfl (.cons (t := 16) rfl (.nil)))))), hw, by omega⟩, by omega⟩
  · obtain rfl : i = n + 1 := by have := of_bool_f h17; omega
    rw [fillG_full _ (show ((cfs root n q).map U).length = n + 1 by rw [List.length_map, cfs_len])] at hw
    refine wp_exit (go_then_e (go_then_e (go_exit ?_)))
    refine wp_seq (reg_seq 2 (hF _ _) (by kernel_rfl) ?_)
    refine net_cons rfl rfl (n_move rfl (ev rfl)) ?_
    refine net_cons rfl rfl (n_assign rfl (ev rfl)) ?_
    refine net_nil fun a w1 hF hx => ?_
    replace hw := hw.next hx
    replace hF := hF.keep (.cons (t := 3) rfl (.cons (t := 4) rfl (.cons (t := 5) rfl (.cons (t := 6) rfl (.cons (t := 15) rfl (.cons (t := 16) rfl (.cons (t := 17) rfl .nil)))))))
    refine wpList_nil ?_
    refine wp_ret (ret1 hF Try.results64 rfl ?_)
    replace hw := hw.blkRow (i := 3) (sz := 1) (n := n + 1) (by rfl) (len_U _ (cfs_len _ _ _)) (by simp only [maxLen]; omega)
    exact ⟨_, rfl, hw.ext, _, hw.row (i := 3) rfl, rfl⟩


theorem cfs_take (root : Key) (n q i : Nat) (h : i < n + 1) : ((cfs root n q).take i).map U ++ [U (numK (derK root 40 0) i q)] = ((cfs root n q).take (i + 1)).map U := by
  rw [List.take_add_one, cfs_at root n q i h]
  simp


theorem CoefficientsOf_c (root : Key) (kd d n p q g : Nat) (hd : d ≤ 6) (hn : n ≤ 8) (hq : q < 18446744073709551616) (w : World) : RetF Try.prog 98 [K root, SV kd (d : Int) (n : Int) p q g].toArray w (.ex 24 1 (n + 1) ((cfs root n q).map U) (fun v => v)) := by
  refine enter Try.func98 rfl Try.ntmps98 rfl fun a hF => ?_
  have hw := Own.start w
  refine wp_seq (wp_region_lit ?_)
  refine t_net 0 1 (by kernel_rfl) rfl hF ?_
  refine net_cons rfl rfl (n_box rfl (ev rfl) rfl) ?_
  refine net_nil fun a w1 hF hx => ?_
  obtain ⟨b2, h_, hw⟩ := hw.blk hx (hF.at_ 2 _ rfl)
  replace hF := hF.now h_
  replace hF := hF.keep (.cons (t := 1) rfl (.cons (t := 2) rfl .nil))
  refine t_net 1 1 (by kernel_rfl) rfl hF ?_
  refine net_cons rfl rfl (n_box rfl (ev rfl) rfl) ?_
  refine net_nil fun a w1 hF hx => ?_
  obtain ⟨b3, h_, hw⟩ := hw.blk hx (hF.at_ 3 _ rfl)
  replace hF := hF.now h_
  replace hF := hF.keep (.cons (t := 2) rfl (.cons (t := 3) rfl .nil))
  refine t_net 2 1 (by kernel_rfl) rfl hF ?_
  refine net_cons rfl rfl (n_assign rfl evc) ?_
  refine net_nil fun a w1 hF hx => ?_
  replace hw := hw.next hx
  replace hF := hF.keep (.cons (t := 2) rfl (.cons (t := 3) rfl (.cons (t := 4) rfl .nil)))
  refine wpList_nil ?_
  refine wp_seq (reg_seq 1 (hF _ _) (by kernel_rfl) ?_)
  refine net_cons rfl rfl (n_assign rfl evc) ?_
  refine net_nil fun a w1 hF hx => ?_
  replace hw := hw.next hx
  replace hF := hF.keep (.cons (t := 2) rfl (.cons (t := 3) rfl (.cons (t := 4) rfl (.cons (t := 5) rfl .nil))))
  refine wpList_nil ?_
  refine wp_seq (wp_region_lit ?_)
  refine t_net 0 3 (by kernel_rfl) rfl hF ?_
  refine net_cons rfl rfl (n_load rfl (ev rfl) (ldN hw (i := 0) (vs := _) rfl Try.isAgg23 Try.sizeOf23 (kc_len _) (cut_whole (kc_len _)))) ?_
  refine net_cons rfl rfl (n_ret rfl Try.call85 (.cons (ev rfl) (.cons evc (.cons evc .nil))) (fun _ hx => rDerive_c _ 40 0 (by decide) (by decide) _)) ?_
  refine net_cons rfl rfl (n_alloc rfl Try.zeroValue23 rfl) ?_
  refine net_nil fun a w1 hF hx => ?_
  obtain ⟨b6, h_, hw⟩ := hw.blk hx (hF.at_ 6 _ rfl)
  replace hF := hF.now h_
  replace hF := hF.keep (.cons (t := 3) rfl (.cons (t := 4) rfl (.cons (t := 5) rfl (.cons (t := 6) rfl (.cons (t := 9) rfl .nil)))))
  refine t_store (i := 2) rfl rfl rfl hF hw rfl (ev rfl) (ev rfl) rfl (kc_one _) Try.sizeOf23 (kc_len _) (by first | decide | (rw [kc_len]; decide)) (seg_whole (by rw [kc_len]; rfl)) fun w1 hw => ?_
  refine wpList_nil ?_
  refine wp_seq ?_
  refine wp_seq (reg_seq 1 (hF _ _) (by kernel_rfl) ?_)
  refine net_cons rfl rfl (n_assign rfl evc) ?_
  refine net_nil fun a w1 hF hx => ?_
  replace hw := hw.next hx
  replace hF := hF.keep (.cons (t := 3) rfl (.cons (t := 4) rfl (.cons (t := 5) rfl (.cons (t := 6) rfl (.cons (t := 7) rfl (.cons (t := 9) rfl .nil))))))
  refine wpList_nil ?_
  refine wp_block ?_
  replace hw := hw.addNil 24 1
  refine wp_loop_ix (α := Nat × Value) (fun ⟨i, v⟩ a w1 => FrV 27 [] [(3, .is (.pointer (some ⟨b3, 0, none⟩))) , (5, .is (v)) , (6, .is (.pointer (some ⟨b6, 0, none⟩))) , (7, .is (I (i : Int)))] a ∧ Own w w1 [.blk b2 23 (kc root), .blk b3 28 [B8 kd, I (d : Int), I (n : Int), U p, U q, U g], .blk b6 23 (kc (derK root 40 0)), .row v 24 1 i (((cfs root n q).take i).map U)] ∧ (i ≤ n + 1)) (fun ⟨i, v⟩ => n + 1 - i) ((0, .slice none 0 0)) ⟨hF.keep (.cons (t := 3) rfl (.cons (t := 5) rfl (.cons (t := 6) rfl (.cons (t := 7) rfl (.nil))))), hw, by omega⟩ ?_
  rintro ⟨i, v⟩ a w1 ⟨hF, hw, hi0⟩
  refine wp_seq ?_
  refine wp_seq (reg_seq 4 (hF _ _) (by kernel_rfl) ?_)
  refine net_cons rfl rfl (n_move rfl (ev rfl)) ?_
  refine net_cons rfl rfl (n_fieldAddrO (off' := 2) rfl (ev rfl) Try.runUnderlying28 rfl Try.sizeOf3 rfl) ?_
  refine net_cons rfl rfl (n_load rfl (ev rfl) (ld1 hw (i := 1) rfl Try.isAgg3 rfl)) ?_
  refine net_cons rfl rfl (n_bin rfl (ev rfl) (ev rfl) r_leqN) ?_
  refine net_nil fun a w1 hF hx => ?_
  replace hw := hw.next hx
  replace hF := hF.keep (.cons (t := 3) rfl (.cons (t := 5) rfl (.cons (t := 6) rfl (.cons (t := 7) rfl (.cons (t := 13) rfl .nil)))))
  refine wpList_nil ?_
  refine wp_cond_split (hF.ev (ev rfl)) (fun h13 => ?_) (fun h13 => ?_)
  · have hi : i < n + 1 := by have := of_bool_t h13; omega
    refine wp_skip ?_
    refine wp_seq (wp_block ?_)
    refine wp_region_lit ?_
    refine t_net 0 9 (by kernel_rfl) rfl hF ?_
    refine net_cons rfl rfl (n_move rfl (ev rfl)) ?_
    refine net_cons rfl rfl (n_load rfl (ev rfl) (ldN hw (i := 2) (vs := _) rfl Try.isAgg23 Try.sizeOf23 (kc_len _) (cut_whole (kc_len _)))) ?_
    refine net_cons rfl rfl (n_move rfl (ev rfl)) ?_
    refine net_cons rfl rfl (n_convT rfl (ev rfl) Try.underlying3 Try.underlying24 (wrap_u64_nat (by omega))) ?_
    refine net_cons rfl rfl (n_fieldAddrO (off' := 3) rfl (ev rfl) Try.runUnderlying28 rfl Try.sizeOf26 rfl) ?_
    refine net_cons rfl rfl (n_fieldAddrO (off' := 4) rfl (ev rfl) Try.runUnderlying26 rfl Try.sizeOf24 rfl) ?_
    refine net_cons rfl rfl (n_load rfl (ev rfl) (ld1 hw (i := 1) rfl Try.isAgg24 rfl)) ?_
    refine net_cons rfl rfl (n_ret rfl Try.call119 (.cons (ev rfl) (.cons (ev rfl) (.cons (ev rfl) .nil))) (fun _ hx => rNumber_c _ _ _ (by omega) hq _)) ?_
    refine net_cons rfl rfl (n_bsl sl63 rfl (.cons (ev rfl) .nil) (.cons rfl rfl .nil) rfl (by decide) (by decide)) ?_
    refine net_nil fun a w1 hF hx => ?_
    obtain ⟨b24, h_, hw⟩ := hw.cap hx (hF.at_ 24 _ rfl)
    replace hF := hF.now (v := .slice (some ⟨b24, 0, none⟩) (1) (1)) h_
    replace hF := hF.keep (.cons (t := 3) rfl (.cons (t := 5) rfl (.cons (t := 6) rfl (.cons (t := 7) rfl (.cons (t := 13) rfl (.cons (t := 16) rfl (.cons (t := 24) rfl .nil)))))))
    refine t_append (i := 3) sl63 rfl rfl rfl (by decide) hF hw rfl (ev rfl) (ev rfl) (hw.rdWhole (i := 4) rfl) rfl one1 (by simp only [maxLen]; omega) (by omega) fun v25 a w1 hF hw => ?_
    replace hF := hF.keep (.cons (t := 3) rfl (.cons (t := 5) rfl (.cons (t := 6) rfl (.cons (t := 7) rfl (.cons (t := 13) rfl (.cons (t := 25) rfl .nil))))))
    replace hw := hw.drop (.cons_cons _ (.cons_cons _ (.cons_cons _ (.cons_cons _ (.cons _ .slnil)))))
    refine t_net 10 1 (by kernel_rfl) rfl hF ?_
    refine net_cons rfl rfl (n_assign rfl (ev rfl)) ?_
    refine net_nil fun a w1 hF hx => ?_
    replace hw := hw.next hx
    replace hF := hF.keep (.cons (t := 3) rfl (.cons (t := 5) rfl (.cons (t := 6) rfl (.cons (t := 7) rfl (.cons (t := 13) rfl .nil)))))
    refine wpList_nil ?_
    refine reg_seq 3 (hF _ _) (by kernel_rfl) ?_
    refine net_cons rfl rfl (n_move rfl (ev rfl)) ?_
    refine net_cons rfl rfl (n_bin rfl (ev rfl) evc (r_inc (by omega))) ?_
    refine net_cons rfl rfl (n_assign rfl (ev rfl)) ?_
    refine net_nil fun a w1 hF hx => ?_
    replace hw := hw.next hx
    replace hF := hF.keep (.cons (t := 3) rfl (.cons (t := 5) rfl (.cons (t := 6) rfl (.cons (t := 7) rfl (.cons (t := 13) rfl .nil)))))
    refine wpList_nil ?_
    exact ⟨(i + 1, v25), ⟨hF.keep (.cons (t := 3) rfl (.cons (t := 5) rfl (.cons (t := 6) rfl (.cons (t := 7) rfl (.nil))))), (cfs_take root n q i hi ▸ hw), by omega⟩, (by show n + 1 - (i + 1) < n + 1 - i; omega)⟩
  · obtain rfl : i = n + 1 := by have := of_bool_f h13; omega
    rw [take_len (cfs_len root n q)] at hw
    refine wp_exit (go_then_e (go_then_e (go_exit ?_)))
    refine wp_seq (reg_seq 2 (hF _ _) (by kernel_rfl) ?_)
    refine net_cons rfl rfl (n_move rfl (ev rfl)) ?_
    refine net_cons rfl rfl (n_assign rfl (ev rfl)) ?_
    refine net_nil fun a w1 hF hx => ?_
    replace hw := hw.next hx
    replace hF := hF.keep (.cons (t := 3) rfl (.cons (t := 4) rfl (.cons (t := 5) rfl (.cons (t := 6) rfl (.cons (t := 7) rfl (.cons (t := 13) rfl .nil))))))
    refine wpList_nil ?_
    refine wp_ret (ret1 hF Try.results98 rfl ?_)
    exact ⟨_, rfl, hw.ext, v, hw.row (i := 3) rfl, rfl⟩


/-- A product modulo q. -/
def mulF (q : Nat) (l : List Nat) : Nat := l.foldl (fun o x => o * x % q) 1
theorem mulF_step {q : Nat} {l : List Nat} {i x : Nat} (h : l[i]? = some x) : mulF q (l.take i) * x % q = mulF q (l.take (i + 1)) := by
  rw [List.take_add_one, h]
  simp [mulF]
theorem mulF_le {q : Nat} (hq : 0 < q) (l : List Nat) : mulF q l ≤ q := by
  unfold mulF
  rcases List.eq_nil_or_concat l with rfl | ⟨l', x, rfl⟩
  · exact hq
  · rw [List.concat_eq_append, List.foldl_append]
    exact Nat.le_of_lt (Nat.mod_lt _ hq)
theorem mulF2 (q a b : Nat) : mulF q [a, b] = a * b % q := by
  simp [mulF]
theorem mul_le32 {a b : Nat} (ha : a ≤ 4294967295) (hb : b ≤ 4294967295) : a * b < 18446744073709551616 := by
  have := Nat.mul_le_mul ha hb
  omega


theorem mul_c (q n c : Nat) (A : Option Addr) (l : List Nat) (hq : 0 < q) (hq2 : q ≤ 4294967295) (hb : ∀ x ∈ l, x ≤ 4294967295) (hl : l.length = n) (hn : n ≤ 1000000) (w : World) (hR : Rd w A (l.map U)) : RetF Try.prog 76 [U q, .slice A n c].toArray w (.is (U (mulF q l))) := by
  refine enter Try.func76 rfl Try.ntmps76 rfl fun a hF => ?_
  have hw := Own.start w
  refine wp_seq (reg_seq 1 (hF _ _) (by kernel_rfl) ?_)
  refine net_cons rfl rfl (n_assign rfl evc) ?_
  refine net_nil fun a w1 hF hx => ?_
  replace hw := hw.next hx
  replace hF := hF.keep (.cons (t := 0) rfl (.cons (t := 1) rfl (.cons (t := 4) rfl .nil)))
  refine wpList_nil ?_
  refine wp_seq (reg_seq 1 (hF _ _) (by kernel_rfl) ?_)
  refine net_cons rfl rfl (n_assign rfl evc) ?_
  refine net_nil fun a w1 hF hx => ?_
  replace hw := hw.next hx
  replace hF := hF.keep (.cons (t := 0) rfl (.cons (t := 1) rfl (.cons (t := 4) rfl (.cons (t := 5) rfl .nil))))
  refine wpList_nil ?_
  refine wp_seq ?_
  refine wp_seq (reg_seq 3 (hF _ _) (by kernel_rfl) ?_)
  refine net_cons rfl rfl (n_move rfl (ev rfl)) ?_
  refine net_cons rfl rfl (n_len rfl (ev rfl) Try.underlying63) ?_
  refine net_cons rfl rfl (n_move rfl evc) ?_
  refine net_nil fun a w1 hF hx => ?_
  replace hw := hw.next hx
  replace hF := hF.keep (.cons (t := 0) rfl (.cons (t := 4) rfl (.cons (t := 5) rfl (.cons (t := 8) rfl (.cons (t := 9) rfl (.cons (t := 10) rfl .nil))))))
  refine wpList_nil ?_
  refine wp_block ?_
  refine wp_loop_ix (α := Nat) (fun i a w1 => FrV 21 [] [(0, .is (U q)) , (5, .is (U (mulF q (l.take i)))) , (8, .is (.slice A n c)) , (9, .is (I (n : Int))) , (10, .is (I (i : Int)))] a ∧ Own w w1 [] ∧ (i ≤ n)) (fun i => n - i) (0) ⟨hF.keep (.cons (t := 0) rfl (.cons (t := 5) rfl (.cons (t := 8) rfl (.cons (t := 9) rfl (.cons (t := 10) rfl (.nil)))))), hw, by omega⟩ ?_
  rintro i a w1 ⟨hF, hw, hi0⟩
  refine wp_seq (reg_seq 1 (hF _ _) (by kernel_rfl) ?_)
  refine net_cons rfl rfl (n_bin rfl (ev rfl) (ev rfl) r_lssN) ?_
  refine net_nil fun a w1 hF hx => ?_
  replace hw := hw.next hx
  replace hF := hF.keep (.cons (t := 0) rfl (.cons (t := 5) rfl (.cons (t := 8) rfl (.cons (t := 9) rfl (.cons (t := 10) rfl (.cons (t := 11) rfl .nil))))))
  refine wpList_nil ?_
  refine wp_seq ?_
  refine wp_cond_split (hF.ev (ev rfl)) (fun h11 => ?_) (fun h11 => ?_)
  · have hi : i < n := of_bool_t h11
    obtain ⟨x, hx0⟩ := some_at hl hi
    have hxb := hb x (List.mem_of_getElem? hx0)
    have hm0 := mulF_le hq (l.take i)
    obtain ⟨bX, oX, rfl, hcX⟩ := hR.at_ (by rw [List.length_map]; omega)
    refine wp_skip ?_
    refine wp_seq (wp_block ?_)
    refine wp_seq (reg_seq 3 (hF _ _) (by kernel_rfl) ?_)
    refine net_cons rfl rfl (n_indexS (off' := oX + (i)) rfl (ev rfl) (ev rfl) Try.underlying63 Try.sizeOf24 (by omega) (by omega)) ?_
    refine net_cons rfl rfl (n_load rfl (ev rfl) (fun w2 hx2 => ld1R hcX (map_at hx0) Try.isAgg24 (by omega) w2 (hw.ext.trans hx2))) ?_
    refine net_cons rfl rfl (n_assign rfl (ev rfl)) ?_
    refine net_nil fun a w1 hF hx => ?_
    replace hw := hw.next hx
    replace hF := hF.keep (.cons (t := 0) rfl (.cons (t := 5) rfl (.cons (t := 7) rfl (.cons (t := 8) rfl (.cons (t := 9) rfl (.cons (t := 10) rfl (.cons (t := 11) rfl .nil)))))))
    refine wpList_nil ?_
    refine reg_seq 6 (hF _ _) (by kernel_rfl) ?_
    refine net_cons rfl rfl (n_move rfl (ev rfl)) ?_
    refine net_cons rfl rfl (n_move rfl (ev rfl)) ?_
    refine net_cons rfl rfl (n_bin rfl (ev rfl) (ev rfl) (r_mulN (mul_le32 (by omega) hxb))) ?_
    refine net_cons rfl rfl (n_move rfl (ev rfl)) ?_
    refine net_cons rfl rfl (n_to (n_bin rfl (ev rfl) (ev rfl) (r_remN hq)) (congrArg (fun n : Nat => U n) (mulF_step hx0))) ?_
    refine net_cons rfl rfl (n_assign rfl (ev rfl)) ?_
    refine net_nil fun a w1 hF hx => ?_
    replace hw := hw.next hx
    replace hF := hF.keep (.cons (t := 0) rfl (.cons (t := 5) rfl (.cons (t := 7) rfl (.cons (t := 8) rfl (.cons (t := 9) rfl (.cons (t := 10) rfl (.cons (t := 11) rfl .nil)))))))
    refine wpList_nil ?_
    refine reg_seq 2 (hF _ _) (by kernel_rfl) ?_
    refine net_cons rfl rfl (n_bin rfl (ev rfl) evc (r_inc (by omega))) ?_
    refine net_cons rfl rfl (n_move rfl (ev rfl)) ?_
    refine net_nil fun a w1 hF hx => ?_
    replace hw := hw.next hx
    replace hF := hF.keep (.cons (t := 0) rfl (.cons (t := 5) rfl (.cons (t := 7) rfl (.cons (t := 8) rfl (.cons (t := 9) rfl (.cons (t := 10) rfl (.cons (t := 11) rfl .nil)))))))
    refine wpList_nil ?_
    exact ⟨i + 1, ⟨hF.keep (.cons (t := 0) rfl (.cons (t := 5) rfl (.cons (t := 8) rfl (.cons (t := 9) rfl (.cons (t := 10) rfl (.nil)))))), hw, by omega⟩, by omega⟩
  · obtain rfl : i = n := by have := of_bool_f h11; omega
    refine wp_exit (go_then_e (go_then_e (go_exit ?_)))
    refine wp_seq (reg_seq 2 (hF _ _) (by kernel_rfl) ?_)
    refine net_cons rfl rfl (n_move rfl (ev rfl)) ?_
    refine net_cons rfl rfl (n_assign rfl (ev rfl)) ?_
    refine net_nil fun a w1 hF hx => ?_
    replace hw := hw.next hx
    replace hF := hF.keep (.cons (t := 0) rfl (.cons (t := 4) rfl (.cons (t := 5) rfl (.cons (t := 8) rfl (.cons (t := 9) rfl (.cons (t := 10) rfl (.cons (t := 11) rfl .nil)))))))
    refine wpList_nil ?_
    refine wp_ret (ret1 hF Try.results76 rfl ?_)
    exact ⟨_, rfl, hw.ext, (by show U _ = U _; rw [take_len hl])⟩

theorem BackP_c (A : Option Addr) (n c : Nat) (w : World) : RetF Try.prog 118 [.slice A n c].toArray w (.cap 116 [.slice A n c] (fun p => .func (.func 146) #[] #[p])) := by
  refine enter Try.func118 rfl Try.ntmps118 rfl fun a hF => ?_
  have hw := Own.start w
  refine wp_seq (wp_region_lit ?_)
  refine t_net 0 1 (by kernel_rfl) rfl hF ?_
  refine net_cons rfl rfl (n_box rfl (ev rfl) rfl) ?_
  refine net_nil fun a w1 hF hx => ?_
  obtain ⟨b1, h_, hw⟩ := hw.blk hx (hF.at_ 1 _ rfl)
  replace hF := hF.now h_
  replace hF := hF.keep (.cons (t := 1) rfl .nil)
  refine t_net 1 1 (by kernel_rfl) rfl hF ?_
  refine net_cons rfl rfl (n_assign rfl evc) ?_
  refine net_nil fun a w1 hF hx => ?_
  replace hw := hw.next hx
  replace hF := hF.keep (.cons (t := 1) rfl (.cons (t := 2) rfl .nil))
  refine wpList_nil ?_
  refine wp_seq (reg_seq 2 (hF _ _) (by kernel_rfl) ?_)
  refine net_cons rfl rfl (n_makeFunc rfl (vs := #[.pointer (some ⟨b1, 0, none⟩)]) (.cons (ev rfl) .nil)) ?_
  refine net_cons rfl rfl (n_assign rfl (ev rfl)) ?_
  refine net_nil fun a w1 hF hx => ?_
  replace hw := hw.next hx
  replace hF := hF.keep (.cons (t := 2) rfl .nil)
  refine wpList_nil ?_
  refine wp_ret (ret1 hF Try.results118 rfl ?_)
  have hb := hw.ok _ List.mem_cons_self
  exact ⟨_, rfl, hw.ext, b1, rfl, hb.1, hb.2⟩


theorem BackP_iter (A : Option Addr) (n c : Nat) (l : List Nat) (hl : l.length = n) (hn : n ≤ 1000000) (b1 : Nat) (w0 : World) :
    Iter Try.prog 146 #[.pointer (some ⟨b1, 0, none⟩)] (fun i => [I ((n - 1 - i : Nat) : Int), U (l.getD (n - 1 - i) 0)]) n w0 [.blk b1 116 [.slice A n c]] (fun w => Rd w A (l.map U)) := by
  intro ly C w R hw hJ hy hR
  refine enterI Try.func146 rfl Try.ntmps146 rfl (vs := [.func (.yield ly) #[] #[], .pointer (some ⟨b1, 0, none⟩)]) fun a hF => ?_
  replace hw : Own w0 w (.blk b1 116 [.slice A n c] :: C 0) := hw.perm List.perm_append_comm
  refine wpIn_seq (reg_seqIn fw_wide 4 (hF _ _) (by kernel_rfl) ?_)
  refine net_cons rfl rfl (n_load rfl (ev rfl) (ld1 hw (i := 0) rfl Try.isAgg116 rfl)) ?_
  refine net_cons rfl rfl (n_len rfl (ev rfl) Try.underlying116) ?_
  refine net_cons rfl rfl (n_bin rfl (ev rfl) evc (r_subI (by omega) (by omega))) ?_
  refine net_cons rfl rfl (n_assign rfl (ev rfl)) ?_
  refine net_nil fun a w1 hF hx => ?_
  replace hw := hw.next hx
  refine wpListIn_nil ?_
  refine wpIn_block ?_
  refine wpIn_loop_ix (α := Nat) (fun m a w1 => FrV 19 [] [(0, .is (.func (.yield ly) #[] #[])), (1, .is (.pointer (some ⟨b1, 0, none⟩))), (3, .is (I ((m : Int) - 1)))] a ∧ Own w0 w1 (.blk b1 116 [.slice A n c] :: C (n - m)) ∧ m ≤ n) (fun m => m) n
    ⟨hF.keep (.cons (t := 0) rfl (.cons (t := 1) rfl (.cons (t := 3) rfl .nil))), (by rw [Nat.sub_self]; exact hw), Nat.le_refl _⟩ ?_
  rintro m a w1 ⟨hF, hw, hm⟩
  refine wpIn_seq (wpIn_seq (reg_seqIn fw_wide 2 (hF _ _) (by kernel_rfl) ?_))
  refine net_cons rfl rfl (n_move rfl (ev rfl)) ?_
  refine net_cons rfl rfl (n_bin rfl (ev rfl) evc r_geq) ?_
  refine net_nil fun a w1 hF hx => ?_
  replace hw := hw.next hx
  replace hF := hF.keep (.cons (t := 0) rfl (.cons (t := 1) rfl (.cons (t := 3) rfl (.cons (t := 8) rfl .nil))))
  refine wpListIn_nil ?_
  refine wpIn_cond_split (hF.ev (ev rfl)) (fun h8 => ?_) (fun h8 => ?_)
  rotate_left
  · have h0 := of_bool_f h8
    obtain rfl : m = 0 := by omega
    refine wpIn_exit ?_
    refine go_then_e ?_
    refine go_then_e ?_
    refine go_exit ?_
    refine end0 hF Try.results146 ?_
    refine hR _ ?_
    exact (hw.drop (List.Sublist.refl _)).perm (List.perm_append_comm (l₁ := [Ent.blk b1 116 [.slice A n c]]))
  have h0 := of_bool_t h8
  obtain ⟨m, rfl⟩ : ∃ k, m = k + 1 := ⟨m - 1, by omega⟩
  obtain ⟨x, hx0⟩ := some_at hl (show m < n by omega)
  have hRd := hJ (n - (m + 1)) w1 [.blk b1 116 [.slice A n c]] (hw.perm (List.perm_append_comm (l₁ := [Ent.blk b1 116 [.slice A n c]])))
  obtain ⟨bX, oX, hAe, hcX⟩ := hRd.at_ (by rw [List.length_map]; omega)
  refine wpIn_skip ?_
  refine wpIn_seq (wpIn_block ?_)
  refine wpIn_seq (wpIn_region_lit ?_)
  refine t_netIn fw_wide 0 6 (by kernel_rfl) rfl hF ?_
  refine net_cons rfl rfl (n_move rfl (ev rfl)) ?_
  refine net_cons rfl rfl (n_to (v' := I (m : Int)) (n_move rfl (ev rfl)) (congrArg (Value.int .i64) (by omega))) ?_
  refine net_cons rfl rfl (n_to (v' := .slice (some ⟨bX, oX, none⟩) n c) (n_load rfl (ev rfl) (ld1 hw (i := 0) rfl Try.isAgg116 rfl)) (by rw [hAe])) ?_
  refine net_cons rfl rfl (n_to (v' := I (m : Int)) (n_move rfl (ev rfl)) (congrArg (Value.int .i64) (by omega))) ?_
  refine net_cons rfl rfl (n_indexS (off' := oX + m) rfl (ev rfl) (ev rfl) Try.underlying116 Try.sizeOf24 (by omega) (by omega)) ?_
  refine net_cons rfl rfl (n_load rfl (ev rfl) (fun w2 hx2 => ld1R hcX (map_at hx0) Try.isAgg24 (by omega) w2 hx2)) ?_
  refine net_nil fun a w1 hF hx => ?_
  replace hw := hw.next hx
  replace hF := hF.keep (.cons (t := 0) rfl (.cons (t := 1) rfl (.cons (t := 3) rfl (.cons (t := 11) rfl (.cons (t := 12) rfl (.cons (t := 16) rfl .nil))))))
  have hyk := hy (n - (m + 1)) _ [.blk b1 116 [.slice A n c]] (by omega) (hw.perm (List.perm_append_comm (l₁ := [Ent.blk b1 116 [.slice A n c]])))
  dsimp only at hyk
  rw [show n - 1 - (n - (m + 1)) = m by omega, show n - (m + 1) + 1 = n - m by omega, show l.getD m 0 = x by rw [List.getD_eq_getElem?_getD, hx0]; rfl] at hyk
  refine t_yield (d := 17) (vs := [I (m : Int), U x]) rfl rfl rfl (by decide) hF (ev rfl) (.cons (ev rfl) (.cons (ev rfl) .nil)) hyk fun a w1 hF hw => ?_
  replace hw : Own w0 w1 (.blk b1 116 [.slice A n c] :: C (n - m)) := hw.perm List.perm_append_comm
  refine t_netIn fw_wide 7 1 (by kernel_rfl) rfl hF ?_
  refine net_cons rfl rfl (n_not rfl (ev rfl)) ?_
  refine net_nil fun a w1 hF hx => ?_
  replace hw := hw.next hx
  replace hF := hF.keep (.cons (t := 0) rfl (.cons (t := 1) rfl (.cons (t := 3) rfl (.cons (t := 18) rfl .nil))))
  refine wpListIn_nil ?_
  refine wpIn_cond_false (hF.ev (ev rfl)) ?_
  refine wpIn_skip ?_
  refine reg_seqIn fw_wide 3 (hF _ _) (by kernel_rfl) ?_
  refine net_cons rfl rfl (n_move rfl (ev rfl)) ?_
  refine net_cons rfl rfl (n_to (v' := I ((m : Int) - 1)) (n_bin rfl (ev rfl) evc (r_subI (by omega) (by omega))) (congrArg (Value.int .i64) (by omega))) ?_
  refine net_cons rfl rfl (n_assign rfl (ev rfl)) ?_
  refine net_nil fun a w1 hF hx => ?_
  replace hw := hw.next hx
  refine wpListIn_nil ?_
  exact ⟨m, ⟨hF.keep (.cons (t := 0) rfl (.cons (t := 1) rfl (.cons (t := 3) rfl .nil))), hw, by omega⟩, by omega⟩


theorem BackU_c (A : Option Addr) (n c : Nat) (w : World) : RetF Try.prog 90 [.slice A n c].toArray w (.cap 63 [.slice A n c] (fun p => .func (.func 135) #[] #[p])) := by
  refine enter Try.func90 rfl Try.ntmps90 rfl fun a hF => ?_
  have hw := Own.start w
  refine wp_seq (wp_region_lit ?_)
  refine t_net 0 1 (by kernel_rfl) rfl hF ?_
  refine net_cons rfl rfl (n_box rfl (ev rfl) rfl) ?_
  refine net_nil fun a w1 hF hx => ?_
  obtain ⟨b1, h_, hw⟩ := hw.blk hx (hF.at_ 1 _ rfl)
  replace hF := hF.now h_
  replace hF := hF.keep (.cons (t := 1) rfl .nil)
  refine t_net 1 1 (by kernel_rfl) rfl hF ?_
  refine net_cons rfl rfl (n_assign rfl evc) ?_
  refine net_nil fun a w1 hF hx => ?_
  replace hw := hw.next hx
  replace hF := hF.keep (.cons (t := 1) rfl (.cons (t := 2) rfl .nil))
  refine wpList_nil ?_
  refine wp_seq (reg_seq 2 (hF _ _) (by kernel_rfl) ?_)
  refine net_cons rfl rfl (n_makeFunc rfl (vs := #[.pointer (some ⟨b1, 0, none⟩)]) (.cons (ev rfl) .nil)) ?_
  refine net_cons rfl rfl (n_assign rfl (ev rfl)) ?_
  refine net_nil fun a w1 hF hx => ?_
  replace hw := hw.next hx
  replace hF := hF.keep (.cons (t := 2) rfl .nil)
  refine wpList_nil ?_
  refine wp_ret (ret1 hF Try.results90 rfl ?_)
  have hb := hw.ok _ List.mem_cons_self
  exact ⟨_, rfl, hw.ext, b1, rfl, hb.1, hb.2⟩


theorem BackU_iter (A : Option Addr) (n c : Nat) (l : List Nat) (hl : l.length = n) (hn : n ≤ 1000000) (b1 : Nat) (w0 : World) :
    Iter Try.prog 135 #[.pointer (some ⟨b1, 0, none⟩)] (fun i => [I ((n - 1 - i : Nat) : Int), U (l.getD (n - 1 - i) 0)]) n w0 [.blk b1 63 [.slice A n c]] (fun w => Rd w A (l.map U)) := by
  intro ly C w R hw hJ hy hR
  refine enterI Try.func135 rfl Try.ntmps135 rfl (vs := [.func (.yield ly) #[] #[], .pointer (some ⟨b1, 0, none⟩)]) fun a hF => ?_
  replace hw : Own w0 w (.blk b1 63 [.slice A n c] :: C 0) := hw.perm List.perm_append_comm
  refine wpIn_seq (reg_seqIn fw_wide 4 (hF _ _) (by kernel_rfl) ?_)
  refine net_cons rfl rfl (n_load rfl (ev rfl) (ld1 hw (i := 0) rfl Try.isAgg63 rfl)) ?_
  refine net_cons rfl rfl (n_len rfl (ev rfl) Try.underlying63) ?_
  refine net_cons rfl rfl (n_bin rfl (ev rfl) evc (r_subI (by omega) (by omega))) ?_
  refine net_cons rfl rfl (n_assign rfl (ev rfl)) ?_
  refine net_nil fun a w1 hF hx => ?_
  replace hw := hw.next hx
  refine wpListIn_nil ?_
  refine wpIn_block ?_
  refine wpIn_loop_ix (α := Nat) (fun m a w1 => FrV 19 [] [(0, .is (.func (.yield ly) #[] #[])), (1, .is (.pointer (some ⟨b1, 0, none⟩))), (3, .is (I ((m : Int) - 1)))] a ∧ Own w0 w1 (.blk b1 63 [.slice A n c] :: C (n - m)) ∧ m ≤ n) (fun m => m) n
    ⟨hF.keep (.cons (t := 0) rfl (.cons (t := 1) rfl (.cons (t := 3) rfl .nil))), (by rw [Nat.sub_self]; exact hw), Nat.le_refl _⟩ ?_
  rintro m a w1 ⟨hF, hw, hm⟩
  refine wpIn_seq (wpIn_seq (reg_seqIn fw_wide 2 (hF _ _) (by kernel_rfl) ?_))
  refine net_cons rfl rfl (n_move rfl (ev rfl)) ?_
  refine net_cons rfl rfl (n_bin rfl (ev rfl) evc r_geq) ?_
  refine net_nil fun a w1 hF hx => ?_
  replace hw := hw.next hx
  replace hF := hF.keep (.cons (t := 0) rfl (.cons (t := 1) rfl (.cons (t := 3) rfl (.cons (t := 8) rfl .nil))))
  refine wpListIn_nil ?_
  refine wpIn_cond_split (hF.ev (ev rfl)) (fun h8 => ?_) (fun h8 => ?_)
  rotate_left
  · have h0 := of_bool_f h8
    obtain rfl : m = 0 := by omega
    refine wpIn_exit ?_
    refine go_then_e ?_
    refine go_then_e ?_
    refine go_exit ?_
    refine end0 hF Try.results135 ?_
    refine hR _ ?_
    exact (hw.drop (List.Sublist.refl _)).perm (List.perm_append_comm (l₁ := [Ent.blk b1 63 [.slice A n c]]))
  have h0 := of_bool_t h8
  obtain ⟨m, rfl⟩ : ∃ k, m = k + 1 := ⟨m - 1, by omega⟩
  obtain ⟨x, hx0⟩ := some_at hl (show m < n by omega)
  have hRd := hJ (n - (m + 1)) w1 [.blk b1 63 [.slice A n c]] (hw.perm (List.perm_append_comm (l₁ := [Ent.blk b1 63 [.slice A n c]])))
  obtain ⟨bX, oX, hAe, hcX⟩ := hRd.at_ (by rw [List.length_map]; omega)
  refine wpIn_skip ?_
  refine wpIn_seq (wpIn_block ?_)
  refine wpIn_seq (wpIn_region_lit ?_)
  refine t_netIn fw_wide 0 6 (by kernel_rfl) rfl hF ?_
  refine net_cons rfl rfl (n_move rfl (ev rfl)) ?_
  refine net_cons rfl rfl (n_to (v' := I (m : Int)) (n_move rfl (ev rfl)) (congrArg (Value.int .i64) (by omega))) ?_
  refine net_cons rfl rfl (n_to (v' := .slice (some ⟨bX, oX, none⟩) n c) (n_load rfl (ev rfl) (ld1 hw (i := 0) rfl Try.isAgg63 rfl)) (by rw [hAe])) ?_
  refine net_cons rfl rfl (n_to (v' := I (m : Int)) (n_move rfl (ev rfl)) (congrArg (Value.int .i64) (by omega))) ?_
  refine net_cons rfl rfl (n_indexS (off' := oX + m) rfl (ev rfl) (ev rfl) Try.underlying63 Try.sizeOf24 (by omega) (by omega)) ?_
  refine net_cons rfl rfl (n_load rfl (ev rfl) (fun w2 hx2 => ld1R hcX (map_at hx0) Try.isAgg24 (by omega) w2 hx2)) ?_
  refine net_nil fun a w1 hF hx => ?_
  replace hw := hw.next hx
  replace hF := hF.keep (.cons (t := 0) rfl (.cons (t := 1) rfl (.cons (t := 3) rfl (.cons (t := 11) rfl (.cons (t := 12) rfl (.cons (t := 16) rfl .nil))))))
  have hyk := hy (n - (m + 1)) _ [.blk b1 63 [.slice A n c]] (by omega) (hw.perm (List.perm_append_comm (l₁ := [Ent.blk b1 63 [.slice A n c]])))
  dsimp only at hyk
  rw [show n - 1 - (n - (m + 1)) = m by omega, show n - (m + 1) + 1 = n - m by omega, show l.getD m 0 = x by rw [List.getD_eq_getElem?_getD, hx0]; rfl] at hyk
  refine t_yield (d := 17) (vs := [I (m : Int), U x]) rfl rfl rfl (by decide) hF (ev rfl) (.cons (ev rfl) (.cons (ev rfl) .nil)) hyk fun a w1 hF hw => ?_
  replace hw : Own w0 w1 (.blk b1 63 [.slice A n c] :: C (n - m)) := hw.perm List.perm_append_comm
  refine t_netIn fw_wide 7 1 (by kernel_rfl) rfl hF ?_
  refine net_cons rfl rfl (n_not rfl (ev rfl)) ?_
  refine net_nil fun a w1 hF hx => ?_
  replace hw := hw.next hx
  replace hF := hF.keep (.cons (t := 0) rfl (.cons (t := 1) rfl (.cons (t := 3) rfl (.cons (t := 18) rfl .nil))))
  refine wpListIn_nil ?_
  refine wpIn_cond_false (hF.ev (ev rfl)) ?_
  refine wpIn_skip ?_
  refine reg_seqIn fw_wide 3 (hF _ _) (by kernel_rfl) ?_
  refine net_cons rfl rfl (n_move rfl (ev rfl)) ?_
  refine net_cons rfl rfl (n_to (v' := I ((m : Int) - 1)) (n_bin rfl (ev rfl) evc (r_subI (by omega) (by omega))) (congrArg (Value.int .i64) (by omega))) ?_
  refine net_cons rfl rfl (n_assign rfl (ev rfl)) ?_
  refine net_nil fun a w1 hF hx => ?_
  replace hw := hw.next hx
  refine wpListIn_nil ?_
  exact ⟨m, ⟨hF.keep (.cons (t := 0) rfl (.cons (t := 1) rfl (.cons (t := 3) rfl .nil))), hw, by omega⟩, by omega⟩



theorem pv_drop {l : List Nat} {n i x c : Nat} (hl : l.length = n) (hi : i < n) (hc : l[n - 1 - i]? = some c) : pv (l.drop (n - (i + 1))) x = c + x * pv (l.drop (n - i)) x := by
  have h := (List.getElem?_eq_some_iff.1 hc)
  obtain ⟨h1, h2⟩ := h
  rw [show n - (i + 1) = n - 1 - i by omega, List.drop_eq_getElem_cons h1, h2, show n - 1 - i + 1 = n - i by omega]
  rfl
theorem at_step {q o x c v : Nat} (h : o = v % q) : (o * x % q + c) % q = (c + x * v) % q := by
  rw [h, Nat.add_mod, Nat.mod_mod, ← Nat.add_mod, Nat.add_comm, Nat.mul_comm, Nat.add_mod, Nat.mul_mod, Nat.mod_mod, ← Nat.mul_mod, ← Nat.add_mod]


theorem at_c (q x n c : Nat) (A : Option Addr) (l : List Nat) (hq : 0 < q) (hq2 : q ≤ 4294967295) (hx : x < q) (hb : ∀ c ∈ l, c < q) (hl : l.length = n) (hn : n ≤ 1000000) (w : World) (hR : Rd w A (l.map U)) : RetF Try.prog 65 [.slice A n c, U q, U x].toArray w (.is (U (pv l x % q))) := by
  refine enterM Try.func65 rfl Try.ntmps65 rfl fun a hF => ?_
  have hw := Own.start w
  refine wp_seq (wp_region_lit ?_)
  refine t_net 0 1 (by kernel_rfl) rfl hF ?_
  refine net_cons rfl rfl (n_box rfl (ev rfl) rfl) ?_
  refine net_nil fun a w1 hF hx => ?_
  obtain ⟨b4, h_, hw⟩ := hw.blk hx (hF.at_ 4 _ rfl)
  replace hF := hF.now h_
  replace hF := hF.keep (.cons (t := 0) rfl (.cons (t := 2) rfl (.cons (t := 4) rfl .nil)))
  refine t_net 1 1 (by kernel_rfl) rfl hF ?_
  refine net_cons rfl rfl (n_box rfl (ev rfl) rfl) ?_
  refine net_nil fun a w1 hF hx => ?_
  obtain ⟨b5, h_, hw⟩ := hw.blk hx (hF.at_ 5 _ rfl)
  replace hF := hF.now h_
  replace hF := hF.keep (.cons (t := 0) rfl (.cons (t := 4) rfl (.cons (t := 5) rfl .nil)))
  refine t_net 2 1 (by kernel_rfl) rfl hF ?_
  refine net_cons rfl rfl (n_assign rfl evc) ?_
  refine net_nil fun a w1 hF hx => ?_
  replace hw := hw.next hx
  replace hF := hF.keep (.cons (t := 0) rfl (.cons (t := 4) rfl (.cons (t := 5) rfl (.cons (t := 6) rfl .nil))))
  refine wpList_nil ?_
  refine wp_seq (wp_region_lit ?_)
  refine t_net 0 1 (by kernel_rfl) rfl hF ?_
  refine net_cons rfl rfl (n_alloc rfl Try.zeroValue24 rfl) ?_
  refine net_nil fun a w1 hF hx => ?_
  obtain ⟨b7, h_, hw⟩ := hw.blk hx (hF.at_ 7 _ rfl)
  replace hF := hF.now h_
  replace hF := hF.keep (.cons (t := 0) rfl (.cons (t := 4) rfl (.cons (t := 5) rfl (.cons (t := 6) rfl (.cons (t := 7) rfl .nil)))))
  refine t_store (i := 2) rfl rfl rfl hF hw rfl (ev rfl) evc rfl one1 Try.sizeOf24 rfl (Nat.le_of_ble_eq_true rfl) rfl fun w1 hw => ?_
  refine wpList_nil ?_
  refine wp_seq ?_
  refine wp_seq (reg_seq 2 (hF _ _) (by kernel_rfl) ?_)
  refine net_cons rfl rfl (n_move rfl (ev rfl)) ?_
  refine net_cons rfl rfl (n_ret rfl Try.call118 (.cons (ev rfl) .nil) (fun _ hx => BackP_c _ _ _ _)) ?_
  refine net_nil fun a w1 hF hx => ?_
  obtain ⟨b11, h_, hw⟩ := hw.cap hx (hF.at_ 11 _ rfl)
  replace hF := hF.now h_
  replace hF := hF.keep (.cons (t := 4) rfl (.cons (t := 5) rfl (.cons (t := 6) rfl (.cons (t := 7) rfl (.cons (t := 11) rfl .nil)))))
  refine wpList_nil ?_
  refine wp_block ?_
  refine wp_range (fun (i : Nat) => ([.blk b4 119 [U q], .blk b5 24 [U x], .blk b7 24 [U (pv (l.drop (n - i)) x % q)]] : List Ent)) (fun (i : Nat) => ([(4, .is (.pointer (some ⟨b4, 0, none⟩))), (5, .is (.pointer (some ⟨b5, 0, none⟩))), (7, .is (.pointer (some ⟨b7, 0, none⟩))), (9, .is (U (l.getD (n - 1 - i) 0)))] : Env)) (fun i => I ((n - 1 - i : Nat) : Int)) (fun i => U (l.getD (n - 1 - i) 0)) (by decide) (by decide) (by rw [show pv (l.drop (n - 0)) x % q = 0 by rw [Nat.sub_zero, List.drop_of_length_le (by omega)]; exact Nat.zero_mod q]; exact hw) (ev rfl) Try.call146 (BackP_iter A n c l hl hn b11 w) (fun _ _ _ hO => hR.ext hO.ext) (hF.keep (.cons (t := 4) rfl (.cons (t := 5) rfl (.cons (t := 6) rfl (.cons (t := 7) rfl (.cons (t := 11) rfl (.nil))))))) (fun _ => rfl) (fun lp_ i a w1 K_ hF hK => ?_) (fun lp_ Z i a w1 hk hF hw => ?_) (fun r a w1 hF hw => ?_)
  · have hw := Own.start w1
    refine reg_seqIn (fw_round lp_) 1 (hF _ _) (by kernel_rfl) ?_
    refine net_cons rfl rfl (n_assign rfl (ev rfl)) ?_
    refine net_nil fun a w1 hF hx => ?_
    replace hw := hw.next hx
    replace hF := hF.keep (.cons (t := 4) rfl (.cons (t := 5) rfl (.cons (t := 6) rfl (.cons (t := 7) rfl (.cons (t := 9) rfl (.cons (t := 11) rfl (.cons (t := 13) rfl .nil)))))))
    refine wpListIn_nil ?_
    exact hK _ _ (hF.keep (.cons (t := 4) rfl (.cons (t := 5) rfl (.cons (t := 7) rfl (.cons (t := 9) rfl (.nil)))))) hw.ext
  · have hk0 := hk
    obtain ⟨y, hy0⟩ := some_at hl (show n - 1 - i < n by omega)
    have hyq := hb y (List.mem_of_getElem? hy0)
    rw [show l.getD (n - 1 - i) 0 = y by rw [List.getD_eq_getElem?_getD, hy0]; rfl] at hF
    have hpq := Nat.mod_lt (pv (l.drop (n - i)) x) hq
    refine wpIn_block ?_
    refine reg_drawIn (fw_round lp_) 9 mixed (by kernel_rfl) (hF _ _) ?_
    refine net_cons rfl rfl (n_load rfl (ev rfl) (ld1 hw (i := 0) rfl Try.isAgg119 rfl)) ?_
    refine net_cons rfl rfl (n_load rfl (ev rfl) (ld1 hw (i := 2) rfl Try.isAgg24 rfl)) ?_
    refine net_cons rfl rfl (n_load rfl (ev rfl) (ld1 hw (i := 1) rfl Try.isAgg24 rfl)) ?_
    refine net_cons rfl rfl (n_bsl sl63 rfl (.cons (ev rfl) (.cons (ev rfl) .nil)) (.cons rfl rfl (.cons rfl rfl .nil)) rfl (by decide) (by decide)) ?_
    refine net_cons rfl rfl (n_retC (k := 1) rfl Try.call76 rfl rfl (.cons (ev rfl) .nil) .nil (fun _ b_ hx hR_ => (mul_c q 2 2 _ [pv (l.drop (n - i)) x % q, x] hq hq2 (by intro z hz; simp only [List.mem_cons, List.not_mem_nil, or_false] at hz; omega) rfl (by decide) _ hR_))) ?_
    refine net_cons rfl rfl (n_move rfl (ev rfl)) ?_
    refine net_cons rfl rfl (n_bin rfl (ev rfl) (ev rfl) (r_addN (by rw [mulF2]; have := Nat.mod_lt (pv (l.drop (n - i)) x % q * x) hq; omega))) ?_
    refine net_cons rfl rfl (n_load rfl (ev rfl) (ld1 hw (i := 0) rfl Try.isAgg119 rfl)) ?_
    refine net_cons rfl rfl (n_to (n_bin rfl (ev rfl) (ev rfl) (r_remN hq)) (congrArg (fun n : Nat => U n) (show _ = pv (l.drop (n - (i + 1))) x % q by rw [mulF2, at_step rfl, pv_drop hl hk0 hy0]))) ?_
    refine net_nil fun a w1 hF hx => ?_
    replace hw := hw.next hx
    replace hF := hF.keep (.cons (t := 4) rfl (.cons (t := 5) rfl (.cons (t := 7) rfl (.cons (t := 9) rfl (.cons (t := 22) rfl .nil)))))
    refine t_storeIn (fw_round lp_) (i := 2) rfl rfl rfl hF hw rfl (ev rfl) (ev rfl) rfl one1 Try.sizeOf24 rfl (Nat.le_of_ble_eq_true rfl) rfl fun w1 hw => ?_
    refine wpListIn_nil ?_
    exact ⟨rfl, hw⟩
  · rw [show n - n = 0 by omega, List.drop_zero] at hw
    refine wp_seq (reg_seq 2 (hF _ _) (by kernel_rfl) ?_)
    refine net_cons rfl rfl (n_load rfl (ev rfl) (ld1 hw (i := 3) rfl Try.isAgg24 rfl)) ?_
    refine net_cons rfl rfl (n_assign rfl (ev rfl)) ?_
    refine net_nil fun a w1 hF hx => ?_
    replace hw := hw.next hx
    replace hF := hF.keep (.cons (t := 4) rfl (.cons (t := 5) rfl (.cons (t := 6) rfl (.cons (t := 7) rfl (.cons (t := 11) rfl .nil)))))
    refine wpList_nil ?_
    refine wp_ret (retM1 hF hw Try.results65 rfl fun w1 hw => ?_)
    exact ⟨_, rfl, hw.ext, rfl⟩


theorem pv_snoc (l : List Nat) (c x : Nat) : pv (l ++ [c]) x = pv l x + c * x ^ l.length := by
  induction l with
  | nil => simp [pv]
  | cons a l ih =>
    show a + x * pv (l ++ [c]) x = a + x * pv l x + c * x ^ (l.length + 1)
    rw [ih, Nat.pow_succ]
    grind
theorem pv_take {l : List Nat} {i c x : Nat} (h : l[i]? = some c) : pv (l.take (i + 1)) x = pv (l.take i) x + c * x ^ i := by
  have hi := (List.getElem?_eq_some_iff.1 h).1
  rw [List.take_add_one, h]
  show pv (l.take i ++ [c]) x = _
  rw [pv_snoc, List.length_take, Nat.min_eq_left (by omega)]
theorem vo_step {q v c x i : Nat} : (v % q + c * (x ^ i % q)) % q = (v + c * x ^ i) % q := by
  rw [Nat.add_mod, Nat.mod_mod, Nat.mul_mod, Nat.mod_mod, ← Nat.mul_mod, ← Nat.add_mod]
theorem vo_pow {q x i : Nat} : x ^ i % q * x % q = x ^ (i + 1) % q := by
  rw [Nat.pow_succ, Nat.mul_mod, Nat.mod_mod, ← Nat.mul_mod]
theorem vo_small {a c b q : Nat} (ha : a < q) (hc : c < q) (hb : b < q) (hq : q ≤ 4294967295) : a + c * b < 18446744073709551616 := by
  have := Nat.mul_le_mul (show c ≤ 4294967294 by omega) (show b ≤ 4294967294 by omega)
  omega
theorem vo_small2 {c b q : Nat} (hc : c < q) (hb : b < q) (hq : q ≤ 4294967295) : c * b < 18446744073709551616 := by
  have := Nat.mul_le_mul (show c ≤ 4294967294 by omega) (show b ≤ 4294967294 by omega)
  omega


theorem ValueOf_c (q x n c : Nat) (A : Option Addr) (l : List Nat) (hq : 2 ≤ q) (hq2 : q ≤ 4294967295) (hxq : x < q) (hb : ∀ c ∈ l, c < q) (hl : l.length = n) (hn : n ≤ 1000000) (w : World) (hR : Rd w A (l.map U)) : RetF Try.prog 99 [U q, .slice A n c, U x].toArray w (.is (U (pv l x % q))) := by
  refine enter Try.func99 rfl Try.ntmps99 rfl fun a hF => ?_
  have hw := Own.start w
  refine wp_seq (reg_seq 1 (hF _ _) (by kernel_rfl) ?_)
  refine net_cons rfl rfl (n_assign rfl evc) ?_
  refine net_nil fun a w1 hF hx => ?_
  replace hw := hw.next hx
  replace hF := hF.keep (.cons (t := 0) rfl (.cons (t := 1) rfl (.cons (t := 2) rfl (.cons (t := 6) rfl .nil))))
  refine wpList_nil ?_
  refine wp_seq (reg_seq 1 (hF _ _) (by kernel_rfl) ?_)
  refine net_cons rfl rfl (n_assign rfl evc) ?_
  refine net_nil fun a w1 hF hx => ?_
  replace hw := hw.next hx
  replace hF := hF.keep (.cons (t := 0) rfl (.cons (t := 1) rfl (.cons (t := 2) rfl (.cons (t := 6) rfl (.cons (t := 7) rfl .nil)))))
  refine wpList_nil ?_
  refine wp_seq (reg_seq 1 (hF _ _) (by kernel_rfl) ?_)
  refine net_cons rfl rfl (n_assign rfl evc) ?_
  refine net_nil fun a w1 hF hx => ?_
  replace hw := hw.next hx
  replace hF := hF.keep (.cons (t := 0) rfl (.cons (t := 1) rfl (.cons (t := 2) rfl (.cons (t := 6) rfl (.cons (t := 7) rfl (.cons (t := 8) rfl .nil))))))
  refine wpList_nil ?_
  refine wp_seq ?_
  refine wp_seq (reg_seq 1 (hF _ _) (by kernel_rfl) ?_)
  refine net_cons rfl rfl (n_assign rfl evc) ?_
  refine net_nil fun a w1 hF hx => ?_
  replace hw := hw.next hx
  replace hF := hF.keep (.cons (t := 0) rfl (.cons (t := 1) rfl (.cons (t := 2) rfl (.cons (t := 6) rfl (.cons (t := 7) rfl (.cons (t := 8) rfl (.cons (t := 9) rfl .nil)))))))
  refine wpList_nil ?_
  refine wp_block ?_
  refine wp_loop_ix (α := Nat) (fun i a w1 => FrV 32 [] [(0, .is (U q)) , (1, .is (.slice A n c)) , (2, .is (U x)) , (7, .is (U (pv (l.take i) x % q))) , (8, .is (U (x ^ i % q))) , (9, .is (I (i : Int)))] a ∧ Own w w1 [] ∧ (i ≤ n)) (fun i => n - i) (0) ⟨(by rw [show pv (l.take 0) x % q = 0 from Nat.zero_mod q, show x ^ 0 % q = 1 by rw [Nat.pow_zero]; exact Nat.mod_eq_of_lt (by omega)]; exact hF.keep (.cons (t := 0) rfl (.cons (t := 1) rfl (.cons (t := 2) rfl (.cons (t := 7) rfl (.cons (t := 8) rfl (.cons (t := 9) rfl .nil))))))), hw, by omega⟩ ?_
  rintro i a w1 ⟨hF, hw, hi0⟩
  refine wp_seq ?_
  refine wp_seq (reg_seq 4 (hF _ _) (by kernel_rfl) ?_)
  refine net_cons rfl rfl (n_move rfl (ev rfl)) ?_
  refine net_cons rfl rfl (n_move rfl (ev rfl)) ?_
  refine net_cons rfl rfl (n_len rfl (ev rfl) Try.underlying63) ?_
  refine net_cons rfl rfl (n_bin rfl (ev rfl) (ev rfl) r_lssN) ?_
  refine net_nil fun a w1 hF hx => ?_
  replace hw := hw.next hx
  replace hF := hF.keep (.cons (t := 0) rfl (.cons (t := 1) rfl (.cons (t := 2) rfl (.cons (t := 7) rfl (.cons (t := 8) rfl (.cons (t := 9) rfl (.cons (t := 13) rfl .nil)))))))
  refine wpList_nil ?_
  refine wp_cond_split (hF.ev (ev rfl)) (fun h13 => ?_) (fun h13 => ?_)
  · have hi : i < n := of_bool_t h13
    obtain ⟨y, hy0⟩ := some_at hl hi
    have hyq := hb y (List.mem_of_getElem? hy0)
    have hp1 := Nat.mod_lt (pv (l.take i) x) (show 0 < q by omega)
    have hp2 := Nat.mod_lt (x ^ i) (show 0 < q by omega)
    obtain ⟨bX, oX, rfl, hcX⟩ := hR.at_ (by rw [List.length_map]; omega)
    refine wp_skip ?_
    refine wp_seq (wp_block ?_)
    refine wp_seq (reg_seq 11 (hF _ _) (by kernel_rfl) ?_)
    refine net_cons rfl rfl (n_move rfl (ev rfl)) ?_
    refine net_cons rfl rfl (n_move rfl (ev rfl)) ?_
    refine net_cons rfl rfl (n_move rfl (ev rfl)) ?_
    refine net_cons rfl rfl (n_indexS (off' := oX + (i)) rfl (ev rfl) (ev rfl) Try.underlying63 Try.sizeOf24 (by omega) (by omega)) ?_
    refine net_cons rfl rfl (n_load rfl (ev rfl) (fun w2 hx2 => ld1R hcX (map_at hy0) Try.isAgg24 (by omega) w2 (hw.ext.trans hx2))) ?_
    refine net_cons rfl rfl (n_move rfl (ev rfl)) ?_
    refine net_cons rfl rfl (n_bin rfl (ev rfl) (ev rfl) (r_mulN (vo_small2 hyq hp2 hq2))) ?_
    refine net_cons rfl rfl (n_bin rfl (ev rfl) (ev rfl) (r_addN (vo_small hp1 hyq hp2 hq2))) ?_
    refine net_cons rfl rfl (n_move rfl (ev rfl)) ?_
    refine net_cons rfl rfl (n_to (n_bin rfl (ev rfl) (ev rfl) (r_remN (by omega))) (congrArg (fun n : Nat => U n) (show _ = pv (l.take (i + 1)) x % q by rw [vo_step, pv_take hy0]))) ?_
    refine net_cons rfl rfl (n_assign rfl (ev rfl)) ?_
    refine net_nil fun a w1 hF hx => ?_
    replace hw := hw.next hx
    replace hF := hF.keep (.cons (t := 0) rfl (.cons (t := 1) rfl (.cons (t := 2) rfl (.cons (t := 7) rfl (.cons (t := 8) rfl (.cons (t := 9) rfl (.cons (t := 13) rfl .nil)))))))
    refine wpList_nil ?_
    refine reg_seq 6 (hF _ _) (by kernel_rfl) ?_
    refine net_cons rfl rfl (n_move rfl (ev rfl)) ?_
    refine net_cons rfl rfl (n_move rfl (ev rfl)) ?_
    refine net_cons rfl rfl (n_bin rfl (ev rfl) (ev rfl) (r_mulN (vo_small2 hp2 hxq hq2))) ?_
    refine net_cons rfl rfl (n_move rfl (ev rfl)) ?_
    refine net_cons rfl rfl (n_to (n_bin rfl (ev rfl) (ev rfl) (r_remN (by omega))) (congrArg (fun n : Nat => U n) vo_pow)) ?_
    refine net_cons rfl rfl (n_assign rfl (ev rfl)) ?_
    refine net_nil fun a w1 hF hx => ?_
    replace hw := hw.next hx
    replace hF := hF.keep (.cons (t := 0) rfl (.cons (t := 1) rfl (.cons (t := 2) rfl (.cons (t := 7) rfl (.cons (t := 8) rfl (.cons (t := 9) rfl (.cons (t := 13) rfl .nil)))))))
    refine wpList_nil ?_
    refine reg_seq 3 (hF _ _) (by kernel_rfl) ?_
    refine net_cons rfl rfl (n_move rfl (ev rfl)) ?_
    refine net_cons rfl rfl (n_bin rfl (ev rfl) evc (r_inc (by omega))) ?_
    refine net_cons rfl rfl (n_assign rfl (ev rfl)) ?_
    refine net_nil fun a w1 hF hx => ?_
    replace hw := hw.next hx
    replace hF := hF.keep (.cons (t := 0) rfl (.cons (t := 1) rfl (.cons (t := 2) rfl (.cons (t := 7) rfl (.cons (t := 8) rfl (.cons (t := 9) rfl (.cons (t := 13) rfl .nil)))))))
    refine wpList_nil ?_
    exact ⟨i + 1, ⟨hF.keep (.cons (t := 0) rfl (.cons (t := 1) rfl (.cons (t := 2) rfl (.cons (t := 7) rfl (.cons (t := 8) rfl (.cons (t := 9) rfl (.nil))))))), hw, by omega⟩, by omega⟩
  · obtain rfl : i = n := by have := of_bool_f h13; omega
    refine wp_exit (go_then_e (go_then_e (go_exit ?_)))
    refine wp_seq (reg_seq 2 (hF _ _) (by kernel_rfl) ?_)
    refine net_cons rfl rfl (n_move rfl (ev rfl)) ?_
    refine net_cons rfl rfl (n_assign rfl (ev rfl)) ?_
    refine net_nil fun a w1 hF hx => ?_
    replace hw := hw.next hx
    replace hF := hF.keep (.cons (t := 0) rfl (.cons (t := 1) rfl (.cons (t := 2) rfl (.cons (t := 6) rfl (.cons (t := 7) rfl (.cons (t := 8) rfl (.cons (t := 9) rfl (.cons (t := 13) rfl .nil))))))))
    refine wpList_nil ?_
    refine wp_ret (ret1 hF Try.results99 rfl ?_)
    exact ⟨_, rfl, hw.ext, (by show U _ = U _; rw [take_len hl])⟩

theorem Check_c (kd : Nat) (dp dg : Int) (p q g : Nat) (hp : p < 18446744073709551616) (hq : q < 18446744073709551616) (hg : g < 18446744073709551616) (w : World) : RetF Try.prog 40 [SV kd dp dg p q g].toArray w (.is (I (if okS kd dp dg p q g then 0 else 30))) := by
  refine enter Try.func40 rfl Try.ntmps40 rfl fun a hF => ?_
  have hw := Own.start w
  refine wp_seq (wp_region_lit ?_)
  refine t_net 0 1 (by kernel_rfl) rfl hF ?_
  refine net_cons rfl rfl (n_box rfl (ev rfl) rfl) ?_
  refine net_nil fun a w1 hF hx => ?_
  obtain ⟨b1, h_, hw⟩ := hw.blk hx (hF.at_ 1 _ rfl)
  replace hF := hF.now h_
  replace hF := hF.keep (.cons (t := 1) rfl .nil)
  refine t_net 1 1 (by kernel_rfl) rfl hF ?_
  refine net_cons rfl rfl (n_assign rfl evc) ?_
  refine net_nil fun a w1 hF hx => ?_
  replace hw := hw.next hx
  replace hF := hF.keep (.cons (t := 1) rfl (.cons (t := 2) rfl .nil))
  refine wpList_nil ?_
  refine wp_seq ?_
  refine wp_seq (reg_seq 3 (hF _ _) (by kernel_rfl) ?_)
  refine net_cons rfl rfl (n_load rfl (ev rfl) (ldN hw (i := 0) (vs := _) rfl Try.isAgg28 Try.sizeOf28 rfl rfl)) ?_
  refine net_cons rfl rfl (n_ret rfl Try.call63 (.cons (ev rfl) .nil) (fun _ hx => valid_c _ _ _ _ _ _ (by assumption) (by assumption) (by assumption) _)) ?_
  refine net_cons rfl rfl (n_not rfl (ev rfl)) ?_
  refine net_nil fun a w1 hF hx => ?_
  replace hw := hw.next hx
  replace hF := hF.keep (.cons (t := 2) rfl (.cons (t := 5) rfl .nil))
  refine wpList_nil ?_
  refine wp_cond_split (hF.ev (ev rfl)) (fun h5 => ?_) (fun h5 => ?_)
  · have hz : okS kd dp dg p q g = false := by simpa using h5
    refine wp_seq (reg_seq 1 (hF _ _) (by kernel_rfl) ?_)
    refine net_cons rfl rfl (n_assign rfl evc) ?_
    refine net_nil fun a w1 hF hx => ?_
    replace hw := hw.next hx
    replace hF := hF.keep (.cons (t := 2) rfl (.cons (t := 5) rfl .nil))
    refine wpList_nil ?_
    refine wp_ret (go_then_r (ret1 hF Try.results40 rfl ?_))
    exact ⟨_, rfl, hw.ext, (by rw [hz]; rfl)⟩
  · have hz : okS kd dp dg p q g = true := by simpa using h5
    refine wp_skip ?_
    refine wp_seq (reg_seq 1 (hF _ _) (by kernel_rfl) ?_)
    refine net_cons rfl rfl (n_assign rfl evc) ?_
    refine net_nil fun a w1 hF hx => ?_
    replace hw := hw.next hx
    replace hF := hF.keep (.cons (t := 2) rfl (.cons (t := 5) rfl .nil))
    refine wpList_nil ?_
    refine wp_ret (ret1 hF Try.results40 rfl ?_)
    exact ⟨_, rfl, hw.ext, (by rw [hz]; rfl)⟩

theorem rCheck_c (kd : Nat) (dp dg : Int) (p q g : Nat) (hp : p < 18446744073709551616) (hq : q < 18446744073709551616) (hg : g < 18446744073709551616) (w : World) : RetF Try.prog 41 [SV kd dp dg p q g].toArray w (.is (I (if okS kd dp dg p q g then 0 else 30))) := by
  refine enter Try.func41 rfl Try.ntmps41 rfl fun a hF => ?_
  have hw := Own.start w
  refine wp_seq (wp_region_lit ?_)
  refine t_net 0 1 (by kernel_rfl) rfl hF ?_
  refine net_cons rfl rfl (n_box rfl (ev rfl) rfl) ?_
  refine net_nil fun a w1 hF hx => ?_
  obtain ⟨b1, h_, hw⟩ := hw.blk hx (hF.at_ 1 _ rfl)
  replace hF := hF.now h_
  replace hF := hF.keep (.cons (t := 1) rfl .nil)
  refine t_net 1 1 (by kernel_rfl) rfl hF ?_
  refine net_cons rfl rfl (n_assign rfl evc) ?_
  refine net_nil fun a w1 hF hx => ?_
  replace hw := hw.next hx
  replace hF := hF.keep (.cons (t := 1) rfl (.cons (t := 2) rfl .nil))
  refine wpList_nil ?_
  refine wp_seq ?_
  refine wp_seq (reg_seq 3 (hF _ _) (by kernel_rfl) ?_)
  refine net_cons rfl rfl (n_load rfl (ev rfl) (ldN hw (i := 0) (vs := _) rfl Try.isAgg28 Try.sizeOf28 rfl rfl)) ?_
  refine net_cons rfl rfl (n_ret rfl Try.call30 (.cons (ev rfl) .nil) (fun _ hx => Valid_c _ _ _ _ _ _ (by assumption) (by assumption) (by assumption) _)) ?_
  refine net_cons rfl rfl (n_not rfl (ev rfl)) ?_
  refine net_nil fun a w1 hF hx => ?_
  replace hw := hw.next hx
  replace hF := hF.keep (.cons (t := 2) rfl (.cons (t := 5) rfl .nil))
  refine wpList_nil ?_
  refine wp_cond_split (hF.ev (ev rfl)) (fun h5 => ?_) (fun h5 => ?_)
  · have hz : okS kd dp dg p q g = false := by simpa using h5
    refine wp_seq (reg_seq 1 (hF _ _) (by kernel_rfl) ?_)
    refine net_cons rfl rfl (n_assign rfl evc) ?_
    refine net_nil fun a w1 hF hx => ?_
    replace hw := hw.next hx
    replace hF := hF.keep (.cons (t := 2) rfl (.cons (t := 5) rfl .nil))
    refine wpList_nil ?_
    refine wp_ret (go_then_r (ret1 hF Try.results41 rfl ?_))
    exact ⟨_, rfl, hw.ext, (by rw [hz]; rfl)⟩
  · have hz : okS kd dp dg p q g = true := by simpa using h5
    refine wp_skip ?_
    refine wp_seq (reg_seq 1 (hF _ _) (by kernel_rfl) ?_)
    refine net_cons rfl rfl (n_assign rfl evc) ?_
    refine net_nil fun a w1 hF hx => ?_
    replace hw := hw.next hx
    replace hF := hF.keep (.cons (t := 2) rfl (.cons (t := 5) rfl .nil))
    refine wpList_nil ?_
    refine wp_ret (ret1 hF Try.results41 rfl ?_)
    exact ⟨_, rfl, hw.ext, (by rw [hz]; rfl)⟩


/-! ### secrets -/
abbrev SecV (r : Int) (v : Value) (x y : Nat) : Value := .agg [I r, v, U x, U y].toArray
theorem build_31_0_1 {x y : Nat} (w : World) : (Instr.build 31 #[(0, U x), (1, U y)]).run Try.prog w = .ok (.agg [U x, U y].toArray) w := by
  simp [Instr.build, Try.zeroValue31, Try.runUnderlying31, Array.mapM_eq_mapM_toList, List.mapM_cons, Try.sizeOf24, Instr.fill, Value.cells]
theorem build_33_0_2 {r : Int} {x y : Nat} (w : World) : (Instr.build 33 #[(0, I r), (2, .agg [U x, U y].toArray)]).run Try.prog w = .ok (SecV r (.slice none 0 0) x y) w := by
  simp [Instr.build, Try.zeroValue33, Try.runUnderlying33, Array.mapM_eq_mapM_toList, List.mapM_cons, Try.sizeOf3, Try.sizeOf29, Try.sizeOf31, Instr.fill, Value.cells]
theorem build_33_ (w : World) : (Instr.build 33 #[]).run Try.prog w = .ok (SecV 0 (.slice none 0 0) 0 0) w := by
  simp [Instr.build, Try.zeroValue33, Try.runUnderlying33, Array.mapM_eq_mapM_toList, Try.sizeOf3, Try.sizeOf29, Try.sizeOf31, Instr.fill, Value.cells]
theorem one4 {r : Int} {A : Option Addr} {n c x y : Nat} : ∀ u ∈ [I r, .slice A n c, U x, U y], u.oneCell' = true := by
  intro u hu
  simp only [List.mem_cons, List.not_mem_nil, or_false] at hu
  rcases hu with rfl | rfl | rfl | rfl <;> rfl
/-- What Secret returns. -/
def secR (root : Key) (kd : Nat) (dp dg : Int) (p q g : Nat) (u : Int) : (Int × Nat × Nat) × Int :=
  if okS kd dp dg p q g then (if 0 ≤ u ∧ u < ((2 ^ dp.toNat : Nat) : Int) then ((u, u.toNat + 1, pv (cfs root dg.toNat q) (u.toNat + 1) % q), 0) else ((0, 0, 0), 2)) else ((0, 0, 0), 30)
theorem secR_no {root : Key} {kd : Nat} {dp dg : Int} {p q g : Nat} {u : Int} (h : okS kd dp dg p q g = false) : secR root kd dp dg p q g u = ((0, 0, 0), 30) := by simp [secR, h]
theorem secR_arg {root : Key} {kd : Nat} {dp dg : Int} {p q g : Nat} {u : Int} (h : okS kd dp dg p q g = true) (hu : ¬ (0 ≤ u ∧ u < ((2 ^ dp.toNat : Nat) : Int))) : secR root kd dp dg p q g u = ((0, 0, 0), 2) := by
  unfold secR
  rw [h, if_pos rfl, if_neg hu]
theorem secR_ok {root : Key} {kd : Nat} {d n u : Nat} {p q g : Nat} (h : okS kd d n p q g = true) (hu : u < 2 ^ d) : secR root kd d n p q g u = (((u : Int), u + 1, pv (cfs root n q) (u + 1) % q), (0 : Int)) := by
  unfold secR
  rw [h, if_pos rfl, if_pos ⟨by omega, by simp only [Int.toNat_natCast]; omega⟩]
  simp
theorem okG_q {p q g : Nat} (h : okG p q g = true) : 2 ≤ q ∧ q ≤ 1048575 ∧ 2 ≤ p ∧ p ≤ 1048575 ∧ g < p := by
  obtain ⟨h1, h2, _, h4, h5, _⟩ := okG_all h
  exact ⟨isP_two h2, isP_max h2, isP_two h1, isP_max h1, h5⟩


theorem SecretOf_c (root : Key) (kd d n p q g u : Nat) (hp : p < 18446744073709551616) (hq : q < 18446744073709551616) (hg : g < 18446744073709551616) (hz : okS kd d n p q g = true) (hu : u < 2 ^ d) (w : World) : RetF Try.prog 67 [K root, SV kd (d : Int) (n : Int) p q g, I (u : Int)].toArray w (.is (SecV u (.slice none 0 0) (u + 1) (pv (cfs root n q) (u + 1) % q))) := by
  obtain ⟨hz1, hz2, hz3, hz4, hz5, hz6, hz7⟩ := okS_all hz
  obtain ⟨hz8, hz9, hz10, hz11, hz12⟩ := okG_q hz6
  have hpw := pow_le64 (d := d) (by omega)
  simp only [Int.toNat_natCast] at hz7
  have hcl := cfs_len root n q
  have hcq := cfs_lt root n (show 0 < q by omega)
  refine enter Try.func67 rfl Try.ntmps67 rfl fun a hF => ?_
  have hw := Own.start w
  refine wp_seq (wp_region_lit ?_)
  refine t_net 0 1 (by kernel_rfl) rfl hF ?_
  refine net_cons rfl rfl (n_box rfl (ev rfl) rfl) ?_
  refine net_nil fun a w1 hF hx => ?_
  obtain ⟨b3, h_, hw⟩ := hw.blk hx (hF.at_ 3 _ rfl)
  replace hF := hF.now h_
  replace hF := hF.keep (.cons (t := 1) rfl (.cons (t := 2) rfl (.cons (t := 3) rfl .nil)))
  refine t_net 1 1 (by kernel_rfl) rfl hF ?_
  refine net_cons rfl rfl (n_box rfl (ev rfl) rfl) ?_
  refine net_nil fun a w1 hF hx => ?_
  obtain ⟨b4, h_, hw⟩ := hw.blk hx (hF.at_ 4 _ rfl)
  replace hF := hF.now h_
  replace hF := hF.keep (.cons (t := 2) rfl (.cons (t := 3) rfl (.cons (t := 4) rfl .nil)))
  refine t_net 2 1 (by kernel_rfl) rfl hF ?_
  refine net_cons rfl rfl (n_alloc rfl Try.zeroValue33 rfl) ?_
  refine net_nil fun a w1 hF hx => ?_
  obtain ⟨b6, h_, hw⟩ := hw.blk hx (hF.at_ 6 _ rfl)
  replace hF := hF.now h_
  replace hF := hF.keep (.cons (t := 2) rfl (.cons (t := 3) rfl (.cons (t := 4) rfl (.cons (t := 6) rfl .nil))))
  refine wpList_nil ?_
  refine wp_seq (reg_seq 4 (hF _ _) (by kernel_rfl) ?_)
  refine net_cons rfl rfl (n_move rfl (ev rfl)) ?_
  refine net_cons rfl rfl (n_convT rfl (ev rfl) Try.underlying3 Try.underlying24 (wrap_u64_nat (by omega))) ?_
  refine net_cons rfl rfl (n_bin rfl (ev rfl) evc (r_addN (b := 1) (by omega))) ?_
  refine net_cons rfl rfl (n_assign rfl (ev rfl)) ?_
  refine net_nil fun a w1 hF hx => ?_
  replace hw := hw.next hx
  replace hF := hF.keep (.cons (t := 2) rfl (.cons (t := 3) rfl (.cons (t := 4) rfl (.cons (t := 6) rfl (.cons (t := 7) rfl .nil)))))
  refine wpList_nil ?_
  refine wp_seq (reg_draw 12 mixed (by kernel_rfl) (hF _ _) ?_)
  refine net_cons rfl rfl (n_move rfl (ev rfl)) ?_
  refine net_cons rfl rfl (n_move rfl (ev rfl)) ?_
  refine net_cons rfl rfl (n_fieldAddrO (off' := 3) rfl (ev rfl) Try.runUnderlying28 rfl Try.sizeOf26 rfl) ?_
  refine net_cons rfl rfl (n_fieldAddrO (off' := 4) rfl (ev rfl) Try.runUnderlying26 rfl Try.sizeOf24 rfl) ?_
  refine net_cons rfl rfl (n_load rfl (ev rfl) (ld1 hw (i := 1) rfl Try.isAgg24 rfl)) ?_
  refine net_cons rfl rfl (n_load rfl (ev rfl) (ldN hw (i := 0) (vs := _) rfl Try.isAgg23 Try.sizeOf23 (kc_len _) (cut_whole (kc_len _)))) ?_
  refine net_cons rfl rfl (n_load rfl (ev rfl) (ldN hw (i := 1) (vs := _) rfl Try.isAgg28 Try.sizeOf28 rfl rfl)) ?_
  refine net_cons rfl rfl (n_ret rfl Try.call98 (.cons (ev rfl) (.cons (ev rfl) .nil)) (fun _ hx => CoefficientsOf_c _ _ _ _ _ _ _ (by omega) (by omega) (by omega) _)) ?_
  refine net_cons rfl rfl (n_move rfl (ev rfl)) ?_
  refine net_cons rfl rfl (n_retE (k := 1) rfl Try.call99 rfl rfl (.cons (ev rfl) .nil) (.cons (ev rfl) .nil) (fun _ A_ c_ hx hle_ hR_ => (ValueOf_c q (u + 1) (n + 1) _ _ _ (by omega) (by omega) (by omega) hcq hcl (by omega) _ hR_))) ?_
  refine net_cons rfl rfl (n_build rfl (.cons (ev rfl) (.cons (ev rfl) .nil)) build_31_0_1) ?_
  refine net_cons rfl rfl (n_build rfl (.cons (ev rfl) (.cons (ev rfl) .nil)) build_33_0_2) ?_
  refine net_nil fun a w1 hF hx => ?_
  replace hw := hw.next hx
  replace hF := hF.keep (.cons (t := 2) rfl (.cons (t := 6) rfl (.cons (t := 22) rfl .nil)))
  refine t_store (i := 2) rfl rfl rfl hF hw rfl (ev rfl) (ev rfl) rfl one4 Try.sizeOf33 rfl (Nat.le_of_ble_eq_true rfl) rfl fun w1 hw => ?_
  refine wpList_nil ?_
  refine wp_ret (retc hF Try.results67 rfl (ldN hw (i := 2) (vs := _) rfl Try.isAgg33 Try.sizeOf33 rfl rfl _ (Ext.refl _)) ?_)
  exact ⟨_, rfl, hw.ext, rfl⟩

theorem Secret_c (root : Key) (kd : Nat) (dp dg : Int) (p q g : Nat) (hp : p < 18446744073709551616) (hq : q < 18446744073709551616) (hg : g < 18446744073709551616) (u : Int) (hu0 : -9223372036854775808 ≤ u) (hu1 : u < 9223372036854775808) (w : World) : RetF Try.prog 18 [K root, SV kd dp dg p q g, I u].toArray w (.is (.tuple #[SecV (secR root kd dp dg p q g u).1.1 (.slice none 0 0) (secR root kd dp dg p q g u).1.2.1 (secR root kd dp dg p q g u).1.2.2, I (secR root kd dp dg p q g u).2])) := by
  refine enter Try.func18 rfl Try.ntmps18 rfl fun a hF => ?_
  have hw := Own.start w
  refine wp_seq (wp_region_lit ?_)
  refine t_net 0 1 (by kernel_rfl) rfl hF ?_
  refine net_cons rfl rfl (n_box rfl (ev rfl) rfl) ?_
  refine net_nil fun a w1 hF hx => ?_
  obtain ⟨b3, h_, hw⟩ := hw.blk hx (hF.at_ 3 _ rfl)
  replace hF := hF.now h_
  replace hF := hF.keep (.cons (t := 1) rfl (.cons (t := 2) rfl (.cons (t := 3) rfl .nil)))
  refine t_net 1 1 (by kernel_rfl) rfl hF ?_
  refine net_cons rfl rfl (n_box rfl (ev rfl) rfl) ?_
  refine net_nil fun a w1 hF hx => ?_
  obtain ⟨b4, h_, hw⟩ := hw.blk hx (hF.at_ 4 _ rfl)
  replace hF := hF.now h_
  replace hF := hF.keep (.cons (t := 2) rfl (.cons (t := 3) rfl (.cons (t := 4) rfl .nil)))
  refine t_net 2 1 (by kernel_rfl) rfl hF ?_
  refine net_cons rfl rfl (n_alloc rfl Try.zeroValue33 rfl) ?_
  refine net_nil fun a w1 hF hx => ?_
  obtain ⟨b6, h_, hw⟩ := hw.blk hx (hF.at_ 6 _ rfl)
  replace hF := hF.now h_
  replace hF := hF.keep (.cons (t := 2) rfl (.cons (t := 3) rfl (.cons (t := 4) rfl (.cons (t := 6) rfl .nil))))
  refine t_net 3 1 (by kernel_rfl) rfl hF ?_
  refine net_cons rfl rfl (n_assign rfl evc) ?_
  refine net_nil fun a w1 hF hx => ?_
  replace hw := hw.next hx
  replace hF := hF.keep (.cons (t := 2) rfl (.cons (t := 3) rfl (.cons (t := 4) rfl (.cons (t := 6) rfl (.cons (t := 7) rfl .nil)))))
  refine wpList_nil ?_
  refine wp_seq ?_
  refine wp_seq (reg_seq 3 (hF _ _) (by kernel_rfl) ?_)
  refine net_cons rfl rfl (n_load rfl (ev rfl) (ldN hw (i := 1) (vs := _) rfl Try.isAgg28 Try.sizeOf28 rfl rfl)) ?_
  refine net_cons rfl rfl (n_ret rfl Try.call63 (.cons (ev rfl) .nil) (fun _ hx => valid_c _ _ _ _ _ _ (by assumption) (by assumption) (by assumption) _)) ?_
  refine net_cons rfl rfl (n_not rfl (ev rfl)) ?_
  refine net_nil fun a w1 hF hx => ?_
  replace hw := hw.next hx
  replace hF := hF.keep (.cons (t := 2) rfl (.cons (t := 3) rfl (.cons (t := 4) rfl (.cons (t := 6) rfl (.cons (t := 7) rfl (.cons (t := 11) rfl .nil))))))
  refine wpList_nil ?_
  refine wp_cond_split (hF.ev (ev rfl)) (fun h11 => ?_) (fun h11 => ?_)
  · have hz : okS kd dp dg p q g = false := by simpa using h11
    refine wp_seq (wp_region_lit ?_)
    refine t_net 0 1 (by kernel_rfl) rfl hF ?_
    refine net_cons rfl rfl (n_build rfl .nil build_33_) ?_
    refine net_nil fun a w1 hF hx => ?_
    replace hw := hw.next hx
    replace hF := hF.keep (.cons (t := 2) rfl (.cons (t := 3) rfl (.cons (t := 4) rfl (.cons (t := 6) rfl (.cons (t := 7) rfl (.cons (t := 11) rfl (.cons (t := 12) rfl .nil)))))))
    refine t_store (i := 2) rfl rfl rfl hF hw rfl (ev rfl) (ev rfl) rfl one4 Try.sizeOf33 rfl (Nat.le_of_ble_eq_true rfl) rfl fun w1 hw => ?_
    refine t_net 2 1 (by kernel_rfl) rfl hF ?_
    refine net_cons rfl rfl (n_assign rfl evc) ?_
    refine net_nil fun a w1 hF hx => ?_
    replace hw := hw.next hx
    replace hF := hF.keep (.cons (t := 2) rfl (.cons (t := 3) rfl (.cons (t := 4) rfl (.cons (t := 6) rfl (.cons (t := 7) rfl (.cons (t := 11) rfl .nil))))))
    refine wpList_nil ?_
    refine wp_ret (go_then_r (retc2 hF Try.results18 rfl (ldN hw (i := 2) (vs := _) rfl Try.isAgg33 Try.sizeOf33 rfl rfl _ (Ext.refl _)) rfl ?_))
    exact ⟨_, rfl, hw.ext, (by rw [secR_no hz]; rfl)⟩
  · have hz : okS kd dp dg p q g = true := by simpa using h11
    obtain ⟨hz1, hz2, hz3, hz4, hz5, hz6, hz7⟩ := okS_all hz
    obtain ⟨hz8, hz9, hz10, hz11, hz12⟩ := okG_q hz6
    obtain ⟨d, hde⟩ := Int.eq_ofNat_of_zero_le hz2
    obtain ⟨n, hne⟩ := Int.eq_ofNat_of_zero_le (show 0 ≤ dg by omega)
    have hpw := pow_le64 (d := dp.toNat) (by omega)
    refine wp_skip ?_
    refine wp_seq ?_
    refine wp_seq (reg_seq 9 (hF _ _) (by kernel_rfl) ?_)
    refine net_cons rfl rfl (n_move rfl (ev rfl)) ?_
    refine net_cons rfl rfl (n_bin rfl (ev rfl) evc r_lss) ?_
    refine net_cons rfl rfl (n_move rfl (ev rfl)) ?_
    refine net_if rfl rfl rfl rfl (fun hc => (n_move rfl (ev rfl))) ?_
    refine net_if rfl rfl rfl rfl (fun hc => (n_fieldAddrO (off' := 1) rfl (ev rfl) Try.runUnderlying28 rfl Try.sizeOf3 rfl)) ?_
    refine net_if rfl rfl rfl rfl (fun hc => (n_load rfl (evi rfl hc) (ld1 hw (i := 1) rfl Try.isAgg3 rfl))) ?_
    refine net_if rfl rfl rfl rfl (fun hc => (n_bin rfl evc (evi rfl hc) (sh1 (by omega) (by omega)))) ?_
    refine net_if rfl rfl rfl rfl (fun hc => (n_bin rfl (evi rfl hc) (evi rfl hc) r_geq)) ?_
    refine net_cons rfl rfl (n_pick_or rfl (ev rfl) (fun h => (evi rfl h))) ?_
    refine net_nil fun a w1 hF hx => ?_
    replace hw := hw.next hx
    replace hF := hF.keep (.cons (t := 2) rfl (.cons (t := 3) rfl (.cons (t := 4) rfl (.cons (t := 6) rfl (.cons (t := 7) rfl (.cons (t := 11) rfl (.cons (t := 21) rfl .nil)))))))
    refine wpList_nil ?_
    refine wp_cond_split (hF.ev (ev rfl)) (fun h21 => ?_) (fun h21 => ?_)
    · have hun : ¬ (0 ≤ u ∧ u < ((2 ^ dp.toNat : Nat) : Int)) := by have := or_t h21; omega
      refine wp_seq (wp_region_lit ?_)
      refine t_net 0 1 (by kernel_rfl) rfl hF ?_
      refine net_cons rfl rfl (n_build rfl .nil build_33_) ?_
      refine net_nil fun a w1 hF hx => ?_
      replace hw := hw.next hx
      replace hF := hF.keep (.cons (t := 2) rfl (.cons (t := 3) rfl (.cons (t := 4) rfl (.cons (t := 6) rfl (.cons (t := 7) rfl (.cons (t := 11) rfl (.cons (t := 21) rfl (.cons (t := 22) rfl .nil))))))))
      refine t_store (i := 2) rfl rfl rfl hF hw rfl (ev rfl) (ev rfl) rfl one4 Try.sizeOf33 rfl (Nat.le_of_ble_eq_true rfl) rfl fun w1 hw => ?_
      refine t_net 2 1 (by kernel_rfl) rfl hF ?_
      refine net_cons rfl rfl (n_assign rfl evc) ?_
      refine net_nil fun a w1 hF hx => ?_
      replace hw := hw.next hx
      replace hF := hF.keep (.cons (t := 2) rfl (.cons (t := 3) rfl (.cons (t := 4) rfl (.cons (t := 6) rfl (.cons (t := 7) rfl (.cons (t := 11) rfl (.cons (t := 21) rfl .nil)))))))
      refine wpList_nil ?_
      refine wp_ret (go_then_r (retc2 hF Try.results18 rfl (ldN hw (i := 2) (vs := _) rfl Try.isAgg33 Try.sizeOf33 rfl rfl _ (Ext.refl _)) rfl ?_))
      exact ⟨_, rfl, hw.ext, (by rw [secR_arg hz hun]; rfl)⟩
    · obtain ⟨hu2, hu3⟩ := or_f h21
      obtain ⟨k, hke⟩ := Int.eq_ofNat_of_zero_le (show 0 ≤ u by omega)
      rw [hde, hne] at hw hz
      rw [hde] at hz7 hpw hu3
      rw [hne] at hz5 hz7
      simp only [Int.toNat_natCast] at hz7 hpw hu3
      have hcl := cfs_len root n q
      have hcq := cfs_lt root n (show 0 < q by omega)
      have hku : k < 2 ^ d := by omega
      refine wp_skip ?_
      refine wp_seq (reg_seq 4 (hF _ _) (by kernel_rfl) ?_)
      refine net_cons rfl rfl (n_to (v' := I (k : Int)) (n_move rfl (ev rfl)) (congrArg (Value.int .i64) hke)) ?_
      refine net_cons rfl rfl (n_convT rfl (ev rfl) Try.underlying3 Try.underlying24 (wrap_u64_nat (by omega))) ?_
      refine net_cons rfl rfl (n_bin rfl (ev rfl) evc (r_addN (b := 1) (by omega))) ?_
      refine net_cons rfl rfl (n_assign rfl (ev rfl)) ?_
      refine net_nil fun a w1 hF hx => ?_
      replace hw := hw.next hx
      replace hF := hF.keep (.cons (t := 2) rfl (.cons (t := 3) rfl (.cons (t := 4) rfl (.cons (t := 6) rfl (.cons (t := 7) rfl (.cons (t := 8) rfl (.cons (t := 11) rfl (.cons (t := 21) rfl .nil))))))))
      refine wpList_nil ?_
      refine wp_seq (reg_draw 12 mixed (by kernel_rfl) (hF _ _) ?_)
      refine net_cons rfl rfl (n_to (v' := I (k : Int)) (n_move rfl (ev rfl)) (congrArg (Value.int .i64) hke)) ?_
      refine net_cons rfl rfl (n_move rfl (ev rfl)) ?_
      refine net_cons rfl rfl (n_load rfl (ev rfl) (ldN hw (i := 0) (vs := _) rfl Try.isAgg23 Try.sizeOf23 (kc_len _) (cut_whole (kc_len _)))) ?_
      refine net_cons rfl rfl (n_load rfl (ev rfl) (ldN hw (i := 1) (vs := _) rfl Try.isAgg28 Try.sizeOf28 rfl rfl)) ?_
      refine net_cons rfl rfl (n_ret rfl Try.call64 (.cons (ev rfl) (.cons (ev rfl) .nil)) (fun _ hx => secret_c _ _ _ _ _ _ _ (by omega) (by omega) (by omega) _)) ?_
      refine net_cons rfl rfl (n_fieldAddrO (off' := 3) rfl (ev rfl) Try.runUnderlying28 rfl Try.sizeOf26 rfl) ?_
      refine net_cons rfl rfl (n_fieldAddrO (off' := 4) rfl (ev rfl) Try.runUnderlying26 rfl Try.sizeOf24 rfl) ?_
      refine net_cons rfl rfl (n_load rfl (ev rfl) (ld1 hw (i := 1) rfl Try.isAgg24 rfl)) ?_
      refine net_cons rfl rfl (n_move rfl (ev rfl)) ?_
      refine net_cons rfl rfl (n_retE (k := 0) rfl Try.call65 rfl rfl .nil (.cons (ev rfl) (.cons (ev rfl) .nil)) (fun _ A_ c_ hx hle_ hR_ => (at_c q (k + 1) (n + 1) _ _ _ (by omega) (by omega) (by omega) hcq hcl (by omega) _ hR_))) ?_
      refine net_cons rfl rfl (n_build rfl (.cons (ev rfl) (.cons (ev rfl) .nil)) build_31_0_1) ?_
      refine net_cons rfl rfl (n_build rfl (.cons (ev rfl) (.cons (ev rfl) .nil)) build_33_0_2) ?_
      refine net_nil fun a w1 hF hx => ?_
      replace hw := hw.next hx
      replace hF := hF.keep (.cons (t := 2) rfl (.cons (t := 4) rfl (.cons (t := 6) rfl (.cons (t := 7) rfl (.cons (t := 11) rfl (.cons (t := 21) rfl (.cons (t := 37) rfl .nil)))))))
      refine t_store (i := 2) rfl rfl rfl hF hw rfl (ev rfl) (ev rfl) rfl one4 Try.sizeOf33 rfl (Nat.le_of_ble_eq_true rfl) rfl fun w1 hw => ?_
      refine t_net 13 1 (by kernel_rfl) rfl hF ?_
      refine net_cons rfl rfl (n_assign rfl evc) ?_
      refine net_nil fun a w1 hF hx => ?_
      replace hw := hw.next hx
      replace hF := hF.keep (.cons (t := 2) rfl (.cons (t := 4) rfl (.cons (t := 6) rfl (.cons (t := 7) rfl (.cons (t := 11) rfl (.cons (t := 21) rfl .nil))))))
      refine wpList_nil ?_
      refine wp_ret (retc2 hF Try.results18 rfl (ldN hw (i := 2) (vs := _) rfl Try.isAgg33 Try.sizeOf33 rfl rfl _ (Ext.refl _)) rfl ?_)
      exact ⟨_, rfl, hw.ext, (by rw [hde, hne, hke, secR_ok hz hku]; rfl)⟩

theorem rSecret_c (root : Key) (kd : Nat) (dp dg : Int) (p q g : Nat) (hp : p < 18446744073709551616) (hq : q < 18446744073709551616) (hg : g < 18446744073709551616) (u : Int) (hu0 : -9223372036854775808 ≤ u) (hu1 : u < 9223372036854775808) (w : World) : RetF Try.prog 19 [K root, SV kd dp dg p q g, I u].toArray w (.is (.tuple #[SecV (secR root kd dp dg p q g u).1.1 (.slice none 0 0) (secR root kd dp dg p q g u).1.2.1 (secR root kd dp dg p q g u).1.2.2, I (secR root kd dp dg p q g u).2])) := by
  refine enter Try.func19 rfl Try.ntmps19 rfl fun a hF => ?_
  have hw := Own.start w
  refine wp_seq (wp_region_lit ?_)
  refine t_net 0 1 (by kernel_rfl) rfl hF ?_
  refine net_cons rfl rfl (n_box rfl (ev rfl) rfl) ?_
  refine net_nil fun a w1 hF hx => ?_
  obtain ⟨b3, h_, hw⟩ := hw.blk hx (hF.at_ 3 _ rfl)
  replace hF := hF.now h_
  replace hF := hF.keep (.cons (t := 1) rfl (.cons (t := 2) rfl (.cons (t := 3) rfl .nil)))
  refine t_net 1 1 (by kernel_rfl) rfl hF ?_
  refine net_cons rfl rfl (n_box rfl (ev rfl) rfl) ?_
  refine net_nil fun a w1 hF hx => ?_
  obtain ⟨b4, h_, hw⟩ := hw.blk hx (hF.at_ 4 _ rfl)
  replace hF := hF.now h_
  replace hF := hF.keep (.cons (t := 2) rfl (.cons (t := 3) rfl (.cons (t := 4) rfl .nil)))
  refine t_net 2 1 (by kernel_rfl) rfl hF ?_
  refine net_cons rfl rfl (n_alloc rfl Try.zeroValue33 rfl) ?_
  refine net_nil fun a w1 hF hx => ?_
  obtain ⟨b6, h_, hw⟩ := hw.blk hx (hF.at_ 6 _ rfl)
  replace hF := hF.now h_
  replace hF := hF.keep (.cons (t := 2) rfl (.cons (t := 3) rfl (.cons (t := 4) rfl (.cons (t := 6) rfl .nil))))
  refine t_net 3 1 (by kernel_rfl) rfl hF ?_
  refine net_cons rfl rfl (n_assign rfl evc) ?_
  refine net_nil fun a w1 hF hx => ?_
  replace hw := hw.next hx
  replace hF := hF.keep (.cons (t := 2) rfl (.cons (t := 3) rfl (.cons (t := 4) rfl (.cons (t := 6) rfl (.cons (t := 7) rfl .nil)))))
  refine wpList_nil ?_
  refine wp_seq ?_
  refine wp_seq (reg_seq 3 (hF _ _) (by kernel_rfl) ?_)
  refine net_cons rfl rfl (n_load rfl (ev rfl) (ldN hw (i := 1) (vs := _) rfl Try.isAgg28 Try.sizeOf28 rfl rfl)) ?_
  refine net_cons rfl rfl (n_ret rfl Try.call30 (.cons (ev rfl) .nil) (fun _ hx => Valid_c _ _ _ _ _ _ (by assumption) (by assumption) (by assumption) _)) ?_
  refine net_cons rfl rfl (n_not rfl (ev rfl)) ?_
  refine net_nil fun a w1 hF hx => ?_
  replace hw := hw.next hx
  replace hF := hF.keep (.cons (t := 2) rfl (.cons (t := 3) rfl (.cons (t := 4) rfl (.cons (t := 6) rfl (.cons (t := 7) rfl (.cons (t := 10) rfl .nil))))))
  refine wpList_nil ?_
  refine wp_cond_split (hF.ev (ev rfl)) (fun h10 => ?_) (fun h10 => ?_)
  · have hz : okS kd dp dg p q g = false := by simpa using h10
    refine wp_seq (wp_region_lit ?_)
    refine t_net 0 1 (by kernel_rfl) rfl hF ?_
    refine net_cons rfl rfl (n_build rfl .nil build_33_) ?_
    refine net_nil fun a w1 hF hx => ?_
    replace hw := hw.next hx
    replace hF := hF.keep (.cons (t := 2) rfl (.cons (t := 3) rfl (.cons (t := 4) rfl (.cons (t := 6) rfl (.cons (t := 7) rfl (.cons (t := 10) rfl (.cons (t := 11) rfl .nil)))))))
    refine t_store (i := 2) rfl rfl rfl hF hw rfl (ev rfl) (ev rfl) rfl one4 Try.sizeOf33 rfl (Nat.le_of_ble_eq_true rfl) rfl fun w1 hw => ?_
    refine t_net 2 1 (by kernel_rfl) rfl hF ?_
    refine net_cons rfl rfl (n_assign rfl evc) ?_
    refine net_nil fun a w1 hF hx => ?_
    replace hw := hw.next hx
    replace hF := hF.keep (.cons (t := 2) rfl (.cons (t := 3) rfl (.cons (t := 4) rfl (.cons (t := 6) rfl (.cons (t := 7) rfl (.cons (t := 10) rfl .nil))))))
    refine wpList_nil ?_
    refine wp_ret (go_then_r (retc2 hF Try.results19 rfl (ldN hw (i := 2) (vs := _) rfl Try.isAgg33 Try.sizeOf33 rfl rfl _ (Ext.refl _)) rfl ?_))
    exact ⟨_, rfl, hw.ext, (by rw [secR_no hz]; rfl)⟩
  · have hz : okS kd dp dg p q g = true := by simpa using h10
    obtain ⟨hz1, hz2, hz3, hz4, hz5, hz6, hz7⟩ := okS_all hz
    obtain ⟨hz8, hz9, hz10, hz11, hz12⟩ := okG_q hz6
    obtain ⟨d, hde⟩ := Int.eq_ofNat_of_zero_le hz2
    obtain ⟨n, hne⟩ := Int.eq_ofNat_of_zero_le (show 0 ≤ dg by omega)
    have hpw := pow_le64 (d := dp.toNat) (by omega)
    refine wp_skip ?_
    refine wp_seq ?_
    refine wp_seq (reg_seq 9 (hF _ _) (by kernel_rfl) ?_)
    refine net_cons rfl rfl (n_move rfl (ev rfl)) ?_
    refine net_cons rfl rfl (n_bin rfl (ev rfl) evc r_lss) ?_
    refine net_cons rfl rfl (n_move rfl (ev rfl)) ?_
    refine net_if rfl rfl rfl rfl (fun hc => (n_move rfl (ev rfl))) ?_
    refine net_if rfl rfl rfl rfl (fun hc => (n_fieldAddrO (off' := 1) rfl (ev rfl) Try.runUnderlying28 rfl Try.sizeOf3 rfl)) ?_
    refine net_if rfl rfl rfl rfl (fun hc => (n_load rfl (evi rfl hc) (ld1 hw (i := 1) rfl Try.isAgg3 rfl))) ?_
    refine net_if rfl rfl rfl rfl (fun hc => (n_ret rfl Try.call66 (.cons (evi rfl hc) .nil) (fun _ hx => Receivers_c _ hz2 hz3 _))) ?_
    refine net_if rfl rfl rfl rfl (fun hc => (n_bin rfl (evi rfl hc) (evi rfl hc) r_geq)) ?_
    refine net_cons rfl rfl (n_pick_or rfl (ev rfl) (fun h => (evi rfl h))) ?_
    refine net_nil fun a w1 hF hx => ?_
    replace hw := hw.next hx
    replace hF := hF.keep (.cons (t := 2) rfl (.cons (t := 3) rfl (.cons (t := 4) rfl (.cons (t := 6) rfl (.cons (t := 7) rfl (.cons (t := 10) rfl (.cons (t := 20) rfl .nil)))))))
    refine wpList_nil ?_
    refine wp_cond_split (hF.ev (ev rfl)) (fun h20 => ?_) (fun h20 => ?_)
    · have hun : ¬ (0 ≤ u ∧ u < ((2 ^ dp.toNat : Nat) : Int)) := by have := or_t h20; omega
      refine wp_seq (wp_region_lit ?_)
      refine t_net 0 1 (by kernel_rfl) rfl hF ?_
      refine net_cons rfl rfl (n_build rfl .nil build_33_) ?_
      refine net_nil fun a w1 hF hx => ?_
      replace hw := hw.next hx
      replace hF := hF.keep (.cons (t := 2) rfl (.cons (t := 3) rfl (.cons (t := 4) rfl (.cons (t := 6) rfl (.cons (t := 7) rfl (.cons (t := 10) rfl (.cons (t := 20) rfl (.cons (t := 21) rfl .nil))))))))
      refine t_store (i := 2) rfl rfl rfl hF hw rfl (ev rfl) (ev rfl) rfl one4 Try.sizeOf33 rfl (Nat.le_of_ble_eq_true rfl) rfl fun w1 hw => ?_
      refine t_net 2 1 (by kernel_rfl) rfl hF ?_
      refine net_cons rfl rfl (n_assign rfl evc) ?_
      refine net_nil fun a w1 hF hx => ?_
      replace hw := hw.next hx
      replace hF := hF.keep (.cons (t := 2) rfl (.cons (t := 3) rfl (.cons (t := 4) rfl (.cons (t := 6) rfl (.cons (t := 7) rfl (.cons (t := 10) rfl (.cons (t := 20) rfl .nil)))))))
      refine wpList_nil ?_
      refine wp_ret (go_then_r (retc2 hF Try.results19 rfl (ldN hw (i := 2) (vs := _) rfl Try.isAgg33 Try.sizeOf33 rfl rfl _ (Ext.refl _)) rfl ?_))
      exact ⟨_, rfl, hw.ext, (by rw [secR_arg hz hun]; rfl)⟩
    · obtain ⟨hu2, hu3⟩ := or_f h20
      obtain ⟨k, hke⟩ := Int.eq_ofNat_of_zero_le (show 0 ≤ u by omega)
      rw [hde, hne] at hw hz
      rw [hde] at hu3
      simp only [Int.toNat_natCast] at hu3
      have hku : k < 2 ^ d := by omega
      refine wp_skip ?_
      refine wp_seq (wp_region_lit ?_)
      refine t_net 0 4 (by kernel_rfl) rfl hF ?_
      refine net_cons rfl rfl (n_load rfl (ev rfl) (ldN hw (i := 0) (vs := _) rfl Try.isAgg23 Try.sizeOf23 (kc_len _) (cut_whole (kc_len _)))) ?_
      refine net_cons rfl rfl (n_load rfl (ev rfl) (ldN hw (i := 1) (vs := _) rfl Try.isAgg28 Try.sizeOf28 rfl rfl)) ?_
      refine net_cons rfl rfl (n_to (v' := I (k : Int)) (n_move rfl (ev rfl)) (congrArg (Value.int .i64) hke)) ?_
      refine net_cons rfl rfl (n_ret rfl Try.call67 (.cons (ev rfl) (.cons (ev rfl) (.cons (ev rfl) .nil))) (fun _ hx => SecretOf_c root kd d n p q g k hp hq hg hz hku _)) ?_
      refine net_nil fun a w1 hF hx => ?_
      replace hw := hw.next hx
      replace hF := hF.keep (.cons (t := 2) rfl (.cons (t := 4) rfl (.cons (t := 6) rfl (.cons (t := 7) rfl (.cons (t := 10) rfl (.cons (t := 20) rfl (.cons (t := 25) rfl .nil)))))))
      refine t_store (i := 2) rfl rfl rfl hF hw rfl (ev rfl) (ev rfl) rfl one4 Try.sizeOf33 rfl (Nat.le_of_ble_eq_true rfl) rfl fun w1 hw => ?_
      refine t_net 5 1 (by kernel_rfl) rfl hF ?_
      refine net_cons rfl rfl (n_assign rfl evc) ?_
      refine net_nil fun a w1 hF hx => ?_
      replace hw := hw.next hx
      replace hF := hF.keep (.cons (t := 2) rfl (.cons (t := 4) rfl (.cons (t := 6) rfl (.cons (t := 7) rfl (.cons (t := 10) rfl (.cons (t := 20) rfl .nil))))))
      refine wpList_nil ?_
      refine wp_ret (retc2 hF Try.results19 rfl (ldN hw (i := 2) (vs := _) rfl Try.isAgg33 Try.sizeOf33 rfl rfl _ (Ext.refl _)) rfl ?_)
      exact ⟨_, rfl, hw.ext, (by rw [hde, hne, hke, secR_ok hz hku]; rfl)⟩


/-! ### cells of rows of several cells -/
theorem fm_len {α : Type} {f : α → List Value} {sz : Nat} (hf : ∀ x, (f x).length = sz) (l : List α) : (l.flatMap f).length = l.length * sz := by
  induction l with
  | nil => simp
  | cons a l ih => rw [List.flatMap_cons, List.length_append, hf, ih, List.length_cons, Nat.add_mul]; omega
theorem fm_at {α : Type} {f : α → List Value} {sz : Nat} (hf : ∀ x, (f x).length = sz) : ∀ {l : List α} {i : Nat} {x : α}, l[i]? = some x → ((l.flatMap f).drop (i * sz)).take sz = f x
  | [], i, x, h => by cases h
  | a :: l, 0, x, h => by
    simp only [List.getElem?_cons_zero, Option.some.injEq] at h
    subst h
    rw [Nat.zero_mul, List.drop_zero, List.flatMap_cons, List.take_append_of_le_length (by rw [hf]; omega), List.take_of_length_le (by rw [hf]; omega)]
  | a :: l, i + 1, x, h => by
    rw [List.getElem?_cons_succ] at h
    rw [List.flatMap_cons, List.drop_append, hf, List.drop_of_length_le (by rw [hf, Nat.add_mul]; omega), show (i + 1) * sz - sz = i * sz by rw [Nat.add_mul]; omega, List.nil_append]
    exact fm_at hf h


theorem SameSecret_c (r : Int) (x y n c c2 : Nat) (A A2 : Option Addr) (l : List (Int × Int × Key)) (hl : l.length = n) (hn : n ≤ 9223372036854775800) (w : World) (hR : Rd w A (l.flatMap lc)) (hR2 : Rd w A2 (l.flatMap lc)) : RetF Try.prog 20 [SecV r (.slice A n c) x y, SecV r (.slice A2 n c2) x y].toArray w (.is (.bool true)) := by
  refine enter Try.func20 rfl Try.ntmps20 rfl fun a hF => ?_
  have hw := Own.start w
  refine wp_seq (wp_region_lit ?_)
  refine t_net 0 1 (by kernel_rfl) rfl hF ?_
  refine net_cons rfl rfl (n_box rfl (ev rfl) rfl) ?_
  refine net_nil fun a w1 hF hx => ?_
  obtain ⟨b2, h_, hw⟩ := hw.blk hx (hF.at_ 2 _ rfl)
  replace hF := hF.now h_
  replace hF := hF.keep (.cons (t := 1) rfl (.cons (t := 2) rfl .nil))
  refine t_net 1 1 (by kernel_rfl) rfl hF ?_
  refine net_cons rfl rfl (n_box rfl (ev rfl) rfl) ?_
  refine net_nil fun a w1 hF hx => ?_
  obtain ⟨b3, h_, hw⟩ := hw.blk hx (hF.at_ 3 _ rfl)
  replace hF := hF.now h_
  replace hF := hF.keep (.cons (t := 2) rfl (.cons (t := 3) rfl .nil))
  refine t_net 2 1 (by kernel_rfl) rfl hF ?_
  refine net_cons rfl rfl (n_assign rfl evc) ?_
  refine net_nil fun a w1 hF hx => ?_
  replace hw := hw.next hx
  replace hF := hF.keep (.cons (t := 2) rfl (.cons (t := 3) rfl (.cons (t := 4) rfl .nil)))
  refine wpList_nil ?_
  refine wp_seq ?_
  refine wp_seq (reg_seq 21 (hF _ _) (by kernel_rfl) ?_)
  refine net_cons rfl rfl (n_fieldAddrO (off' := 0) rfl (ev rfl) Try.runUnderlying33 rfl Try.sizeOf3 rfl) ?_
  refine net_cons rfl rfl (n_load rfl (ev rfl) (ld1 hw (i := 0) rfl Try.isAgg3 rfl)) ?_
  refine net_cons rfl rfl (n_fieldAddrO (off' := 0) rfl (ev rfl) Try.runUnderlying33 rfl Try.sizeOf3 rfl) ?_
  refine net_cons rfl rfl (n_load rfl (ev rfl) (ld1 hw (i := 1) rfl Try.isAgg3 rfl)) ?_
  refine net_cons rfl rfl (n_bin rfl (ev rfl) (ev rfl) r_neq) ?_
  refine net_cons rfl rfl (n_move rfl (ev rfl)) ?_
  refine net_if rfl rfl rfl rfl (fun hc => (n_fieldAddrO (off' := 2) rfl (ev rfl) Try.runUnderlying33 rfl Try.sizeOf31 rfl)) ?_
  refine net_if rfl rfl rfl rfl (fun hc => (n_load rfl (evi rfl hc) (ldN hw (i := 0) (vs := _) rfl Try.isAgg31 Try.sizeOf31 rfl rfl))) ?_
  refine net_if rfl rfl rfl rfl (fun hc => (n_fieldAddrO (off' := 2) rfl (ev rfl) Try.runUnderlying33 rfl Try.sizeOf31 rfl)) ?_
  refine net_if rfl rfl rfl rfl (fun hc => (n_load rfl (evi rfl hc) (ldN hw (i := 1) (vs := _) rfl Try.isAgg31 Try.sizeOf31 rfl rfl))) ?_
  refine net_if rfl rfl rfl rfl (fun hc => (n_bin rfl (evi rfl hc) (evi rfl hc) (r_nePt (p := (x, y)) (q := (x, y))))) ?_
  refine net_cons rfl rfl (n_pick_or rfl (ev rfl) (fun h => (evi rfl h))) ?_
  refine net_cons rfl rfl (n_move rfl (ev rfl)) ?_
  refine net_if rfl rfl rfl rfl (fun hc => (n_fieldAddrO (off' := 1) rfl (ev rfl) Try.runUnderlying33 rfl Try.sizeOf29 rfl)) ?_
  refine net_if rfl rfl rfl rfl (fun hc => (n_load rfl (evi rfl hc) (ld1 hw (i := 0) rfl Try.isAgg29 rfl))) ?_
  refine net_if rfl rfl rfl rfl (fun hc => (n_len rfl (evi rfl hc) Try.underlying29)) ?_
  refine net_if rfl rfl rfl rfl (fun hc => (n_fieldAddrO (off' := 1) rfl (ev rfl) Try.runUnderlying33 rfl Try.sizeOf29 rfl)) ?_
  refine net_if rfl rfl rfl rfl (fun hc => (n_load rfl (evi rfl hc) (ld1 hw (i := 1) rfl Try.isAgg29 rfl))) ?_
  refine net_if rfl rfl rfl rfl (fun hc => (n_len rfl (evi rfl hc) Try.underlying29)) ?_
  refine net_if rfl rfl rfl rfl (fun hc => (n_bin rfl (evi rfl hc) (evi rfl hc) r_neq)) ?_
  refine net_cons rfl rfl (n_pick_or rfl (ev rfl) (fun h => (evi rfl h))) ?_
  refine net_nil fun a w1 hF hx => ?_
  replace hw := hw.next hx
  replace hF := hF.keep (.cons (t := 2) rfl (.cons (t := 3) rfl (.cons (t := 4) rfl (.cons (t := 26) rfl .nil))))
  refine wpList_nil ?_
  refine wp_cond_false ((hF.ev (ev rfl)).trans (congrArg Value.bool (by simp))) ?_
  refine wp_skip ?_
  refine wp_seq ?_
  refine wp_seq (reg_seq 1 (hF _ _) (by kernel_rfl) ?_)
  refine net_cons rfl rfl (n_assign rfl evc) ?_
  refine net_nil fun a w1 hF hx => ?_
  replace hw := hw.next hx
  replace hF := hF.keep (.cons (t := 2) rfl (.cons (t := 3) rfl (.cons (t := 4) rfl (.cons (t := 5) rfl (.cons (t := 26) rfl .nil)))))
  refine wpList_nil ?_
  refine wp_block ?_
  refine wp_loop_ix (α := Nat) (fun i a w1 => FrV 45 [] [(2, .is (.pointer (some ⟨b2, 0, none⟩))) , (3, .is (.pointer (some ⟨b3, 0, none⟩))) , (5, .is (I (i : Int)))] a ∧ Own w w1 [.blk b2 33 [I r, .slice A n c, U x, U y], .blk b3 33 [I r, .slice A2 n c2, U x, U y]] ∧ (i ≤ n)) (fun i => n - i) (0) ⟨hF.keep (.cons (t := 2) rfl (.cons (t := 3) rfl (.cons (t := 5) rfl (.nil)))), hw, by omega⟩ ?_
  rintro i a w1 ⟨hF, hw, hi0⟩
  refine wp_seq ?_
  refine wp_seq (reg_seq 5 (hF _ _) (by kernel_rfl) ?_)
  refine net_cons rfl rfl (n_move rfl (ev rfl)) ?_
  refine net_cons rfl rfl (n_fieldAddrO (off' := 1) rfl (ev rfl) Try.runUnderlying33 rfl Try.sizeOf29 rfl) ?_
  refine net_cons rfl rfl (n_load rfl (ev rfl) (ld1 hw (i := 0) rfl Try.isAgg29 rfl)) ?_
  refine net_cons rfl rfl (n_len rfl (ev rfl) Try.underlying29) ?_
  refine net_cons rfl rfl (n_bin rfl (ev rfl) (ev rfl) r_lssN) ?_
  refine net_nil fun a w1 hF hx => ?_
  replace hw := hw.next hx
  replace hF := hF.keep (.cons (t := 2) rfl (.cons (t := 3) rfl (.cons (t := 5) rfl (.cons (t := 31) rfl .nil))))
  refine wpList_nil ?_
  refine wp_cond_split (hF.ev (ev rfl)) (fun h31 => ?_) (fun h31 => ?_)
  · have hi : i < n := of_bool_t h31
    obtain ⟨z, hz0⟩ := some_at hl hi
    have hfl := fm_len lc_len l
    have hF_ := hF
    have hw_ := hw
    obtain ⟨bX, oX, rfl, hcX⟩ := hR.at_ (by omega)
    obtain ⟨bY, oY, rfl, hcY⟩ := hR2.at_ (by omega)
    have hF := hF_
    have hw := hw_
    refine wp_skip ?_
    refine wp_seq (wp_block ?_)
    refine wp_seq (reg_draw 11 mixed (by kernel_rfl) (hF _ _) ?_)
    refine net_cons rfl rfl (n_fieldAddrO (off' := 1) rfl (ev rfl) Try.runUnderlying33 rfl Try.sizeOf29 rfl) ?_
    refine net_cons rfl rfl (n_load rfl (ev rfl) (ld1 hw (i := 0) rfl Try.isAgg29 rfl)) ?_
    refine net_cons rfl rfl (n_move rfl (ev rfl)) ?_
    refine net_cons rfl rfl (n_indexS (off' := oX + (i) * 18) rfl (ev rfl) (ev rfl) Try.underlying29 Try.sizeOf95 (by omega) rfl) ?_
    refine net_cons rfl rfl (n_load rfl (ev rfl) (fun w2 hx2 => ldNR hcX (fm_at lc_len hz0) (lc_len _) Try.isAgg95 Try.sizeOf95 (by omega) w2 (hw.ext.trans hx2))) ?_
    refine net_cons rfl rfl (n_fieldAddrO (off' := 1) rfl (ev rfl) Try.runUnderlying33 rfl Try.sizeOf29 rfl) ?_
    refine net_cons rfl rfl (n_load rfl (ev rfl) (ld1 hw (i := 1) rfl Try.isAgg29 rfl)) ?_
    refine net_cons rfl rfl (n_move rfl (ev rfl)) ?_
    refine net_cons rfl rfl (n_indexS (off' := oY + (i) * 18) rfl (ev rfl) (ev rfl) Try.underlying29 Try.sizeOf95 (by omega) rfl) ?_
    refine net_cons rfl rfl (n_load rfl (ev rfl) (fun w2 hx2 => ldNR hcY (fm_at lc_len hz0) (lc_len _) Try.isAgg95 Try.sizeOf95 (by omega) w2 (hw.ext.trans hx2))) ?_
    refine net_cons rfl rfl (n_bin rfl (ev rfl) (ev rfl) (r_neLab (p := z) (q := z))) ?_
    refine net_nil fun a w1 hF hx => ?_
    replace hw := hw.next hx
    replace hF := hF.keep (.cons (t := 2) rfl (.cons (t := 3) rfl (.cons (t := 5) rfl (.cons (t := 31) rfl (.cons (t := 44) rfl .nil)))))
    refine wpList_nil ?_
    refine wp_cond_false ((hF.ev (ev rfl)).trans (congrArg Value.bool (by simp))) ?_
    refine wp_skip ?_
    refine reg_seq 3 (hF _ _) (by kernel_rfl) ?_
    refine net_cons rfl rfl (n_move rfl (ev rfl)) ?_
    refine net_cons rfl rfl (n_bin rfl (ev rfl) evc (r_inc (by omega))) ?_
    refine net_cons rfl rfl (n_assign rfl (ev rfl)) ?_
    refine net_nil fun a w1 hF hx => ?_
    replace hw := hw.next hx
    replace hF := hF.keep (.cons (t := 2) rfl (.cons (t := 3) rfl (.cons (t := 5) rfl (.cons (t := 31) rfl (.cons (t := 44) rfl .nil)))))
    refine wpList_nil ?_
    exact ⟨i + 1, ⟨hF.keep (.cons (t := 2) rfl (.cons (t := 3) rfl (.cons (t := 5) rfl (.nil)))), hw, by omega⟩, by omega⟩
  · refine wp_exit (go_then_e (go_then_e (go_exit ?_)))
    refine wp_seq (reg_seq 1 (hF _ _) (by kernel_rfl) ?_)
    refine net_cons rfl rfl (n_assign rfl evc) ?_
    refine net_nil fun a w1 hF hx => ?_
    replace hw := hw.next hx
    replace hF := hF.keep (.cons (t := 2) rfl (.cons (t := 3) rfl (.cons (t := 4) rfl (.cons (t := 5) rfl (.cons (t := 31) rfl .nil)))))
    refine wpList_nil ?_
    refine wp_ret (ret1 hF Try.results20 rfl ?_)
    exact ⟨_, rfl, hw.ext, rfl⟩

theorem PolySecrets_c (root : Key) (kd : Nat) (dp dg : Int) (p q g : Nat) (hp : p < 18446744073709551616) (hq : q < 18446744073709551616) (hg : g < 18446744073709551616) (u : Int) (hu0 : -9223372036854775808 ≤ u) (hu1 : u < 9223372036854775808) (w : World) : RetF Try.prog 3 [K root, SV kd dp dg p q g, I u].toArray w (.is (.bool true)) := by
  refine enter Try.func3 rfl Try.ntmps3 rfl fun a hF => ?_
  have hw := Own.start w
  refine wp_seq (wp_region_lit ?_)
  refine t_net 0 1 (by kernel_rfl) rfl hF ?_
  refine net_cons rfl rfl (n_box rfl (ev rfl) rfl) ?_
  refine net_nil fun a w1 hF hx => ?_
  obtain ⟨b3, h_, hw⟩ := hw.blk hx (hF.at_ 3 _ rfl)
  replace hF := hF.now h_
  replace hF := hF.keep (.cons (t := 1) rfl (.cons (t := 2) rfl (.cons (t := 3) rfl .nil)))
  refine t_net 1 1 (by kernel_rfl) rfl hF ?_
  refine net_cons rfl rfl (n_box rfl (ev rfl) rfl) ?_
  refine net_nil fun a w1 hF hx => ?_
  obtain ⟨b4, h_, hw⟩ := hw.blk hx (hF.at_ 4 _ rfl)
  replace hF := hF.now h_
  replace hF := hF.keep (.cons (t := 2) rfl (.cons (t := 3) rfl (.cons (t := 4) rfl .nil)))
  refine t_net 2 1 (by kernel_rfl) rfl hF ?_
  refine net_cons rfl rfl (n_assign rfl evc) ?_
  refine net_nil fun a w1 hF hx => ?_
  replace hw := hw.next hx
  replace hF := hF.keep (.cons (t := 2) rfl (.cons (t := 3) rfl (.cons (t := 4) rfl (.cons (t := 6) rfl .nil))))
  refine wpList_nil ?_
  refine wp_seq (wp_region_lit ?_)
  refine t_net 0 8 (by kernel_rfl) rfl hF ?_
  refine net_cons rfl rfl (n_load rfl (ev rfl) (ldN hw (i := 0) (vs := _) rfl Try.isAgg23 Try.sizeOf23 (kc_len _) (cut_whole (kc_len _)))) ?_
  refine net_cons rfl rfl (n_load rfl (ev rfl) (ldN hw (i := 1) (vs := _) rfl Try.isAgg28 Try.sizeOf28 rfl rfl)) ?_
  refine net_cons rfl rfl (n_move rfl (ev rfl)) ?_
  refine net_cons rfl rfl (n_ret rfl Try.call18 (.cons (ev rfl) (.cons (ev rfl) (.cons (ev rfl) .nil))) (fun _ hx => Secret_c _ _ _ _ _ _ _ (by assumption) (by assumption) (by assumption) _ (by assumption) (by assumption) _)) ?_
  refine net_cons rfl rfl (n_move rfl (ev rfl)) ?_
  refine net_cons rfl rfl (n_extract rfl (ev rfl) rfl) ?_
  refine net_cons rfl rfl (n_extract rfl (ev rfl) rfl) ?_
  refine net_cons rfl rfl (n_alloc rfl Try.zeroValue33 rfl) ?_
  refine net_nil fun a w1 hF hx => ?_
  obtain ⟨b7, h_, hw⟩ := hw.blk hx (hF.at_ 7 _ rfl)
  replace hF := hF.now h_
  replace hF := hF.keep (.cons (t := 2) rfl (.cons (t := 3) rfl (.cons (t := 4) rfl (.cons (t := 6) rfl (.cons (t := 7) rfl (.cons (t := 16) rfl (.cons (t := 17) rfl .nil)))))))
  refine t_store (i := 2) rfl rfl rfl hF hw rfl (ev rfl) (ev rfl) rfl one4 Try.sizeOf33 rfl (Nat.le_of_ble_eq_true rfl) rfl fun w1 hw => ?_
  refine t_net 9 1 (by kernel_rfl) rfl hF ?_
  refine net_cons rfl rfl (n_assign rfl (ev rfl)) ?_
  refine net_nil fun a w1 hF hx => ?_
  replace hw := hw.next hx
  replace hF := hF.keep (.cons (t := 2) rfl (.cons (t := 3) rfl (.cons (t := 4) rfl (.cons (t := 6) rfl (.cons (t := 7) rfl (.cons (t := 8) rfl .nil))))))
  refine wpList_nil ?_
  refine wp_seq (wp_region_lit ?_)
  refine t_net 0 8 (by kernel_rfl) rfl hF ?_
  refine net_cons rfl rfl (n_load rfl (ev rfl) (ldN hw (i := 0) (vs := _) rfl Try.isAgg23 Try.sizeOf23 (kc_len _) (cut_whole (kc_len _)))) ?_
  refine net_cons rfl rfl (n_load rfl (ev rfl) (ldN hw (i := 1) (vs := _) rfl Try.isAgg28 Try.sizeOf28 rfl rfl)) ?_
  refine net_cons rfl rfl (n_move rfl (ev rfl)) ?_
  refine net_cons rfl rfl (n_ret rfl Try.call19 (.cons (ev rfl) (.cons (ev rfl) (.cons (ev rfl) .nil))) (fun _ hx => rSecret_c _ _ _ _ _ _ _ (by assumption) (by assumption) (by assumption) _ (by assumption) (by assumption) _)) ?_
  refine net_cons rfl rfl (n_move rfl (ev rfl)) ?_
  refine net_cons rfl rfl (n_extract rfl (ev rfl) rfl) ?_
  refine net_cons rfl rfl (n_extract rfl (ev rfl) rfl) ?_
  refine net_cons rfl rfl (n_alloc rfl Try.zeroValue33 rfl) ?_
  refine net_nil fun a w1 hF hx => ?_
  obtain ⟨b9, h_, hw⟩ := hw.blk hx (hF.at_ 9 _ rfl)
  replace hF := hF.now h_
  replace hF := hF.keep (.cons (t := 2) rfl (.cons (t := 3) rfl (.cons (t := 4) rfl (.cons (t := 6) rfl (.cons (t := 7) rfl (.cons (t := 8) rfl (.cons (t := 9) rfl (.cons (t := 23) rfl (.cons (t := 24) rfl .nil)))))))))
  refine t_store (i := 3) rfl rfl rfl hF hw rfl (ev rfl) (ev rfl) rfl one4 Try.sizeOf33 rfl (Nat.le_of_ble_eq_true rfl) rfl fun w1 hw => ?_
  refine t_net 9 1 (by kernel_rfl) rfl hF ?_
  refine net_cons rfl rfl (n_assign rfl (ev rfl)) ?_
  refine net_nil fun a w1 hF hx => ?_
  replace hw := hw.next hx
  replace hF := hF.keep (.cons (t := 2) rfl (.cons (t := 3) rfl (.cons (t := 4) rfl (.cons (t := 6) rfl (.cons (t := 7) rfl (.cons (t := 8) rfl (.cons (t := 9) rfl (.cons (t := 10) rfl .nil))))))))
  refine wpList_nil ?_
  refine wp_seq (reg_seq 9 (hF _ _) (by kernel_rfl) ?_)
  refine net_cons rfl rfl (n_load rfl (ev rfl) (ldN hw (i := 2) (vs := _) rfl Try.isAgg33 Try.sizeOf33 rfl rfl)) ?_
  refine net_cons rfl rfl (n_load rfl (ev rfl) (ldN hw (i := 3) (vs := _) rfl Try.isAgg33 Try.sizeOf33 rfl rfl)) ?_
  refine net_cons rfl rfl (n_ret rfl Try.call20 (.cons (ev rfl) (.cons (ev rfl) .nil)) (fun _ hx => SameSecret_c _ _ _ 0 _ _ none none [] rfl (by decide) _ (Rd.nil _ _) (Rd.nil _ _))) ?_
  refine net_cons rfl rfl (n_move rfl (ev rfl)) ?_
  refine net_if rfl rfl rfl rfl (fun hc => (n_move rfl (ev rfl))) ?_
  refine net_if rfl rfl rfl rfl (fun hc => (n_move rfl (ev rfl))) ?_
  refine net_if rfl rfl rfl rfl (fun hc => (n_bin rfl (evi rfl hc) (evi rfl hc) r_eql)) ?_
  refine net_cons rfl rfl (n_pick_and rfl (ev rfl) (fun h => (evi rfl h))) ?_
  refine net_cons rfl rfl (n_assign rfl (ev rfl)) ?_
  refine net_nil fun a w1 hF hx => ?_
  replace hw := hw.next hx
  replace hF := hF.keep (.cons (t := 2) rfl (.cons (t := 3) rfl (.cons (t := 4) rfl (.cons (t := 6) rfl (.cons (t := 7) rfl (.cons (t := 9) rfl .nil))))))
  refine wpList_nil ?_
  refine wp_ret (ret1 hF Try.results3 rfl ?_)
  exact ⟨_, rfl, hw.ext, (by show Value.bool _ = Value.bool true; simp)⟩
end Go.Proofs.Ythgpojlcbbgaoaa

