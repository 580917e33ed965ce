/- the law of interpolation -/
import Derived.Test.YthgpojlcbbgaoaaAlive
import Derived.Test.YthgpojlcbbgaoaaRP

set_option autoImplicit false
set_option maxRecDepth 100000
set_option linter.unusedVariables false
set_option linter.unusedSimpArgs false
set_option linter.unnecessarySimpa false
namespace Go.Proofs.Ythgpojlcbbgaoaa
open Go.RowKit


theorem okS_n {kd : Nat} {dp dg : Int} {p q g : Nat} (h : (!okS kd dp dg p q g) = false) : 1 ≤ dg ∧ dg ≤ 8 := by
  rw [Bool.not_eq_false'] at h
  have := okS_all h
  exact ⟨this.2.2.2.1, this.2.2.2.2.1⟩
theorem fin_ne {e : Int} (h : ¬ e = 0) : (true && !decide (e = 0)) = true := by rw [decide_eq_false h]; rfl
section
variable {kd : Nat} {dp dg : Int} {p q g n : Nat} {pts : List (Nat × Nat)}
theorem lie_err (h : ((!okS kd dp dg p q g || !decide ((n : Int) = dg + 1)) || !rightL q pts) = true) : ¬ (intR kd dp dg p q g n pts).2 = 0 := by
  cases hz : okS kd dp dg p q g with
  | false => rw [intR_no hz]; decide
  | true =>
    rw [intR_bad hz (by rw [hz] at h; cases h1 : decide ((n : Int) = dg + 1) <;> cases h2 : rightL q pts <;> simp_all)]
    decide
theorem lie_yes (h : ((!okS kd dp dg p q g || !decide ((n : Int) = dg + 1)) || !rightL q pts) = false) : okS kd dp dg p q g = true ∧ (n : Int) = dg + 1 ∧ rightL q pts = true := by
  rw [Bool.or_eq_false_iff, Bool.or_eq_false_iff, Bool.not_eq_false', Bool.not_eq_false', Bool.not_eq_false', decide_eq_true_eq] at h
  exact ⟨h.1.1, h.1.2, h.2⟩
theorem lie_int (hz : okS kd dp dg p q g = true) (hn : (n : Int) = dg + 1) (hr : rightL q pts = true) : intR kd dp dg p q g n pts = (intL q pts, 0) :=
  intR_ok hz (by rw [decide_eq_true hn, hr]; rfl)
theorem lie_at (hz : okS kd dp dg p q g = true) (hl : pts.length = n) (hn : (n : Int) = dg + 1) (hr : rightL q pts = true) {z : Nat × Nat} (hm : z ∈ pts) : valR kd dp dg p q g (intL q pts).length (intL q pts) z.1 = (z.2, 0) := by
  obtain ⟨hx, hd⟩ := right_all hr
  have hp := (okG_all (okS_all hz).2.2.2.2.2.1).2.1
  have hq := isP_two hp
  rw [valR_ok hz, intL_at hp hx hd hm]
  rw [Bool.and_eq_true, decide_eq_true_eq, polyOk, Bool.and_eq_true, decide_eq_true_eq, List.all_eq_true, intL_len, hl]
  exact ⟨⟨hn, fun c hc => by rw [decide_eq_true_eq]; exact intL_lt (by omega) pts c hc⟩, (hx z hm).1⟩
end


theorem PolyLie_c (kd : Nat) (dp dg : Int) (p q g : Nat) (hp : p < 18446744073709551616) (hq : q < 18446744073709551616) (hg : g < 18446744073709551616) (n c : Nat) (A : Option Addr) (pts : List (Nat × Nat)) (hl : pts.length = n) (hcp : n ≤ c) (hn : n ≤ 8796093021952) (w : World) (hR : Rd w A (pc pts)) : RetF Try.prog 11 [SV kd dp dg p q g, .slice A n c].toArray w (.is (.bool true)) := by
  refine enter Try.func11 rfl Try.ntmps11 rfl fun a hF => ?_
  have hw := Own.start w
  refine wp_seq (wp_region_lit ?_)
  refine t_net 0 1 (by kernel_rfl) rfl hF ?_
  refine net_cons rfl rfl (n_box rfl (ev rfl) rfl) ?_
  refine net_nil fun a w1 hF hx => ?_
  obtain ⟨b2, h_, hw⟩ := hw.blk hx (hF.at_ 2 _ rfl)
  replace hF := hF.now h_
  replace hF := hF.keep (.cons (t := 1) rfl (.cons (t := 2) rfl .nil))
  refine t_net 1 1 (by kernel_rfl) rfl hF ?_
  refine net_cons rfl rfl (n_assign rfl evc) ?_
  refine net_nil fun a w1 hF hx => ?_
  replace hw := hw.next hx
  replace hF := hF.keep (.cons (t := 1) rfl (.cons (t := 2) rfl (.cons (t := 4) rfl .nil)))
  refine wpList_nil ?_
  try simp only [List.nil_append, List.cons_append, List.set_cons_zero, List.set_cons_succ] at hw
  refine wp_seq (reg_seq 2 (hF _ _) (by kernel_rfl) ?_)
  refine net_cons rfl rfl (n_ret rfl Try.call29 .nil (fun _ hx => (alive_c _))) ?_
  refine net_cons rfl rfl (n_assign rfl (ev rfl)) ?_
  refine net_nil fun a w1 hF hx => ?_
  replace hw := hw.next hx
  replace hF := hF.keep (.cons (t := 1) rfl (.cons (t := 2) rfl (.cons (t := 4) rfl (.cons (t := 5) rfl .nil))))
  refine wpList_nil ?_
  try simp only [List.nil_append, List.cons_append, List.set_cons_zero, List.set_cons_succ] at hw
  refine wp_seq (wp_region_lit ?_)
  refine t_net 0 3 (by kernel_rfl) rfl hF ?_
  refine net_cons rfl rfl (n_load rfl (ev rfl) (ldN hw (i := 0) (vs := _) rfl Try.isAgg28 Try.sizeOf28 rfl rfl)) ?_
  refine net_cons rfl rfl (n_move rfl (ev rfl)) ?_
  refine net_cons rfl rfl (n_ret rfl Try.call34 (.cons (ev rfl) (.cons (ev rfl) .nil)) (fun _ hx => (Interpolate_c kd dp dg p q g hp hq hg n c A pts hl hcp hn _ (hR.ext (hw.ext.trans hx))))) ?_
  refine net_nil fun a w1 hF hx => ?_
  obtain ⟨s15, h_, hw⟩ := hw.ex hx (hF.at_ 15 _ rfl)
  replace hF := hF.now h_
  replace hF := hF.keep (.cons (t := 1) rfl (.cons (t := 2) rfl (.cons (t := 4) rfl (.cons (t := 5) rfl (.cons (t := 15) rfl .nil)))))
  obtain ⟨A15, c15, rfl, _, _, _⟩ := hw.rd (i := 1) rfl
  refine t_net 3 5 (by kernel_rfl) rfl hF ?_
  refine net_cons rfl rfl (n_move rfl (ev rfl)) ?_
  refine net_cons rfl rfl (n_extract rfl (ev rfl) rfl) ?_
  refine net_cons rfl rfl (n_extract rfl (ev rfl) rfl) ?_
  refine net_cons rfl rfl (n_assign rfl (ev rfl)) ?_
  refine net_cons rfl rfl (n_assign rfl (ev rfl)) ?_
  refine net_nil fun a w1 hF hx => ?_
  replace hw := hw.next hx
  replace hF := hF.keep (.cons (t := 1) rfl (.cons (t := 2) rfl (.cons (t := 4) rfl (.cons (t := 5) rfl (.cons (t := 6) rfl (.cons (t := 7) rfl .nil))))))
  refine wpList_nil ?_
  try simp only [List.nil_append, List.cons_append, List.set_cons_zero, List.set_cons_succ] at hw
  refine wp_seq ?_
  refine wp_seq (reg_seq 19 (hF _ _) (by kernel_rfl) ?_)
  refine net_cons rfl rfl (n_load rfl (ev rfl) (ldN hw (i := 0) (vs := _) rfl Try.isAgg28 Try.sizeOf28 rfl rfl)) ?_
  refine net_cons rfl rfl (n_ret rfl Try.call30 (.cons (ev rfl) .nil) (fun _ hx => (Valid_c kd dp dg p q g hp hq hg _))) ?_
  refine net_cons rfl rfl (n_not rfl (ev rfl)) ?_
  refine net_cons rfl rfl (n_move rfl (ev rfl)) ?_
  refine net_if rfl rfl rfl rfl (fun hc => (n_move rfl (ev rfl))) ?_
  refine net_if rfl rfl rfl rfl (fun hc => (n_len rfl (evi rfl hc) Try.underlying43)) ?_
  refine net_if rfl rfl rfl rfl (fun hc => (n_fieldAddrO (off' := 2) rfl (ev rfl) Try.runUnderlying28 rfl Try.sizeOf3 rfl)) ?_
  refine net_if rfl rfl rfl rfl (fun hc => (n_load rfl (evi rfl hc) (ld1 hw (i := 0) rfl Try.isAgg3 rfl))) ?_
  refine net_if rfl rfl rfl rfl (fun hc => (n_bin rfl (evi rfl hc) evc (r_addI (by have := okS_n hc; omega) (by have := okS_n hc; omega)))) ?_
  refine net_if rfl rfl rfl rfl (fun hc => (n_bin rfl (evi rfl hc) (evi rfl hc) r_neq)) ?_
  refine net_cons rfl rfl (n_pick_or rfl (ev rfl) (fun h => (evi rfl h))) ?_
  refine net_cons rfl rfl (n_move rfl (ev rfl)) ?_
  refine net_if rfl rfl rfl rfl (fun hc => (n_fieldAddrO (off' := 3) rfl (ev rfl) Try.runUnderlying28 rfl Try.sizeOf26 rfl)) ?_
  refine net_if rfl rfl rfl rfl (fun hc => (n_fieldAddrO (off' := 4) rfl (evi rfl hc) Try.runUnderlying26 rfl Try.sizeOf24 rfl)) ?_
  refine net_if rfl rfl rfl rfl (fun hc => (n_load rfl (evi rfl hc) (ld1 hw (i := 0) rfl Try.isAgg24 rfl))) ?_
  refine net_if rfl rfl rfl rfl (fun hc => (n_move rfl (ev rfl))) ?_
  refine net_if rfl rfl rfl rfl (fun hc => (n_ret rfl Try.call57 (.cons (evi rfl hc) (.cons (evi rfl hc) .nil)) (fun _ hx => (Right_c q n c A pts hl (by omega) _ (hR.ext (hw.ext.trans hx)))))) ?_
  refine net_if rfl rfl rfl rfl (fun hc => (n_not rfl (evi rfl hc))) ?_
  refine net_cons rfl rfl (n_pick_or rfl (ev rfl) (fun h => (evi rfl h))) ?_
  refine net_nil fun a w1 hF hx => ?_
  replace hw := hw.next hx
  replace hF := hF.keep (.cons (t := 1) rfl (.cons (t := 2) rfl (.cons (t := 4) rfl (.cons (t := 5) rfl (.cons (t := 6) rfl (.cons (t := 7) rfl (.cons (t := 36) rfl .nil)))))))
  refine wpList_nil ?_
  try simp only [List.nil_append, List.cons_append, List.set_cons_zero, List.set_cons_succ] at hw
  refine wp_cond_split (hF.ev (ev rfl)) (fun h36 => ?_) (fun h36 => ?_)
  · refine wp_seq (reg_seq 6 (hF _ _) (by kernel_rfl) ?_)
    refine net_cons rfl rfl (n_move rfl (ev rfl)) ?_
    refine net_cons rfl rfl (n_move rfl (ev rfl)) ?_
    refine net_if rfl rfl rfl rfl (fun hc => (n_move rfl (ev rfl))) ?_
    refine net_if rfl rfl rfl rfl (fun hc => (n_bin rfl (evi rfl hc) evc (r_neq (b := 0)))) ?_
    refine net_cons rfl rfl (n_pick_and rfl (ev rfl) (fun h => (evi rfl h))) ?_
    refine net_cons rfl rfl (n_assign rfl (ev rfl)) ?_
    refine net_nil fun a w1 hF hx => ?_
    replace hw := hw.next hx
    replace hF := hF.keep (.cons (t := 1) rfl (.cons (t := 2) rfl (.cons (t := 4) rfl (.cons (t := 5) rfl (.cons (t := 6) rfl (.cons (t := 7) rfl (.cons (t := 36) rfl .nil)))))))
    refine wpList_nil ?_
    try simp only [List.nil_append, List.cons_append, List.set_cons_zero, List.set_cons_succ] at hw
    refine wp_ret (go_then_r (ret1 hF Try.results11 rfl ?_))
    exact ⟨_, rfl, hw.ext, (congrArg Value.bool (fin_ne (lie_err h36)))⟩
  · obtain ⟨hz, hn1, hr⟩ := lie_yes h36
    have hza := okS_all hz
    have hint := lie_int hz hn1 hr
    refine wp_skip ?_
    refine wp_seq ?_
    refine wp_seq (reg_seq 10 (hF _ _) (by kernel_rfl) ?_)
    refine net_cons rfl rfl (n_move rfl (ev rfl)) ?_
    refine net_cons rfl rfl (n_bin rfl (ev rfl) evc (r_neq (b := 0))) ?_
    refine net_cons rfl rfl (n_move rfl (ev rfl)) ?_
    refine net_if rfl rfl rfl rfl (fun hc => (n_move rfl (ev rfl))) ?_
    refine net_if rfl rfl rfl rfl (fun hc => (n_len rfl (evi rfl hc) Try.underlying63)) ?_
    refine net_if rfl rfl rfl rfl (fun hc => (n_fieldAddrO (off' := 2) rfl (ev rfl) Try.runUnderlying28 rfl Try.sizeOf3 rfl)) ?_
    refine net_if rfl rfl rfl rfl (fun hc => (n_load rfl (evi rfl hc) (ld1 hw (i := 0) rfl Try.isAgg3 rfl))) ?_
    refine net_if rfl rfl rfl rfl (fun hc => (n_bin rfl (evi rfl hc) evc (r_addI (by omega) (by omega)))) ?_
    refine net_if rfl rfl rfl rfl (fun hc => (n_bin rfl (evi rfl hc) (evi rfl hc) r_neq)) ?_
    refine net_cons rfl rfl (n_pick_or rfl (ev rfl) (fun h => (evi rfl h))) ?_
    refine net_nil fun a w1 hF hx => ?_
    replace hw := hw.next hx
    replace hF := hF.keep (.cons (t := 1) rfl (.cons (t := 2) rfl (.cons (t := 4) rfl (.cons (t := 5) rfl (.cons (t := 6) rfl (.cons (t := 7) rfl (.cons (t := 36) rfl (.cons (t := 51) rfl .nil))))))))
    refine wpList_nil ?_
    try simp only [List.nil_append, List.cons_append, List.set_cons_zero, List.set_cons_succ] at hw
    refine wp_cond_false ((hF.ev (ev rfl)).trans (congrArg Value.bool (by rw [hint]; simp [intL_len, hl, hn1]))) ?_
    refine wp_skip ?_
    refine wp_seq ?_
    refine wp_seq (reg_seq 1 (hF _ _) (by kernel_rfl) ?_)
    refine net_cons rfl rfl (n_assign rfl evc) ?_
    refine net_nil fun a w1 hF hx => ?_
    replace hw := hw.next hx
    replace hF := hF.keep (.cons (t := 1) rfl (.cons (t := 2) rfl (.cons (t := 4) rfl (.cons (t := 5) rfl (.cons (t := 6) rfl (.cons (t := 7) rfl (.cons (t := 8) rfl (.cons (t := 36) rfl (.cons (t := 51) rfl .nil)))))))))
    refine wpList_nil ?_
    try simp only [List.nil_append, List.cons_append, List.set_cons_zero, List.set_cons_succ] at hw
    refine wp_block ?_
    refine wp_loop_ix (α := Nat) (fun i a w1 => FrV 81 [] [(1, .is (.slice A n c)) , (2, .is (ptr0 b2)) , (5, .is (.bool true)) , (6, .is (.slice A15 (intR kd dp dg p q g n pts).1.length c15)) , (8, .is (I (i : Int)))] a ∧ Own w w1 [.blk b2 28 [B8 kd, I dp, I dg, U p, U q, U g], .row (.slice A15 (intR kd dp dg p q g n pts).1.length c15) 24 1 (intR kd dp dg p q g n pts).1.length ((intR kd dp dg p q g n pts).1.map U)] ∧ (i ≤ n)) (fun i => n - i) (0) ⟨hF.keep (.cons (t := 1) rfl (.cons (t := 2) rfl (.cons (t := 5) rfl (.cons (t := 6) rfl (.cons (t := 8) rfl (.nil)))))), hw, Nat.zero_le _⟩ ?_
    rintro i a w1 ⟨hF, hw, hi0⟩
    refine wp_seq ?_
    refine wp_seq (reg_seq 4 (hF _ _) (by kernel_rfl) ?_)
    refine net_cons rfl rfl (n_move rfl (ev rfl)) ?_
    refine net_cons rfl rfl (n_move rfl (ev rfl)) ?_
    refine net_cons rfl rfl (n_len rfl (ev rfl) Try.underlying43) ?_
    refine net_cons rfl rfl (n_bin rfl (ev rfl) (ev rfl) r_lssN) ?_
    refine net_nil fun a w1 hF hx => ?_
    replace hw := hw.next hx
    replace hF := hF.keep (.cons (t := 1) rfl (.cons (t := 2) rfl (.cons (t := 5) rfl (.cons (t := 6) rfl (.cons (t := 8) rfl (.cons (t := 55) rfl .nil))))))
    refine wpList_nil ?_
    try simp only [List.nil_append, List.cons_append, List.set_cons_zero, List.set_cons_succ] at hw
    refine wp_cond_split (hF.ev (ev rfl)) (fun h55 => ?_) (fun h55 => ?_)
    · have hi : i < n := of_bool_t h55
      obtain ⟨z, hz0⟩ := some_at hl hi
      have hv := lie_at hz hl hn1 hr (List.mem_of_getElem? hz0)
      have hfl := pc_len pts
      obtain ⟨_, _, hse_, _, hR15, _⟩ := hw.rd (i := 1) rfl
      injection hse_ with hA_ _ _
      subst hA_
      have hF_ := hF
      have hw_ := hw
      obtain ⟨bX, oX, rfl, hcX⟩ := hR.at_ (by omega)
      have hF := hF_
      have hw := hw_
      refine wp_skip ?_
      refine wp_seq (wp_block ?_)
      refine wp_seq (reg_draw 13 mixed (by kernel_rfl) (hF _ _) ?_)
      refine net_cons rfl rfl (n_load rfl (ev rfl) (ldN hw (i := 0) (vs := _) rfl Try.isAgg28 Try.sizeOf28 rfl rfl)) ?_
      refine net_cons rfl rfl (n_move rfl (ev rfl)) ?_
      refine net_cons rfl rfl (n_move rfl (ev rfl)) ?_
      refine net_cons rfl rfl (n_move rfl (ev rfl)) ?_
      refine net_cons rfl rfl (n_indexS (off' := oX + (i) * 2) rfl (ev rfl) (ev rfl) Try.underlying43 Try.sizeOf31 (by omega) rfl) ?_
      refine net_cons rfl rfl (n_fieldAddrO (off' := oX + (i) * 2 + 0) rfl (ev rfl) Try.runUnderlying31 rfl Try.sizeOf24 rfl) ?_
      refine net_cons rfl rfl (n_load rfl (ev rfl) (fun w2 hx2 => ld1R hcX (pc_at0 hz0) Try.isAgg24 (by omega) w2 (hw.ext.trans hx2))) ?_
      refine net_cons rfl rfl (n_ret rfl Try.call33 (.cons (ev rfl) (.cons (ev rfl) (.cons (ev rfl) .nil))) (fun _ hx => (PValue_c kd dp dg p q g hp hq hg _ c15 A15 (intR kd dp dg p q g n pts).1 z.1 rfl (by rw [hint]; show (intL q pts).length ≤ _; rw [intL_len]; omega) _ (hR15.ext hx)))) ?_
      refine net_cons rfl rfl (n_move rfl (ev rfl)) ?_
      refine net_cons rfl rfl (n_extract rfl (ev rfl) rfl) ?_
      refine net_cons rfl rfl (n_extract rfl (ev rfl) rfl) ?_
      refine net_cons rfl rfl (n_assign rfl (ev rfl)) ?_
      refine net_cons rfl rfl (n_assign rfl (ev rfl)) ?_
      refine net_nil fun a w1 hF hx => ?_
      replace hw := hw.next hx
      replace hF := hF.keep (.cons (t := 1) rfl (.cons (t := 2) rfl (.cons (t := 5) rfl (.cons (t := 6) rfl (.cons (t := 8) rfl (.cons (t := 9) rfl (.cons (t := 10) rfl (.cons (t := 55) rfl .nil))))))))
      refine wpList_nil ?_
      try simp only [List.nil_append, List.cons_append, List.set_cons_zero, List.set_cons_succ] at hw
      refine wp_seq (reg_seq 11 (hF _ _) (by kernel_rfl) ?_)
      refine net_cons rfl rfl (n_move rfl (ev rfl)) ?_
      refine net_cons rfl rfl (n_bin rfl (ev rfl) evc (r_neq (b := 0))) ?_
      refine net_cons rfl rfl (n_move rfl (ev rfl)) ?_
      refine net_if rfl rfl rfl rfl (fun hc => (n_move rfl (ev rfl))) ?_
      refine net_if rfl rfl rfl rfl (fun hc => (n_move rfl (ev rfl))) ?_
      refine net_if rfl rfl rfl rfl (fun hc => (n_move rfl (ev rfl))) ?_
      refine net_if rfl rfl rfl rfl (fun hc => (n_indexS (off' := oX + (i) * 2) rfl (evi rfl hc) (evi rfl hc) Try.underlying43 Try.sizeOf31 (by omega) rfl)) ?_
      refine net_if rfl rfl rfl rfl (fun hc => (n_fieldAddrO (off' := oX + (i) * 2 + 1) rfl (evi rfl hc) Try.runUnderlying31 rfl Try.sizeOf24 rfl)) ?_
      refine net_if rfl rfl rfl rfl (fun hc => (n_load rfl (evi rfl hc) (fun w2 hx2 => ld1R hcX (pc_at1 hz0) Try.isAgg24 (by omega) w2 (hw.ext.trans hx2)))) ?_
      refine net_if rfl rfl rfl rfl (fun hc => (n_bin rfl (evi rfl hc) (evi rfl hc) r_neqN)) ?_
      refine net_cons rfl rfl (n_pick_or rfl (ev rfl) (fun h => (evi rfl h))) ?_
      refine net_nil fun a w1 hF hx => ?_
      replace hw := hw.next hx
      replace hF := hF.keep (.cons (t := 1) rfl (.cons (t := 2) rfl (.cons (t := 5) rfl (.cons (t := 6) rfl (.cons (t := 8) rfl (.cons (t := 9) rfl (.cons (t := 10) rfl (.cons (t := 55) rfl (.cons (t := 79) rfl .nil)))))))))
      refine wpList_nil ?_
      try simp only [List.nil_append, List.cons_append, List.set_cons_zero, List.set_cons_succ] at hw
      refine wp_cond_false ((hF.ev (ev rfl)).trans (congrArg Value.bool (by rw [hint]; simp only; rw [hv]; simp))) ?_
      refine wp_skip ?_
      refine reg_seq 3 (hF _ _) (by kernel_rfl) ?_
      refine net_cons rfl rfl (n_move rfl (ev rfl)) ?_
      refine net_cons rfl rfl (n_bin rfl (ev rfl) evc (r_inc (by omega))) ?_
      refine net_cons rfl rfl (n_assign rfl (ev rfl)) ?_
      refine net_nil fun a w1 hF hx => ?_
      replace hw := hw.next hx
      replace hF := hF.keep (.cons (t := 1) rfl (.cons (t := 2) rfl (.cons (t := 5) rfl (.cons (t := 6) rfl (.cons (t := 8) rfl (.cons (t := 9) rfl (.cons (t := 10) rfl (.cons (t := 55) rfl (.cons (t := 79) rfl .nil)))))))))
      refine wpList_nil ?_
      try simp only [List.nil_append, List.cons_append, List.set_cons_zero, List.set_cons_succ] at hw
      exact ⟨i + 1, ⟨hF.keep (.cons (t := 1) rfl (.cons (t := 2) rfl (.cons (t := 5) rfl (.cons (t := 6) rfl (.cons (t := 8) rfl (.nil)))))), hw, by omega⟩, by omega⟩
    · refine wp_exit (go_then_e (go_then_e (go_exit ?_)))
      refine wp_seq (reg_seq 2 (hF _ _) (by kernel_rfl) ?_)
      refine net_cons rfl rfl (n_move rfl (ev rfl)) ?_
      refine net_cons rfl rfl (n_assign rfl (ev rfl)) ?_
      refine net_nil fun a w1 hF hx => ?_
      replace hw := hw.next hx
      replace hF := hF.keep (.cons (t := 1) rfl (.cons (t := 2) rfl (.cons (t := 4) rfl (.cons (t := 5) rfl (.cons (t := 6) rfl (.cons (t := 8) rfl (.cons (t := 55) rfl .nil)))))))
      refine wpList_nil ?_
      try simp only [List.nil_append, List.cons_append, List.set_cons_zero, List.set_cons_succ] at hw
      refine wp_ret (ret1 hF Try.results11 rfl ?_)
      exact ⟨_, rfl, hw.ext, rfl⟩
end Go.Proofs.Ythgpojlcbbgaoaa

