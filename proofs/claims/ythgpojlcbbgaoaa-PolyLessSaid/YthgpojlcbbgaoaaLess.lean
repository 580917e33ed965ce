/- the law of one puncture -/
import Derived.Test.YthgpojlcbbgaoaaAlive
import Derived.Test.YthgpojlcbbgaoaaPun4
import Derived.Test.YthgpojlcbbgaoaaPunE

set_option autoImplicit false
set_option maxRecDepth 100000
set_option linter.unusedVariables false
set_option linter.unusedSimpArgs false
set_option linter.unnecessarySimpa false
namespace Go.Proofs.Ythgpojlcbbgaoaa
open Go.RowKit


theorem okPN_g {d : Int} {L : List Lab} {b : Bool} (h : (!okPN d L || b) = false) : 0 ≤ d ∧ d ≤ 6 := by
  rw [Bool.or_eq_false_iff, Bool.not_eq_false'] at h
  exact okPN_depth h.1
theorem fin_or8 {e a b : Int} (h : e = a ∨ e = b) : (true && (decide (e = a) || decide (e = b))) = true := by
  rcases h with h | h
  · rw [decide_eq_true h]; rfl
  · rw [decide_eq_true h, Bool.or_true]; rfl
section
variable {d : Int} {L : List Lab} {m : Int}
theorem less_err (h : ((!okPN d L || decide (m < 0)) || decide (((2 ^ d.toNat : Nat) : Int) ≤ m)) = true) : (punR d L m).2.2 = 8 ∨ (punR d L m).2.2 = 2 := by
  cases hz : okPN d L with
  | false => exact .inl (by rw [punR_bad hz])
  | true => exact .inr (by rw [hz] at h; rw [punR_arg hz (by simpa using h)])
theorem less_yes (h : ((!okPN d L || decide (m < 0)) || decide (((2 ^ d.toNat : Nat) : Int) ≤ m)) = false) : okPN d L = true ∧ (decide (m < 0) || decide (((2 ^ d.toNat : Nat) : Int) ≤ m)) = false := by
  rw [Bool.or_assoc, Bool.or_eq_false_iff, Bool.not_eq_false'] at h
  exact h
theorem less_ev {k l : Nat} {m2 : Int} (hok : okPN (k : Int) L = true) (hm : (decide (m < 0) || decide (((2 ^ k : Nat) : Int) ≤ m)) = false) (hl : ((2 ^ k : Nat) : Int) + m = (l : Int)) (hne : ¬ m2 = m) : evR k L m2 = evR k (punL l L) m2 := by
  have hk : k ≤ 6 := by have := okPN_depth hok; omega
  have h2 : 2 ^ (k + 1) = 2 * 2 ^ k := by rw [Nat.pow_succ, Nat.mul_comm]
  obtain ⟨h3, h4⟩ := or_f hm
  have hok2 := pun_ok (l := l) hk (by omega) hok
  cases hr : (decide (m2 < 0) || decide (((2 ^ k : Nat) : Int) ≤ m2)) with
  | true => rw [evR_arg hok (by simpa using hr), evR_arg hok2 (by simpa using hr)]
  | false =>
    obtain ⟨h5, h6⟩ := or_f hr
    simp only [evR, Int.toNat_natCast, hok, hok2, hr]
    rw [pun_other hk (by omega) (by omega) (m := (((2 ^ k : Nat) : Int) + m2).toNat) (by omega) (by omega) (by omega) hok]
theorem less_fin {e c x g h : Int} {a b : Key} {m2 : Int} (h1 : e = 0) (h2 : c = 0) (h3 : x = 6) (h4 : ¬ m2 = m → g = h ∧ a = b) : ((((true && decide (e = 0)) && decide (c = 0)) && decide (x = 6)) && (decide (m2 = m) || (decide (g = h) && decide (a = b)))) = true := by
  rw [decide_eq_true h1, decide_eq_true h2, decide_eq_true h3]
  by_cases hm : m2 = m
  · rw [decide_eq_true hm]; rfl
  · obtain ⟨h5, h6⟩ := h4 hm
    rw [decide_eq_true h5, decide_eq_true h6]; cases decide (m2 = m) <;> rfl
end


theorem PolyLess_c (d : Int) (n c : Nat) (A : Option Addr) (L : List Lab) (hl : L.length = n) (hcp : n ≤ c) (hn : n ≤ 4398046511000) (m : Int) (hm0 : -9223372036854775808 ≤ m) (hm1 : m < 9223372036854775808) (m2 : Int) (hp0 : -9223372036854775808 ≤ m2) (hp1 : m2 < 9223372036854775808) (w : World) (hR : Rd w A (L.flatMap lc)) : RetF Try.prog 16 [PuV d (.slice A n c), I m, I m2].toArray w (.is (.bool true)) := by
  refine enter Try.func16 rfl Try.ntmps16 rfl fun a hF => ?_
  have hw := Own.start w
  refine wp_seq (wp_region_lit ?_)
  refine t_net 0 1 (by kernel_rfl) rfl hF ?_
  refine net_cons rfl rfl (n_box rfl (ev rfl) rfl) ?_
  refine net_nil fun a w1 hF hx => ?_
  obtain ⟨b3, h_, hw⟩ := hw.blk hx (hF.at_ 3 _ rfl)
  replace hF := hF.now h_
  replace hF := hF.keep (.cons (t := 1) rfl (.cons (t := 2) rfl (.cons (t := 3) rfl .nil)))
  refine t_net 1 1 (by kernel_rfl) rfl hF ?_
  refine net_cons rfl rfl (n_assign rfl evc) ?_
  refine net_nil fun a w1 hF hx => ?_
  replace hw := hw.next hx
  replace hF := hF.keep (.cons (t := 1) rfl (.cons (t := 2) rfl (.cons (t := 3) rfl (.cons (t := 6) rfl .nil))))
  refine wpList_nil ?_
  try simp only [List.nil_append, List.cons_append, List.set_cons_zero, List.set_cons_succ] at hw
  refine wp_seq (reg_seq 2 (hF _ _) (by kernel_rfl) ?_)
  refine net_cons rfl rfl (n_ret rfl Try.call29 .nil (fun _ hx => (alive_c _))) ?_
  refine net_cons rfl rfl (n_assign rfl (ev rfl)) ?_
  refine net_nil fun a w1 hF hx => ?_
  replace hw := hw.next hx
  replace hF := hF.keep (.cons (t := 1) rfl (.cons (t := 2) rfl (.cons (t := 3) rfl (.cons (t := 6) rfl (.cons (t := 7) rfl .nil)))))
  refine wpList_nil ?_
  try simp only [List.nil_append, List.cons_append, List.set_cons_zero, List.set_cons_succ] at hw
  refine wp_seq (wp_region_lit ?_)
  refine t_net 0 3 (by kernel_rfl) rfl hF ?_
  refine net_cons rfl rfl (n_load rfl (ev rfl) (ldN hw (i := 0) (vs := _) rfl Try.isAgg83 Try.sizeOf83 rfl rfl)) ?_
  refine net_cons rfl rfl (n_move rfl (ev rfl)) ?_
  refine net_cons rfl rfl (n_ret rfl Try.call50 (.cons (ev rfl) (.cons (ev rfl) .nil)) (fun _ hx => (Puncture_c d n c A L hl hcp hn m hm0 hm1 _ (hR.ext (hw.ext.trans hx))))) ?_
  refine net_nil fun a w1 hF hx => ?_
  obtain ⟨s20, h_, hw⟩ := hw.ex hx (hF.at_ 20 _ rfl)
  replace hF := hF.now h_
  replace hF := hF.keep (.cons (t := 1) rfl (.cons (t := 2) rfl (.cons (t := 3) rfl (.cons (t := 6) rfl (.cons (t := 7) rfl (.cons (t := 20) rfl .nil))))))
  obtain ⟨A20, c20, rfl, hle20, _, _⟩ := hw.rd (i := 1) rfl
  refine t_net 3 4 (by kernel_rfl) rfl hF ?_
  refine net_cons rfl rfl (n_move rfl (ev rfl)) ?_
  refine net_cons rfl rfl (n_extract rfl (ev rfl) rfl) ?_
  refine net_cons rfl rfl (n_extract rfl (ev rfl) rfl) ?_
  refine net_cons rfl rfl (n_alloc rfl Try.zeroValue83 rfl) ?_
  refine net_nil fun a w1 hF hx => ?_
  obtain ⟨b8, h_, hw⟩ := hw.blk hx (hF.at_ 8 _ rfl)
  replace hF := hF.now h_
  replace hF := hF.keep (.cons (t := 1) rfl (.cons (t := 2) rfl (.cons (t := 3) rfl (.cons (t := 6) rfl (.cons (t := 7) rfl (.cons (t := 8) rfl (.cons (t := 21) rfl (.cons (t := 22) rfl .nil))))))))
  refine t_store (i := 2) rfl rfl rfl hF hw rfl (ev rfl) (ev rfl) rfl one_pu Try.sizeOf83 rfl (Nat.le_of_ble_eq_true rfl) rfl fun w1 hw => ?_
  refine t_net 8 1 (by kernel_rfl) rfl hF ?_
  refine net_cons rfl rfl (n_assign rfl (ev rfl)) ?_
  refine net_nil fun a w1 hF hx => ?_
  replace hw := hw.next hx
  replace hF := hF.keep (.cons (t := 1) rfl (.cons (t := 2) rfl (.cons (t := 3) rfl (.cons (t := 6) rfl (.cons (t := 7) rfl (.cons (t := 8) rfl (.cons (t := 9) rfl .nil)))))))
  refine wpList_nil ?_
  try simp only [List.nil_append, List.cons_append, List.set_cons_zero, List.set_cons_succ] at hw
  refine wp_seq ?_
  refine wp_seq (reg_seq 14 (hF _ _) (by kernel_rfl) ?_)
  refine net_cons rfl rfl (n_load rfl (ev rfl) (ldN hw (i := 0) (vs := _) rfl Try.isAgg83 Try.sizeOf83 rfl rfl)) ?_
  refine net_cons rfl rfl (n_ret rfl Try.call62 (.cons (ev rfl) .nil) (fun _ hx => (ValidPunctured_c d n c A L hl hcp (by omega) _ (hR.ext (hw.ext.trans hx))))) ?_
  refine net_cons rfl rfl (n_not rfl (ev rfl)) ?_
  refine net_cons rfl rfl (n_move rfl (ev rfl)) ?_
  refine net_if rfl rfl rfl rfl (fun hc => (n_move rfl (ev rfl))) ?_
  refine net_if rfl rfl rfl rfl (fun hc => (n_bin rfl (evi rfl hc) evc (r_lss (b := 0)))) ?_
  refine net_cons rfl rfl (n_pick_or rfl (ev rfl) (fun h => (evi rfl h))) ?_
  refine net_cons rfl rfl (n_move rfl (ev rfl)) ?_
  refine net_if rfl rfl rfl rfl (fun hc => (n_move rfl (ev rfl))) ?_
  refine net_if rfl rfl rfl rfl (fun hc => (n_fieldAddrO (off' := 0) rfl (ev rfl) Try.runUnderlying83 rfl Try.sizeOf3 rfl)) ?_
  refine net_if rfl rfl rfl rfl (fun hc => (n_load rfl (evi rfl hc) (ld1 hw (i := 0) rfl Try.isAgg3 rfl))) ?_
  refine net_if rfl rfl rfl rfl (fun hc => (n_bin rfl evc (evi rfl hc) (sh1 (okPN_g hc).1 (okPN_g hc).2))) ?_
  refine net_if rfl rfl rfl rfl (fun hc => (n_bin rfl (evi rfl hc) (evi rfl hc) r_geq)) ?_
  refine net_cons rfl rfl (n_pick_or rfl (ev rfl) (fun h => (evi rfl h))) ?_
  refine net_nil fun a w1 hF hx => ?_
  replace hw := hw.next hx
  replace hF := hF.keep (.cons (t := 1) rfl (.cons (t := 2) rfl (.cons (t := 3) rfl (.cons (t := 6) rfl (.cons (t := 7) rfl (.cons (t := 8) rfl (.cons (t := 9) rfl (.cons (t := 36) rfl .nil))))))))
  refine wpList_nil ?_
  try simp only [List.nil_append, List.cons_append, List.set_cons_zero, List.set_cons_succ] at hw
  refine wp_cond_split (hF.ev (ev rfl)) (fun h36 => ?_) (fun h36 => ?_)
  · refine wp_seq (reg_seq 10 (hF _ _) (by kernel_rfl) ?_)
    refine net_cons rfl rfl (n_move rfl (ev rfl)) ?_
    refine net_cons rfl rfl (n_move rfl (ev rfl)) ?_
    refine net_if rfl rfl rfl rfl (fun hc => (n_move rfl (ev rfl))) ?_
    refine net_if rfl rfl rfl rfl (fun hc => (n_bin rfl (evi rfl hc) evc (r_eql (b := 8)))) ?_
    refine net_if rfl rfl rfl rfl (fun hc => (n_move rfl (evi rfl hc))) ?_
    refine net_if2 rfl rfl rfl rfl (fun hc hc2 => (n_move rfl (ev rfl))) ?_
    refine net_if2 rfl rfl rfl rfl (fun hc hc2 => (n_bin rfl (evi rfl (nest2 hc hc2)) evc (r_eql (b := 2)))) ?_
    refine net_if rfl rfl rfl rfl (fun hc => (n_pick_or rfl (evi rfl hc) (fun h => (evi rfl (nest2 hc h))))) ?_
    refine net_cons rfl rfl (n_pick_and rfl (ev rfl) (fun h => (evi rfl h))) ?_
    refine net_cons rfl rfl (n_assign rfl (ev rfl)) ?_
    refine net_nil fun a w1 hF hx => ?_
    replace hw := hw.next hx
    replace hF := hF.keep (.cons (t := 1) rfl (.cons (t := 2) rfl (.cons (t := 3) rfl (.cons (t := 6) rfl (.cons (t := 7) rfl (.cons (t := 8) rfl (.cons (t := 9) rfl (.cons (t := 36) rfl .nil))))))))
    refine wpList_nil ?_
    try simp only [List.nil_append, List.cons_append, List.set_cons_zero, List.set_cons_succ] at hw
    refine wp_ret (go_then_r (ret1 hF Try.results16 rfl ?_))
    exact ⟨_, rfl, hw.ext, (congrArg Value.bool (fin_or8 (less_err h36)))⟩
  · obtain ⟨hok, hmr⟩ := less_yes h36
    obtain ⟨hd0, hd6⟩ := okPN_depth hok
    obtain ⟨k, rfl⟩ := Int.eq_ofNat_of_zero_le hd0
    simp only [Int.toNat_natCast] at hmr
    obtain ⟨hm2, hm3⟩ := or_f hmr
    have hpw := pow_le64 (d := k) (by omega)
    obtain ⟨l, hle⟩ := Int.eq_ofNat_of_zero_le (show 0 ≤ ((2 ^ k : Nat) : Int) + m by omega)
    have hpr := punR_ok hok hmr hle
    have h2k : 2 ^ (k + 1) = 2 * 2 ^ k := by rw [Nat.pow_succ, Nat.mul_comm]
    have hok2 := pun_ok (l := l) (by omega) (by omega) hok
    have hcnt := count_le (by omega) hok2
    have hln : (punR (k : Int) L m).2.1.length ≤ 128 := by rw [hpr]; exact hcnt
    refine wp_skip ?_
    obtain ⟨_, _, hse_, _, hR20, _⟩ := hw.rd (i := 1) rfl
    injection hse_ with hA_ _ _
    subst hA_
    refine wp_seq (wp_region_lit ?_)
    refine t_net 0 7 (by kernel_rfl) rfl hF ?_
    refine net_cons rfl rfl (n_load rfl (ev rfl) (ldN hw (i := 2) (vs := _) rfl Try.isAgg83 Try.sizeOf83 rfl rfl)) ?_
    refine net_cons rfl rfl (n_move rfl (ev rfl)) ?_
    refine net_cons rfl rfl (n_ret rfl Try.call52 (.cons (ev rfl) (.cons (ev rfl) .nil)) (fun _ hx => (Evaluate_c (punR (k : Int) L m).1 _ c20 A20 (punR (k : Int) L m).2.1 rfl hle20 (by omega) m hm0 hm1 _ (hR20.ext hx)))) ?_
    refine net_cons rfl rfl (n_move rfl (ev rfl)) ?_
    refine net_cons rfl rfl (n_extract rfl (ev rfl) rfl) ?_
    refine net_cons rfl rfl (n_extract rfl (ev rfl) rfl) ?_
    refine net_cons rfl rfl (n_alloc rfl Try.zeroValue23 rfl) ?_
    refine net_nil fun a w1 hF hx => ?_
    obtain ⟨b10, h_, hw⟩ := hw.blk hx (hF.at_ 10 _ rfl)
    replace hF := hF.now h_
    replace hF := hF.keep (.cons (t := 1) rfl (.cons (t := 2) rfl (.cons (t := 3) rfl (.cons (t := 6) rfl (.cons (t := 7) rfl (.cons (t := 8) rfl (.cons (t := 9) rfl (.cons (t := 10) rfl (.cons (t := 36) rfl (.cons (t := 50) rfl (.cons (t := 51) rfl .nil)))))))))))
    refine t_store (i := 3) rfl rfl rfl hF hw rfl (ev rfl) (ev rfl) rfl (kc_one _) Try.sizeOf23 (kc_len _) (by first | decide | (rw [kc_len]; decide)) (seg_whole (by rw [kc_len]; rfl)) fun w1 hw => ?_
    refine t_net 8 1 (by kernel_rfl) rfl hF ?_
    refine net_cons rfl rfl (n_assign rfl (ev rfl)) ?_
    refine net_nil fun a w1 hF hx => ?_
    replace hw := hw.next hx
    replace hF := hF.keep (.cons (t := 1) rfl (.cons (t := 2) rfl (.cons (t := 3) rfl (.cons (t := 6) rfl (.cons (t := 7) rfl (.cons (t := 8) rfl (.cons (t := 9) rfl (.cons (t := 11) rfl (.cons (t := 36) rfl .nil)))))))))
    refine wpList_nil ?_
    try simp only [List.nil_append, List.cons_append, List.set_cons_zero, List.set_cons_succ] at hw
    refine wp_seq (wp_region_lit ?_)
    refine t_net 0 7 (by kernel_rfl) rfl hF ?_
    refine net_cons rfl rfl (n_load rfl (ev rfl) (ldN hw (i := 0) (vs := _) rfl Try.isAgg83 Try.sizeOf83 rfl rfl)) ?_
    refine net_cons rfl rfl (n_move rfl (ev rfl)) ?_
    refine net_cons rfl rfl (n_ret rfl Try.call52 (.cons (ev rfl) (.cons (ev rfl) .nil)) (fun _ hx => (Evaluate_c k n c A L hl hcp hn m2 hp0 hp1 _ (hR.ext (hw.ext.trans hx))))) ?_
    refine net_cons rfl rfl (n_move rfl (ev rfl)) ?_
    refine net_cons rfl rfl (n_extract rfl (ev rfl) rfl) ?_
    refine net_cons rfl rfl (n_extract rfl (ev rfl) rfl) ?_
    refine net_cons rfl rfl (n_alloc rfl Try.zeroValue23 rfl) ?_
    refine net_nil fun a w1 hF hx => ?_
    obtain ⟨b12, h_, hw⟩ := hw.blk hx (hF.at_ 12 _ rfl)
    replace hF := hF.now h_
    replace hF := hF.keep (.cons (t := 1) rfl (.cons (t := 2) rfl (.cons (t := 3) rfl (.cons (t := 6) rfl (.cons (t := 7) rfl (.cons (t := 8) rfl (.cons (t := 9) rfl (.cons (t := 11) rfl (.cons (t := 12) rfl (.cons (t := 36) rfl (.cons (t := 56) rfl (.cons (t := 57) rfl .nil))))))))))))
    refine t_store (i := 4) rfl rfl rfl hF hw rfl (ev rfl) (ev rfl) rfl (kc_one _) Try.sizeOf23 (kc_len _) (by first | decide | (rw [kc_len]; decide)) (seg_whole (by rw [kc_len]; rfl)) fun w1 hw => ?_
    refine t_net 8 1 (by kernel_rfl) rfl hF ?_
    refine net_cons rfl rfl (n_assign rfl (ev rfl)) ?_
    refine net_nil fun a w1 hF hx => ?_
    replace hw := hw.next hx
    replace hF := hF.keep (.cons (t := 1) rfl (.cons (t := 2) rfl (.cons (t := 3) rfl (.cons (t := 6) rfl (.cons (t := 7) rfl (.cons (t := 8) rfl (.cons (t := 9) rfl (.cons (t := 11) rfl (.cons (t := 12) rfl (.cons (t := 13) rfl (.cons (t := 36) rfl .nil)))))))))))
    refine wpList_nil ?_
    try simp only [List.nil_append, List.cons_append, List.set_cons_zero, List.set_cons_succ] at hw
    obtain ⟨_, _, hse_, _, hR20, _⟩ := hw.rd (i := 1) rfl
    injection hse_ with hA_ _ _
    subst hA_
    refine wp_seq (wp_region_lit ?_)
    refine t_net 0 7 (by kernel_rfl) rfl hF ?_
    refine net_cons rfl rfl (n_load rfl (ev rfl) (ldN hw (i := 2) (vs := _) rfl Try.isAgg83 Try.sizeOf83 rfl rfl)) ?_
    refine net_cons rfl rfl (n_move rfl (ev rfl)) ?_
    refine net_cons rfl rfl (n_ret rfl Try.call52 (.cons (ev rfl) (.cons (ev rfl) .nil)) (fun _ hx => (Evaluate_c (punR (k : Int) L m).1 _ c20 A20 (punR (k : Int) L m).2.1 rfl hle20 (by omega) m2 hp0 hp1 _ (hR20.ext hx)))) ?_
    refine net_cons rfl rfl (n_move rfl (ev rfl)) ?_
    refine net_cons rfl rfl (n_extract rfl (ev rfl) rfl) ?_
    refine net_cons rfl rfl (n_extract rfl (ev rfl) rfl) ?_
    refine net_cons rfl rfl (n_alloc rfl Try.zeroValue23 rfl) ?_
    refine net_nil fun a w1 hF hx => ?_
    obtain ⟨b14, h_, hw⟩ := hw.blk hx (hF.at_ 14 _ rfl)
    replace hF := hF.now h_
    replace hF := hF.keep (.cons (t := 1) rfl (.cons (t := 2) rfl (.cons (t := 3) rfl (.cons (t := 6) rfl (.cons (t := 7) rfl (.cons (t := 8) rfl (.cons (t := 9) rfl (.cons (t := 11) rfl (.cons (t := 12) rfl (.cons (t := 13) rfl (.cons (t := 14) rfl (.cons (t := 36) rfl (.cons (t := 62) rfl (.cons (t := 63) rfl .nil))))))))))))))
    refine t_store (i := 5) rfl rfl rfl hF hw rfl (ev rfl) (ev rfl) rfl (kc_one _) Try.sizeOf23 (kc_len _) (by first | decide | (rw [kc_len]; decide)) (seg_whole (by rw [kc_len]; rfl)) fun w1 hw => ?_
    refine t_net 8 1 (by kernel_rfl) rfl hF ?_
    refine net_cons rfl rfl (n_assign rfl (ev rfl)) ?_
    refine net_nil fun a w1 hF hx => ?_
    replace hw := hw.next hx
    replace hF := hF.keep (.cons (t := 1) rfl (.cons (t := 2) rfl (.cons (t := 3) rfl (.cons (t := 6) rfl (.cons (t := 7) rfl (.cons (t := 8) rfl (.cons (t := 9) rfl (.cons (t := 11) rfl (.cons (t := 12) rfl (.cons (t := 13) rfl (.cons (t := 14) rfl (.cons (t := 15) rfl (.cons (t := 36) rfl .nil)))))))))))))
    refine wpList_nil ?_
    try simp only [List.nil_append, List.cons_append, List.set_cons_zero, List.set_cons_succ] at hw
    obtain ⟨_, _, hse_, _, hR20, _⟩ := hw.rd (i := 1) rfl
    injection hse_ with hA_ _ _
    subst hA_
    refine wp_seq (reg_seq 30 (hF _ _) (by kernel_rfl) ?_)
    refine net_cons rfl rfl (n_move rfl (ev rfl)) ?_
    refine net_cons rfl rfl (n_move rfl (ev rfl)) ?_
    refine net_if rfl rfl rfl rfl (fun hc => (n_move rfl (ev rfl))) ?_
    refine net_if rfl rfl rfl rfl (fun hc => (n_bin rfl (evi rfl hc) evc (r_eql (b := 0)))) ?_
    refine net_cons rfl rfl (n_pick_and rfl (ev rfl) (fun h => (evi rfl h))) ?_
    refine net_cons rfl rfl (n_move rfl (ev rfl)) ?_
    refine net_if rfl rfl rfl rfl (fun hc => (n_load rfl (ev rfl) (ldN hw (i := 2) (vs := _) rfl Try.isAgg83 Try.sizeOf83 rfl rfl))) ?_
    refine net_if rfl rfl rfl rfl (fun hc => (n_ret rfl Try.call48 (.cons (evi rfl hc) .nil) (fun _ hx => (CheckP_c (punR (k : Int) L m).1 _ c20 A20 (punR (k : Int) L m).2.1 rfl hle20 (by omega) _ (hR20.ext hx))))) ?_
    refine net_if rfl rfl rfl rfl (fun hc => (n_bin rfl (evi rfl hc) evc (r_eql (b := 0)))) ?_
    refine net_cons rfl rfl (n_pick_and rfl (ev rfl) (fun h => (evi rfl h))) ?_
    refine net_cons rfl rfl (n_move rfl (ev rfl)) ?_
    refine net_if rfl rfl rfl rfl (fun hc => (n_move rfl (ev rfl))) ?_
    refine net_if rfl rfl rfl rfl (fun hc => (n_bin rfl (evi rfl hc) evc (r_eql (b := 6)))) ?_
    refine net_cons rfl rfl (n_pick_and rfl (ev rfl) (fun h => (evi rfl h))) ?_
    refine net_cons rfl rfl (n_move rfl (ev rfl)) ?_
    refine net_if rfl rfl rfl rfl (fun hc => (n_move rfl (ev rfl))) ?_
    refine net_if rfl rfl rfl rfl (fun hc => (n_move rfl (ev rfl))) ?_
    refine net_if rfl rfl rfl rfl (fun hc => (n_bin rfl (evi rfl hc) (evi rfl hc) r_eql)) ?_
    refine net_if rfl rfl rfl rfl (fun hc => (n_move rfl (evi rfl hc))) ?_
    refine net_if2 rfl rfl rfl rfl (fun hc hc2 => (n_move rfl (ev rfl))) ?_
    refine net_if2 rfl rfl rfl rfl (fun hc hc2 => (n_move rfl (ev rfl))) ?_
    refine net_if2 rfl rfl rfl rfl (fun hc hc2 => (n_bin rfl (evi rfl (nest2 hc hc2)) (evi rfl (nest2 hc hc2)) r_eql)) ?_
    refine net_if2 rfl rfl rfl rfl (fun hc hc2 => (n_move rfl (evi rfl (nest2 hc hc2)))) ?_
    refine net_if2 rfl rfl rfl rfl (fun hc hc2 => (n_load rfl (ev rfl) (ldN hw (i := 4) (vs := _) rfl Try.isAgg23 Try.sizeOf23 (kc_len _) (cut_whole (kc_len _))))) ?_
    refine net_if2 rfl rfl rfl rfl (fun hc hc2 => (n_load rfl (ev rfl) (ldN hw (i := 5) (vs := _) rfl Try.isAgg23 Try.sizeOf23 (kc_len _) (cut_whole (kc_len _))))) ?_
    refine net_if2 rfl rfl rfl rfl (fun hc hc2 => (n_bin rfl (evi rfl (nest2 hc hc2)) (evi rfl (nest2 hc hc2)) r_eqKey)) ?_
    refine net_if2 rfl rfl rfl rfl (fun hc hc2 => (n_pick_and rfl (evi rfl (nest2 hc hc2)) (fun h => (evi rfl (nest2 (nest2 hc hc2) h))))) ?_
    refine net_if rfl rfl rfl rfl (fun hc => (n_pick_or rfl (evi rfl hc) (fun h => (evi rfl (nest2 hc h))))) ?_
    refine net_cons rfl rfl (n_pick_and rfl (ev rfl) (fun h => (evi rfl h))) ?_
    refine net_cons rfl rfl (n_assign rfl (ev rfl)) ?_
    refine net_nil fun a w1 hF hx => ?_
    replace hw := hw.next hx
    replace hF := hF.keep (.cons (t := 1) rfl (.cons (t := 2) rfl (.cons (t := 3) rfl (.cons (t := 6) rfl (.cons (t := 7) rfl (.cons (t := 8) rfl (.cons (t := 9) rfl (.cons (t := 12) rfl (.cons (t := 14) rfl (.cons (t := 36) rfl .nil))))))))))
    refine wpList_nil ?_
    try simp only [List.nil_append, List.cons_append, List.set_cons_zero, List.set_cons_succ] at hw
    refine wp_ret (ret1 hF Try.results16 rfl ?_)
    exact ⟨_, rfl, hw.ext, (congrArg Value.bool (less_fin (by rw [hpr]) (by rw [hpr]; simp only; rw [hok2]; rfl) (by rw [hpr]; simp only; rw [evR_none hok2 hmr hle (pun_none (by omega) (by omega) hok)]) (fun hne => by rw [hpr]; simp only; rw [less_ev hok hmr hle hne]; exact ⟨rfl, rfl⟩)))⟩
end Go.Proofs.Ythgpojlcbbgaoaa

