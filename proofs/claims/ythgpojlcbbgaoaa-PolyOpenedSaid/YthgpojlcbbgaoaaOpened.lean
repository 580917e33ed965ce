/- the law of what opens -/
import Derived.Test.YthgpojlcbbgaoaaAlive
import Derived.Test.YthgpojlcbbgaoaaGrpD

set_option autoImplicit false
set_option maxRecDepth 100000
set_option linter.unusedVariables false
set_option linter.unusedSimpArgs false
set_option linter.unnecessarySimpa false
namespace Go.Proofs.Ythgpojlcbbgaoaa
open Go.RowKit


theorem okS_g1 {kd : Nat} {dp dg : Int} {p q g : Nat} (h : (!okS kd dp dg p q g) = false) : 0 ≤ dp ∧ dp ≤ 6 := by
  rw [Bool.not_eq_false'] at h
  have := okS_all h
  exact ⟨this.2.1, this.2.2.1⟩
theorem fin_or3 {e a b c : Int} (h : e = a ∨ e = b ∨ e = c) : (true && ((decide (e = a) || decide (e = b)) || decide (e = c))) = true := by
  rcases h with h | h | h
  · rw [decide_eq_true h]; rfl
  · rw [decide_eq_true h, Bool.or_true]; rfl
  · rw [decide_eq_true h, Bool.or_true]; rfl
theorem fin_eq {e a : Int} (h : e = a) : (true && decide (e = a)) = true := by rw [decide_eq_true h]; rfl
theorem fin_eq2 {e a : Int} {x y : Key} (h : e = a) (h2 : x = y) : ((true && decide (e = a)) && decide (x = y)) = true := by rw [decide_eq_true h, decide_eq_true h2]; rfl
def orR (session : Key) (l : List Int) (k : Nat) : Key × Int := if (k : Int) ∈ l then (key0, 6) else (session, 0)
section
variable {root session : Key} {kd : Nat} {dp dg : Int} {p q g nonce m : Nat} {l : List Int}
theorem opd_err (hl : l.length = m) (h : ((!okS kd dp dg p q g || !okL ((2 ^ dp.toNat : Nat) : Int) l) || decide (dg < (m : Int))) = true) : (sealR root kd dp dg p q g l session nonce).2 = 30 ∨ (sealR root kd dp dg p q g l session nonce).2 = 2 ∨ (sealR root kd dp dg p q g l session nonce).2 = 4 := by
  cases hz : okS kd dp dg p q g with
  | false => exact .inl (by rw [sealR_no hz])
  | true =>
    cases hk : okL ((2 ^ dp.toNat : Nat) : Int) l with
    | false => exact .inr (.inl (by rw [sealR_bad hz hk]))
    | true =>
      rw [hz, hk] at h
      have h2 : dg < (m : Int) := by simpa using h
      exact .inr (.inr (by rw [sealR_many hz hk (by omega)]))
theorem opd_yes (hl : l.length = m) (h : ((!okS kd dp dg p q g || !okL ((2 ^ dp.toNat : Nat) : Int) l) || decide (dg < (m : Int))) = false) : okS kd dp dg p q g = true ∧ okL ((2 ^ dp.toNat : Nat) : Int) l = true ∧ (l.length : Int) ≤ dg := by
  rw [Bool.or_eq_false_iff, Bool.or_eq_false_iff, Bool.not_eq_false', Bool.not_eq_false', decide_eq_false_iff_not] at h
  exact ⟨h.1.1, h.1.2, by omega⟩
theorem opened_c {d n c k : Nat} {A : Option Addr} (hp : p < 18446744073709551616) (hq : q < 18446744073709551616) (hg : g < 18446744073709551616) (hz : okS kd d n p q g = true) (h : okL ((2 ^ d : Nat) : Int) l = true) (hl : l.length ≤ n) (hu : k < 2 ^ d) (hcp : (ptsL root d n p q g l nonce).length ≤ c) (w : World) (hR : Rd w A (pc (ptsL root d n p q g l nonce))) :
    RetF Try.prog 27 [SV kd d n p q g, SecV k (.slice none 0 0) (k + 1) (pv (cfs root n q) (k + 1) % q), HV (.slice none 0 0) (baseN root p q g nonce) (.slice A (ptsL root d n p q g l nonce).length c) (boxK root n p q g session nonce) (derK session 53 0)].toArray w (.is (.tuple #[K (orR session l k).1, I (orR session l k).2])) := by
  have hn : n ≤ 8 := by have := okS_all hz; omega
  have := Open_c kd d n p q g 0 0 (baseN root p q g nonce) _ c none A (ptsL root d n p q g l nonce) (boxK root n p q g session nonce) (derK session 53 0) k (.slice none 0 0) (k + 1) (pv (cfs root n q) (k + 1) % q) hp hq hg rfl hcp (by rw [ptsL_len hl]; omega) w hR
  rwa [open_seal hz h hl hu] at this
end


set_option maxHeartbeats 2000000 in
theorem PolyOpened_c (root session : Key) (kd : Nat) (dp dg : Int) (p q g nonce m c : Nat) (A : Option Addr) (l : List Int) (hp : p < 18446744073709551616) (hq : q < 18446744073709551616) (hg : g < 18446744073709551616) (hno : nonce < 18446744073709551616) (hl : l.length = m) (hm : m ≤ 9223372036854775800) (u : Int) (hu0 : -9223372036854775808 ≤ u) (hu1 : u < 9223372036854775808) (w : World) (hR : Rd w A (l.map I)) : RetF Try.prog 13 [K root, SV kd dp dg p q g, .slice A m c, K session, U nonce, I u].toArray w (.is (.bool true)) := by
  refine enter Try.func13 rfl Try.ntmps13 rfl fun a hF => ?_
  have hw := Own.start w
  refine wp_seq (wp_region_lit ?_)
  refine t_net 0 1 (by kernel_rfl) rfl hF ?_
  refine net_cons rfl rfl (n_box rfl (ev rfl) rfl) ?_
  refine net_nil fun a w1 hF hx => ?_
  obtain ⟨b6, h_, hw⟩ := hw.blk hx (hF.at_ 6 _ rfl)
  replace hF := hF.now h_
  replace hF := hF.keep (.cons (t := 1) rfl (.cons (t := 2) rfl (.cons (t := 3) rfl (.cons (t := 4) rfl (.cons (t := 5) rfl (.cons (t := 6) rfl .nil))))))
  refine t_net 1 1 (by kernel_rfl) rfl hF ?_
  refine net_cons rfl rfl (n_box rfl (ev rfl) rfl) ?_
  refine net_nil fun a w1 hF hx => ?_
  obtain ⟨b7, h_, hw⟩ := hw.blk hx (hF.at_ 7 _ rfl)
  replace hF := hF.now h_
  replace hF := hF.keep (.cons (t := 2) rfl (.cons (t := 3) rfl (.cons (t := 4) rfl (.cons (t := 5) rfl (.cons (t := 6) rfl (.cons (t := 7) rfl .nil))))))
  refine t_net 2 1 (by kernel_rfl) rfl hF ?_
  refine net_cons rfl rfl (n_box rfl (ev rfl) rfl) ?_
  refine net_nil fun a w1 hF hx => ?_
  obtain ⟨b9, h_, hw⟩ := hw.blk hx (hF.at_ 9 _ rfl)
  replace hF := hF.now h_
  replace hF := hF.keep (.cons (t := 2) rfl (.cons (t := 4) rfl (.cons (t := 5) rfl (.cons (t := 6) rfl (.cons (t := 7) rfl (.cons (t := 9) rfl .nil))))))
  refine t_net 3 1 (by kernel_rfl) rfl hF ?_
  refine net_cons rfl rfl (n_assign rfl evc) ?_
  refine net_nil fun a w1 hF hx => ?_
  replace hw := hw.next hx
  replace hF := hF.keep (.cons (t := 2) rfl (.cons (t := 4) rfl (.cons (t := 5) rfl (.cons (t := 6) rfl (.cons (t := 7) rfl (.cons (t := 9) rfl (.cons (t := 12) rfl .nil)))))))
  refine wpList_nil ?_
  try simp only [List.nil_append, List.cons_append, List.set_cons_zero, List.set_cons_succ] at hw
  refine wp_seq (reg_seq 2 (hF _ _) (by kernel_rfl) ?_)
  refine net_cons rfl rfl (n_ret rfl Try.call29 .nil (fun _ hx => (alive_c _))) ?_
  refine net_cons rfl rfl (n_assign rfl (ev rfl)) ?_
  refine net_nil fun a w1 hF hx => ?_
  replace hw := hw.next hx
  replace hF := hF.keep (.cons (t := 2) rfl (.cons (t := 4) rfl (.cons (t := 5) rfl (.cons (t := 6) rfl (.cons (t := 7) rfl (.cons (t := 9) rfl (.cons (t := 12) rfl (.cons (t := 13) rfl .nil))))))))
  refine wpList_nil ?_
  try simp only [List.nil_append, List.cons_append, List.set_cons_zero, List.set_cons_succ] at hw
  refine wp_seq (wp_region_lit ?_)
  refine t_net 0 6 (by kernel_rfl) rfl hF ?_
  refine net_cons rfl rfl (n_load rfl (ev rfl) (ldN hw (i := 0) (vs := _) rfl Try.isAgg23 Try.sizeOf23 (kc_len _) (cut_whole (kc_len _)))) ?_
  refine net_cons rfl rfl (n_load rfl (ev rfl) (ldN hw (i := 1) (vs := _) rfl Try.isAgg28 Try.sizeOf28 rfl rfl)) ?_
  refine net_cons rfl rfl (n_move rfl (ev rfl)) ?_
  refine net_cons rfl rfl (n_load rfl (ev rfl) (ldN hw (i := 2) (vs := _) rfl Try.isAgg23 Try.sizeOf23 (kc_len _) (cut_whole (kc_len _)))) ?_
  refine net_cons rfl rfl (n_move rfl (ev rfl)) ?_
  refine net_cons rfl rfl (n_ret rfl Try.call21 (.cons (ev rfl) (.cons (ev rfl) (.cons (ev rfl) (.cons (ev rfl) (.cons (ev rfl) .nil))))) (fun _ hx => (Seal_c root session kd dp dg p q g nonce m c A l hp hq hg hno hl hm _ (hR.ext (hw.ext.trans hx))))) ?_
  refine net_nil fun a w1 hF hx => ?_
  obtain ⟨s28, h_, hw⟩ := hw.ex hx (hF.at_ 28 _ rfl)
  replace hF := hF.now h_
  replace hF := hF.keep (.cons (t := 2) rfl (.cons (t := 5) rfl (.cons (t := 6) rfl (.cons (t := 7) rfl (.cons (t := 9) rfl (.cons (t := 12) rfl (.cons (t := 13) rfl (.cons (t := 28) rfl .nil))))))))
  obtain ⟨A28, c28, rfl, hle28, _, _⟩ := hw.rd (i := 3) rfl
  refine t_net 6 4 (by kernel_rfl) rfl hF ?_
  refine net_cons rfl rfl (n_move rfl (ev rfl)) ?_
  refine net_cons rfl rfl (n_extract rfl (ev rfl) rfl) ?_
  refine net_cons rfl rfl (n_extract rfl (ev rfl) rfl) ?_
  refine net_cons rfl rfl (n_alloc rfl Try.zeroValue45 rfl) ?_
  refine net_nil fun a w1 hF hx => ?_
  obtain ⟨b14, h_, hw⟩ := hw.blk hx (hF.at_ 14 _ rfl)
  replace hF := hF.now h_
  replace hF := hF.keep (.cons (t := 2) rfl (.cons (t := 5) rfl (.cons (t := 6) rfl (.cons (t := 7) rfl (.cons (t := 9) rfl (.cons (t := 12) rfl (.cons (t := 13) rfl (.cons (t := 14) rfl (.cons (t := 29) rfl (.cons (t := 30) rfl .nil))))))))))
  refine t_store (i := 4) rfl rfl rfl hF hw rfl (ev rfl) (ev rfl) rfl one_hcs Try.sizeOf45 (hcs_len _ _ _ _ _) (by first | decide | (rw [hcs_len]; decide)) (seg_whole (by rw [hcs_len] <;> rfl)) fun w1 hw => ?_
  refine t_net 11 1 (by kernel_rfl) rfl hF ?_
  refine net_cons rfl rfl (n_assign rfl (ev rfl)) ?_
  refine net_nil fun a w1 hF hx => ?_
  replace hw := hw.next hx
  replace hF := hF.keep (.cons (t := 2) rfl (.cons (t := 5) rfl (.cons (t := 6) rfl (.cons (t := 7) rfl (.cons (t := 9) rfl (.cons (t := 12) rfl (.cons (t := 13) rfl (.cons (t := 14) rfl (.cons (t := 15) rfl .nil)))))))))
  refine wpList_nil ?_
  try simp only [List.nil_append, List.cons_append, List.set_cons_zero, List.set_cons_succ] at hw
  refine wp_seq ?_
  refine wp_seq (reg_seq 17 (hF _ _) (by kernel_rfl) ?_)
  refine net_cons rfl rfl (n_load rfl (ev rfl) (ldN hw (i := 1) (vs := _) rfl Try.isAgg28 Try.sizeOf28 rfl rfl)) ?_
  refine net_cons rfl rfl (n_ret rfl Try.call30 (.cons (ev rfl) .nil) (fun _ hx => (Valid_c kd dp dg p q g hp hq hg _))) ?_
  refine net_cons rfl rfl (n_not rfl (ev rfl)) ?_
  refine net_cons rfl rfl (n_move rfl (ev rfl)) ?_
  refine net_if rfl rfl rfl rfl (fun hc => (n_fieldAddrO (off' := 1) rfl (ev rfl) Try.runUnderlying28 rfl Try.sizeOf3 rfl)) ?_
  refine net_if rfl rfl rfl rfl (fun hc => (n_load rfl (evi rfl hc) (ld1 hw (i := 1) rfl Try.isAgg3 rfl))) ?_
  refine net_if rfl rfl rfl rfl (fun hc => (n_move rfl (ev rfl))) ?_
  refine net_if rfl rfl rfl rfl (fun hc => (n_ret rfl Try.call31 (.cons (evi rfl hc) (.cons (evi rfl hc) .nil)) (fun _ hx => (IsList_c dp (okS_g1 hc).1 (okS_g1 hc).2 m c A l hl hm _ (hR.ext (hw.ext.trans hx)))))) ?_
  refine net_if rfl rfl rfl rfl (fun hc => (n_not rfl (evi rfl hc))) ?_
  refine net_cons rfl rfl (n_pick_or rfl (ev rfl) (fun h => (evi rfl h))) ?_
  refine net_cons rfl rfl (n_move rfl (ev rfl)) ?_
  refine net_if rfl rfl rfl rfl (fun hc => (n_move rfl (ev rfl))) ?_
  refine net_if rfl rfl rfl rfl (fun hc => (n_len rfl (evi rfl hc) Try.underlying41)) ?_
  refine net_if rfl rfl rfl rfl (fun hc => (n_fieldAddrO (off' := 2) rfl (ev rfl) Try.runUnderlying28 rfl Try.sizeOf3 rfl)) ?_
  refine net_if rfl rfl rfl rfl (fun hc => (n_load rfl (evi rfl hc) (ld1 hw (i := 1) rfl Try.isAgg3 rfl))) ?_
  refine net_if rfl rfl rfl rfl (fun hc => (n_bin rfl (evi rfl hc) (evi rfl hc) r_gtr)) ?_
  refine net_cons rfl rfl (n_pick_or rfl (ev rfl) (fun h => (evi rfl h))) ?_
  refine net_nil fun a w1 hF hx => ?_
  replace hw := hw.next hx
  replace hF := hF.keep (.cons (t := 2) rfl (.cons (t := 5) rfl (.cons (t := 6) rfl (.cons (t := 7) rfl (.cons (t := 9) rfl (.cons (t := 12) rfl (.cons (t := 13) rfl (.cons (t := 14) rfl (.cons (t := 15) rfl (.cons (t := 47) rfl .nil))))))))))
  refine wpList_nil ?_
  try simp only [List.nil_append, List.cons_append, List.set_cons_zero, List.set_cons_succ] at hw
  refine wp_cond_split (hF.ev (ev rfl)) (fun h47 => ?_) (fun h47 => ?_)
  · refine wp_seq (reg_seq 14 (hF _ _) (by kernel_rfl) ?_)
    refine net_cons rfl rfl (n_move rfl (ev rfl)) ?_
    refine net_cons rfl rfl (n_move rfl (ev rfl)) ?_
    refine net_if rfl rfl rfl rfl (fun hc => (n_move rfl (ev rfl))) ?_
    refine net_if rfl rfl rfl rfl (fun hc => (n_bin rfl (evi rfl hc) evc (r_eql (b := 30)))) ?_
    refine net_if rfl rfl rfl rfl (fun hc => (n_move rfl (evi rfl hc))) ?_
    refine net_if2 rfl rfl rfl rfl (fun hc hc2 => (n_move rfl (ev rfl))) ?_
    refine net_if2 rfl rfl rfl rfl (fun hc hc2 => (n_bin rfl (evi rfl (nest2 hc hc2)) evc (r_eql (b := 2)))) ?_
    refine net_if rfl rfl rfl rfl (fun hc => (n_pick_or rfl (evi rfl hc) (fun h => (evi rfl (nest2 hc h))))) ?_
    refine net_if rfl rfl rfl rfl (fun hc => (n_move rfl (evi rfl hc))) ?_
    refine net_if2 rfl rfl rfl rfl (fun hc hc2 => (n_move rfl (ev rfl))) ?_
    refine net_if2 rfl rfl rfl rfl (fun hc hc2 => (n_bin rfl (evi rfl (nest2 hc hc2)) evc (r_eql (b := 4)))) ?_
    refine net_if rfl rfl rfl rfl (fun hc => (n_pick_or rfl (evi rfl hc) (fun h => (evi rfl (nest2 hc h))))) ?_
    refine net_cons rfl rfl (n_pick_and rfl (ev rfl) (fun h => (evi rfl h))) ?_
    refine net_cons rfl rfl (n_assign rfl (ev rfl)) ?_
    refine net_nil fun a w1 hF hx => ?_
    replace hw := hw.next hx
    replace hF := hF.keep (.cons (t := 2) rfl (.cons (t := 5) rfl (.cons (t := 6) rfl (.cons (t := 7) rfl (.cons (t := 9) rfl (.cons (t := 12) rfl (.cons (t := 13) rfl (.cons (t := 14) rfl (.cons (t := 15) rfl (.cons (t := 47) rfl .nil))))))))))
    refine wpList_nil ?_
    try simp only [List.nil_append, List.cons_append, List.set_cons_zero, List.set_cons_succ] at hw
    refine wp_ret (go_then_r (ret1 hF Try.results13 rfl ?_))
    exact ⟨_, rfl, hw.ext, (congrArg Value.bool (fin_or3 (opd_err hl h47)))⟩
  · obtain ⟨hz, hok, hll⟩ := opd_yes hl h47
    obtain ⟨hz1, hz2, hz3, hz4, hz5, hz6, hz7⟩ := okS_all hz
    obtain ⟨hz8, hz9, hz10, hz11, hz12⟩ := okG_q hz6
    obtain ⟨d, rfl⟩ := Int.eq_ofNat_of_zero_le hz2
    obtain ⟨n, rfl⟩ := Int.eq_ofNat_of_zero_le (show 0 ≤ dg by omega)
    rw [Int.toNat_natCast] at hok
    have hln : l.length ≤ n := by omega
    have hs := sealR_ok (root := root) (session := session) (nonce := nonce) hz hok hln
    rw [hs] at hF hw hle28
    refine wp_skip ?_
    refine wp_seq ?_
    refine wp_seq (reg_seq 9 (hF _ _) (by kernel_rfl) ?_)
    refine net_cons rfl rfl (n_move rfl (ev rfl)) ?_
    refine net_cons rfl rfl (n_bin rfl (ev rfl) evc (r_lss (b := 0))) ?_
    refine net_cons rfl rfl (n_move rfl (ev rfl)) ?_
    refine net_if rfl rfl rfl rfl (fun hc => (n_move rfl (ev rfl))) ?_
    refine net_if rfl rfl rfl rfl (fun hc => (n_fieldAddrO (off' := 1) rfl (ev rfl) Try.runUnderlying28 rfl Try.sizeOf3 rfl)) ?_
    refine net_if rfl rfl rfl rfl (fun hc => (n_load rfl (evi rfl hc) (ld1 hw (i := 1) rfl Try.isAgg3 rfl))) ?_
    refine net_if rfl rfl rfl rfl (fun hc => (n_bin rfl evc (evi rfl hc) (sh1 (by omega) (by omega)))) ?_
    refine net_if rfl rfl rfl rfl (fun hc => (n_bin rfl (evi rfl hc) (evi rfl hc) r_geq)) ?_
    refine net_cons rfl rfl (n_pick_or rfl (ev rfl) (fun h => (evi rfl h))) ?_
    refine net_nil fun a w1 hF hx => ?_
    replace hw := hw.next hx
    replace hF := hF.keep (.cons (t := 2) rfl (.cons (t := 5) rfl (.cons (t := 6) rfl (.cons (t := 7) rfl (.cons (t := 9) rfl (.cons (t := 12) rfl (.cons (t := 13) rfl (.cons (t := 14) rfl (.cons (t := 15) rfl (.cons (t := 47) rfl (.cons (t := 69) rfl .nil)))))))))))
    refine wpList_nil ?_
    try simp only [List.nil_append, List.cons_append, List.set_cons_zero, List.set_cons_succ] at hw
    refine wp_cond_split (hF.ev (ev rfl)) (fun h69 => ?_) (fun h69 => ?_)
    · refine wp_seq (reg_seq 6 (hF _ _) (by kernel_rfl) ?_)
      refine net_cons rfl rfl (n_move rfl (ev rfl)) ?_
      refine net_cons rfl rfl (n_move rfl (ev rfl)) ?_
      refine net_if rfl rfl rfl rfl (fun hc => (n_move rfl (ev rfl))) ?_
      refine net_if rfl rfl rfl rfl (fun hc => (n_bin rfl (evi rfl hc) evc (r_eql (b := 0)))) ?_
      refine net_cons rfl rfl (n_pick_and rfl (ev rfl) (fun h => (evi rfl h))) ?_
      refine net_cons rfl rfl (n_assign rfl (ev rfl)) ?_
      refine net_nil fun a w1 hF hx => ?_
      replace hw := hw.next hx
      replace hF := hF.keep (.cons (t := 2) rfl (.cons (t := 5) rfl (.cons (t := 6) rfl (.cons (t := 7) rfl (.cons (t := 9) rfl (.cons (t := 12) rfl (.cons (t := 13) rfl (.cons (t := 14) rfl (.cons (t := 15) rfl (.cons (t := 47) rfl (.cons (t := 69) rfl .nil)))))))))))
      refine wpList_nil ?_
      try simp only [List.nil_append, List.cons_append, List.set_cons_zero, List.set_cons_succ] at hw
      refine wp_ret (go_then_r (ret1 hF Try.results13 rfl ?_))
      exact ⟨_, rfl, hw.ext, (congrArg Value.bool (fin_eq rfl))⟩
    · obtain ⟨hu2, hu3⟩ := or_f h69
      obtain ⟨k, rfl⟩ := Int.eq_ofNat_of_zero_le (show 0 ≤ u by omega)
      simp only [Int.toNat_natCast] at hu3
      have hku : k < 2 ^ d := by omega
      have hsec := secR_ok (root := root) (u := k) hz hku
      refine wp_skip ?_
      refine wp_seq (wp_region_lit ?_)
      refine t_net 0 8 (by kernel_rfl) rfl hF ?_
      refine net_cons rfl rfl (n_load rfl (ev rfl) (ldN hw (i := 0) (vs := _) rfl Try.isAgg23 Try.sizeOf23 (kc_len _) (cut_whole (kc_len _)))) ?_
      refine net_cons rfl rfl (n_load rfl (ev rfl) (ldN hw (i := 1) (vs := _) rfl Try.isAgg28 Try.sizeOf28 rfl rfl)) ?_
      refine net_cons rfl rfl (n_move rfl (ev rfl)) ?_
      refine net_cons rfl rfl (n_ret rfl Try.call18 (.cons (ev rfl) (.cons (ev rfl) (.cons (ev rfl) .nil))) (fun _ hx => (Secret_c root kd d n p q g hp hq hg k hu0 hu1 _))) ?_
      refine net_cons rfl rfl (n_move rfl (ev rfl)) ?_
      refine net_cons rfl rfl (n_extract rfl (ev rfl) rfl) ?_
      refine net_cons rfl rfl (n_extract rfl (ev rfl) rfl) ?_
      refine net_cons rfl rfl (n_alloc rfl Try.zeroValue33 rfl) ?_
      refine net_nil fun a w1 hF hx => ?_
      obtain ⟨b16, h_, hw⟩ := hw.blk hx (hF.at_ 16 _ rfl)
      replace hF := hF.now h_
      replace hF := hF.keep (.cons (t := 2) rfl (.cons (t := 5) rfl (.cons (t := 6) rfl (.cons (t := 7) rfl (.cons (t := 9) rfl (.cons (t := 12) rfl (.cons (t := 13) rfl (.cons (t := 14) rfl (.cons (t := 15) rfl (.cons (t := 16) rfl (.cons (t := 47) rfl (.cons (t := 69) rfl (.cons (t := 80) rfl (.cons (t := 81) rfl .nil))))))))))))))
      refine t_store (i := 5) rfl rfl rfl hF hw rfl (ev rfl) (ev rfl) rfl one4 Try.sizeOf33 rfl (Nat.le_of_ble_eq_true rfl) rfl fun w1 hw => ?_
      refine t_net 9 1 (by kernel_rfl) rfl hF ?_
      refine net_cons rfl rfl (n_assign rfl (ev rfl)) ?_
      refine net_nil fun a w1 hF hx => ?_
      replace hw := hw.next hx
      replace hF := hF.keep (.cons (t := 2) rfl (.cons (t := 5) rfl (.cons (t := 6) rfl (.cons (t := 7) rfl (.cons (t := 9) rfl (.cons (t := 12) rfl (.cons (t := 13) rfl (.cons (t := 14) rfl (.cons (t := 15) rfl (.cons (t := 16) rfl (.cons (t := 17) rfl (.cons (t := 47) rfl (.cons (t := 69) rfl .nil)))))))))))))
      refine wpList_nil ?_
      try simp only [List.nil_append, List.cons_append, List.set_cons_zero, List.set_cons_succ] at hw
      rw [hsec] at hF hw
      obtain ⟨_, _, hse_, _, hR28, _⟩ := hw.rd (i := 3) rfl
      injection hse_ with hA_ _ _
      subst hA_
      refine wp_seq (wp_region_lit ?_)
      refine t_net 0 8 (by kernel_rfl) rfl hF ?_
      refine net_cons rfl rfl (n_load rfl (ev rfl) (ldN hw (i := 1) (vs := _) rfl Try.isAgg28 Try.sizeOf28 rfl rfl)) ?_
      refine net_cons rfl rfl (n_load rfl (ev rfl) (ldN hw (i := 5) (vs := _) rfl Try.isAgg33 Try.sizeOf33 rfl rfl)) ?_
      refine net_cons rfl rfl (n_load rfl (ev rfl) (ldN hw (i := 4) (vs := _) rfl Try.isAgg45 Try.sizeOf45 (hcs_len _ _ _ _ _) (cut_whole (hcs_len _ _ _ _ _)))) ?_
      refine net_cons rfl rfl (n_ret rfl Try.call27 (.cons (ev rfl) (.cons (ev rfl) (.cons (ev rfl) .nil))) (fun _ hx => (opened_c hp hq hg hz hok hln hku hle28 _ (hR28.ext hx)))) ?_
      refine net_cons rfl rfl (n_move rfl (ev rfl)) ?_
      refine net_cons rfl rfl (n_extract rfl (ev rfl) rfl) ?_
      refine net_cons rfl rfl (n_extract rfl (ev rfl) rfl) ?_
      refine net_cons rfl rfl (n_alloc rfl Try.zeroValue23 rfl) ?_
      refine net_nil fun a w1 hF hx => ?_
      obtain ⟨b18, h_, hw⟩ := hw.blk hx (hF.at_ 18 _ rfl)
      replace hF := hF.now h_
      replace hF := hF.keep (.cons (t := 2) rfl (.cons (t := 5) rfl (.cons (t := 6) rfl (.cons (t := 7) rfl (.cons (t := 9) rfl (.cons (t := 12) rfl (.cons (t := 13) rfl (.cons (t := 14) rfl (.cons (t := 15) rfl (.cons (t := 16) rfl (.cons (t := 17) rfl (.cons (t := 18) rfl (.cons (t := 47) rfl (.cons (t := 69) rfl (.cons (t := 87) rfl (.cons (t := 88) rfl .nil))))))))))))))))
      refine t_store (i := 6) rfl rfl rfl hF hw rfl (ev rfl) (ev rfl) rfl (kc_one _) Try.sizeOf23 (kc_len _) (by first | decide | (rw [kc_len]; decide)) (seg_whole (by rw [kc_len]; rfl)) fun w1 hw => ?_
      refine t_net 9 1 (by kernel_rfl) rfl hF ?_
      refine net_cons rfl rfl (n_assign rfl (ev rfl)) ?_
      refine net_nil fun a w1 hF hx => ?_
      replace hw := hw.next hx
      replace hF := hF.keep (.cons (t := 2) rfl (.cons (t := 5) rfl (.cons (t := 6) rfl (.cons (t := 7) rfl (.cons (t := 9) rfl (.cons (t := 12) rfl (.cons (t := 13) rfl (.cons (t := 14) rfl (.cons (t := 15) rfl (.cons (t := 16) rfl (.cons (t := 17) rfl (.cons (t := 18) rfl (.cons (t := 19) rfl (.cons (t := 47) rfl (.cons (t := 69) rfl .nil)))))))))))))))
      refine wpList_nil ?_
      try simp only [List.nil_append, List.cons_append, List.set_cons_zero, List.set_cons_succ] at hw
      refine wp_seq ?_
      refine wp_seq (reg_seq 6 (hF _ _) (by kernel_rfl) ?_)
      refine net_cons rfl rfl (n_move rfl (ev rfl)) ?_
      refine net_cons rfl rfl (n_bin rfl (ev rfl) evc (r_neq (b := 0))) ?_
      refine net_cons rfl rfl (n_move rfl (ev rfl)) ?_
      refine net_if rfl rfl rfl rfl (fun hc => (n_move rfl (ev rfl))) ?_
      refine net_if rfl rfl rfl rfl (fun hc => (n_bin rfl (evi rfl hc) evc (r_neq (b := 0)))) ?_
      refine net_cons rfl rfl (n_pick_or rfl (ev rfl) (fun h => (evi rfl h))) ?_
      refine net_nil fun a w1 hF hx => ?_
      replace hw := hw.next hx
      replace hF := hF.keep (.cons (t := 2) rfl (.cons (t := 5) rfl (.cons (t := 6) rfl (.cons (t := 7) rfl (.cons (t := 9) rfl (.cons (t := 12) rfl (.cons (t := 13) rfl (.cons (t := 14) rfl (.cons (t := 15) rfl (.cons (t := 16) rfl (.cons (t := 18) rfl (.cons (t := 19) rfl (.cons (t := 47) rfl (.cons (t := 69) rfl (.cons (t := 94) rfl .nil)))))))))))))))
      refine wpList_nil ?_
      try simp only [List.nil_append, List.cons_append, List.set_cons_zero, List.set_cons_succ] at hw
      refine wp_cond_false ((hF.ev (ev rfl)).trans (congrArg Value.bool (by simp))) ?_
      refine wp_skip ?_
      refine wp_seq ?_
      refine wp_seq (reg_seq 1 (hF _ _) (by kernel_rfl) ?_)
      refine net_cons rfl rfl (n_assign rfl evc) ?_
      refine net_nil fun a w1 hF hx => ?_
      replace hw := hw.next hx
      replace hF := hF.keep (.cons (t := 2) rfl (.cons (t := 5) rfl (.cons (t := 6) rfl (.cons (t := 7) rfl (.cons (t := 9) rfl (.cons (t := 12) rfl (.cons (t := 13) rfl (.cons (t := 14) rfl (.cons (t := 15) rfl (.cons (t := 16) rfl (.cons (t := 18) rfl (.cons (t := 19) rfl (.cons (t := 20) rfl (.cons (t := 47) rfl (.cons (t := 69) rfl (.cons (t := 94) rfl .nil))))))))))))))))
      refine wpList_nil ?_
      try simp only [List.nil_append, List.cons_append, List.set_cons_zero, List.set_cons_succ] at hw
      refine wp_block ?_
      replace hw := hw.drop (.cons _ (.cons _ (.cons_cons _ (.cons _ (.cons _ (.cons _ (.cons_cons _ .slnil)))))))
      refine wp_loop_ix (α := Nat) (fun i a w1 => FrV 127 [] [(2, .is (.slice A m c)) , (5, .is (I (k : Int))) , (9, .is (ptr0 b9)) , (13, .is (.bool true)) , (18, .is (ptr0 b18)) , (19, .is (I (orR session l k).2)) , (20, .is (I (i : Int)))] a ∧ Own w w1 [.blk b9 23 (kc session), .blk b18 23 (kc (orR session l k).1)] ∧ (i ≤ m) ∧ (∀ j y, j < i → l[j]? = some y → ¬ y = (k : Int))) (fun i => m - i) (0) ⟨hF.keep (.cons (t := 2) rfl (.cons (t := 5) rfl (.cons (t := 9) rfl (.cons (t := 13) rfl (.cons (t := 18) rfl (.cons (t := 19) rfl (.cons (t := 20) rfl (.nil)))))))), hw, Nat.zero_le _, fun j y h => by omega⟩ ?_
      rintro i a w1 ⟨hF, hw, hi0, hb⟩
      refine wp_seq ?_
      refine wp_seq (reg_seq 4 (hF _ _) (by kernel_rfl) ?_)
      refine net_cons rfl rfl (n_move rfl (ev rfl)) ?_
      refine net_cons rfl rfl (n_move rfl (ev rfl)) ?_
      refine net_cons rfl rfl (n_len rfl (ev rfl) Try.underlying41) ?_
      refine net_cons rfl rfl (n_bin rfl (ev rfl) (ev rfl) r_lssN) ?_
      refine net_nil fun a w1 hF hx => ?_
      replace hw := hw.next hx
      replace hF := hF.keep (.cons (t := 2) rfl (.cons (t := 5) rfl (.cons (t := 9) rfl (.cons (t := 13) rfl (.cons (t := 18) rfl (.cons (t := 19) rfl (.cons (t := 20) rfl (.cons (t := 98) rfl .nil))))))))
      refine wpList_nil ?_
      try simp only [List.nil_append, List.cons_append, List.set_cons_zero, List.set_cons_succ] at hw
      refine wp_cond_split (hF.ev (ev rfl)) (fun h98 => ?_) (fun h98 => ?_)
      · have hi : i < m := of_bool_t h98
        obtain ⟨x, hx0⟩ := some_at hl hi
        have hF_ := hF
        have hw_ := hw
        obtain ⟨bX, oX, rfl, hcX⟩ := hR.at_ (by rw [List.length_map]; omega)
        have hF := hF_
        have hw := hw_
        refine wp_skip ?_
        refine wp_seq (wp_block ?_)
        refine wp_seq (reg_seq 6 (hF _ _) (by kernel_rfl) ?_)
        refine net_cons rfl rfl (n_move rfl (ev rfl)) ?_
        refine net_cons rfl rfl (n_move rfl (ev rfl)) ?_
        refine net_cons rfl rfl (n_indexS (off' := oX + (i)) rfl (ev rfl) (ev rfl) Try.underlying41 Try.sizeOf3 (by omega) (by omega)) ?_
        refine net_cons rfl rfl (n_load rfl (ev rfl) (fun w2 hx2 => ld1R hcX (map_at hx0) Try.isAgg3 (by omega) w2 (hw.ext.trans hx2))) ?_
        refine net_cons rfl rfl (n_move rfl (ev rfl)) ?_
        refine net_cons rfl rfl (n_bin rfl (ev rfl) (ev rfl) r_eql) ?_
        refine net_nil fun a w1 hF hx => ?_
        replace hw := hw.next hx
        replace hF := hF.keep (.cons (t := 2) rfl (.cons (t := 5) rfl (.cons (t := 9) rfl (.cons (t := 13) rfl (.cons (t := 18) rfl (.cons (t := 19) rfl (.cons (t := 20) rfl (.cons (t := 98) rfl (.cons (t := 106) rfl .nil)))))))))
        refine wpList_nil ?_
        try simp only [List.nil_append, List.cons_append, List.set_cons_zero, List.set_cons_succ] at hw
        refine wp_cond_split (hF.ev (ev rfl)) (fun h106 => ?_) (fun h106 => ?_)
        · have hin : (k : Int) ∈ l := by { have := of_decide_eq_true h106; rw [← this]; exact List.mem_of_getElem? hx0 }
          refine wp_seq (reg_seq 11 (hF _ _) (by kernel_rfl) ?_)
          refine net_cons rfl rfl (n_move rfl (ev rfl)) ?_
          refine net_cons rfl rfl (n_move rfl (ev rfl)) ?_
          refine net_if rfl rfl rfl rfl (fun hc => (n_move rfl (ev rfl))) ?_
          refine net_if rfl rfl rfl rfl (fun hc => (n_bin rfl (evi rfl hc) evc (r_eql (b := 6)))) ?_
          refine net_cons rfl rfl (n_pick_and rfl (ev rfl) (fun h => (evi rfl h))) ?_
          refine net_cons rfl rfl (n_move rfl (ev rfl)) ?_
          refine net_if rfl rfl rfl rfl (fun hc => (n_load rfl (ev rfl) (ldN hw (i := 1) (vs := _) rfl Try.isAgg23 Try.sizeOf23 (kc_len _) (cut_whole (kc_len _))))) ?_
          refine net_if rfl rfl rfl rfl (fun hc => (n_build rfl .nil build_23_)) ?_
          refine net_if rfl rfl rfl rfl (fun hc => (n_bin rfl (evi rfl hc) (evi rfl hc) r_eqKey)) ?_
          refine net_cons rfl rfl (n_pick_and rfl (ev rfl) (fun h => (evi rfl h))) ?_
          refine net_cons rfl rfl (n_assign rfl (ev rfl)) ?_
          refine net_nil fun a w1 hF hx => ?_
          replace hw := hw.next hx
          replace hF := hF.keep (.cons (t := 2) rfl (.cons (t := 5) rfl (.cons (t := 9) rfl (.cons (t := 12) rfl (.cons (t := 13) rfl (.cons (t := 18) rfl (.cons (t := 19) rfl (.cons (t := 20) rfl (.cons (t := 98) rfl (.cons (t := 106) rfl .nil))))))))))
          refine wpList_nil ?_
          try simp only [List.nil_append, List.cons_append, List.set_cons_zero, List.set_cons_succ] at hw
          refine wp_ret (go_block_r (go_then_r (go_then_r (go_block_r (go_then_r (ret1 hF Try.results13 rfl ?_))))))
          exact ⟨_, rfl, hw.ext, (congrArg Value.bool (fin_eq2 (by unfold orR; rw [if_pos hin]) (by unfold orR; rw [if_pos hin])))⟩
        · refine wp_skip ?_
          refine reg_seq 3 (hF _ _) (by kernel_rfl) ?_
          refine net_cons rfl rfl (n_move rfl (ev rfl)) ?_
          refine net_cons rfl rfl (n_bin rfl (ev rfl) evc (r_inc (by omega))) ?_
          refine net_cons rfl rfl (n_assign rfl (ev rfl)) ?_
          refine net_nil fun a w1 hF hx => ?_
          replace hw := hw.next hx
          replace hF := hF.keep (.cons (t := 2) rfl (.cons (t := 5) rfl (.cons (t := 9) rfl (.cons (t := 13) rfl (.cons (t := 18) rfl (.cons (t := 19) rfl (.cons (t := 20) rfl (.cons (t := 98) rfl (.cons (t := 106) rfl .nil)))))))))
          refine wpList_nil ?_
          try simp only [List.nil_append, List.cons_append, List.set_cons_zero, List.set_cons_succ] at hw
          exact ⟨i + 1, ⟨hF.keep (.cons (t := 2) rfl (.cons (t := 5) rfl (.cons (t := 9) rfl (.cons (t := 13) rfl (.cons (t := 18) rfl (.cons (t := 19) rfl (.cons (t := 20) rfl (.nil)))))))), hw, by omega, up_at hb hx0 (of_bool_f h106)⟩, by omega⟩
      · obtain rfl : m = i := by have := of_bool_f h98; omega
        have hno : ¬ (k : Int) ∈ l := fun hm => by { obtain ⟨j, hj, e⟩ := List.mem_iff_getElem.1 hm; exact hb j _ (by omega) (List.getElem?_eq_getElem hj) e }
        refine wp_exit (go_then_e (go_then_e (go_exit ?_)))
        refine wp_seq (reg_seq 11 (hF _ _) (by kernel_rfl) ?_)
        refine net_cons rfl rfl (n_move rfl (ev rfl)) ?_
        refine net_cons rfl rfl (n_move rfl (ev rfl)) ?_
        refine net_if rfl rfl rfl rfl (fun hc => (n_move rfl (ev rfl))) ?_
        refine net_if rfl rfl rfl rfl (fun hc => (n_bin rfl (evi rfl hc) evc (r_eql (b := 0)))) ?_
        refine net_cons rfl rfl (n_pick_and rfl (ev rfl) (fun h => (evi rfl h))) ?_
        refine net_cons rfl rfl (n_move rfl (ev rfl)) ?_
        refine net_if rfl rfl rfl rfl (fun hc => (n_load rfl (ev rfl) (ldN hw (i := 1) (vs := _) rfl Try.isAgg23 Try.sizeOf23 (kc_len _) (cut_whole (kc_len _))))) ?_
        refine net_if rfl rfl rfl rfl (fun hc => (n_load rfl (ev rfl) (ldN hw (i := 0) (vs := _) rfl Try.isAgg23 Try.sizeOf23 (kc_len _) (cut_whole (kc_len _))))) ?_
        refine net_if rfl rfl rfl rfl (fun hc => (n_bin rfl (evi rfl hc) (evi rfl hc) r_eqKey)) ?_
        refine net_cons rfl rfl (n_pick_and rfl (ev rfl) (fun h => (evi rfl h))) ?_
        refine net_cons rfl rfl (n_assign rfl (ev rfl)) ?_
        refine net_nil fun a w1 hF hx => ?_
        replace hw := hw.next hx
        replace hF := hF.keep (.cons (t := 2) rfl (.cons (t := 5) rfl (.cons (t := 9) rfl (.cons (t := 12) rfl (.cons (t := 13) rfl (.cons (t := 18) rfl (.cons (t := 19) rfl (.cons (t := 20) rfl (.cons (t := 98) rfl .nil)))))))))
        refine wpList_nil ?_
        try simp only [List.nil_append, List.cons_append, List.set_cons_zero, List.set_cons_succ] at hw
        refine wp_ret (ret1 hF Try.results13 rfl ?_)
        exact ⟨_, rfl, hw.ext, (congrArg Value.bool (fin_eq2 (by unfold orR; rw [if_neg hno]) (by unfold orR; rw [if_neg hno])))⟩
end Go.Proofs.Ythgpojlcbbgaoaa

