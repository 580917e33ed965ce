/- the law of the mask -/
import Derived.Test.YthgpojlcbbgaoaaAlive
import Derived.Test.YthgpojlcbbgaoaaGrpB

set_option autoImplicit false
set_option maxRecDepth 100000
set_option linter.unusedVariables false
set_option linter.unusedSimpArgs false
set_option linter.unnecessarySimpa false
namespace Go.Proofs.Ythgpojlcbbgaoaa
open Go.RowKit


theorem pow_to {b v n m : Nat} (h : v = n) (hb : b < 18446744073709551616) (hn : n < 18446744073709551616) (h1 : 1 ≤ m) (h2 : m < 4294967296) (w : World) : RetF Try.prog 35 [U b, U v, U m].toArray w (.is (.tuple #[U (b ^ n % m), I 0])) := by
  subst h
  exact PowMod_c b v m hb hn h1 h2 w
section
variable {root session : Key} {kd : Nat} {dp dg : Int} {p q g nonce : Nat} {l : List Int}
theorem seal_yes (h : (!decide ((sealR root kd dp dg p q g l session nonce).2 = 0)) = false) : okS kd dp dg p q g = true ∧ okL ((2 ^ dp.toNat : Nat) : Int) l = true ∧ (l.length : Int) ≤ dg := by
  unfold sealR at h
  split at h
  · rename_i h1
    split at h
    · rename_i h2
      split at h
      · rename_i h3
        exact ⟨h1, h2, h3⟩
      · simp at h
    · simp at h
  · simp at h
theorem cof_len (root : Key) (kd : Nat) (dp dg : Int) (p q g : Nat) : (cofR root kd dp dg p q g).1.length ≤ 9 := by
  unfold cofR
  split
  · rename_i h
    have := okS_all h
    show (cfs root dg.toNat q).length ≤ 9
    rw [cfs_len]
    omega
  · simp
theorem val_cfs {d n x : Nat} (h : okS kd d n p q g = true) (hx : x < q) : valR kd d n p q g (cfs root n q).length (cfs root n q) x = (pv (cfs root n q) x % q, 0) := by
  have hq := (okG_q (okS_all h).2.2.2.2.2.1).1
  refine valR_ok h ?_
  rw [Bool.and_eq_true, decide_eq_true_eq, polyOk, Bool.and_eq_true, decide_eq_true_eq, List.all_eq_true, cfs_len]
  exact ⟨⟨by omega, fun c hc => by rw [decide_eq_true_eq]; exact cfs_lt root n (by omega) c hc⟩, hx⟩
end


set_option maxHeartbeats 2000000 in
theorem PolyMask_c (root session : Key) (kd : Nat) (dp dg : Int) (p q g nonce m c : Nat) (A : Option Addr) (l : List Int) (hp : p < 18446744073709551616) (hq : q < 18446744073709551616) (hg : g < 18446744073709551616) (hno : nonce < 18446744073709551616) (hl : l.length = m) (hm : m ≤ 9223372036854775800) (w : World) (hR : Rd w A (l.map I)) : RetF Try.prog 7 [K root, SV kd dp dg p q g, .slice A m c, K session, U nonce].toArray w (.is (.bool true)) := by
  refine enter Try.func7 rfl Try.ntmps7 rfl fun a hF => ?_
  have hw := Own.start w
  refine wp_seq (wp_region_lit ?_)
  refine t_net 0 1 (by kernel_rfl) rfl hF ?_
  refine net_cons rfl rfl (n_box rfl (ev rfl) rfl) ?_
  refine net_nil fun a w1 hF hx => ?_
  obtain ⟨b5, h_, hw⟩ := hw.blk hx (hF.at_ 5 _ rfl)
  replace hF := hF.now h_
  replace hF := hF.keep (.cons (t := 1) rfl (.cons (t := 2) rfl (.cons (t := 3) rfl (.cons (t := 4) rfl (.cons (t := 5) rfl .nil)))))
  refine t_net 1 1 (by kernel_rfl) rfl hF ?_
  refine net_cons rfl rfl (n_box rfl (ev rfl) rfl) ?_
  refine net_nil fun a w1 hF hx => ?_
  obtain ⟨b6, h_, hw⟩ := hw.blk hx (hF.at_ 6 _ rfl)
  replace hF := hF.now h_
  replace hF := hF.keep (.cons (t := 2) rfl (.cons (t := 3) rfl (.cons (t := 4) rfl (.cons (t := 5) rfl (.cons (t := 6) rfl .nil)))))
  refine t_net 2 1 (by kernel_rfl) rfl hF ?_
  refine net_cons rfl rfl (n_box rfl (ev rfl) rfl) ?_
  refine net_nil fun a w1 hF hx => ?_
  obtain ⟨b8, h_, hw⟩ := hw.blk hx (hF.at_ 8 _ rfl)
  replace hF := hF.now h_
  replace hF := hF.keep (.cons (t := 2) rfl (.cons (t := 4) rfl (.cons (t := 5) rfl (.cons (t := 6) rfl (.cons (t := 8) rfl .nil)))))
  refine t_net 3 1 (by kernel_rfl) rfl hF ?_
  refine net_cons rfl rfl (n_assign rfl evc) ?_
  refine net_nil fun a w1 hF hx => ?_
  replace hw := hw.next hx
  replace hF := hF.keep (.cons (t := 2) rfl (.cons (t := 4) rfl (.cons (t := 5) rfl (.cons (t := 6) rfl (.cons (t := 8) rfl (.cons (t := 10) rfl .nil))))))
  refine wpList_nil ?_
  try simp only [List.nil_append, List.cons_append, List.set_cons_zero, List.set_cons_succ] at hw
  refine wp_seq (reg_seq 2 (hF _ _) (by kernel_rfl) ?_)
  refine net_cons rfl rfl (n_ret rfl Try.call29 .nil (fun _ hx => (alive_c _))) ?_
  refine net_cons rfl rfl (n_assign rfl (ev rfl)) ?_
  refine net_nil fun a w1 hF hx => ?_
  replace hw := hw.next hx
  replace hF := hF.keep (.cons (t := 2) rfl (.cons (t := 4) rfl (.cons (t := 5) rfl (.cons (t := 6) rfl (.cons (t := 8) rfl (.cons (t := 10) rfl (.cons (t := 11) rfl .nil)))))))
  refine wpList_nil ?_
  try simp only [List.nil_append, List.cons_append, List.set_cons_zero, List.set_cons_succ] at hw
  refine wp_seq (wp_region_lit ?_)
  refine t_net 0 6 (by kernel_rfl) rfl hF ?_
  refine net_cons rfl rfl (n_load rfl (ev rfl) (ldN hw (i := 0) (vs := _) rfl Try.isAgg23 Try.sizeOf23 (kc_len _) (cut_whole (kc_len _)))) ?_
  refine net_cons rfl rfl (n_load rfl (ev rfl) (ldN hw (i := 1) (vs := _) rfl Try.isAgg28 Try.sizeOf28 rfl rfl)) ?_
  refine net_cons rfl rfl (n_move rfl (ev rfl)) ?_
  refine net_cons rfl rfl (n_load rfl (ev rfl) (ldN hw (i := 2) (vs := _) rfl Try.isAgg23 Try.sizeOf23 (kc_len _) (cut_whole (kc_len _)))) ?_
  refine net_cons rfl rfl (n_move rfl (ev rfl)) ?_
  refine net_cons rfl rfl (n_ret rfl Try.call21 (.cons (ev rfl) (.cons (ev rfl) (.cons (ev rfl) (.cons (ev rfl) (.cons (ev rfl) .nil))))) (fun _ hx => (Seal_c root session kd dp dg p q g nonce m c A l hp hq hg hno hl hm _ (hR.ext (hw.ext.trans hx))))) ?_
  refine net_nil fun a w1 hF hx => ?_
  obtain ⟨s32, h_, hw⟩ := hw.ex hx (hF.at_ 32 _ rfl)
  replace hF := hF.now h_
  replace hF := hF.keep (.cons (t := 5) rfl (.cons (t := 6) rfl (.cons (t := 8) rfl (.cons (t := 10) rfl (.cons (t := 11) rfl (.cons (t := 32) rfl .nil))))))
  obtain ⟨A32, c32, rfl, hle32, _, _⟩ := hw.rd (i := 3) rfl
  refine t_net 6 4 (by kernel_rfl) rfl hF ?_
  refine net_cons rfl rfl (n_move rfl (ev rfl)) ?_
  refine net_cons rfl rfl (n_extract rfl (ev rfl) rfl) ?_
  refine net_cons rfl rfl (n_extract rfl (ev rfl) rfl) ?_
  refine net_cons rfl rfl (n_alloc rfl Try.zeroValue45 rfl) ?_
  refine net_nil fun a w1 hF hx => ?_
  obtain ⟨b12, h_, hw⟩ := hw.blk hx (hF.at_ 12 _ rfl)
  replace hF := hF.now h_
  replace hF := hF.keep (.cons (t := 5) rfl (.cons (t := 6) rfl (.cons (t := 8) rfl (.cons (t := 10) rfl (.cons (t := 11) rfl (.cons (t := 12) rfl (.cons (t := 33) rfl (.cons (t := 34) rfl .nil))))))))
  refine t_store (i := 4) rfl rfl rfl hF hw rfl (ev rfl) (ev rfl) rfl one_hcs Try.sizeOf45 (hcs_len _ _ _ _ _) (by first | decide | (rw [hcs_len]; decide)) (seg_whole (by rw [hcs_len] <;> rfl)) fun w1 hw => ?_
  refine t_net 11 1 (by kernel_rfl) rfl hF ?_
  refine net_cons rfl rfl (n_assign rfl (ev rfl)) ?_
  refine net_nil fun a w1 hF hx => ?_
  replace hw := hw.next hx
  replace hF := hF.keep (.cons (t := 5) rfl (.cons (t := 6) rfl (.cons (t := 8) rfl (.cons (t := 10) rfl (.cons (t := 11) rfl (.cons (t := 12) rfl (.cons (t := 13) rfl .nil)))))))
  refine wpList_nil ?_
  try simp only [List.nil_append, List.cons_append, List.set_cons_zero, List.set_cons_succ] at hw
  refine wp_seq ?_
  refine wp_seq (reg_seq 2 (hF _ _) (by kernel_rfl) ?_)
  refine net_cons rfl rfl (n_move rfl (ev rfl)) ?_
  refine net_cons rfl rfl (n_bin rfl (ev rfl) evc (r_neq (b := 0))) ?_
  refine net_nil fun a w1 hF hx => ?_
  replace hw := hw.next hx
  replace hF := hF.keep (.cons (t := 5) rfl (.cons (t := 6) rfl (.cons (t := 8) rfl (.cons (t := 10) rfl (.cons (t := 11) rfl (.cons (t := 12) rfl (.cons (t := 36) rfl .nil)))))))
  refine wpList_nil ?_
  try simp only [List.nil_append, List.cons_append, List.set_cons_zero, List.set_cons_succ] at hw
  refine wp_cond_split (hF.ev (ev rfl)) (fun h36 => ?_) (fun h36 => ?_)
  · refine wp_seq (reg_seq 2 (hF _ _) (by kernel_rfl) ?_)
    refine net_cons rfl rfl (n_move rfl (ev rfl)) ?_
    refine net_cons rfl rfl (n_assign rfl (ev rfl)) ?_
    refine net_nil fun a w1 hF hx => ?_
    replace hw := hw.next hx
    replace hF := hF.keep (.cons (t := 5) rfl (.cons (t := 6) rfl (.cons (t := 8) rfl (.cons (t := 10) rfl (.cons (t := 11) rfl (.cons (t := 12) rfl (.cons (t := 36) rfl .nil)))))))
    refine wpList_nil ?_
    try simp only [List.nil_append, List.cons_append, List.set_cons_zero, List.set_cons_succ] at hw
    refine wp_ret (go_then_r (ret1 hF Try.results7 rfl ?_))
    exact ⟨_, rfl, hw.ext, rfl⟩
  · obtain ⟨hz, hok, hll⟩ := seal_yes h36
    obtain ⟨hz1, hz2, hz3, hz4, hz5, hz6, hz7⟩ := okS_all hz
    obtain ⟨hz8, hz9, hz10, hz11, hz12⟩ := okG_q hz6
    obtain ⟨d, rfl⟩ := Int.eq_ofNat_of_zero_le hz2
    obtain ⟨n, rfl⟩ := Int.eq_ofNat_of_zero_le (show 0 ≤ dg by omega)
    have hs := sealR_ok (root := root) (session := session) (nonce := nonce) hz (by simpa using hok) (show l.length ≤ n by omega)
    rw [hs] at hF hw
    have hco : cofR root kd d n p q g = (cfs root n q, 0) := cofR_ok hz rfl
    have hv0 := val_cfs (root := root) (x := 0) hz (by omega)
    have hbq := base_q (root := root) (nonce := nonce) hz6
    have hb2 := base_two (root := root) (nonce := nonce) hz6
    have hbl := base_lt (root := root) (nonce := nonce) hz6
    have hpvq := Nat.mod_lt (pv (cfs root n q) 0) (show 0 < q by omega)
    have hgl : liftN p q (baseN root p q g nonce) (cfs root n q) 0 < p := Nat.mod_lt _ (by omega)
    have hpl := ptsL_len (root := root) (d := d) (p := p) (q := q) (g := g) (nonce := nonce) (show l.length ≤ n by omega)
    refine wp_skip ?_
    refine wp_seq (wp_region_lit ?_)
    refine t_net 0 3 (by kernel_rfl) rfl hF ?_
    refine net_cons rfl rfl (n_load rfl (ev rfl) (ldN hw (i := 0) (vs := _) rfl Try.isAgg23 Try.sizeOf23 (kc_len _) (cut_whole (kc_len _)))) ?_
    refine net_cons rfl rfl (n_load rfl (ev rfl) (ldN hw (i := 1) (vs := _) rfl Try.isAgg28 Try.sizeOf28 rfl rfl)) ?_
    refine net_cons rfl rfl (n_ret rfl Try.call32 (.cons (ev rfl) (.cons (ev rfl) .nil)) (fun _ hx => (Coefficients_c root kd d n p q g hp hq hg _))) ?_
    refine net_nil fun a w1 hF hx => ?_
    obtain ⟨s41, h_, hw⟩ := hw.ex hx (hF.at_ 41 _ rfl)
    replace hF := hF.now h_
    replace hF := hF.keep (.cons (t := 5) rfl (.cons (t := 6) rfl (.cons (t := 8) rfl (.cons (t := 10) rfl (.cons (t := 11) rfl (.cons (t := 12) rfl (.cons (t := 36) rfl (.cons (t := 41) rfl .nil))))))))
    obtain ⟨A41, c41, rfl, _, _, _⟩ := hw.rd (i := 5) rfl
    refine t_net 3 5 (by kernel_rfl) rfl hF ?_
    refine net_cons rfl rfl (n_move rfl (ev rfl)) ?_
    refine net_cons rfl rfl (n_extract rfl (ev rfl) rfl) ?_
    refine net_cons rfl rfl (n_extract rfl (ev rfl) rfl) ?_
    refine net_cons rfl rfl (n_assign rfl (ev rfl)) ?_
    refine net_cons rfl rfl (n_assign rfl (ev rfl)) ?_
    refine net_nil fun a w1 hF hx => ?_
    replace hw := hw.next hx
    replace hF := hF.keep (.cons (t := 5) rfl (.cons (t := 6) rfl (.cons (t := 8) rfl (.cons (t := 10) rfl (.cons (t := 11) rfl (.cons (t := 12) rfl (.cons (t := 14) rfl (.cons (t := 15) rfl (.cons (t := 36) rfl .nil)))))))))
    refine wpList_nil ?_
    try simp only [List.nil_append, List.cons_append, List.set_cons_zero, List.set_cons_succ] at hw
    obtain ⟨_, _, hse_, _, hR41, _⟩ := hw.rd (i := 5) rfl
    injection hse_ with hA_ _ _
    subst hA_
    refine wp_seq (reg_seq 8 (hF _ _) (by kernel_rfl) ?_)
    refine net_cons rfl rfl (n_load rfl (ev rfl) (ldN hw (i := 1) (vs := _) rfl Try.isAgg28 Try.sizeOf28 rfl rfl)) ?_
    refine net_cons rfl rfl (n_move rfl (ev rfl)) ?_
    refine net_cons rfl rfl (n_ret rfl Try.call33 (.cons (ev rfl) (.cons (ev rfl) (.cons evc .nil))) (fun _ hx => (PValue_c kd d n p q g hp hq hg _ c41 A41 (cofR root kd d n p q g).1 0 rfl (by have := cof_len root kd d n p q g; omega) _ (hR41.ext hx)))) ?_
    refine net_cons rfl rfl (n_move rfl (ev rfl)) ?_
    refine net_cons rfl rfl (n_extract rfl (ev rfl) rfl) ?_
    refine net_cons rfl rfl (n_extract rfl (ev rfl) rfl) ?_
    refine net_cons rfl rfl (n_assign rfl (ev rfl)) ?_
    refine net_cons rfl rfl (n_assign rfl (ev rfl)) ?_
    refine net_nil fun a w1 hF hx => ?_
    replace hw := hw.next hx
    replace hF := hF.keep (.cons (t := 5) rfl (.cons (t := 6) rfl (.cons (t := 8) rfl (.cons (t := 10) rfl (.cons (t := 11) rfl (.cons (t := 12) rfl (.cons (t := 15) rfl (.cons (t := 16) rfl (.cons (t := 17) rfl (.cons (t := 36) rfl .nil))))))))))
    refine wpList_nil ?_
    try simp only [List.nil_append, List.cons_append, List.set_cons_zero, List.set_cons_succ] at hw
    refine wp_seq (reg_seq 12 (hF _ _) (by kernel_rfl) ?_)
    refine net_cons rfl rfl (n_fieldAddrO (off' := 1) rfl (ev rfl) Try.runUnderlying45 rfl Try.sizeOf24 rfl) ?_
    refine net_cons rfl rfl (n_load rfl (ev rfl) (ld1 hw (i := 4) rfl Try.isAgg24 rfl)) ?_
    refine net_cons rfl rfl (n_move rfl (ev rfl)) ?_
    refine net_cons rfl rfl (n_fieldAddrO (off' := 3) rfl (ev rfl) Try.runUnderlying28 rfl Try.sizeOf26 rfl) ?_
    refine net_cons rfl rfl (n_fieldAddrO (off' := 3) rfl (ev rfl) Try.runUnderlying26 rfl Try.sizeOf24 rfl) ?_
    refine net_cons rfl rfl (n_load rfl (ev rfl) (ld1 hw (i := 1) rfl Try.isAgg24 rfl)) ?_
    refine net_cons rfl rfl (n_ret rfl Try.call35 (.cons (ev rfl) (.cons (ev rfl) (.cons (ev rfl) .nil))) (fun _ hx => (pow_to (n := pv (cfs root n q) 0 % q) (by rw [hco]; simp only; rw [hv0]) (by omega) (by omega) (by omega) (by omega) _))) ?_
    refine net_cons rfl rfl (n_move rfl (ev rfl)) ?_
    refine net_cons rfl rfl (n_extract rfl (ev rfl) rfl) ?_
    refine net_cons rfl rfl (n_extract rfl (ev rfl) rfl) ?_
    refine net_cons rfl rfl (n_assign rfl (ev rfl)) ?_
    refine net_cons rfl rfl (n_assign rfl (ev rfl)) ?_
    refine net_nil fun a w1 hF hx => ?_
    replace hw := hw.next hx
    replace hF := hF.keep (.cons (t := 5) rfl (.cons (t := 6) rfl (.cons (t := 8) rfl (.cons (t := 10) rfl (.cons (t := 11) rfl (.cons (t := 12) rfl (.cons (t := 15) rfl (.cons (t := 17) rfl (.cons (t := 18) rfl (.cons (t := 19) rfl (.cons (t := 36) rfl .nil)))))))))))
    refine wpList_nil ?_
    try simp only [List.nil_append, List.cons_append, List.set_cons_zero, List.set_cons_succ] at hw
    refine wp_seq (reg_seq 14 (hF _ _) (by kernel_rfl) ?_)
    refine net_cons rfl rfl (n_fieldAddrO (off' := 1) rfl (ev rfl) Try.runUnderlying45 rfl Try.sizeOf24 rfl) ?_
    refine net_cons rfl rfl (n_load rfl (ev rfl) (ld1 hw (i := 4) rfl Try.isAgg24 rfl)) ?_
    refine net_cons rfl rfl (n_fieldAddrO (off' := 3) rfl (ev rfl) Try.runUnderlying28 rfl Try.sizeOf26 rfl) ?_
    refine net_cons rfl rfl (n_fieldAddrO (off' := 4) rfl (ev rfl) Try.runUnderlying26 rfl Try.sizeOf24 rfl) ?_
    refine net_cons rfl rfl (n_load rfl (ev rfl) (ld1 hw (i := 1) rfl Try.isAgg24 rfl)) ?_
    refine net_cons rfl rfl (n_fieldAddrO (off' := 3) rfl (ev rfl) Try.runUnderlying28 rfl Try.sizeOf26 rfl) ?_
    refine net_cons rfl rfl (n_fieldAddrO (off' := 3) rfl (ev rfl) Try.runUnderlying26 rfl Try.sizeOf24 rfl) ?_
    refine net_cons rfl rfl (n_load rfl (ev rfl) (ld1 hw (i := 1) rfl Try.isAgg24 rfl)) ?_
    refine net_cons rfl rfl (n_ret rfl Try.call35 (.cons (ev rfl) (.cons (ev rfl) (.cons (ev rfl) .nil))) (fun _ hx => (pow_to (b := (baseN root p q g nonce)) (n := q) rfl (by omega) (by omega) (by omega) (by omega) _))) ?_
    refine net_cons rfl rfl (n_move rfl (ev rfl)) ?_
    refine net_cons rfl rfl (n_extract rfl (ev rfl) rfl) ?_
    refine net_cons rfl rfl (n_extract rfl (ev rfl) rfl) ?_
    refine net_cons rfl rfl (n_assign rfl (ev rfl)) ?_
    refine net_cons rfl rfl (n_assign rfl (ev rfl)) ?_
    refine net_nil fun a w1 hF hx => ?_
    replace hw := hw.next hx
    replace hF := hF.keep (.cons (t := 5) rfl (.cons (t := 6) rfl (.cons (t := 8) rfl (.cons (t := 10) rfl (.cons (t := 11) rfl (.cons (t := 12) rfl (.cons (t := 15) rfl (.cons (t := 17) rfl (.cons (t := 18) rfl (.cons (t := 19) rfl (.cons (t := 20) rfl (.cons (t := 21) rfl (.cons (t := 36) rfl .nil)))))))))))))
    refine wpList_nil ?_
    try simp only [List.nil_append, List.cons_append, List.set_cons_zero, List.set_cons_succ] at hw
    refine wp_seq ?_
    refine wp_seq (reg_seq 29 (hF _ _) (by kernel_rfl) ?_)
    refine net_cons rfl rfl (n_move rfl (ev rfl)) ?_
    refine net_cons rfl rfl (n_bin rfl (ev rfl) evc (r_neq (b := 0))) ?_
    refine net_cons rfl rfl (n_move rfl (ev rfl)) ?_
    refine net_if rfl rfl rfl rfl (fun hc => (n_move rfl (ev rfl))) ?_
    refine net_if rfl rfl rfl rfl (fun hc => (n_bin rfl (evi rfl hc) evc (r_neq (b := 0)))) ?_
    refine net_cons rfl rfl (n_pick_or rfl (ev rfl) (fun h => (evi rfl h))) ?_
    refine net_cons rfl rfl (n_move rfl (ev rfl)) ?_
    refine net_if rfl rfl rfl rfl (fun hc => (n_move rfl (ev rfl))) ?_
    refine net_if rfl rfl rfl rfl (fun hc => (n_bin rfl (evi rfl hc) evc (r_neq (b := 0)))) ?_
    refine net_cons rfl rfl (n_pick_or rfl (ev rfl) (fun h => (evi rfl h))) ?_
    refine net_cons rfl rfl (n_move rfl (ev rfl)) ?_
    refine net_if rfl rfl rfl rfl (fun hc => (n_move rfl (ev rfl))) ?_
    refine net_if rfl rfl rfl rfl (fun hc => (n_bin rfl (evi rfl hc) evc (r_neq (b := 0)))) ?_
    refine net_cons rfl rfl (n_pick_or rfl (ev rfl) (fun h => (evi rfl h))) ?_
    refine net_cons rfl rfl (n_move rfl (ev rfl)) ?_
    refine net_if rfl rfl rfl rfl (fun hc => (n_move rfl (ev rfl))) ?_
    refine net_if rfl rfl rfl rfl (fun hc => (n_bin rfl (evi rfl hc) evc (r_neqN (b := 1)))) ?_
    refine net_cons rfl rfl (n_pick_or rfl (ev rfl) (fun h => (evi rfl h))) ?_
    refine net_cons rfl rfl (n_move rfl (ev rfl)) ?_
    refine net_if rfl rfl rfl rfl (fun hc => (n_fieldAddrO (off' := 1) rfl (ev rfl) Try.runUnderlying45 rfl Try.sizeOf24 rfl)) ?_
    refine net_if rfl rfl rfl rfl (fun hc => (n_load rfl (evi rfl hc) (ld1 hw (i := 4) rfl Try.isAgg24 rfl))) ?_
    refine net_if rfl rfl rfl rfl (fun hc => (n_bin rfl (evi rfl hc) evc (r_lssN (b := 2)))) ?_
    refine net_cons rfl rfl (n_pick_or rfl (ev rfl) (fun h => (evi rfl h))) ?_
    refine net_cons rfl rfl (n_move rfl (ev rfl)) ?_
    refine net_if rfl rfl rfl rfl (fun hc => (n_fieldAddrO (off' := 0) rfl (ev rfl) Try.runUnderlying45 rfl Try.sizeOf42 rfl)) ?_
    refine net_if rfl rfl rfl rfl (fun hc => (n_load rfl (evi rfl hc) (ld1 hw (i := 4) rfl Try.isAgg42 rfl))) ?_
    refine net_if rfl rfl rfl rfl (fun hc => (n_len rfl (evi rfl hc) Try.underlying42)) ?_
    refine net_if rfl rfl rfl rfl (fun hc => (n_bin rfl (evi rfl hc) evc (r_neq (b := 0)))) ?_
    refine net_cons rfl rfl (n_pick_or rfl (ev rfl) (fun h => (evi rfl h))) ?_
    refine net_nil fun a w1 hF hx => ?_
    replace hw := hw.next hx
    replace hF := hF.keep (.cons (t := 5) rfl (.cons (t := 6) rfl (.cons (t := 8) rfl (.cons (t := 10) rfl (.cons (t := 11) rfl (.cons (t := 12) rfl (.cons (t := 18) rfl (.cons (t := 36) rfl (.cons (t := 100) rfl .nil)))))))))
    refine wpList_nil ?_
    try simp only [List.nil_append, List.cons_append, List.set_cons_zero, List.set_cons_succ] at hw
    refine wp_cond_false ((hF.ev (ev rfl)).trans (congrArg Value.bool (by simp [hco, hv0, hbq]; omega))) ?_
    refine wp_skip ?_
    refine wp_seq ?_
    refine wp_seq (reg_seq 1 (hF _ _) (by kernel_rfl) ?_)
    refine net_cons rfl rfl (n_assign rfl evc) ?_
    refine net_nil fun a w1 hF hx => ?_
    replace hw := hw.next hx
    replace hF := hF.keep (.cons (t := 5) rfl (.cons (t := 6) rfl (.cons (t := 8) rfl (.cons (t := 10) rfl (.cons (t := 11) rfl (.cons (t := 12) rfl (.cons (t := 18) rfl (.cons (t := 22) rfl (.cons (t := 36) rfl (.cons (t := 100) rfl .nil))))))))))
    refine wpList_nil ?_
    try simp only [List.nil_append, List.cons_append, List.set_cons_zero, List.set_cons_succ] at hw
    refine wp_block ?_
    replace hw := hw.drop (.cons _ (.cons_cons _ (.cons_cons _ (.cons_cons _ (.cons_cons _ (.cons _ .slnil))))))
    refine wp_loop_ix (α := Nat) (fun i a w1 => FrV 148 [] [(6, .is (ptr0 b6)) , (8, .is (ptr0 b8)) , (11, .is (.bool true)) , (12, .is (ptr0 b12)) , (18, .is (U (liftN p q (baseN root p q g nonce) (cfs root n q) 0))) , (22, .is (I (i : Int)))] a ∧ Own w w1 [.blk b6 28 [B8 kd, I (d : Int), I (n : Int), U p, U q, U g], .blk b8 23 (kc session), .row (.slice A32 (ptsL root d n p q g l nonce).length c32) 31 2 (ptsL root d n p q g l nonce).length (pc (ptsL root d n p q g l nonce)), .blk b12 45 (hcs (.slice none 0 0) (baseN root p q g nonce) (.slice A32 (ptsL root d n p q g l nonce).length c32) (boxK root n p q g session nonce) (derK session 53 0))] ∧ (i ≤ (ptsL root d n p q g l nonce).length)) (fun i => (ptsL root d n p q g l nonce).length - i) (0) ⟨hF.keep (.cons (t := 6) rfl (.cons (t := 8) rfl (.cons (t := 11) rfl (.cons (t := 12) rfl (.cons (t := 18) rfl (.cons (t := 22) rfl (.nil))))))), hw, Nat.zero_le _⟩ ?_
    rintro i a w1 ⟨hF, hw, hi0⟩
    refine wp_seq ?_
    refine wp_seq (reg_seq 5 (hF _ _) (by kernel_rfl) ?_)
    refine net_cons rfl rfl (n_move rfl (ev rfl)) ?_
    refine net_cons rfl rfl (n_fieldAddrO (off' := 2) rfl (ev rfl) Try.runUnderlying45 rfl Try.sizeOf43 rfl) ?_
    refine net_cons rfl rfl (n_load rfl (ev rfl) (ld1 hw (i := 3) rfl Try.isAgg43 rfl)) ?_
    refine net_cons rfl rfl (n_len rfl (ev rfl) Try.underlying43) ?_
    refine net_cons rfl rfl (n_bin rfl (ev rfl) (ev rfl) r_lssN) ?_
    refine net_nil fun a w1 hF hx => ?_
    replace hw := hw.next hx
    replace hF := hF.keep (.cons (t := 6) rfl (.cons (t := 8) rfl (.cons (t := 11) rfl (.cons (t := 12) rfl (.cons (t := 18) rfl (.cons (t := 22) rfl (.cons (t := 105) rfl .nil)))))))
    refine wpList_nil ?_
    try simp only [List.nil_append, List.cons_append, List.set_cons_zero, List.set_cons_succ] at hw
    refine wp_cond_split (hF.ev (ev rfl)) (fun h105 => ?_) (fun h105 => ?_)
    · have hi : i < (ptsL root d n p q g l nonce).length := of_bool_t h105
      obtain ⟨z, hz0⟩ := some_at (l := (ptsL root d n p q g l nonce)) rfl hi
      obtain ⟨zx, _, hze⟩ := List.mem_map.1 (List.mem_of_getElem? hz0)
      have hzq : z.2 ^ q % p = 1 := by rw [← hze]; exact lift_q hz6 _ _
      have hzl : z.2 < p := by rw [← hze]; exact Nat.mod_lt _ (by omega)
      have hfl := pc_len (ptsL root d n p q g l nonce)
      obtain ⟨_, _, hse_, _, hR32, _⟩ := hw.rd (i := 2) rfl
      injection hse_ with hA_ _ _
      subst hA_
      have hF_ := hF
      have hw_ := hw
      obtain ⟨bX, oX, rfl, hcX⟩ := hR32.at_ (by omega)
      have hF := hF_
      have hw := hw_
      refine wp_skip ?_
      refine wp_seq (wp_block ?_)
      refine wp_seq (reg_draw 18 mixed (by kernel_rfl) (hF _ _) ?_)
      refine net_cons rfl rfl (n_fieldAddrO (off' := 2) rfl (ev rfl) Try.runUnderlying45 rfl Try.sizeOf43 rfl) ?_
      refine net_cons rfl rfl (n_load rfl (ev rfl) (ld1 hw (i := 3) rfl Try.isAgg43 rfl)) ?_
      refine net_cons rfl rfl (n_move rfl (ev rfl)) ?_
      refine net_cons rfl rfl (n_indexS (off' := oX + (i) * 2) rfl (ev rfl) (ev rfl) Try.underlying43 Try.sizeOf31 (by omega) rfl) ?_
      refine net_cons rfl rfl (n_fieldAddrO (off' := oX + (i) * 2 + 1) rfl (ev rfl) Try.runUnderlying31 rfl Try.sizeOf24 rfl) ?_
      refine net_cons rfl rfl (n_load rfl (ev rfl) (fun w2 hx2 => ld1R hcX (pc_at1 hz0) Try.isAgg24 (by omega) w2 hx2)) ?_
      refine net_cons rfl rfl (n_fieldAddrO (off' := 3) rfl (ev rfl) Try.runUnderlying28 rfl Try.sizeOf26 rfl) ?_
      refine net_cons rfl rfl (n_fieldAddrO (off' := 4) rfl (ev rfl) Try.runUnderlying26 rfl Try.sizeOf24 rfl) ?_
      refine net_cons rfl rfl (n_load rfl (ev rfl) (ld1 hw (i := 0) rfl Try.isAgg24 rfl)) ?_
      refine net_cons rfl rfl (n_fieldAddrO (off' := 3) rfl (ev rfl) Try.runUnderlying28 rfl Try.sizeOf26 rfl) ?_
      refine net_cons rfl rfl (n_fieldAddrO (off' := 3) rfl (ev rfl) Try.runUnderlying26 rfl Try.sizeOf24 rfl) ?_
      refine net_cons rfl rfl (n_load rfl (ev rfl) (ld1 hw (i := 0) rfl Try.isAgg24 rfl)) ?_
      refine net_cons rfl rfl (n_ret rfl Try.call35 (.cons (ev rfl) (.cons (ev rfl) (.cons (ev rfl) .nil))) (fun _ hx => (pow_to (b := z.2) (n := q) rfl (by omega) (by omega) (by omega) (by omega) _))) ?_
      refine net_cons rfl rfl (n_move rfl (ev rfl)) ?_
      refine net_cons rfl rfl (n_extract rfl (ev rfl) rfl) ?_
      refine net_cons rfl rfl (n_extract rfl (ev rfl) rfl) ?_
      refine net_cons rfl rfl (n_assign rfl (ev rfl)) ?_
      refine net_cons rfl rfl (n_assign rfl (ev rfl)) ?_
      refine net_nil fun a w1 hF hx => ?_
      replace hw := hw.next hx
      replace hF := hF.keep (.cons (t := 6) rfl (.cons (t := 8) rfl (.cons (t := 11) rfl (.cons (t := 12) rfl (.cons (t := 18) rfl (.cons (t := 22) rfl (.cons (t := 23) rfl (.cons (t := 24) rfl (.cons (t := 105) rfl .nil)))))))))
      refine wpList_nil ?_
      try simp only [List.nil_append, List.cons_append, List.set_cons_zero, List.set_cons_succ] at hw
      refine wp_seq (reg_seq 6 (hF _ _) (by kernel_rfl) ?_)
      refine net_cons rfl rfl (n_move rfl (ev rfl)) ?_
      refine net_cons rfl rfl (n_bin rfl (ev rfl) evc (r_neq (b := 0))) ?_
      refine net_cons rfl rfl (n_move rfl (ev rfl)) ?_
      refine net_if rfl rfl rfl rfl (fun hc => (n_move rfl (ev rfl))) ?_
      refine net_if rfl rfl rfl rfl (fun hc => (n_bin rfl (evi rfl hc) evc (r_neqN (b := 1)))) ?_
      refine net_cons rfl rfl (n_pick_or rfl (ev rfl) (fun h => (evi rfl h))) ?_
      refine net_nil fun a w1 hF hx => ?_
      replace hw := hw.next hx
      replace hF := hF.keep (.cons (t := 6) rfl (.cons (t := 8) rfl (.cons (t := 11) rfl (.cons (t := 12) rfl (.cons (t := 18) rfl (.cons (t := 22) rfl (.cons (t := 23) rfl (.cons (t := 24) rfl (.cons (t := 105) rfl (.cons (t := 129) rfl .nil))))))))))
      refine wpList_nil ?_
      try simp only [List.nil_append, List.cons_append, List.set_cons_zero, List.set_cons_succ] at hw
      refine wp_cond_false ((hF.ev (ev rfl)).trans (congrArg Value.bool (by rw [hzq]; simp))) ?_
      refine wp_skip ?_
      refine reg_seq 3 (hF _ _) (by kernel_rfl) ?_
      refine net_cons rfl rfl (n_move rfl (ev rfl)) ?_
      refine net_cons rfl rfl (n_bin rfl (ev rfl) evc (r_inc (by omega))) ?_
      refine net_cons rfl rfl (n_assign rfl (ev rfl)) ?_
      refine net_nil fun a w1 hF hx => ?_
      replace hw := hw.next hx
      replace hF := hF.keep (.cons (t := 6) rfl (.cons (t := 8) rfl (.cons (t := 11) rfl (.cons (t := 12) rfl (.cons (t := 18) rfl (.cons (t := 22) rfl (.cons (t := 23) rfl (.cons (t := 24) rfl (.cons (t := 105) rfl (.cons (t := 129) rfl .nil))))))))))
      refine wpList_nil ?_
      try simp only [List.nil_append, List.cons_append, List.set_cons_zero, List.set_cons_succ] at hw
      exact ⟨i + 1, ⟨hF.keep (.cons (t := 6) rfl (.cons (t := 8) rfl (.cons (t := 11) rfl (.cons (t := 12) rfl (.cons (t := 18) rfl (.cons (t := 22) rfl (.nil))))))), hw, by omega⟩, by omega⟩
    · refine wp_exit (go_then_e (go_then_e (go_exit ?_)))
      refine wp_seq (reg_draw 19 mixed (by kernel_rfl) (hF _ _) ?_)
      refine net_cons rfl rfl (n_move rfl (ev rfl)) ?_
      refine net_cons rfl rfl (n_move rfl (ev rfl)) ?_
      refine net_if rfl rfl rfl rfl (fun hc => (n_fieldAddrO (off' := 3) rfl (ev rfl) Try.runUnderlying45 rfl Try.sizeOf23 rfl)) ?_
      refine net_if rfl rfl rfl rfl (fun hc => (n_load rfl (evi rfl hc) (ldN hw (i := 3) (vs := _) rfl Try.isAgg23 Try.sizeOf23 (kc_len _) (hcs_box_at _ _ _ _ _)))) ?_
      refine net_if rfl rfl rfl rfl (fun hc => (n_build rfl .nil build_23_)) ?_
      refine net_if rfl rfl rfl rfl (fun hc => (n_move rfl (ev rfl))) ?_
      refine net_if rfl rfl rfl rfl (fun hc => (n_ret rfl Try.call37 (.cons (evi rfl hc) (.cons evc (.cons (evi rfl hc) .nil))) (fun _ hx => (Derive_c key0 42 (liftN p q (baseN root p q g nonce) (cfs root n q) 0) (by decide) (by omega) _)))) ?_
      refine net_if rfl rfl rfl rfl (fun hc => (n_load rfl (ev rfl) (ldN hw (i := 1) (vs := _) rfl Try.isAgg23 Try.sizeOf23 (kc_len _) (cut_whole (kc_len _))))) ?_
      refine net_if rfl rfl rfl rfl (fun hc => (n_ret rfl Try.call36 (.cons (evi rfl hc) (.cons (evi rfl hc) .nil)) (fun _ hx => (Encrypt_c _ session _)))) ?_
      refine net_if rfl rfl rfl rfl (fun hc => (n_bin rfl (evi rfl hc) (evi rfl hc) r_eqKey)) ?_
      refine net_cons rfl rfl (n_pick_and rfl (ev rfl) (fun h => (evi rfl h))) ?_
      refine net_cons rfl rfl (n_move rfl (ev rfl)) ?_
      refine net_if rfl rfl rfl rfl (fun hc => (n_fieldAddrO (off' := 19) rfl (ev rfl) Try.runUnderlying45 rfl Try.sizeOf23 rfl)) ?_
      refine net_if rfl rfl rfl rfl (fun hc => (n_load rfl (evi rfl hc) (ldN hw (i := 3) (vs := _) rfl Try.isAgg23 Try.sizeOf23 (kc_len _) (hcs_chk_at _ _ _ _ _)))) ?_
      refine net_if rfl rfl rfl rfl (fun hc => (n_load rfl (ev rfl) (ldN hw (i := 1) (vs := _) rfl Try.isAgg23 Try.sizeOf23 (kc_len _) (cut_whole (kc_len _))))) ?_
      refine net_if rfl rfl rfl rfl (fun hc => (n_ret rfl Try.call37 (.cons (evi rfl hc) (.cons evc (.cons evc .nil))) (fun _ hx => (Derive_c session 53 0 (by decide) (by decide) _)))) ?_
      refine net_if rfl rfl rfl rfl (fun hc => (n_bin rfl (evi rfl hc) (evi rfl hc) r_eqKey)) ?_
      refine net_cons rfl rfl (n_pick_and rfl (ev rfl) (fun h => (evi rfl h))) ?_
      refine net_cons rfl rfl (n_assign rfl (ev rfl)) ?_
      refine net_nil fun a w1 hF hx => ?_
      replace hw := hw.next hx
      replace hF := hF.keep (.cons (t := 6) rfl (.cons (t := 8) rfl (.cons (t := 10) rfl (.cons (t := 11) rfl (.cons (t := 12) rfl (.cons (t := 18) rfl (.cons (t := 22) rfl (.cons (t := 105) rfl .nil))))))))
      refine wpList_nil ?_
      try simp only [List.nil_append, List.cons_append, List.set_cons_zero, List.set_cons_succ] at hw
      refine wp_ret (ret1 hF Try.results7 rfl ?_)
      exact ⟨_, rfl, hw.ext, (congrArg Value.bool (by simp [boxK]))⟩
end Go.Proofs.Ythgpojlcbbgaoaa

