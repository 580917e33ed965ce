/- the law of many punctures -/
import Derived.Test.YthgpojlcbbgaoaaPunH

set_option autoImplicit false
set_option maxRecDepth 100000
set_option linter.unusedVariables false
set_option linter.unusedSimpArgs false
set_option linter.unnecessarySimpa false
namespace Go.Proofs.Ythgpojlcbbgaoaa
open Go.RowKit


theorem n_max {P : Program} {wr : World} {E : Env} {o : Oper} {x y : Operand} {t t' : TypeId} {a b : Int} (ho : o.op = .call { callee := .builtin .max, args := #[x, y], argTypes := #[t, t'] }) (hx : Ev E x (I a)) (hy : Ev E y (I b)) : nstep P wr E o (.is (I (if b > a then b else a))) :=
  n_run fun a w hw hop => ⟨_, w, by
    have h1 := hx.eval (by simp [ho, Op.operands, Call.operands]) hop
    have h2 := hy.eval (by simp [ho, Op.operands, Call.operands]) hop
    unfold execOp; rw [ho]; simp [resolve, invoke, builtin, Builtin.max_, Builtin.max2, h1, h2], Ext.refl w, rfl⟩
section
variable {d : Nat} (hd : d ≤ 6) (k : Key) (bs : List Nat)
include hd
theorem len_ok : (decide ((if (1 : Int) > ((manyB d bs (2 ^ d) * d : Nat) : Int) then (1 : Int) else ((manyB d bs (2 ^ d) * d : Nat) : Int)) < ((foldP d k bs).length : Int)) || (decide (((manyB d bs (2 ^ d) : Nat) : Int) = 0) && !decide (((foldP d k bs).length : Int) = 1))) = false := by
  obtain ⟨h1, h2⟩ := fold_len hd k bs
  rw [Bool.or_eq_false_iff, Bool.and_eq_false_iff]
  rcases Nat.eq_zero_or_pos (manyB d bs (2 ^ d)) with h0 | h0
  · have := h1 h0
    refine ⟨decide_eq_false ?_, .inr ?_⟩
    · split <;> omega
    · rw [decide_eq_true (by omega)]; rfl
  · have := h2 h0
    refine ⟨decide_eq_false ?_, .inl (decide_eq_false (by omega))⟩
    split <;> omega
theorem many_mul : manyB d bs (2 ^ d) * d ≤ 384 := by
  have h1 := manyB_le d bs (2 ^ d)
  have h2 : 2 ^ d ≤ 64 := Nat.pow_le_pow_right (n := 2) (by decide) hd
  exact Nat.le_trans (Nat.mul_le_mul (Nat.le_trans h1 h2) hd) (by decide)
theorem ev_at {u : Nat} (hu : u < 2 ^ d) : evR d (foldP d k bs) (u : Int) = if hasB d bs u = true then (key0, 6) else (derK (walkK (2 ^ d + u) d k) 33 0, 0) := by
  have hr : (decide ((u : Int) < 0) || decide (((2 ^ d : Nat) : Int) ≤ (u : Int))) = false := by
    rw [decide_eq_false (by omega), decide_eq_false (by omega)]; rfl
  have he := fold_at hd k hu bs
  simp only [evR, Int.toNat_natCast, fold_ok hd k bs, hr, if_true]
  rw [show (((2 ^ d : Nat) : Int) + (u : Int)).toNat = 2 ^ d + u by omega, he]
  by_cases h : hasB d bs u = true
  · rw [if_pos h, if_pos h]; rfl
  · rw [if_neg h, if_neg h]; rfl
theorem ev_full {u : Nat} (hu : u < 2 ^ d) : evR d (foldP d k []) (u : Int) = (derK (walkK (2 ^ d + u) d k) 33 0, 0) := by
  rw [ev_at hd k [] hu]; rfl
theorem law_arg {m : Int} (h : (decide (m < 0) || decide (((2 ^ d : Nat) : Int) ≤ m)) = true) : ((true && decide ((evR d (foldP d k bs) m).2 = 2)) && decide ((evR d (foldP d k []) m).2 = 2)) = true := by
  rw [evR_arg (fold_ok hd k bs) (by simpa using h), evR_arg (fold_ok hd k []) (by simpa using h)]
  rfl
theorem law_has {u : Nat} (hu : u < 2 ^ d) (h : hasI d bs (u : Int) = true) : ((true && decide ((evR d (foldP d k bs) (u : Int)).2 = 6)) && decide ((evR d (foldP d k []) (u : Int)).2 = 0)) = true := by
  rw [hasI_nat] at h
  rw [ev_full hd k hu, ev_at hd k bs hu, if_pos h]
  rfl
theorem law_not {u : Nat} (hu : u < 2 ^ d) (h : hasI d bs (u : Int) = false) : (((true && decide ((evR d (foldP d k bs) (u : Int)).2 = 0)) && decide ((evR d (foldP d k []) (u : Int)).2 = 0)) && decide ((evR d (foldP d k bs) (u : Int)).1 = (evR d (foldP d k []) (u : Int)).1)) = true := by
  rw [hasI_nat] at h
  rw [ev_full hd k hu, ev_at hd k bs hu, if_neg (by rw [h]; decide)]
  simp
end


set_option maxHeartbeats 4000000 in
theorem PolyPunctured_c (k : Key) (dz : Int) (n c : Nat) (A : Option Addr) (bs : List Nat) (hl : bs.length = n) (hn : n ≤ 9223372036854775800) (hb : ∀ b ∈ bs, b < 256) (m : Int) (hm0 : -9223372036854775808 ≤ m) (hm1 : m < 9223372036854775808) (w : World) (hR : Rd w A (bs.map B8)) : RetF Try.prog 14 [K k, I dz, .slice A n c, I m].toArray w (.is (.bool true)) := by
  refine enter Try.func14 rfl Try.ntmps14 rfl fun a hF => ?_
  have hw := Own.start w
  refine wp_seq (wp_region_lit ?_)
  refine t_net 0 1 (by kernel_rfl) rfl hF ?_
  refine net_cons rfl rfl (n_box rfl (ev rfl) rfl) ?_
  refine net_nil fun a w1 hF hx => ?_
  obtain ⟨b4, h_, hw⟩ := hw.blk hx (hF.at_ 4 _ rfl)
  replace hF := hF.now h_
  replace hF := hF.keep (.cons (t := 1) rfl (.cons (t := 2) rfl (.cons (t := 3) rfl (.cons (t := 4) rfl .nil))))
  refine t_net 1 1 (by kernel_rfl) rfl hF ?_
  refine net_cons rfl rfl (n_assign rfl evc) ?_
  refine net_nil fun a w1 hF hx => ?_
  replace hw := hw.next hx
  replace hF := hF.keep (.cons (t := 1) rfl (.cons (t := 2) rfl (.cons (t := 3) rfl (.cons (t := 4) rfl (.cons (t := 8) rfl .nil)))))
  refine wpList_nil ?_
  try simp only [List.nil_append, List.cons_append, List.set_cons_zero, List.set_cons_succ] at hw
  refine wp_seq (reg_seq 2 (hF _ _) (by kernel_rfl) ?_)
  refine net_cons rfl rfl (n_ret rfl Try.call29 .nil (fun _ hx => (alive_c _))) ?_
  refine net_cons rfl rfl (n_assign rfl (ev rfl)) ?_
  refine net_nil fun a w1 hF hx => ?_
  replace hw := hw.next hx
  replace hF := hF.keep (.cons (t := 1) rfl (.cons (t := 2) rfl (.cons (t := 3) rfl (.cons (t := 4) rfl (.cons (t := 8) rfl (.cons (t := 9) rfl .nil))))))
  refine wpList_nil ?_
  try simp only [List.nil_append, List.cons_append, List.set_cons_zero, List.set_cons_succ] at hw
  refine wp_seq ?_
  refine wp_seq (reg_seq 11 (hF _ _) (by kernel_rfl) ?_)
  refine net_cons rfl rfl (n_move rfl (ev rfl)) ?_
  refine net_cons rfl rfl (n_bin rfl (ev rfl) evc (r_lss (b := 0))) ?_
  refine net_cons rfl rfl (n_move rfl (ev rfl)) ?_
  refine net_if rfl rfl rfl rfl (fun hc => (n_move rfl (ev rfl))) ?_
  refine net_if rfl rfl rfl rfl (fun hc => (n_bin rfl (evi rfl hc) evc (r_gtr (b := 6)))) ?_
  refine net_cons rfl rfl (n_pick_or rfl (ev rfl) (fun h => (evi rfl h))) ?_
  refine net_cons rfl rfl (n_move rfl (ev rfl)) ?_
  refine net_if rfl rfl rfl rfl (fun hc => (n_move rfl (ev rfl))) ?_
  refine net_if rfl rfl rfl rfl (fun hc => (n_len rfl (evi rfl hc) Try.underlying108)) ?_
  refine net_if rfl rfl rfl rfl (fun hc => (n_bin rfl (evi rfl hc) evc (r_gtr (b := 300)))) ?_
  refine net_cons rfl rfl (n_pick_or rfl (ev rfl) (fun h => (evi rfl h))) ?_
  refine net_nil fun a w1 hF hx => ?_
  replace hw := hw.next hx
  replace hF := hF.keep (.cons (t := 1) rfl (.cons (t := 2) rfl (.cons (t := 3) rfl (.cons (t := 4) rfl (.cons (t := 8) rfl (.cons (t := 9) rfl (.cons (t := 31) rfl .nil)))))))
  refine wpList_nil ?_
  try simp only [List.nil_append, List.cons_append, List.set_cons_zero, List.set_cons_succ] at hw
  refine wp_cond_split (hF.ev (ev rfl)) (fun h31 => ?_) (fun h31 => ?_)
  · refine wp_seq (reg_seq 2 (hF _ _) (by kernel_rfl) ?_)
    refine net_cons rfl rfl (n_move rfl (ev rfl)) ?_
    refine net_cons rfl rfl (n_assign rfl (ev rfl)) ?_
    refine net_nil fun a w1 hF hx => ?_
    replace hw := hw.next hx
    replace hF := hF.keep (.cons (t := 1) rfl (.cons (t := 2) rfl (.cons (t := 3) rfl (.cons (t := 4) rfl (.cons (t := 8) rfl (.cons (t := 9) rfl (.cons (t := 31) rfl .nil)))))))
    refine wpList_nil ?_
    try simp only [List.nil_append, List.cons_append, List.set_cons_zero, List.set_cons_succ] at hw
    refine wp_ret (go_then_r (ret1 hF Try.results14 rfl ?_))
    exact ⟨_, rfl, hw.ext, rfl⟩
  · simp only [Bool.or_eq_false_iff, decide_eq_false_iff_not] at h31
    obtain ⟨d, rfl⟩ := Int.eq_ofNat_of_zero_le (show 0 ≤ dz by omega)
    have hd : d ≤ 6 := by omega
    have hpw := pow_le64 (d := d) (by omega)
    refine wp_skip ?_
    refine wp_seq (wp_region_lit ?_)
    refine t_net 0 4 (by kernel_rfl) rfl hF ?_
    refine net_cons rfl rfl (n_load rfl (ev rfl) (ldN hw (i := 0) (vs := _) rfl Try.isAgg23 Try.sizeOf23 (kc_len _) (cut_whole (kc_len _)))) ?_
    refine net_cons rfl rfl (n_move rfl (ev rfl)) ?_
    refine net_cons rfl rfl (n_move rfl (ev rfl)) ?_
    refine net_cons rfl rfl (n_ret rfl Try.call60 (.cons (ev rfl) (.cons (ev rfl) (.cons (ev rfl) .nil))) (fun _ hx => (punctured_c k d hd n c A bs hl (by omega) hb _ (hR.ext (hw.ext.trans hx))))) ?_
    refine net_nil fun a w1 hF hx => ?_
    obtain ⟨s37, h_, hw⟩ := hw.ex hx (hF.at_ 37 _ rfl)
    replace hF := hF.now h_
    replace hF := hF.keep (.cons (t := 1) rfl (.cons (t := 2) rfl (.cons (t := 3) rfl (.cons (t := 4) rfl (.cons (t := 8) rfl (.cons (t := 9) rfl (.cons (t := 31) rfl (.cons (t := 37) rfl .nil))))))))
    obtain ⟨A37, c37, rfl, hle37, _, _⟩ := hw.rd (i := 1) rfl
    refine t_net 4 4 (by kernel_rfl) rfl hF ?_
    refine net_cons rfl rfl (n_move rfl (ev rfl)) ?_
    refine net_cons rfl rfl (n_extract rfl (ev rfl) rfl) ?_
    refine net_cons rfl rfl (n_extract rfl (ev rfl) rfl) ?_
    refine net_cons rfl rfl (n_alloc rfl Try.zeroValue83 rfl) ?_
    refine net_nil fun a w1 hF hx => ?_
    obtain ⟨b10, h_, hw⟩ := hw.blk hx (hF.at_ 10 _ rfl)
    replace hF := hF.now h_
    replace hF := hF.keep (.cons (t := 1) rfl (.cons (t := 2) rfl (.cons (t := 3) rfl (.cons (t := 4) rfl (.cons (t := 8) rfl (.cons (t := 9) rfl (.cons (t := 10) rfl (.cons (t := 31) rfl (.cons (t := 38) rfl (.cons (t := 39) rfl .nil))))))))))
    refine t_store (i := 2) rfl rfl rfl hF hw rfl (ev rfl) (ev rfl) rfl one_pu Try.sizeOf83 rfl (Nat.le_of_ble_eq_true rfl) rfl fun w1 hw => ?_
    refine t_net 9 1 (by kernel_rfl) rfl hF ?_
    refine net_cons rfl rfl (n_assign rfl (ev rfl)) ?_
    refine net_nil fun a w1 hF hx => ?_
    replace hw := hw.next hx
    replace hF := hF.keep (.cons (t := 1) rfl (.cons (t := 2) rfl (.cons (t := 3) rfl (.cons (t := 4) rfl (.cons (t := 8) rfl (.cons (t := 9) rfl (.cons (t := 10) rfl (.cons (t := 11) rfl (.cons (t := 31) rfl .nil)))))))))
    refine wpList_nil ?_
    try simp only [List.nil_append, List.cons_append, List.set_cons_zero, List.set_cons_succ] at hw
    refine wp_seq (wp_region_lit ?_)
    refine t_net 0 3 (by kernel_rfl) rfl hF ?_
    refine net_cons rfl rfl (n_load rfl (ev rfl) (ldN hw (i := 0) (vs := _) rfl Try.isAgg23 Try.sizeOf23 (kc_len _) (cut_whole (kc_len _)))) ?_
    refine net_cons rfl rfl (n_move rfl (ev rfl)) ?_
    refine net_cons rfl rfl (n_ret rfl Try.call45 (.cons (ev rfl) (.cons (ev rfl) .nil)) (fun _ hx => (full_k hd k _))) ?_
    refine net_nil fun a w1 hF hx => ?_
    obtain ⟨s43, h_, hw⟩ := hw.ex hx (hF.at_ 43 _ rfl)
    replace hF := hF.now h_
    replace hF := hF.keep (.cons (t := 1) rfl (.cons (t := 2) rfl (.cons (t := 3) rfl (.cons (t := 4) rfl (.cons (t := 8) rfl (.cons (t := 9) rfl (.cons (t := 10) rfl (.cons (t := 11) rfl (.cons (t := 31) rfl (.cons (t := 43) rfl .nil))))))))))
    obtain ⟨A43, c43, rfl, hle43, _, _⟩ := hw.rd (i := 3) rfl
    refine t_net 3 4 (by kernel_rfl) rfl hF ?_
    refine net_cons rfl rfl (n_move rfl (ev rfl)) ?_
    refine net_cons rfl rfl (n_extract rfl (ev rfl) rfl) ?_
    refine net_cons rfl rfl (n_extract rfl (ev rfl) rfl) ?_
    refine net_cons rfl rfl (n_alloc rfl Try.zeroValue83 rfl) ?_
    refine net_nil fun a w1 hF hx => ?_
    obtain ⟨b12, h_, hw⟩ := hw.blk hx (hF.at_ 12 _ rfl)
    replace hF := hF.now h_
    replace hF := hF.keep (.cons (t := 1) rfl (.cons (t := 2) rfl (.cons (t := 3) rfl (.cons (t := 4) rfl (.cons (t := 8) rfl (.cons (t := 9) rfl (.cons (t := 10) rfl (.cons (t := 11) rfl (.cons (t := 12) rfl (.cons (t := 31) rfl (.cons (t := 44) rfl (.cons (t := 45) rfl .nil))))))))))))
    refine t_store (i := 4) rfl rfl rfl hF hw rfl (ev rfl) (ev rfl) rfl one_pu Try.sizeOf83 rfl (Nat.le_of_ble_eq_true rfl) rfl fun w1 hw => ?_
    refine t_net 8 1 (by kernel_rfl) rfl hF ?_
    refine net_cons rfl rfl (n_assign rfl (ev rfl)) ?_
    refine net_nil fun a w1 hF hx => ?_
    replace hw := hw.next hx
    replace hF := hF.keep (.cons (t := 1) rfl (.cons (t := 2) rfl (.cons (t := 3) rfl (.cons (t := 4) rfl (.cons (t := 8) rfl (.cons (t := 9) rfl (.cons (t := 10) rfl (.cons (t := 11) rfl (.cons (t := 12) rfl (.cons (t := 13) rfl (.cons (t := 31) rfl .nil)))))))))))
    refine wpList_nil ?_
    try simp only [List.nil_append, List.cons_append, List.set_cons_zero, List.set_cons_succ] at hw
    refine wp_seq ?_
    refine wp_seq (reg_seq 6 (hF _ _) (by kernel_rfl) ?_)
    refine net_cons rfl rfl (n_move rfl (ev rfl)) ?_
    refine net_cons rfl rfl (n_not rfl (ev rfl)) ?_
    refine net_cons rfl rfl (n_move rfl (ev rfl)) ?_
    refine net_if rfl rfl rfl rfl (fun hc => (n_move rfl (ev rfl))) ?_
    refine net_if rfl rfl rfl rfl (fun hc => (n_bin rfl (evi rfl hc) evc (r_neq (b := 0)))) ?_
    refine net_cons rfl rfl (n_pick_or rfl (ev rfl) (fun h => (evi rfl h))) ?_
    refine net_nil fun a w1 hF hx => ?_
    replace hw := hw.next hx
    replace hF := hF.keep (.cons (t := 1) rfl (.cons (t := 2) rfl (.cons (t := 3) rfl (.cons (t := 4) rfl (.cons (t := 8) rfl (.cons (t := 9) rfl (.cons (t := 10) rfl (.cons (t := 12) rfl (.cons (t := 31) rfl (.cons (t := 51) rfl .nil))))))))))
    refine wpList_nil ?_
    try simp only [List.nil_append, List.cons_append, List.set_cons_zero, List.set_cons_succ] at hw
    refine wp_cond_false ((hF.ev (ev rfl)).trans (congrArg Value.bool (by simp))) ?_
    refine wp_skip ?_
    refine wp_seq (reg_seq 1 (hF _ _) (by kernel_rfl) ?_)
    refine net_cons rfl rfl (n_assign rfl evc) ?_
    refine net_nil fun a w1 hF hx => ?_
    replace hw := hw.next hx
    replace hF := hF.keep (.cons (t := 1) rfl (.cons (t := 2) rfl (.cons (t := 3) rfl (.cons (t := 4) rfl (.cons (t := 8) rfl (.cons (t := 9) rfl (.cons (t := 10) rfl (.cons (t := 12) rfl (.cons (t := 14) rfl (.cons (t := 31) rfl (.cons (t := 51) rfl .nil)))))))))))
    refine wpList_nil ?_
    try simp only [List.nil_append, List.cons_append, List.set_cons_zero, List.set_cons_succ] at hw
    refine wp_seq ?_
    refine wp_seq (reg_seq 1 (hF _ _) (by kernel_rfl) ?_)
    refine net_cons rfl rfl (n_assign rfl evc) ?_
    refine net_nil fun a w1 hF hx => ?_
    replace hw := hw.next hx
    replace hF := hF.keep (.cons (t := 1) rfl (.cons (t := 2) rfl (.cons (t := 3) rfl (.cons (t := 4) rfl (.cons (t := 8) rfl (.cons (t := 9) rfl (.cons (t := 10) rfl (.cons (t := 12) rfl (.cons (t := 14) rfl (.cons (t := 15) rfl (.cons (t := 31) rfl (.cons (t := 51) rfl .nil))))))))))))
    refine wpList_nil ?_
    try simp only [List.nil_append, List.cons_append, List.set_cons_zero, List.set_cons_succ] at hw
    refine wp_block ?_
    replace hw := hw.drop (.cons _ (.cons_cons _ (.cons_cons _ (.cons_cons _ (.cons_cons _ .slnil)))))
    refine wp_loop_ix (α := Nat) (fun i a w1 => FrV 138 [] [(1, .is (I (d : Int))) , (2, .is (.slice A n c)) , (3, .is (I m)) , (9, .is (.bool true)) , (10, .is (ptr0 b10)) , (12, .is (ptr0 b12)) , (14, .is (I ((manyB d bs i : Nat) : Int))) , (15, .is (I (i : Int)))] a ∧ Own w w1 [.row (.slice A37 (foldP d k bs).length c37) 95 18 (foldP d k bs).length ((foldP d k bs).flatMap lc), .blk b10 83 [I (d : Int), .slice A37 (foldP d k bs).length c37], .row (.slice A43 (foldP d k []).length c43) 95 18 (foldP d k []).length ((foldP d k []).flatMap lc), .blk b12 83 [I (d : Int), .slice A43 (foldP d k []).length c43]] ∧ (i ≤ 2 ^ d)) (fun i => 2 ^ d - i) (0) ⟨hF.keep (.cons (t := 1) rfl (.cons (t := 2) rfl (.cons (t := 3) rfl (.cons (t := 9) rfl (.cons (t := 10) rfl (.cons (t := 12) rfl (.cons (t := 14) rfl (.cons (t := 15) rfl (.nil))))))))), hw, Nat.zero_le _⟩ ?_
    rintro i a w1 ⟨hF, hw, hi0⟩
    refine wp_seq ?_
    refine wp_seq (reg_seq 4 (hF _ _) (by kernel_rfl) ?_)
    refine net_cons rfl rfl (n_move rfl (ev rfl)) ?_
    refine net_cons rfl rfl (n_move rfl (ev rfl)) ?_
    refine net_cons rfl rfl (n_bin rfl evc (ev rfl) (sh1n hd)) ?_
    refine net_cons rfl rfl (n_bin rfl (ev rfl) (ev rfl) r_lssN) ?_
    refine net_nil fun a w1 hF hx => ?_
    replace hw := hw.next hx
    replace hF := hF.keep (.cons (t := 1) rfl (.cons (t := 2) rfl (.cons (t := 3) rfl (.cons (t := 9) rfl (.cons (t := 10) rfl (.cons (t := 12) rfl (.cons (t := 14) rfl (.cons (t := 15) rfl (.cons (t := 55) rfl .nil)))))))))
    refine wpList_nil ?_
    try simp only [List.nil_append, List.cons_append, List.set_cons_zero, List.set_cons_succ] at hw
    refine wp_cond_split (hF.ev (ev rfl)) (fun h55 => ?_) (fun h55 => ?_)
    · have hi : i < 2 ^ d := of_bool_t h55
      have hml := manyB_le d bs i
      refine wp_skip ?_
      refine wp_seq (wp_block ?_)
      refine wp_seq (reg_seq 4 (hF _ _) (by kernel_rfl) ?_)
      refine net_cons rfl rfl (n_move rfl (ev rfl)) ?_
      refine net_cons rfl rfl (n_move rfl (ev rfl)) ?_
      refine net_cons rfl rfl (n_move rfl (ev rfl)) ?_
      refine net_cons rfl rfl (n_ret rfl Try.call61 (.cons (ev rfl) (.cons (ev rfl) (.cons (ev rfl) .nil))) (fun _ hx => (has_c d hd n c A bs hl (by omega) hb (i : Int) _ (hR.ext (hw.ext.trans hx))))) ?_
      refine net_nil fun a w1 hF hx => ?_
      replace hw := hw.next hx
      replace hF := hF.keep (.cons (t := 1) rfl (.cons (t := 2) rfl (.cons (t := 3) rfl (.cons (t := 9) rfl (.cons (t := 10) rfl (.cons (t := 12) rfl (.cons (t := 14) rfl (.cons (t := 15) rfl (.cons (t := 55) rfl (.cons (t := 61) rfl .nil))))))))))
      refine wpList_nil ?_
      try simp only [List.nil_append, List.cons_append, List.set_cons_zero, List.set_cons_succ] at hw
      refine wp_cond_split (hF.ev (ev rfl)) (fun h61 => ?_) (fun h61 => ?_)
      · rw [hasI_nat] at h61
        refine reg_seq 3 (hF _ _) (by kernel_rfl) ?_
        refine net_cons rfl rfl (n_move rfl (ev rfl)) ?_
        refine net_cons rfl rfl (n_to (v' := I ((manyB d bs (i + 1) : Nat) : Int)) (n_bin rfl (ev rfl) evc (r_inc (by omega))) (congrArg (Value.int .i64) (by rw [manyB_succ, if_pos h61]))) ?_
        refine net_cons rfl rfl (n_assign rfl (ev rfl)) ?_
        refine net_nil fun a w1 hF hx => ?_
        replace hw := hw.next hx
        replace hF := hF.keep (.cons (t := 1) rfl (.cons (t := 2) rfl (.cons (t := 3) rfl (.cons (t := 9) rfl (.cons (t := 10) rfl (.cons (t := 12) rfl (.cons (t := 14) rfl (.cons (t := 15) rfl (.cons (t := 55) rfl (.cons (t := 61) rfl .nil))))))))))
        refine wpList_nil ?_
        try simp only [List.nil_append, List.cons_append, List.set_cons_zero, List.set_cons_succ] at hw
        refine reg_seq 3 (hF _ _) (by kernel_rfl) ?_
        refine net_cons rfl rfl (n_move rfl (ev rfl)) ?_
        refine net_cons rfl rfl (n_bin rfl (ev rfl) evc (r_inc (by omega))) ?_
        refine net_cons rfl rfl (n_assign rfl (ev rfl)) ?_
        refine net_nil fun a w1 hF hx => ?_
        replace hw := hw.next hx
        replace hF := hF.keep (.cons (t := 1) rfl (.cons (t := 2) rfl (.cons (t := 3) rfl (.cons (t := 9) rfl (.cons (t := 10) rfl (.cons (t := 12) rfl (.cons (t := 14) rfl (.cons (t := 15) rfl (.cons (t := 55) rfl (.cons (t := 61) rfl .nil))))))))))
        refine wpList_nil ?_
        try simp only [List.nil_append, List.cons_append, List.set_cons_zero, List.set_cons_succ] at hw
        exact ⟨i + 1, ⟨hF.keep (.cons (t := 1) rfl (.cons (t := 2) rfl (.cons (t := 3) rfl (.cons (t := 9) rfl (.cons (t := 10) rfl (.cons (t := 12) rfl (.cons (t := 14) rfl (.cons (t := 15) rfl (.nil))))))))), hw, by omega⟩, by omega⟩
      · rw [hasI_nat] at h61
        rw [show manyB d bs i = manyB d bs (i + 1) by rw [manyB_succ, if_neg (by rw [h61]; decide)]; rfl] at hF
        refine wp_skip ?_
        refine reg_seq 3 (hF _ _) (by kernel_rfl) ?_
        refine net_cons rfl rfl (n_move rfl (ev rfl)) ?_
        refine net_cons rfl rfl (n_bin rfl (ev rfl) evc (r_inc (by omega))) ?_
        refine net_cons rfl rfl (n_assign rfl (ev rfl)) ?_
        refine net_nil fun a w1 hF hx => ?_
        replace hw := hw.next hx
        replace hF := hF.keep (.cons (t := 1) rfl (.cons (t := 2) rfl (.cons (t := 3) rfl (.cons (t := 9) rfl (.cons (t := 10) rfl (.cons (t := 12) rfl (.cons (t := 14) rfl (.cons (t := 15) rfl (.cons (t := 55) rfl (.cons (t := 61) rfl .nil))))))))))
        refine wpList_nil ?_
        try simp only [List.nil_append, List.cons_append, List.set_cons_zero, List.set_cons_succ] at hw
        exact ⟨i + 1, ⟨hF.keep (.cons (t := 1) rfl (.cons (t := 2) rfl (.cons (t := 3) rfl (.cons (t := 9) rfl (.cons (t := 10) rfl (.cons (t := 12) rfl (.cons (t := 14) rfl (.cons (t := 15) rfl (.nil))))))))), hw, by omega⟩, by omega⟩
    · obtain rfl : i = 2 ^ d := by have := of_bool_f h55; omega
      have hmm := many_mul hd bs
      refine wp_exit (go_then_e (go_then_e (go_exit ?_)))
      refine wp_seq ?_
      refine wp_seq (reg_seq 18 (hF _ _) (by kernel_rfl) ?_)
      refine net_cons rfl rfl (n_fieldAddrO (off' := 1) rfl (ev rfl) Try.runUnderlying83 rfl Try.sizeOf29 rfl) ?_
      refine net_cons rfl rfl (n_load rfl (ev rfl) (ld1 hw (i := 1) rfl Try.isAgg29 rfl)) ?_
      refine net_cons rfl rfl (n_len rfl (ev rfl) Try.underlying29) ?_
      refine net_cons rfl rfl (n_move rfl (ev rfl)) ?_
      refine net_cons rfl rfl (n_move rfl (ev rfl)) ?_
      refine net_cons rfl rfl (n_to (v' := I ((manyB d bs (2 ^ d) * d : Nat) : Int)) (n_bin rfl (ev rfl) (ev rfl) (r_mulI (by rw [← Int.natCast_mul]; omega) (by rw [← Int.natCast_mul]; omega))) (congrArg (Value.int .i64) (Int.natCast_mul _ _).symm)) ?_
      refine net_cons rfl rfl (n_max rfl (ev rfl) evc) ?_
      refine net_cons rfl rfl (n_bin rfl (ev rfl) (ev rfl) r_gtr) ?_
      refine net_cons rfl rfl (n_move rfl (ev rfl)) ?_
      refine net_if rfl rfl rfl rfl (fun hc => (n_move rfl (ev rfl))) ?_
      refine net_if rfl rfl rfl rfl (fun hc => (n_bin rfl (evi rfl hc) evc (r_eql (b := 0)))) ?_
      refine net_if rfl rfl rfl rfl (fun hc => (n_move rfl (evi rfl hc))) ?_
      refine net_if2 rfl rfl rfl rfl (fun hc hc2 => (n_fieldAddrO (off' := 1) rfl (ev rfl) Try.runUnderlying83 rfl Try.sizeOf29 rfl)) ?_
      refine net_if2 rfl rfl rfl rfl (fun hc hc2 => (n_load rfl (evi rfl (nest2 hc hc2)) (ld1 hw (i := 1) rfl Try.isAgg29 rfl))) ?_
      refine net_if2 rfl rfl rfl rfl (fun hc hc2 => (n_len rfl (evi rfl (nest2 hc hc2)) Try.underlying29)) ?_
      refine net_if2 rfl rfl rfl rfl (fun hc hc2 => (n_bin rfl (evi rfl (nest2 hc hc2)) evc (r_neq (b := 1)))) ?_
      refine net_if rfl rfl rfl rfl (fun hc => (n_pick_and rfl (evi rfl hc) (fun h => (evi rfl (nest2 hc h))))) ?_
      refine net_cons rfl rfl (n_pick_or rfl (ev rfl) (fun h => (evi rfl h))) ?_
      refine net_nil fun a w1 hF hx => ?_
      replace hw := hw.next hx
      replace hF := hF.keep (.cons (t := 1) rfl (.cons (t := 2) rfl (.cons (t := 3) rfl (.cons (t := 9) rfl (.cons (t := 10) rfl (.cons (t := 12) rfl (.cons (t := 14) rfl (.cons (t := 15) rfl (.cons (t := 55) rfl (.cons (t := 81) rfl .nil))))))))))
      refine wpList_nil ?_
      try simp only [List.nil_append, List.cons_append, List.set_cons_zero, List.set_cons_succ] at hw
      refine wp_cond_false ((hF.ev (ev rfl)).trans (congrArg Value.bool (len_ok hd k bs))) ?_
      refine wp_skip ?_
      obtain ⟨_, _, hse_, _, hR37, _⟩ := hw.rd (i := 0) rfl
      injection hse_ with hA_ _ _
      subst hA_
      refine wp_seq (wp_region_lit ?_)
      refine t_net 0 7 (by kernel_rfl) rfl hF ?_
      refine net_cons rfl rfl (n_load rfl (ev rfl) (ldN hw (i := 1) (vs := _) rfl Try.isAgg83 Try.sizeOf83 rfl rfl)) ?_
      refine net_cons rfl rfl (n_move rfl (ev rfl)) ?_
      refine net_cons rfl rfl (n_ret rfl Try.call52 (.cons (ev rfl) (.cons (ev rfl) .nil)) (fun _ hx => (ev_k hd k _ hle37 m hm0 hm1 (hR37.ext hx)))) ?_
      refine net_cons rfl rfl (n_move rfl (ev rfl)) ?_
      refine net_cons rfl rfl (n_extract rfl (ev rfl) rfl) ?_
      refine net_cons rfl rfl (n_extract rfl (ev rfl) rfl) ?_
      refine net_cons rfl rfl (n_alloc rfl Try.zeroValue23 rfl) ?_
      refine net_nil fun a w1 hF hx => ?_
      obtain ⟨b16, h_, hw⟩ := hw.blk hx (hF.at_ 16 _ rfl)
      replace hF := hF.now h_
      replace hF := hF.keep (.cons (t := 1) rfl (.cons (t := 2) rfl (.cons (t := 3) rfl (.cons (t := 9) rfl (.cons (t := 10) rfl (.cons (t := 12) rfl (.cons (t := 14) rfl (.cons (t := 15) rfl (.cons (t := 16) rfl (.cons (t := 55) rfl (.cons (t := 81) rfl (.cons (t := 86) rfl (.cons (t := 87) rfl .nil)))))))))))))
      refine t_store (i := 4) rfl rfl rfl hF hw rfl (ev rfl) (ev rfl) rfl (kc_one _) Try.sizeOf23 (kc_len _) (by first | decide | (rw [kc_len]; decide)) (seg_whole (by rw [kc_len]; rfl)) fun w1 hw => ?_
      refine t_net 8 1 (by kernel_rfl) rfl hF ?_
      refine net_cons rfl rfl (n_assign rfl (ev rfl)) ?_
      refine net_nil fun a w1 hF hx => ?_
      replace hw := hw.next hx
      replace hF := hF.keep (.cons (t := 1) rfl (.cons (t := 2) rfl (.cons (t := 3) rfl (.cons (t := 9) rfl (.cons (t := 10) rfl (.cons (t := 12) rfl (.cons (t := 14) rfl (.cons (t := 15) rfl (.cons (t := 16) rfl (.cons (t := 17) rfl (.cons (t := 55) rfl (.cons (t := 81) rfl .nil))))))))))))
      refine wpList_nil ?_
      try simp only [List.nil_append, List.cons_append, List.set_cons_zero, List.set_cons_succ] at hw
      obtain ⟨_, _, hse_, _, hR43, _⟩ := hw.rd (i := 2) rfl
      injection hse_ with hA_ _ _
      subst hA_
      refine wp_seq (wp_region_lit ?_)
      refine t_net 0 7 (by kernel_rfl) rfl hF ?_
      refine net_cons rfl rfl (n_load rfl (ev rfl) (ldN hw (i := 3) (vs := _) rfl Try.isAgg83 Try.sizeOf83 rfl rfl)) ?_
      refine net_cons rfl rfl (n_move rfl (ev rfl)) ?_
      refine net_cons rfl rfl (n_ret rfl Try.call52 (.cons (ev rfl) (.cons (ev rfl) .nil)) (fun _ hx => (ev_k hd k _ hle43 m hm0 hm1 (hR43.ext hx)))) ?_
      refine net_cons rfl rfl (n_move rfl (ev rfl)) ?_
      refine net_cons rfl rfl (n_extract rfl (ev rfl) rfl) ?_
      refine net_cons rfl rfl (n_extract rfl (ev rfl) rfl) ?_
      refine net_cons rfl rfl (n_alloc rfl Try.zeroValue23 rfl) ?_
      refine net_nil fun a w1 hF hx => ?_
      obtain ⟨b18, h_, hw⟩ := hw.blk hx (hF.at_ 18 _ rfl)
      replace hF := hF.now h_
      replace hF := hF.keep (.cons (t := 1) rfl (.cons (t := 2) rfl (.cons (t := 3) rfl (.cons (t := 9) rfl (.cons (t := 10) rfl (.cons (t := 12) rfl (.cons (t := 14) rfl (.cons (t := 15) rfl (.cons (t := 16) rfl (.cons (t := 17) rfl (.cons (t := 18) rfl (.cons (t := 55) rfl (.cons (t := 81) rfl (.cons (t := 92) rfl (.cons (t := 93) rfl .nil)))))))))))))))
      refine t_store (i := 5) rfl rfl rfl hF hw rfl (ev rfl) (ev rfl) rfl (kc_one _) Try.sizeOf23 (kc_len _) (by first | decide | (rw [kc_len]; decide)) (seg_whole (by rw [kc_len]; rfl)) fun w1 hw => ?_
      refine t_net 8 1 (by kernel_rfl) rfl hF ?_
      refine net_cons rfl rfl (n_assign rfl (ev rfl)) ?_
      refine net_nil fun a w1 hF hx => ?_
      replace hw := hw.next hx
      replace hF := hF.keep (.cons (t := 1) rfl (.cons (t := 2) rfl (.cons (t := 3) rfl (.cons (t := 9) rfl (.cons (t := 10) rfl (.cons (t := 12) rfl (.cons (t := 14) rfl (.cons (t := 15) rfl (.cons (t := 16) rfl (.cons (t := 17) rfl (.cons (t := 18) rfl (.cons (t := 19) rfl (.cons (t := 55) rfl (.cons (t := 81) rfl .nil))))))))))))))
      refine wpList_nil ?_
      try simp only [List.nil_append, List.cons_append, List.set_cons_zero, List.set_cons_succ] at hw
      refine wp_seq ?_
      refine wp_seq (reg_seq 8 (hF _ _) (by kernel_rfl) ?_)
      refine net_cons rfl rfl (n_move rfl (ev rfl)) ?_
      refine net_cons rfl rfl (n_bin rfl (ev rfl) evc (r_lss (b := 0))) ?_
      refine net_cons rfl rfl (n_move rfl (ev rfl)) ?_
      refine net_if rfl rfl rfl rfl (fun hc => (n_move rfl (ev rfl))) ?_
      refine net_if rfl rfl rfl rfl (fun hc => (n_move rfl (ev rfl))) ?_
      refine net_if rfl rfl rfl rfl (fun hc => (n_bin rfl evc (evi rfl hc) (sh1n hd))) ?_
      refine net_if rfl rfl rfl rfl (fun hc => (n_bin rfl (evi rfl hc) (evi rfl hc) r_geq)) ?_
      refine net_cons rfl rfl (n_pick_or rfl (ev rfl) (fun h => (evi rfl h))) ?_
      refine net_nil fun a w1 hF hx => ?_
      replace hw := hw.next hx
      replace hF := hF.keep (.cons (t := 1) rfl (.cons (t := 2) rfl (.cons (t := 3) rfl (.cons (t := 9) rfl (.cons (t := 10) rfl (.cons (t := 12) rfl (.cons (t := 14) rfl (.cons (t := 15) rfl (.cons (t := 16) rfl (.cons (t := 17) rfl (.cons (t := 18) rfl (.cons (t := 19) rfl (.cons (t := 55) rfl (.cons (t := 81) rfl (.cons (t := 101) rfl .nil)))))))))))))))
      refine wpList_nil ?_
      try simp only [List.nil_append, List.cons_append, List.set_cons_zero, List.set_cons_succ] at hw
      refine wp_cond_split (hF.ev (ev rfl)) (fun h101 => ?_) (fun h101 => ?_)
      · refine wp_seq (reg_seq 10 (hF _ _) (by kernel_rfl) ?_)
        refine net_cons rfl rfl (n_move rfl (ev rfl)) ?_
        refine net_cons rfl rfl (n_move rfl (ev rfl)) ?_
        refine net_if rfl rfl rfl rfl (fun hc => (n_move rfl (ev rfl))) ?_
        refine net_if rfl rfl rfl rfl (fun hc => (n_bin rfl (evi rfl hc) evc (r_eql (b := 2)))) ?_
        refine net_cons rfl rfl (n_pick_and rfl (ev rfl) (fun h => (evi rfl h))) ?_
        refine net_cons rfl rfl (n_move rfl (ev rfl)) ?_
        refine net_if rfl rfl rfl rfl (fun hc => (n_move rfl (ev rfl))) ?_
        refine net_if rfl rfl rfl rfl (fun hc => (n_bin rfl (evi rfl hc) evc (r_eql (b := 2)))) ?_
        refine net_cons rfl rfl (n_pick_and rfl (ev rfl) (fun h => (evi rfl h))) ?_
        refine net_cons rfl rfl (n_assign rfl (ev rfl)) ?_
        refine net_nil fun a w1 hF hx => ?_
        replace hw := hw.next hx
        replace hF := hF.keep (.cons (t := 1) rfl (.cons (t := 2) rfl (.cons (t := 3) rfl (.cons (t := 8) rfl (.cons (t := 9) rfl (.cons (t := 10) rfl (.cons (t := 12) rfl (.cons (t := 14) rfl (.cons (t := 15) rfl (.cons (t := 16) rfl (.cons (t := 17) rfl (.cons (t := 18) rfl (.cons (t := 19) rfl (.cons (t := 55) rfl (.cons (t := 81) rfl (.cons (t := 101) rfl .nil))))))))))))))))
        refine wpList_nil ?_
        try simp only [List.nil_append, List.cons_append, List.set_cons_zero, List.set_cons_succ] at hw
        refine wp_ret (go_then_r (ret1 hF Try.results14 rfl ?_))
        exact ⟨_, rfl, hw.ext, (congrArg Value.bool (law_arg hd k bs h101))⟩
      · obtain ⟨hr0, hr1⟩ := or_f h101
        obtain ⟨u, rfl⟩ := Int.eq_ofNat_of_zero_le (show 0 ≤ m by omega)
        have hu : u < 2 ^ d := by omega
        refine wp_skip ?_
        refine wp_seq ?_
        refine wp_seq (reg_seq 4 (hF _ _) (by kernel_rfl) ?_)
        refine net_cons rfl rfl (n_move rfl (ev rfl)) ?_
        refine net_cons rfl rfl (n_move rfl (ev rfl)) ?_
        refine net_cons rfl rfl (n_move rfl (ev rfl)) ?_
        refine net_cons rfl rfl (n_ret rfl Try.call61 (.cons (ev rfl) (.cons (ev rfl) (.cons (ev rfl) .nil))) (fun _ hx => (has_c d hd n c A bs hl (by omega) hb (u : Int) _ (hR.ext (hw.ext.trans hx))))) ?_
        refine net_nil fun a w1 hF hx => ?_
        replace hw := hw.next hx
        replace hF := hF.keep (.cons (t := 1) rfl (.cons (t := 2) rfl (.cons (t := 3) rfl (.cons (t := 9) rfl (.cons (t := 10) rfl (.cons (t := 12) rfl (.cons (t := 14) rfl (.cons (t := 15) rfl (.cons (t := 16) rfl (.cons (t := 17) rfl (.cons (t := 18) rfl (.cons (t := 19) rfl (.cons (t := 55) rfl (.cons (t := 81) rfl (.cons (t := 101) rfl (.cons (t := 114) rfl .nil))))))))))))))))
        refine wpList_nil ?_
        try simp only [List.nil_append, List.cons_append, List.set_cons_zero, List.set_cons_succ] at hw
        refine wp_cond_split (hF.ev (ev rfl)) (fun h114 => ?_) (fun h114 => ?_)
        · refine wp_seq (reg_seq 10 (hF _ _) (by kernel_rfl) ?_)
          refine net_cons rfl rfl (n_move rfl (ev rfl)) ?_
          refine net_cons rfl rfl (n_move rfl (ev rfl)) ?_
          refine net_if rfl rfl rfl rfl (fun hc => (n_move rfl (ev rfl))) ?_
          refine net_if rfl rfl rfl rfl (fun hc => (n_bin rfl (evi rfl hc) evc (r_eql (b := 6)))) ?_
          refine net_cons rfl rfl (n_pick_and rfl (ev rfl) (fun h => (evi rfl h))) ?_
          refine net_cons rfl rfl (n_move rfl (ev rfl)) ?_
          refine net_if rfl rfl rfl rfl (fun hc => (n_move rfl (ev rfl))) ?_
          refine net_if rfl rfl rfl rfl (fun hc => (n_bin rfl (evi rfl hc) evc (r_eql (b := 0)))) ?_
          refine net_cons rfl rfl (n_pick_and rfl (ev rfl) (fun h => (evi rfl h))) ?_
          refine net_cons rfl rfl (n_assign rfl (ev rfl)) ?_
          refine net_nil fun a w1 hF hx => ?_
          replace hw := hw.next hx
          replace hF := hF.keep (.cons (t := 1) rfl (.cons (t := 2) rfl (.cons (t := 3) rfl (.cons (t := 8) rfl (.cons (t := 9) rfl (.cons (t := 10) rfl (.cons (t := 12) rfl (.cons (t := 14) rfl (.cons (t := 15) rfl (.cons (t := 16) rfl (.cons (t := 17) rfl (.cons (t := 18) rfl (.cons (t := 19) rfl (.cons (t := 55) rfl (.cons (t := 81) rfl (.cons (t := 101) rfl (.cons (t := 114) rfl .nil)))))))))))))))))
          refine wpList_nil ?_
          try simp only [List.nil_append, List.cons_append, List.set_cons_zero, List.set_cons_succ] at hw
          refine wp_ret (go_then_r (ret1 hF Try.results14 rfl ?_))
          exact ⟨_, rfl, hw.ext, (congrArg Value.bool (law_has hd k bs hu h114))⟩
        · refine wp_skip ?_
          refine wp_seq (reg_seq 15 (hF _ _) (by kernel_rfl) ?_)
          refine net_cons rfl rfl (n_move rfl (ev rfl)) ?_
          refine net_cons rfl rfl (n_move rfl (ev rfl)) ?_
          refine net_if rfl rfl rfl rfl (fun hc => (n_move rfl (ev rfl))) ?_
          refine net_if rfl rfl rfl rfl (fun hc => (n_bin rfl (evi rfl hc) evc (r_eql (b := 0)))) ?_
          refine net_cons rfl rfl (n_pick_and rfl (ev rfl) (fun h => (evi rfl h))) ?_
          refine net_cons rfl rfl (n_move rfl (ev rfl)) ?_
          refine net_if rfl rfl rfl rfl (fun hc => (n_move rfl (ev rfl))) ?_
          refine net_if rfl rfl rfl rfl (fun hc => (n_bin rfl (evi rfl hc) evc (r_eql (b := 0)))) ?_
          refine net_cons rfl rfl (n_pick_and rfl (ev rfl) (fun h => (evi rfl h))) ?_
          refine net_cons rfl rfl (n_move rfl (ev rfl)) ?_
          refine net_if rfl rfl rfl rfl (fun hc => (n_load rfl (ev rfl) (ldN hw (i := 4) (vs := _) rfl Try.isAgg23 Try.sizeOf23 (kc_len _) (cut_whole (kc_len _))))) ?_
          refine net_if rfl rfl rfl rfl (fun hc => (n_load rfl (ev rfl) (ldN hw (i := 5) (vs := _) rfl Try.isAgg23 Try.sizeOf23 (kc_len _) (cut_whole (kc_len _))))) ?_
          refine net_if rfl rfl rfl rfl (fun hc => (n_bin rfl (evi rfl hc) (evi rfl hc) r_eqKey)) ?_
          refine net_cons rfl rfl (n_pick_and rfl (ev rfl) (fun h => (evi rfl h))) ?_
          refine net_cons rfl rfl (n_assign rfl (ev rfl)) ?_
          refine net_nil fun a w1 hF hx => ?_
          replace hw := hw.next hx
          replace hF := hF.keep (.cons (t := 1) rfl (.cons (t := 2) rfl (.cons (t := 3) rfl (.cons (t := 8) rfl (.cons (t := 9) rfl (.cons (t := 10) rfl (.cons (t := 12) rfl (.cons (t := 14) rfl (.cons (t := 15) rfl (.cons (t := 16) rfl (.cons (t := 17) rfl (.cons (t := 18) rfl (.cons (t := 19) rfl (.cons (t := 55) rfl (.cons (t := 81) rfl (.cons (t := 101) rfl (.cons (t := 114) rfl .nil)))))))))))))))))
          refine wpList_nil ?_
          try simp only [List.nil_append, List.cons_append, List.set_cons_zero, List.set_cons_succ] at hw
          refine wp_ret (ret1 hF Try.results14 rfl ?_)
          exact ⟨_, rfl, hw.ext, (congrArg Value.bool (law_not hd k bs hu h114))⟩
end Go.Proofs.Ythgpojlcbbgaoaa

