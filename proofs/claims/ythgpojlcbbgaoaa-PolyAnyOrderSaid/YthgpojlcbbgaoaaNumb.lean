/- numbers, of the program and of the reference -/
import Derived.Test.YthgpojlcbbgaoaaRef2

set_option autoImplicit false
set_option maxRecDepth 100000
set_option linter.unusedVariables false
namespace Go.Proofs.Ythgpojlcbbgaoaa
open Go.RowKit


/-! ### powers -/
theorem r_and1 {P : Program} {t : TypeId} {n : Nat} (h : n < 18446744073709551616) : R2 P .and t (U n) (.int .u64 1) (U (n % 2)) := by
  obtain ⟨x, rfl⟩ := bv_of h
  have := r_andC (P := P) (t := t) (x := x) 1 rfl
  rwa [show W (x &&& BitVec.ofNat 64 1) = U (x.toNat % 2) from congrArg (fun n : Nat => U n) (by rw [BitVec.toNat_and]; exact Nat.and_one_is_mod _)] at this
theorem r_shr1 {P : Program} {t : TypeId} {k : IntKind} {n : Nat} (h : n < 18446744073709551616) : R2 P .shr t (U n) (.int k 1) (U (n / 2)) := by
  obtain ⟨x, rfl⟩ := bv_of h
  have := r_shrB (P := P) (t := t) (k := k) (x := x) (n := 1) (by decide)
  rwa [show W (x >>> 1) = U (x.toNat / 2) from congrArg (fun n : Nat => U n) (by rw [BitVec.toNat_ushiftRight, Nat.shiftRight_eq_div_pow])] at this
theorem mul_small {o x m : Nat} (ho : o < m) (hx : x < m) (hm : m ≤ 4294967296) : o * x < 18446744073709551616 := by
  have h1 : o * x ≤ 4294967295 * 4294967295 := Nat.mul_le_mul (by omega) (by omega)
  omega
/-- A step of fast powers. -/
theorem pow_odd {o x k m : Nat} (h : k % 2 = 1) : (o * x % m) * (x * x % m) ^ (k / 2) % m = o * x ^ k % m := by
  rw [Nat.mul_mod, Nat.mod_mod, Nat.pow_mod, Nat.mod_mod, ← Nat.pow_mod, ← Nat.mul_mod]
  congr 1
  conv => rhs; rw [show k = 2 * (k / 2) + 1 by omega, Nat.pow_succ, Nat.pow_mul]
  rw [show x * x = x ^ 2 by rw [Nat.pow_two], Nat.mul_assoc o x, Nat.mul_comm x]
theorem pow_even {o x k m : Nat} (h : ¬ k % 2 = 1) : o * (x * x % m) ^ (k / 2) % m = o * x ^ k % m := by
  rw [Nat.mul_mod, Nat.pow_mod, Nat.mod_mod, ← Nat.pow_mod, ← Nat.mul_mod]
  congr 1
  conv => rhs; rw [show k = 2 * (k / 2) by omega, Nat.pow_mul]
  rw [show x * x = x ^ 2 by rw [Nat.pow_two]]
theorem pow_start (b n m : Nat) : (1 % m) * (b % m) ^ n % m = b ^ n % m := by
  rw [Nat.mul_mod, Nat.mod_mod, Nat.pow_mod, Nat.mod_mod, ← Nat.pow_mod, ← Nat.mul_mod, Nat.one_mul]


theorem power_c (b n m : Nat) (hb : b < 18446744073709551616) (hn : n < 18446744073709551616) (hm : 0 < m) (hm2 : m ≤ 4294967296) (w : World) : RetF Try.prog 92 [U b, U n, U m].toArray w (.is (U (b ^ n % m))) := by
  refine enter Try.func92 rfl Try.ntmps92 rfl fun a hF => ?_
  have hw := Own.start w
  refine wp_seq (reg_seq 1 (hF _ _) (by kernel_rfl) ?_)
  refine net_cons rfl rfl (n_assign rfl evc) ?_
  refine net_nil fun a w1 hF hx => ?_
  replace hw := hw.next hx
  replace hF := hF.keep (.cons (t := 0) rfl (.cons (t := 1) rfl (.cons (t := 2) rfl (.cons (t := 6) rfl .nil))))
  refine wpList_nil ?_
  refine wp_seq (reg_seq 3 (hF _ _) (by kernel_rfl) ?_)
  refine net_cons rfl rfl (n_move rfl (ev rfl)) ?_
  refine net_cons rfl rfl (n_bin rfl evc (ev rfl) (r_remN (a := 1) hm)) ?_
  refine net_cons rfl rfl (n_assign rfl (ev rfl)) ?_
  refine net_nil fun a w1 hF hx => ?_
  replace hw := hw.next hx
  replace hF := hF.keep (.cons (t := 0) rfl (.cons (t := 1) rfl (.cons (t := 2) rfl (.cons (t := 6) rfl (.cons (t := 7) rfl .nil)))))
  refine wpList_nil ?_
  refine wp_seq ?_
  refine wp_seq (reg_seq 4 (hF _ _) (by kernel_rfl) ?_)
  refine net_cons rfl rfl (n_move rfl (ev rfl)) ?_
  refine net_cons rfl rfl (n_move rfl (ev rfl)) ?_
  refine net_cons rfl rfl (n_bin rfl (ev rfl) (ev rfl) (r_remN hm)) ?_
  refine net_cons rfl rfl (n_assign rfl (ev rfl)) ?_
  refine net_nil fun a w1 hF hx => ?_
  replace hw := hw.next hx
  replace hF := hF.keep (.cons (t := 0) rfl (.cons (t := 1) rfl (.cons (t := 2) rfl (.cons (t := 6) rfl (.cons (t := 7) rfl .nil)))))
  refine wpList_nil ?_
  refine wp_block ?_
  refine wp_loop_ix (α := Nat × Nat × Nat) (fun ⟨o, x, k⟩ a w1 => FrV 31 [] [(0, .is (U x)) , (1, .is (U k)) , (2, .is (U m)) , (7, .is (U o))] a ∧ Own w w1 [] ∧ (o < m) ∧ (x < m) ∧ (k < 18446744073709551616) ∧ (o * x ^ k % m = b ^ n % m)) (fun ⟨o, x, k⟩ => k) ((1 % m, b % m, n)) ⟨hF.keep (.cons (t := 0) rfl (.cons (t := 1) rfl (.cons (t := 2) rfl (.cons (t := 7) rfl (.nil))))), hw, Nat.mod_lt _ hm, Nat.mod_lt _ hm, hn, pow_start b n m⟩ ?_
  rintro ⟨o, x, k⟩ a w1 ⟨hF, hw, ho, hx0, hk, he⟩
  refine wp_seq ?_
  refine wp_seq (reg_seq 2 (hF _ _) (by kernel_rfl) ?_)
  refine net_cons rfl rfl (n_move rfl (ev rfl)) ?_
  refine net_cons rfl rfl (n_bin rfl (ev rfl) evc (r_gtrN (b := 0))) ?_
  refine net_nil fun a w1 hF hx => ?_
  replace hw := hw.next hx
  replace hF := hF.keep (.cons (t := 0) rfl (.cons (t := 1) rfl (.cons (t := 2) rfl (.cons (t := 7) rfl (.cons (t := 14) rfl .nil)))))
  refine wpList_nil ?_
  refine wp_cond_split (hF.ev (ev rfl)) (fun h14 => ?_) (fun h14 => ?_)
  · have hk1 : 0 < k := of_bool_t h14
    refine wp_skip ?_
    refine wp_seq (wp_block ?_)
    refine wp_seq ?_
    refine wp_seq (reg_seq 3 (hF _ _) (by kernel_rfl) ?_)
    refine net_cons rfl rfl (n_move rfl (ev rfl)) ?_
    refine net_cons rfl rfl (n_bin rfl (ev rfl) evc (r_and1 hk)) ?_
    refine net_cons rfl rfl (n_bin rfl (ev rfl) evc (r_eqlN (b := 1))) ?_
    refine net_nil fun a w1 hF hx => ?_
    replace hw := hw.next hx
    replace hF := hF.keep (.cons (t := 0) rfl (.cons (t := 1) rfl (.cons (t := 2) rfl (.cons (t := 7) rfl (.cons (t := 14) rfl (.cons (t := 19) rfl .nil))))))
    refine wpList_nil ?_
    refine wp_cond_split (hF.ev (ev rfl)) (fun h19 => ?_) (fun h19 => ?_)
    · have h1 : k % 2 = 1 := of_bool_t h19
      refine reg_seq 6 (hF _ _) (by kernel_rfl) ?_
      refine net_cons rfl rfl (n_move rfl (ev rfl)) ?_
      refine net_cons rfl rfl (n_move rfl (ev rfl)) ?_
      refine net_cons rfl rfl (n_bin rfl (ev rfl) (ev rfl) (r_mulN (mul_small ho hx0 hm2))) ?_
      refine net_cons rfl rfl (n_move rfl (ev rfl)) ?_
      refine net_cons rfl rfl (n_bin rfl (ev rfl) (ev rfl) (r_remN hm)) ?_
      refine net_cons rfl rfl (n_assign rfl (ev rfl)) ?_
      refine net_nil fun a w1 hF hx => ?_
      replace hw := hw.next hx
      replace hF := hF.keep (.cons (t := 0) rfl (.cons (t := 1) rfl (.cons (t := 2) rfl (.cons (t := 7) rfl (.cons (t := 14) rfl (.cons (t := 19) rfl .nil))))))
      refine wpList_nil ?_
      refine reg_seq 6 (hF _ _) (by kernel_rfl) ?_
      refine net_cons rfl rfl (n_move rfl (ev rfl)) ?_
      refine net_cons rfl rfl (n_move rfl (ev rfl)) ?_
      refine net_cons rfl rfl (n_bin rfl (ev rfl) (ev rfl) (r_mulN (mul_small hx0 hx0 hm2))) ?_
      refine net_cons rfl rfl (n_move rfl (ev rfl)) ?_
      refine net_cons rfl rfl (n_bin rfl (ev rfl) (ev rfl) (r_remN hm)) ?_
      refine net_cons rfl rfl (n_assign rfl (ev rfl)) ?_
      refine net_nil fun a w1 hF hx => ?_
      replace hw := hw.next hx
      replace hF := hF.keep (.cons (t := 0) rfl (.cons (t := 1) rfl (.cons (t := 2) rfl (.cons (t := 7) rfl (.cons (t := 14) rfl (.cons (t := 19) rfl .nil))))))
      refine wpList_nil ?_
      refine reg_seq 3 (hF _ _) (by kernel_rfl) ?_
      refine net_cons rfl rfl (n_move rfl (ev rfl)) ?_
      refine net_cons rfl rfl (n_bin rfl (ev rfl) evc (r_shr1 hk)) ?_
      refine net_cons rfl rfl (n_assign rfl (ev rfl)) ?_
      refine net_nil fun a w1 hF hx => ?_
      replace hw := hw.next hx
      replace hF := hF.keep (.cons (t := 0) rfl (.cons (t := 1) rfl (.cons (t := 2) rfl (.cons (t := 7) rfl (.cons (t := 14) rfl (.cons (t := 19) rfl .nil))))))
      refine wpList_nil ?_
      exact ⟨(o * x % m, x * x % m, k / 2), ⟨hF.keep (.cons (t := 0) rfl (.cons (t := 1) rfl (.cons (t := 2) rfl (.cons (t := 7) rfl (.nil))))), hw, Nat.mod_lt _ hm, Nat.mod_lt _ hm, by omega, (pow_odd h1).trans he⟩, (by show k / 2 < k; omega)⟩
    · have h1 : ¬ k % 2 = 1 := of_bool_f h19
      refine wp_skip ?_
      refine reg_seq 6 (hF _ _) (by kernel_rfl) ?_
      refine net_cons rfl rfl (n_move rfl (ev rfl)) ?_
      refine net_cons rfl rfl (n_move rfl (ev rfl)) ?_
      refine net_cons rfl rfl (n_bin rfl (ev rfl) (ev rfl) (r_mulN (mul_small hx0 hx0 hm2))) ?_
      refine net_cons rfl rfl (n_move rfl (ev rfl)) ?_
      refine net_cons rfl rfl (n_bin rfl (ev rfl) (ev rfl) (r_remN hm)) ?_
      refine net_cons rfl rfl (n_assign rfl (ev rfl)) ?_
      refine net_nil fun a w1 hF hx => ?_
      replace hw := hw.next hx
      replace hF := hF.keep (.cons (t := 0) rfl (.cons (t := 1) rfl (.cons (t := 2) rfl (.cons (t := 7) rfl (.cons (t := 14) rfl (.cons (t := 19) rfl .nil))))))
      refine wpList_nil ?_
      refine reg_seq 3 (hF _ _) (by kernel_rfl) ?_
      refine net_cons rfl rfl (n_move rfl (ev rfl)) ?_
      refine net_cons rfl rfl (n_bin rfl (ev rfl) evc (r_shr1 hk)) ?_
      refine net_cons rfl rfl (n_assign rfl (ev rfl)) ?_
      refine net_nil fun a w1 hF hx => ?_
      replace hw := hw.next hx
      replace hF := hF.keep (.cons (t := 0) rfl (.cons (t := 1) rfl (.cons (t := 2) rfl (.cons (t := 7) rfl (.cons (t := 14) rfl (.cons (t := 19) rfl .nil))))))
      refine wpList_nil ?_
      exact ⟨(o, x * x % m, k / 2), ⟨hF.keep (.cons (t := 0) rfl (.cons (t := 1) rfl (.cons (t := 2) rfl (.cons (t := 7) rfl (.nil))))), hw, ho, Nat.mod_lt _ hm, by omega, (pow_even h1).trans he⟩, (by show k / 2 < k; omega)⟩
  · have hk0 : k = 0 := by have := of_bool_f h14; omega
    refine wp_exit (go_then_e (go_then_e (go_exit ?_)))
    refine wp_seq (reg_seq 2 (hF _ _) (by kernel_rfl) ?_)
    refine net_cons rfl rfl (n_move rfl (ev rfl)) ?_
    refine net_cons rfl rfl (n_assign rfl (ev rfl)) ?_
    refine net_nil fun a w1 hF hx => ?_
    replace hw := hw.next hx
    replace hF := hF.keep (.cons (t := 0) rfl (.cons (t := 1) rfl (.cons (t := 2) rfl (.cons (t := 6) rfl (.cons (t := 7) rfl (.cons (t := 14) rfl .nil))))))
    refine wpList_nil ?_
    refine wp_ret (ret1 hF Try.results92 rfl ?_)
    obtain rfl : k = 0 := hk0
    refine ⟨_, rfl, hw.ext, ?_⟩
    show U o = U _
    rw [← he, Nat.pow_zero, Nat.mul_one, Nat.mod_eq_of_lt ho]

theorem rPower_c (b n m : Nat) (hb : b < 18446744073709551616) (hn : n < 18446744073709551616) (hm : 0 < m) (hm2 : m ≤ 4294967296) (w : World) : RetF Try.prog 81 [U b, U n, U m].toArray w (.is (U (b ^ n % m))) := by
  refine enter Try.func81 rfl Try.ntmps81 rfl fun a hF => ?_
  have hw := Own.start w
  refine wp_seq (reg_seq 1 (hF _ _) (by kernel_rfl) ?_)
  refine net_cons rfl rfl (n_assign rfl evc) ?_
  refine net_nil fun a w1 hF hx => ?_
  replace hw := hw.next hx
  replace hF := hF.keep (.cons (t := 0) rfl (.cons (t := 1) rfl (.cons (t := 2) rfl (.cons (t := 6) rfl .nil))))
  refine wpList_nil ?_
  refine wp_seq (reg_seq 3 (hF _ _) (by kernel_rfl) ?_)
  refine net_cons rfl rfl (n_move rfl (ev rfl)) ?_
  refine net_cons rfl rfl (n_bin rfl evc (ev rfl) (r_remN (a := 1) hm)) ?_
  refine net_cons rfl rfl (n_assign rfl (ev rfl)) ?_
  refine net_nil fun a w1 hF hx => ?_
  replace hw := hw.next hx
  replace hF := hF.keep (.cons (t := 0) rfl (.cons (t := 1) rfl (.cons (t := 2) rfl (.cons (t := 6) rfl (.cons (t := 7) rfl .nil)))))
  refine wpList_nil ?_
  refine wp_seq (reg_seq 4 (hF _ _) (by kernel_rfl) ?_)
  refine net_cons rfl rfl (n_move rfl (ev rfl)) ?_
  refine net_cons rfl rfl (n_move rfl (ev rfl)) ?_
  refine net_cons rfl rfl (n_bin rfl (ev rfl) (ev rfl) (r_remN hm)) ?_
  refine net_cons rfl rfl (n_assign rfl (ev rfl)) ?_
  refine net_nil fun a w1 hF hx => ?_
  replace hw := hw.next hx
  replace hF := hF.keep (.cons (t := 1) rfl (.cons (t := 2) rfl (.cons (t := 6) rfl (.cons (t := 7) rfl (.cons (t := 8) rfl .nil)))))
  refine wpList_nil ?_
  refine wp_seq (wp_block ?_)
  refine wp_loop_ix (α := Nat × Nat × Nat) (fun ⟨o, x, k⟩ a w1 => FrV 32 [] [(1, .is (U k)) , (2, .is (U m)) , (8, .is (U x)) , (7, .is (U o))] a ∧ Own w w1 [] ∧ (o < m) ∧ (x < m) ∧ (k < 18446744073709551616) ∧ (o * x ^ k % m = b ^ n % m)) (fun ⟨o, x, k⟩ => k) ((1 % m, b % m, n)) ⟨hF.keep (.cons (t := 1) rfl (.cons (t := 2) rfl (.cons (t := 8) rfl (.cons (t := 7) rfl (.nil))))), hw, Nat.mod_lt _ hm, Nat.mod_lt _ hm, hn, pow_start b n m⟩ ?_
  rintro ⟨o, x, k⟩ a w1 ⟨hF, hw, ho, hx0, hk, he⟩
  refine wp_seq ?_
  refine wp_seq (reg_seq 2 (hF _ _) (by kernel_rfl) ?_)
  refine net_cons rfl rfl (n_move rfl (ev rfl)) ?_
  refine net_cons rfl rfl (n_bin rfl (ev rfl) evc (r_gtrN (b := 0))) ?_
  refine net_nil fun a w1 hF hx => ?_
  replace hw := hw.next hx
  replace hF := hF.keep (.cons (t := 1) rfl (.cons (t := 2) rfl (.cons (t := 7) rfl (.cons (t := 8) rfl (.cons (t := 15) rfl .nil)))))
  refine wpList_nil ?_
  refine wp_cond_split (hF.ev (ev rfl)) (fun h15 => ?_) (fun h15 => ?_)
  · have hk1 : 0 < k := of_bool_t h15
    refine wp_skip ?_
    refine wp_block ?_
    refine wp_seq ?_
    refine wp_seq (reg_seq 3 (hF _ _) (by kernel_rfl) ?_)
    refine net_cons rfl rfl (n_move rfl (ev rfl)) ?_
    refine net_cons rfl rfl (n_bin rfl (ev rfl) evc (r_remN (b := 2) (by decide))) ?_
    refine net_cons rfl rfl (n_bin rfl (ev rfl) evc (r_eqlN (b := 1))) ?_
    refine net_nil fun a w1 hF hx => ?_
    replace hw := hw.next hx
    replace hF := hF.keep (.cons (t := 1) rfl (.cons (t := 2) rfl (.cons (t := 7) rfl (.cons (t := 8) rfl (.cons (t := 15) rfl (.cons (t := 18) rfl .nil))))))
    refine wpList_nil ?_
    refine wp_cond_split (hF.ev (ev rfl)) (fun h18 => ?_) (fun h18 => ?_)
    · have h1 : k % 2 = 1 := of_bool_t h18
      refine reg_seq 6 (hF _ _) (by kernel_rfl) ?_
      refine net_cons rfl rfl (n_move rfl (ev rfl)) ?_
      refine net_cons rfl rfl (n_move rfl (ev rfl)) ?_
      refine net_cons rfl rfl (n_bin rfl (ev rfl) (ev rfl) (r_mulN (mul_small ho hx0 hm2))) ?_
      refine net_cons rfl rfl (n_move rfl (ev rfl)) ?_
      refine net_cons rfl rfl (n_bin rfl (ev rfl) (ev rfl) (r_remN hm)) ?_
      refine net_cons rfl rfl (n_assign rfl (ev rfl)) ?_
      refine net_nil fun a w1 hF hx => ?_
      replace hw := hw.next hx
      replace hF := hF.keep (.cons (t := 1) rfl (.cons (t := 2) rfl (.cons (t := 7) rfl (.cons (t := 8) rfl (.cons (t := 15) rfl (.cons (t := 18) rfl .nil))))))
      refine wpList_nil ?_
      refine wp_seq (reg_seq 6 (hF _ _) (by kernel_rfl) ?_)
      refine net_cons rfl rfl (n_move rfl (ev rfl)) ?_
      refine net_cons rfl rfl (n_move rfl (ev rfl)) ?_
      refine net_cons rfl rfl (n_bin rfl (ev rfl) (ev rfl) (r_mulN (mul_small hx0 hx0 hm2))) ?_
      refine net_cons rfl rfl (n_move rfl (ev rfl)) ?_
      refine net_cons rfl rfl (n_bin rfl (ev rfl) (ev rfl) (r_remN hm)) ?_
      refine net_cons rfl rfl (n_assign rfl (ev rfl)) ?_
      refine net_nil fun a w1 hF hx => ?_
      replace hw := hw.next hx
      replace hF := hF.keep (.cons (t := 1) rfl (.cons (t := 2) rfl (.cons (t := 7) rfl (.cons (t := 8) rfl (.cons (t := 15) rfl (.cons (t := 18) rfl .nil))))))
      refine wpList_nil ?_
      refine reg_seq 3 (hF _ _) (by kernel_rfl) ?_
      refine net_cons rfl rfl (n_move rfl (ev rfl)) ?_
      refine net_cons rfl rfl (n_bin rfl (ev rfl) evc (r_quoN (b := 2) (by decide) hk)) ?_
      refine net_cons rfl rfl (n_assign rfl (ev rfl)) ?_
      refine net_nil fun a w1 hF hx => ?_
      replace hw := hw.next hx
      replace hF := hF.keep (.cons (t := 1) rfl (.cons (t := 2) rfl (.cons (t := 7) rfl (.cons (t := 8) rfl (.cons (t := 15) rfl (.cons (t := 18) rfl .nil))))))
      refine wpList_nil ?_
      exact ⟨(o * x % m, x * x % m, k / 2), ⟨hF.keep (.cons (t := 1) rfl (.cons (t := 2) rfl (.cons (t := 8) rfl (.cons (t := 7) rfl (.nil))))), hw, Nat.mod_lt _ hm, Nat.mod_lt _ hm, by omega, (pow_odd h1).trans he⟩, (by show k / 2 < k; omega)⟩
    · have h1 : ¬ k % 2 = 1 := of_bool_f h18
      refine wp_skip ?_
      refine wp_seq (reg_seq 6 (hF _ _) (by kernel_rfl) ?_)
      refine net_cons rfl rfl (n_move rfl (ev rfl)) ?_
      refine net_cons rfl rfl (n_move rfl (ev rfl)) ?_
      refine net_cons rfl rfl (n_bin rfl (ev rfl) (ev rfl) (r_mulN (mul_small hx0 hx0 hm2))) ?_
      refine net_cons rfl rfl (n_move rfl (ev rfl)) ?_
      refine net_cons rfl rfl (n_bin rfl (ev rfl) (ev rfl) (r_remN hm)) ?_
      refine net_cons rfl rfl (n_assign rfl (ev rfl)) ?_
      refine net_nil fun a w1 hF hx => ?_
      replace hw := hw.next hx
      replace hF := hF.keep (.cons (t := 1) rfl (.cons (t := 2) rfl (.cons (t := 7) rfl (.cons (t := 8) rfl (.cons (t := 15) rfl (.cons (t := 18) rfl .nil))))))
      refine wpList_nil ?_
      refine reg_seq 3 (hF _ _) (by kernel_rfl) ?_
      refine net_cons rfl rfl (n_move rfl (ev rfl)) ?_
      refine net_cons rfl rfl (n_bin rfl (ev rfl) evc (r_quoN (b := 2) (by decide) hk)) ?_
      refine net_cons rfl rfl (n_assign rfl (ev rfl)) ?_
      refine net_nil fun a w1 hF hx => ?_
      replace hw := hw.next hx
      replace hF := hF.keep (.cons (t := 1) rfl (.cons (t := 2) rfl (.cons (t := 7) rfl (.cons (t := 8) rfl (.cons (t := 15) rfl (.cons (t := 18) rfl .nil))))))
      refine wpList_nil ?_
      exact ⟨(o, x * x % m, k / 2), ⟨hF.keep (.cons (t := 1) rfl (.cons (t := 2) rfl (.cons (t := 8) rfl (.cons (t := 7) rfl (.nil))))), hw, ho, Nat.mod_lt _ hm, by omega, (pow_even h1).trans he⟩, (by show k / 2 < k; omega)⟩
  · have hk0 : k = 0 := by have := of_bool_f h15; omega
    refine wp_exit (go_then_e (go_then_e (go_exit ?_)))
    refine wp_seq (reg_seq 2 (hF _ _) (by kernel_rfl) ?_)
    refine net_cons rfl rfl (n_move rfl (ev rfl)) ?_
    refine net_cons rfl rfl (n_assign rfl (ev rfl)) ?_
    refine net_nil fun a w1 hF hx => ?_
    replace hw := hw.next hx
    replace hF := hF.keep (.cons (t := 1) rfl (.cons (t := 2) rfl (.cons (t := 6) rfl (.cons (t := 7) rfl (.cons (t := 8) rfl (.cons (t := 15) rfl .nil))))))
    refine wpList_nil ?_
    refine wp_ret (ret1 hF Try.results81 rfl ?_)
    obtain rfl : k = 0 := hk0
    refine ⟨_, rfl, hw.ext, ?_⟩
    show U o = U _
    rw [← he, Nat.pow_zero, Nat.mul_one, Nat.mod_eq_of_lt ho]


theorem or_t {p q : Prop} [Decidable p] [Decidable q] (h : (decide p || decide q) = true) : p ∨ q := by simpa using h
theorem or_f {p q : Prop} [Decidable p] [Decidable q] (h : (decide p || decide q) = false) : ¬ p ∧ ¬ q := by simpa using h
theorem and_t {p q : Prop} [Decidable p] [Decidable q] (h : (decide p && decide q) = true) : p ∧ q := by simpa using h
theorem and_f {p q : Prop} [Decidable p] [Decidable q] (h : (decide p && decide q) = false) : ¬ (p ∧ q) := by
  intro ⟨h1, h2⟩
  simp [h1, h2] at h
/-! ### primes -/
/-- Whether a number is a prime of at most 2^20 - 1. -/
def isP (n : Nat) : Bool := decide (2 ≤ n) && (decide (n ≤ 1048575) && (List.range 1024).all fun d => decide (d < 2) || decide (n < d * d) || !decide (n % d = 0))
theorem isP_of {n : Nat} (h2 : 2 ≤ n) (hm : n ≤ 1048575) (h : ∀ d, 2 ≤ d → d * d ≤ n → ¬ n % d = 0) : isP n = true := by
  simp only [isP, Bool.and_eq_true, decide_eq_true_eq, List.all_eq_true, List.mem_range, Bool.or_eq_true, Bool.not_eq_true', decide_eq_false_iff_not]
  refine ⟨h2, hm, fun d _ => ?_⟩
  by_cases h1 : d < 2
  · exact .inl (.inl h1)
  · by_cases h3 : n < d * d
    · exact .inl (.inr h3)
    · exact .inr (h d (by omega) (by omega))
theorem isP_not {n d : Nat} (h1 : 2 ≤ d) (h2 : d * d ≤ n) (h3 : n % d = 0) : isP n = false := by
  cases hp : isP n with
  | false => rfl
  | true =>
    simp only [isP, Bool.and_eq_true, decide_eq_true_eq, List.all_eq_true, List.mem_range, Bool.or_eq_true, Bool.not_eq_true', decide_eq_false_iff_not] at hp
    obtain ⟨_, hm, h⟩ := hp
    have hd : d < 1024 := Nat.lt_of_not_le fun hge => by
      have := Nat.mul_le_mul hge hge
      omega
    rcases h d hd with (h | h) | h
    · omega
    · omega
    · exact absurd h3 h
theorem isP_two {n : Nat} (h : isP n = true) : 2 ≤ n := by
  simp only [isP, Bool.and_eq_true, decide_eq_true_eq] at h
  exact h.1
theorem isP_max {n : Nat} (h : isP n = true) : n ≤ 1048575 := by
  simp only [isP, Bool.and_eq_true, decide_eq_true_eq] at h
  exact h.2.1
theorem isP_div {n d : Nat} (h : isP n = true) (h1 : 2 ≤ d) (h2 : d * d ≤ n) : ¬ n % d = 0 := fun h3 => by
  rw [isP_not h1 h2 h3] at h
  cases h
theorem sq_lt {d n : Nat} (h : d * d ≤ n) (hm : n ≤ 1048575) : d < 1024 := Nat.lt_of_not_le fun hge => by
  have := Nat.mul_le_mul hge hge
  omega
theorem sq_small {d : Nat} (h : d ≤ 1024) : d * d < 18446744073709551616 := by
  have := Nat.mul_le_mul h h
  omega
theorem isP_small {n : Nat} (h : n < 2) : isP n = false := by
  cases hp : isP n with
  | false => rfl
  | true => have := isP_two hp; omega
theorem isP_great {n : Nat} (h : 1048575 < n) : isP n = false := by
  cases hp : isP n with
  | false => rfl
  | true => have := isP_max hp; omega
theorem isP_up {n d : Nat} (h : ∀ e, 2 ≤ e → e < d → e * e ≤ n → ¬ n % e = 0) (h2 : ¬ n % d = 0) : ∀ e, 2 ≤ e → e < d + 1 → e * e ≤ n → ¬ n % e = 0 := by
  intro e h3 h4 h5
  by_cases he : e = d
  · subst he
    exact h2
  · exact h e h3 (by omega) h5
theorem isP_end {n d : Nat} (h2 : 2 ≤ n) (hm : n ≤ 1048575) (h : ∀ e, 2 ≤ e → e < d → e * e ≤ n → ¬ n % e = 0) (hd : ¬ d * d ≤ n) : isP n = true :=
  isP_of h2 hm fun e h3 h4 => h e h3 (Nat.lt_of_not_le fun hge => hd (Nat.le_trans (Nat.mul_le_mul hge hge) h4)) h4
theorem prime_end {n d : Nat} (hm : n ≤ 1048575) (h : ∀ e, 2 ≤ e → e < d → e * e ≤ n → ¬ n % e = 0) (hd : ¬ d * d ≤ n) : decide (2 ≤ n) = isP n := by
  rcases Nat.lt_or_ge n 2 with h2 | h2
  · rw [isP_small h2]
    simp
    omega
  · rw [isP_end h2 hm h hd]
    simp [h2]


theorem prime_c (n : Nat) (hn : n < 18446744073709551616) (w : World) : RetF Try.prog 145 [U n].toArray w (.is (.bool (isP n))) := by
  refine enter Try.func145 rfl Try.ntmps145 rfl fun a hF => ?_
  have hw := Own.start w
  refine wp_seq (reg_seq 1 (hF _ _) (by kernel_rfl) ?_)
  refine net_cons rfl rfl (n_assign rfl evc) ?_
  refine net_nil fun a w1 hF hx => ?_
  replace hw := hw.next hx
  replace hF := hF.keep (.cons (t := 0) rfl (.cons (t := 2) rfl .nil))
  refine wpList_nil ?_
  refine wp_seq ?_
  refine wp_seq (reg_seq 6 (hF _ _) (by kernel_rfl) ?_)
  refine net_cons rfl rfl (n_move rfl (ev rfl)) ?_
  refine net_cons rfl rfl (n_bin rfl (ev rfl) evc (r_lssN (b := 2))) ?_
  refine net_cons rfl rfl (n_move rfl (ev rfl)) ?_
  refine net_if rfl rfl rfl rfl (fun hc => (n_move rfl (ev rfl))) ?_
  refine net_if rfl rfl rfl rfl (fun hc => (n_bin rfl (evi rfl hc) evc (r_gtrN (b := 1048575)))) ?_
  refine net_cons rfl rfl (n_pick_or rfl (ev rfl) (fun h => (evi rfl h))) ?_
  refine net_nil fun a w1 hF hx => ?_
  replace hw := hw.next hx
  replace hF := hF.keep (.cons (t := 0) rfl (.cons (t := 2) rfl (.cons (t := 9) rfl .nil)))
  refine wpList_nil ?_
  refine wp_cond_split (hF.ev (ev rfl)) (fun h9 => ?_) (fun h9 => ?_)
  · have hpr : isP n = false := (or_t h9).elim isP_small isP_great
    refine wp_seq (reg_seq 1 (hF _ _) (by kernel_rfl) ?_)
    refine net_cons rfl rfl (n_assign rfl evc) ?_
    refine net_nil fun a w1 hF hx => ?_
    replace hw := hw.next hx
    replace hF := hF.keep (.cons (t := 0) rfl (.cons (t := 2) rfl (.cons (t := 9) rfl .nil)))
    refine wpList_nil ?_
    refine wp_ret (go_then_r (ret1 hF Try.results145 rfl ?_))
    exact ⟨_, rfl, hw.ext, (by rw [hpr]; rfl)⟩
  · obtain ⟨h91, h92⟩ := or_f h9
    have hn2 : 2 ≤ n := by omega
    have hnm : n ≤ 1048575 := by omega
    refine wp_skip ?_
    refine wp_seq ?_
    refine wp_seq (reg_seq 1 (hF _ _) (by kernel_rfl) ?_)
    refine net_cons rfl rfl (n_assign rfl evc) ?_
    refine net_nil fun a w1 hF hx => ?_
    replace hw := hw.next hx
    replace hF := hF.keep (.cons (t := 0) rfl (.cons (t := 2) rfl (.cons (t := 3) rfl (.cons (t := 9) rfl .nil))))
    refine wpList_nil ?_
    refine wp_block ?_
    refine wp_loop_ix (α := Nat) (fun d a w1 => FrV 21 [] [(0, .is (U n)) , (3, .is (U d))] a ∧ Own w w1 [] ∧ (2 ≤ d) ∧ (d ≤ 1024) ∧ (∀ e, 2 ≤ e → e < d → e * e ≤ n → ¬ n % e = 0)) (fun d => 1024 - d) (2) ⟨hF.keep (.cons (t := 0) rfl (.cons (t := 3) rfl (.nil))), hw, by decide, by decide, fun e h1 h2 _ => by omega⟩ ?_
    rintro d a w1 ⟨hF, hw, h2, hd, he⟩
    refine wp_seq ?_
    refine wp_seq (reg_seq 5 (hF _ _) (by kernel_rfl) ?_)
    refine net_cons rfl rfl (n_move rfl (ev rfl)) ?_
    refine net_cons rfl rfl (n_move rfl (ev rfl)) ?_
    refine net_cons rfl rfl (n_bin rfl (ev rfl) (ev rfl) (r_mulN (sq_small hd))) ?_
    refine net_cons rfl rfl (n_move rfl (ev rfl)) ?_
    refine net_cons rfl rfl (n_bin rfl (ev rfl) (ev rfl) r_leqN) ?_
    refine net_nil fun a w1 hF hx => ?_
    replace hw := hw.next hx
    replace hF := hF.keep (.cons (t := 0) rfl (.cons (t := 3) rfl (.cons (t := 14) rfl .nil)))
    refine wpList_nil ?_
    refine wp_cond_split (hF.ev (ev rfl)) (fun h14 => ?_) (fun h14 => ?_)
    · have hq : d * d ≤ n := of_bool_t h14
      have hdl := sq_lt hq hnm
      refine wp_skip ?_
      refine wp_seq (wp_block ?_)
      refine wp_seq (reg_seq 4 (hF _ _) (by kernel_rfl) ?_)
      refine net_cons rfl rfl (n_move rfl (ev rfl)) ?_
      refine net_cons rfl rfl (n_move rfl (ev rfl)) ?_
      refine net_cons rfl rfl (n_bin rfl (ev rfl) (ev rfl) (r_remN (by omega))) ?_
      refine net_cons rfl rfl (n_bin rfl (ev rfl) evc (r_eqlN (b := 0))) ?_
      refine net_nil fun a w1 hF hx => ?_
      replace hw := hw.next hx
      replace hF := hF.keep (.cons (t := 0) rfl (.cons (t := 3) rfl (.cons (t := 14) rfl (.cons (t := 20) rfl .nil))))
      refine wpList_nil ?_
      refine wp_cond_split (hF.ev (ev rfl)) (fun h20 => ?_) (fun h20 => ?_)
      · have hpr := isP_not h2 hq (of_bool_t h20)
        refine wp_seq (reg_seq 1 (hF _ _) (by kernel_rfl) ?_)
        refine net_cons rfl rfl (n_assign rfl evc) ?_
        refine net_nil fun a w1 hF hx => ?_
        replace hw := hw.next hx
        replace hF := hF.keep (.cons (t := 0) rfl (.cons (t := 2) rfl (.cons (t := 3) rfl (.cons (t := 14) rfl (.cons (t := 20) rfl .nil)))))
        refine wpList_nil ?_
        refine wp_ret (go_block_r (go_then_r (go_then_r (go_block_r (go_then_r (ret1 hF Try.results145 rfl ?_))))))
        exact ⟨_, rfl, hw.ext, (by rw [hpr]; rfl)⟩
      · have hz := of_bool_f h20
        refine wp_skip ?_
        refine reg_seq 3 (hF _ _) (by kernel_rfl) ?_
        refine net_cons rfl rfl (n_move rfl (ev rfl)) ?_
        refine net_cons rfl rfl (n_bin rfl (ev rfl) evc (r_addN (b := 1) (by omega))) ?_
        refine net_cons rfl rfl (n_assign rfl (ev rfl)) ?_
        refine net_nil fun a w1 hF hx => ?_
        replace hw := hw.next hx
        replace hF := hF.keep (.cons (t := 0) rfl (.cons (t := 3) rfl (.cons (t := 14) rfl (.cons (t := 20) rfl .nil))))
        refine wpList_nil ?_
        exact ⟨d + 1, ⟨hF.keep (.cons (t := 0) rfl (.cons (t := 3) rfl (.nil))), hw, by omega, by omega, isP_up he hz⟩, by omega⟩
    · have hpr := isP_end hn2 hnm he (of_bool_f h14)
      refine wp_exit (go_then_e (go_then_e (go_exit ?_)))
      refine wp_seq (reg_seq 1 (hF _ _) (by kernel_rfl) ?_)
      refine net_cons rfl rfl (n_assign rfl evc) ?_
      refine net_nil fun a w1 hF hx => ?_
      replace hw := hw.next hx
      replace hF := hF.keep (.cons (t := 0) rfl (.cons (t := 2) rfl (.cons (t := 3) rfl (.cons (t := 14) rfl .nil))))
      refine wpList_nil ?_
      refine wp_ret (ret1 hF Try.results145 rfl ?_)
      exact ⟨_, rfl, hw.ext, (by rw [hpr]; rfl)⟩

theorem IsPrime_c (n : Nat) (hn : n ≤ 1048575) (w : World) : RetF Try.prog 133 [U n].toArray w (.is (.bool (isP n))) := by
  refine enter Try.func133 rfl Try.ntmps133 rfl fun a hF => ?_
  have hw := Own.start w
  refine wp_seq (reg_seq 1 (hF _ _) (by kernel_rfl) ?_)
  refine net_cons rfl rfl (n_assign rfl evc) ?_
  refine net_nil fun a w1 hF hx => ?_
  replace hw := hw.next hx
  replace hF := hF.keep (.cons (t := 0) rfl (.cons (t := 2) rfl .nil))
  refine wpList_nil ?_
  refine wp_seq ?_
  refine wp_seq (reg_seq 1 (hF _ _) (by kernel_rfl) ?_)
  refine net_cons rfl rfl (n_assign rfl evc) ?_
  refine net_nil fun a w1 hF hx => ?_
  replace hw := hw.next hx
  replace hF := hF.keep (.cons (t := 0) rfl (.cons (t := 2) rfl (.cons (t := 3) rfl .nil)))
  refine wpList_nil ?_
  refine wp_block ?_
  refine wp_loop_ix (α := Nat) (fun d a w1 => FrV 17 [] [(0, .is (U n)) , (3, .is (U d))] a ∧ Own w w1 [] ∧ (2 ≤ d) ∧ (d ≤ 1024) ∧ (∀ e, 2 ≤ e → e < d → e * e ≤ n → ¬ n % e = 0)) (fun d => 1024 - d) (2) ⟨hF.keep (.cons (t := 0) rfl (.cons (t := 3) rfl (.nil))), hw, by decide, by decide, fun e h1 h2 _ => by omega⟩ ?_
  rintro d a w1 ⟨hF, hw, h2, hd, he⟩
  refine wp_seq ?_
  refine wp_seq (reg_seq 5 (hF _ _) (by kernel_rfl) ?_)
  refine net_cons rfl rfl (n_move rfl (ev rfl)) ?_
  refine net_cons rfl rfl (n_move rfl (ev rfl)) ?_
  refine net_cons rfl rfl (n_bin rfl (ev rfl) (ev rfl) (r_mulN (sq_small hd))) ?_
  refine net_cons rfl rfl (n_move rfl (ev rfl)) ?_
  refine net_cons rfl rfl (n_bin rfl (ev rfl) (ev rfl) r_leqN) ?_
  refine net_nil fun a w1 hF hx => ?_
  replace hw := hw.next hx
  replace hF := hF.keep (.cons (t := 0) rfl (.cons (t := 3) rfl (.cons (t := 8) rfl .nil)))
  refine wpList_nil ?_
  refine wp_cond_split (hF.ev (ev rfl)) (fun h8 => ?_) (fun h8 => ?_)
  · have hq : d * d ≤ n := of_bool_t h8
    have hdl := sq_lt hq hn
    refine wp_skip ?_
    refine wp_seq (wp_block ?_)
    refine wp_seq (reg_seq 4 (hF _ _) (by kernel_rfl) ?_)
    refine net_cons rfl rfl (n_move rfl (ev rfl)) ?_
    refine net_cons rfl rfl (n_move rfl (ev rfl)) ?_
    refine net_cons rfl rfl (n_bin rfl (ev rfl) (ev rfl) (r_remN (by omega))) ?_
    refine net_cons rfl rfl (n_bin rfl (ev rfl) evc (r_eqlN (b := 0))) ?_
    refine net_nil fun a w1 hF hx => ?_
    replace hw := hw.next hx
    replace hF := hF.keep (.cons (t := 0) rfl (.cons (t := 3) rfl (.cons (t := 8) rfl (.cons (t := 14) rfl .nil))))
    refine wpList_nil ?_
    refine wp_cond_split (hF.ev (ev rfl)) (fun h14 => ?_) (fun h14 => ?_)
    · have hpr := isP_not h2 hq (of_bool_t h14)
      refine wp_seq (reg_seq 1 (hF _ _) (by kernel_rfl) ?_)
      refine net_cons rfl rfl (n_assign rfl evc) ?_
      refine net_nil fun a w1 hF hx => ?_
      replace hw := hw.next hx
      replace hF := hF.keep (.cons (t := 0) rfl (.cons (t := 2) rfl (.cons (t := 3) rfl (.cons (t := 8) rfl (.cons (t := 14) rfl .nil)))))
      refine wpList_nil ?_
      refine wp_ret (go_block_r (go_then_r (go_then_r (go_block_r (go_then_r (ret1 hF Try.results133 rfl ?_))))))
      exact ⟨_, rfl, hw.ext, (by rw [hpr]; rfl)⟩
    · have hz := of_bool_f h14
      refine wp_skip ?_
      refine reg_seq 3 (hF _ _) (by kernel_rfl) ?_
      refine net_cons rfl rfl (n_move rfl (ev rfl)) ?_
      refine net_cons rfl rfl (n_bin rfl (ev rfl) evc (r_addN (b := 1) (by omega))) ?_
      refine net_cons rfl rfl (n_assign rfl (ev rfl)) ?_
      refine net_nil fun a w1 hF hx => ?_
      replace hw := hw.next hx
      replace hF := hF.keep (.cons (t := 0) rfl (.cons (t := 3) rfl (.cons (t := 8) rfl (.cons (t := 14) rfl .nil))))
      refine wpList_nil ?_
      exact ⟨d + 1, ⟨hF.keep (.cons (t := 0) rfl (.cons (t := 3) rfl (.nil))), hw, by omega, by omega, isP_up he hz⟩, by omega⟩
  · have hpr : decide (2 ≤ n) = isP n := prime_end hn he (of_bool_f h8)
    refine wp_exit (go_then_e (go_then_e (go_exit ?_)))
    refine wp_seq (reg_seq 3 (hF _ _) (by kernel_rfl) ?_)
    refine net_cons rfl rfl (n_move rfl (ev rfl)) ?_
    refine net_cons rfl rfl (n_bin rfl (ev rfl) evc (r_geqN (b := 2))) ?_
    refine net_cons rfl rfl (n_assign rfl (ev rfl)) ?_
    refine net_nil fun a w1 hF hx => ?_
    replace hw := hw.next hx
    replace hF := hF.keep (.cons (t := 0) rfl (.cons (t := 2) rfl (.cons (t := 3) rfl (.cons (t := 8) rfl .nil))))
    refine wpList_nil ?_
    refine wp_ret (ret1 hF Try.results133 rfl ?_)
    exact ⟨_, rfl, hw.ext, (by rw [← hpr]; rfl)⟩


/-! ### groups -/
/-- Whether p, q, g are a valid group. -/
def okG (p q g : Nat) : Bool := !(((((!isP p || !isP q) || !decide ((p - 1) % q = 0)) || decide (g < 2)) || decide (p ≤ g)) || !decide (g ^ q % p = 1))
theorem okG_all {p q g : Nat} (h : okG p q g = true) : isP p = true ∧ isP q = true ∧ (p - 1) % q = 0 ∧ 2 ≤ g ∧ g < p ∧ g ^ q % p = 1 := by
  simp only [okG, Bool.not_eq_true', Bool.or_eq_false_iff, Bool.not_eq_false', decide_eq_true_eq, decide_eq_false_iff_not] at h
  obtain ⟨⟨⟨⟨⟨h1, h2⟩, h3⟩, h4⟩, h5⟩, h6⟩ := h
  exact ⟨h1, h2, h3, by omega, by omega, h6⟩
theorem okG_mk {p q g : Nat} (h1 : isP p = true) (h2 : isP q = true) (h3 : (p - 1) % q = 0) : okG p q g = ((decide (2 ≤ g) && decide (g < p)) && decide (g ^ q % p = 1)) := by
  unfold okG
  rw [h1, h2, decide_eq_true h3]
  rw [Bool.eq_iff_iff]
  simp only [Bool.not_true, Bool.false_or, Bool.not_eq_true', Bool.or_eq_false_iff, decide_eq_false_iff_not, Bool.not_eq_false', decide_eq_true_eq, Bool.and_eq_true]
  omega
theorem okG_no1 {p q g : Nat} (h : isP p = false) : okG p q g = false := by simp [okG, h]
theorem okG_no2 {p q g : Nat} (h : isP q = false) : okG p q g = false := by simp [okG, h]
theorem okG_no3 {p q g : Nat} (h : ¬ (p - 1) % q = 0) : okG p q g = false := by simp [okG, h]


theorem CheckGroup_c (p q g : Nat) (hp : p < 18446744073709551616) (hq : q < 18446744073709551616) (hg : g < 18446744073709551616) (w : World) : RetF Try.prog 117 [.agg [U p, U q, U g].toArray].toArray w (.is (I (if okG p q g then 0 else 13))) := by
  refine enter Try.func117 rfl Try.ntmps117 rfl fun a hF => ?_
  have hw := Own.start w
  refine wp_seq (wp_region_lit ?_)
  refine t_net 0 1 (by kernel_rfl) rfl hF ?_
  refine net_cons rfl rfl (n_box rfl (ev rfl) rfl) ?_
  refine net_nil fun a w1 hF hx => ?_
  obtain ⟨b1, h_, hw⟩ := hw.blk hx (hF.at_ 1 _ rfl)
  replace hF := hF.now h_
  replace hF := hF.keep (.cons (t := 1) rfl .nil)
  refine t_net 1 1 (by kernel_rfl) rfl hF ?_
  refine net_cons rfl rfl (n_assign rfl evc) ?_
  refine net_nil fun a w1 hF hx => ?_
  replace hw := hw.next hx
  replace hF := hF.keep (.cons (t := 1) rfl (.cons (t := 2) rfl .nil))
  refine wpList_nil ?_
  refine wp_seq ?_
  refine wp_seq (reg_seq 41 (hF _ _) (by kernel_rfl) ?_)
  refine net_cons rfl rfl (n_fieldAddrO (off' := 0) rfl (ev rfl) Try.runUnderlying26 rfl Try.sizeOf24 rfl) ?_
  refine net_cons rfl rfl (n_load rfl (ev rfl) (ld1 hw (i := 0) rfl Try.isAgg24 rfl)) ?_
  refine net_cons rfl rfl (n_ret rfl Try.call145 (.cons (ev rfl) .nil) (fun _ hx => prime_c _ hp _)) ?_
  refine net_cons rfl rfl (n_not rfl (ev rfl)) ?_
  refine net_cons rfl rfl (n_move rfl (ev rfl)) ?_
  refine net_if rfl rfl rfl rfl (fun hc => (n_fieldAddrO (off' := 1) rfl (ev rfl) Try.runUnderlying26 rfl Try.sizeOf24 rfl)) ?_
  refine net_if rfl rfl rfl rfl (fun hc => (n_load rfl (evi rfl hc) (ld1 hw (i := 0) rfl Try.isAgg24 rfl))) ?_
  refine net_if rfl rfl rfl rfl (fun hc => (n_ret rfl Try.call145 (.cons (evi rfl hc) .nil) (fun _ hx => prime_c _ hq _))) ?_
  refine net_if rfl rfl rfl rfl (fun hc => (n_not rfl (evi rfl hc))) ?_
  refine net_cons rfl rfl (n_pick_or rfl (ev rfl) (fun h => (evi rfl h))) ?_
  refine net_cons rfl rfl (n_move rfl (ev rfl)) ?_
  refine net_if rfl rfl rfl rfl (fun hc => (n_fieldAddrO (off' := 0) rfl (ev rfl) Try.runUnderlying26 rfl Try.sizeOf24 rfl)) ?_
  refine net_if rfl rfl rfl rfl (fun hc => (n_load rfl (evi rfl hc) (ld1 hw (i := 0) rfl Try.isAgg24 rfl))) ?_
  refine net_if rfl rfl rfl rfl (fun hc => (n_bin rfl (evi rfl hc) evc (r_subN (b := 1) (Nat.le_of_lt (isP_two (by revert hc; cases isP p <;> simp))) hp))) ?_
  refine net_if rfl rfl rfl rfl (fun hc => (n_fieldAddrO (off' := 1) rfl (ev rfl) Try.runUnderlying26 rfl Try.sizeOf24 rfl)) ?_
  refine net_if rfl rfl rfl rfl (fun hc => (n_load rfl (evi rfl hc) (ld1 hw (i := 0) rfl Try.isAgg24 rfl))) ?_
  refine net_if rfl rfl rfl rfl (fun hc => (n_bin rfl (evi rfl hc) (evi rfl hc) (r_remN (Nat.lt_of_lt_of_le (by decide) (isP_two (by revert hc; cases isP q <;> simp)))))) ?_
  refine net_if rfl rfl rfl rfl (fun hc => (n_bin rfl (evi rfl hc) evc (r_neqN (b := 0)))) ?_
  refine net_cons rfl rfl (n_pick_or rfl (ev rfl) (fun h => (evi rfl h))) ?_
  refine net_cons rfl rfl (n_move rfl (ev rfl)) ?_
  refine net_if rfl rfl rfl rfl (fun hc => (n_fieldAddrO (off' := 2) rfl (ev rfl) Try.runUnderlying26 rfl Try.sizeOf24 rfl)) ?_
  refine net_if rfl rfl rfl rfl (fun hc => (n_load rfl (evi rfl hc) (ld1 hw (i := 0) rfl Try.isAgg24 rfl))) ?_
  refine net_if rfl rfl rfl rfl (fun hc => (n_bin rfl (evi rfl hc) evc (r_lssN (b := 2)))) ?_
  refine net_cons rfl rfl (n_pick_or rfl (ev rfl) (fun h => (evi rfl h))) ?_
  refine net_cons rfl rfl (n_move rfl (ev rfl)) ?_
  refine net_if rfl rfl rfl rfl (fun hc => (n_fieldAddrO (off' := 2) rfl (ev rfl) Try.runUnderlying26 rfl Try.sizeOf24 rfl)) ?_
  refine net_if rfl rfl rfl rfl (fun hc => (n_load rfl (evi rfl hc) (ld1 hw (i := 0) rfl Try.isAgg24 rfl))) ?_
  refine net_if rfl rfl rfl rfl (fun hc => (n_fieldAddrO (off' := 0) rfl (ev rfl) Try.runUnderlying26 rfl Try.sizeOf24 rfl)) ?_
  refine net_if rfl rfl rfl rfl (fun hc => (n_load rfl (evi rfl hc) (ld1 hw (i := 0) rfl Try.isAgg24 rfl))) ?_
  refine net_if rfl rfl rfl rfl (fun hc => (n_bin rfl (evi rfl hc) (evi rfl hc) r_geqN)) ?_
  refine net_cons rfl rfl (n_pick_or rfl (ev rfl) (fun h => (evi rfl h))) ?_
  refine net_cons rfl rfl (n_move rfl (ev rfl)) ?_
  refine net_if rfl rfl rfl rfl (fun hc => (n_fieldAddrO (off' := 2) rfl (ev rfl) Try.runUnderlying26 rfl Try.sizeOf24 rfl)) ?_
  refine net_if rfl rfl rfl rfl (fun hc => (n_load rfl (evi rfl hc) (ld1 hw (i := 0) rfl Try.isAgg24 rfl))) ?_
  refine net_if rfl rfl rfl rfl (fun hc => (n_fieldAddrO (off' := 1) rfl (ev rfl) Try.runUnderlying26 rfl Try.sizeOf24 rfl)) ?_
  refine net_if rfl rfl rfl rfl (fun hc => (n_load rfl (evi rfl hc) (ld1 hw (i := 0) rfl Try.isAgg24 rfl))) ?_
  refine net_if rfl rfl rfl rfl (fun hc => (n_fieldAddrO (off' := 0) rfl (ev rfl) Try.runUnderlying26 rfl Try.sizeOf24 rfl)) ?_
  refine net_if rfl rfl rfl rfl (fun hc => (n_load rfl (evi rfl hc) (ld1 hw (i := 0) rfl Try.isAgg24 rfl))) ?_
  refine net_if rfl rfl rfl rfl (fun hc => (n_ret rfl Try.call92 (.cons (evi rfl hc) (.cons (evi rfl hc) (.cons (evi rfl hc) .nil))) (fun _ hx => (power_c _ _ _ hg hq (Nat.lt_of_lt_of_le (by decide) (isP_two (by revert hc; cases isP p <;> simp))) (Nat.le_trans (isP_max (by revert hc; cases isP p <;> simp)) (by decide)) _)))) ?_
  refine net_if rfl rfl rfl rfl (fun hc => (n_bin rfl (evi rfl hc) evc (r_neqN (b := 1)))) ?_
  refine net_cons rfl rfl (n_pick_or rfl (ev rfl) (fun h => (evi rfl h))) ?_
  refine net_nil fun a w1 hF hx => ?_
  replace hw := hw.next hx
  replace hF := hF.keep (.cons (t := 2) rfl (.cons (t := 43) rfl .nil))
  refine wpList_nil ?_
  refine wp_cond_split (hF.ev (ev rfl)) (fun h43 => ?_) (fun h43 => ?_)
  · have hz : okG p q g = false := by unfold okG; rw [h43]; rfl
    refine wp_seq (reg_seq 1 (hF _ _) (by kernel_rfl) ?_)
    refine net_cons rfl rfl (n_assign rfl evc) ?_
    refine net_nil fun a w1 hF hx => ?_
    replace hw := hw.next hx
    replace hF := hF.keep (.cons (t := 2) rfl (.cons (t := 43) rfl .nil))
    refine wpList_nil ?_
    refine wp_ret (go_then_r (ret1 hF Try.results117 rfl ?_))
    exact ⟨_, rfl, hw.ext, (by rw [hz]; rfl)⟩
  · have hz : okG p q g = true := by unfold okG; rw [h43]; rfl
    refine wp_skip ?_
    refine wp_seq (reg_seq 1 (hF _ _) (by kernel_rfl) ?_)
    refine net_cons rfl rfl (n_assign rfl evc) ?_
    refine net_nil fun a w1 hF hx => ?_
    replace hw := hw.next hx
    replace hF := hF.keep (.cons (t := 2) rfl (.cons (t := 43) rfl .nil))
    refine wpList_nil ?_
    refine wp_ret (ret1 hF Try.results117 rfl ?_)
    exact ⟨_, rfl, hw.ext, (by rw [hz]; rfl)⟩

theorem ValidGroup_c (p q g : Nat) (hp : p < 18446744073709551616) (hq : q < 18446744073709551616) (hg : g < 18446744073709551616) (w : World) : RetF Try.prog 86 [.agg [U p, U q, U g].toArray].toArray w (.is (.bool (okG p q g))) := by
  refine enter Try.func86 rfl Try.ntmps86 rfl fun a hF => ?_
  have hw := Own.start w
  refine wp_seq (wp_region_lit ?_)
  refine t_net 0 1 (by kernel_rfl) rfl hF ?_
  refine net_cons rfl rfl (n_box rfl (ev rfl) rfl) ?_
  refine net_nil fun a w1 hF hx => ?_
  obtain ⟨b1, h_, hw⟩ := hw.blk hx (hF.at_ 1 _ rfl)
  replace hF := hF.now h_
  replace hF := hF.keep (.cons (t := 1) rfl .nil)
  refine t_net 1 1 (by kernel_rfl) rfl hF ?_
  refine net_cons rfl rfl (n_assign rfl evc) ?_
  refine net_nil fun a w1 hF hx => ?_
  replace hw := hw.next hx
  replace hF := hF.keep (.cons (t := 1) rfl (.cons (t := 2) rfl .nil))
  refine wpList_nil ?_
  refine wp_seq ?_
  refine wp_seq (reg_seq 29 (hF _ _) (by kernel_rfl) ?_)
  refine net_cons rfl rfl (n_fieldAddrO (off' := 0) rfl (ev rfl) Try.runUnderlying26 rfl Try.sizeOf24 rfl) ?_
  refine net_cons rfl rfl (n_load rfl (ev rfl) (ld1 hw (i := 0) rfl Try.isAgg24 rfl)) ?_
  refine net_cons rfl rfl (n_bin rfl (ev rfl) evc (r_gtrN (b := 1048575))) ?_
  refine net_cons rfl rfl (n_move rfl (ev rfl)) ?_
  refine net_if rfl rfl rfl rfl (fun hc => (n_fieldAddrO (off' := 0) rfl (ev rfl) Try.runUnderlying26 rfl Try.sizeOf24 rfl)) ?_
  refine net_if rfl rfl rfl rfl (fun hc => (n_load rfl (evi rfl hc) (ld1 hw (i := 0) rfl Try.isAgg24 rfl))) ?_
  refine net_if rfl rfl rfl rfl (fun hc => (n_ret rfl Try.call133 (.cons (evi rfl hc) .nil) (fun _ hx => IsPrime_c _ (by have := of_decide_eq_false hc; omega) _))) ?_
  refine net_if rfl rfl rfl rfl (fun hc => (n_not rfl (evi rfl hc))) ?_
  refine net_cons rfl rfl (n_pick_or rfl (ev rfl) (fun h => (evi rfl h))) ?_
  refine net_cons rfl rfl (n_move rfl (ev rfl)) ?_
  refine net_if rfl rfl rfl rfl (fun hc => (n_fieldAddrO (off' := 1) rfl (ev rfl) Try.runUnderlying26 rfl Try.sizeOf24 rfl)) ?_
  refine net_if rfl rfl rfl rfl (fun hc => (n_load rfl (evi rfl hc) (ld1 hw (i := 0) rfl Try.isAgg24 rfl))) ?_
  refine net_if rfl rfl rfl rfl (fun hc => (n_bin rfl (evi rfl hc) evc (r_gtrN (b := 1048575)))) ?_
  refine net_cons rfl rfl (n_pick_or rfl (ev rfl) (fun h => (evi rfl h))) ?_
  refine net_cons rfl rfl (n_move rfl (ev rfl)) ?_
  refine net_if rfl rfl rfl rfl (fun hc => (n_fieldAddrO (off' := 1) rfl (ev rfl) Try.runUnderlying26 rfl Try.sizeOf24 rfl)) ?_
  refine net_if rfl rfl rfl rfl (fun hc => (n_load rfl (evi rfl hc) (ld1 hw (i := 0) rfl Try.isAgg24 rfl))) ?_
  refine net_if rfl rfl rfl rfl (fun hc => (n_ret rfl Try.call133 (.cons (evi rfl hc) .nil) (fun _ hx => IsPrime_c _ (by revert hc; simp <;> omega) _))) ?_
  refine net_if rfl rfl rfl rfl (fun hc => (n_not rfl (evi rfl hc))) ?_
  refine net_cons rfl rfl (n_pick_or rfl (ev rfl) (fun h => (evi rfl h))) ?_
  refine net_cons rfl rfl (n_move rfl (ev rfl)) ?_
  refine net_if rfl rfl rfl rfl (fun hc => (n_fieldAddrO (off' := 0) rfl (ev rfl) Try.runUnderlying26 rfl Try.sizeOf24 rfl)) ?_
  refine net_if rfl rfl rfl rfl (fun hc => (n_load rfl (evi rfl hc) (ld1 hw (i := 0) rfl Try.isAgg24 rfl))) ?_
  refine net_if rfl rfl rfl rfl (fun hc => (n_bin rfl (evi rfl hc) evc (r_subN (b := 1) (Nat.le_of_lt (isP_two (by revert hc; cases isP p <;> simp))) hp))) ?_
  refine net_if rfl rfl rfl rfl (fun hc => (n_fieldAddrO (off' := 1) rfl (ev rfl) Try.runUnderlying26 rfl Try.sizeOf24 rfl)) ?_
  refine net_if rfl rfl rfl rfl (fun hc => (n_load rfl (evi rfl hc) (ld1 hw (i := 0) rfl Try.isAgg24 rfl))) ?_
  refine net_if rfl rfl rfl rfl (fun hc => (n_bin rfl (evi rfl hc) (evi rfl hc) (r_remN (Nat.lt_of_lt_of_le (by decide) (isP_two (by revert hc; cases isP q <;> simp)))))) ?_
  refine net_if rfl rfl rfl rfl (fun hc => (n_bin rfl (evi rfl hc) evc (r_neqN (b := 0)))) ?_
  refine net_cons rfl rfl (n_pick_or rfl (ev rfl) (fun h => (evi rfl h))) ?_
  refine net_nil fun a w1 hF hx => ?_
  replace hw := hw.next hx
  replace hF := hF.keep (.cons (t := 1) rfl (.cons (t := 2) rfl (.cons (t := 31) rfl .nil)))
  refine wpList_nil ?_
  refine wp_cond_split (hF.ev (ev rfl)) (fun h31 => ?_) (fun h31 => ?_)
  · have hz : okG p q g = false := by
      simp only [Bool.or_eq_true, decide_eq_true_eq, Bool.not_eq_true', decide_eq_false_iff_not] at h31
      rcases h31 with (((h | h) | h) | h) | h
      · exact okG_no1 (isP_great h)
      · exact okG_no1 h
      · exact okG_no2 (isP_great h)
      · exact okG_no2 h
      · exact okG_no3 h
    refine wp_seq (reg_seq 1 (hF _ _) (by kernel_rfl) ?_)
    refine net_cons rfl rfl (n_assign rfl evc) ?_
    refine net_nil fun a w1 hF hx => ?_
    replace hw := hw.next hx
    replace hF := hF.keep (.cons (t := 1) rfl (.cons (t := 2) rfl (.cons (t := 31) rfl .nil)))
    refine wpList_nil ?_
    refine wp_ret (go_then_r (ret1 hF Try.results86 rfl ?_))
    exact ⟨_, rfl, hw.ext, (by rw [hz]; rfl)⟩
  · simp only [Bool.or_eq_false_iff, decide_eq_false_iff_not, Bool.not_eq_false', decide_eq_true_eq] at h31
    obtain ⟨⟨⟨⟨_, hz1⟩, _⟩, hz2⟩, hz3⟩ := h31
    refine wp_skip ?_
    refine wp_seq (reg_seq 21 (hF _ _) (by kernel_rfl) ?_)
    refine net_cons rfl rfl (n_fieldAddrO (off' := 2) rfl (ev rfl) Try.runUnderlying26 rfl Try.sizeOf24 rfl) ?_
    refine net_cons rfl rfl (n_load rfl (ev rfl) (ld1 hw (i := 0) rfl Try.isAgg24 rfl)) ?_
    refine net_cons rfl rfl (n_bin rfl (ev rfl) evc (r_geqN (b := 2))) ?_
    refine net_cons rfl rfl (n_move rfl (ev rfl)) ?_
    refine net_if rfl rfl rfl rfl (fun hc => (n_fieldAddrO (off' := 2) rfl (ev rfl) Try.runUnderlying26 rfl Try.sizeOf24 rfl)) ?_
    refine net_if rfl rfl rfl rfl (fun hc => (n_load rfl (evi rfl hc) (ld1 hw (i := 0) rfl Try.isAgg24 rfl))) ?_
    refine net_if rfl rfl rfl rfl (fun hc => (n_fieldAddrO (off' := 0) rfl (ev rfl) Try.runUnderlying26 rfl Try.sizeOf24 rfl)) ?_
    refine net_if rfl rfl rfl rfl (fun hc => (n_load rfl (evi rfl hc) (ld1 hw (i := 0) rfl Try.isAgg24 rfl))) ?_
    refine net_if rfl rfl rfl rfl (fun hc => (n_bin rfl (evi rfl hc) (evi rfl hc) r_lssN)) ?_
    refine net_cons rfl rfl (n_pick_and rfl (ev rfl) (fun h => (evi rfl h))) ?_
    refine net_cons rfl rfl (n_move rfl (ev rfl)) ?_
    refine net_if rfl rfl rfl rfl (fun hc => (n_fieldAddrO (off' := 2) rfl (ev rfl) Try.runUnderlying26 rfl Try.sizeOf24 rfl)) ?_
    refine net_if rfl rfl rfl rfl (fun hc => (n_load rfl (evi rfl hc) (ld1 hw (i := 0) rfl Try.isAgg24 rfl))) ?_
    refine net_if rfl rfl rfl rfl (fun hc => (n_fieldAddrO (off' := 1) rfl (ev rfl) Try.runUnderlying26 rfl Try.sizeOf24 rfl)) ?_
    refine net_if rfl rfl rfl rfl (fun hc => (n_load rfl (evi rfl hc) (ld1 hw (i := 0) rfl Try.isAgg24 rfl))) ?_
    refine net_if rfl rfl rfl rfl (fun hc => (n_fieldAddrO (off' := 0) rfl (ev rfl) Try.runUnderlying26 rfl Try.sizeOf24 rfl)) ?_
    refine net_if rfl rfl rfl rfl (fun hc => (n_load rfl (evi rfl hc) (ld1 hw (i := 0) rfl Try.isAgg24 rfl))) ?_
    refine net_if rfl rfl rfl rfl (fun hc => (n_ret rfl Try.call81 (.cons (evi rfl hc) (.cons (evi rfl hc) (.cons (evi rfl hc) .nil))) (fun _ hx => (rPower_c _ _ _ hg hq (Nat.lt_of_lt_of_le (by decide) (isP_two hz1)) (Nat.le_trans (isP_max hz1) (by decide)) _)))) ?_
    refine net_if rfl rfl rfl rfl (fun hc => (n_bin rfl (evi rfl hc) evc (r_eqlN (b := 1)))) ?_
    refine net_cons rfl rfl (n_pick_and rfl (ev rfl) (fun h => (evi rfl h))) ?_
    refine net_cons rfl rfl (n_assign rfl (ev rfl)) ?_
    refine net_nil fun a w1 hF hx => ?_
    replace hw := hw.next hx
    replace hF := hF.keep (.cons (t := 1) rfl (.cons (t := 2) rfl (.cons (t := 31) rfl .nil)))
    refine wpList_nil ?_
    refine wp_ret (ret1 hF Try.results86 rfl ?_)
    exact ⟨_, rfl, hw.ext, (by rw [okG_mk hz1 hz2 hz3]; rfl)⟩

theorem modulus_c (m : Nat) (w : World) : RetF Try.prog 91 [U m].toArray w (.is (.bool (decide (1 ≤ m) && decide (m < 4294967296)))) := by
  refine enter Try.func91 rfl Try.ntmps91 rfl fun a hF => ?_
  have hw := Own.start w
  refine wp_seq (reg_seq 1 (hF _ _) (by kernel_rfl) ?_)
  refine net_cons rfl rfl (n_assign rfl evc) ?_
  refine net_nil fun a w1 hF hx => ?_
  replace hw := hw.next hx
  replace hF := hF.keep (.cons (t := 0) rfl (.cons (t := 2) rfl .nil))
  refine wpList_nil ?_
  refine wp_seq (reg_seq 7 (hF _ _) (by kernel_rfl) ?_)
  refine net_cons rfl rfl (n_move rfl (ev rfl)) ?_
  refine net_cons rfl rfl (n_bin rfl (ev rfl) evc (r_geqN (b := 1))) ?_
  refine net_cons rfl rfl (n_move rfl (ev rfl)) ?_
  refine net_if rfl rfl rfl rfl (fun hc => (n_move rfl (ev rfl))) ?_
  refine net_if rfl rfl rfl rfl (fun hc => (n_bin rfl (evi rfl hc) evc (r_lssN (b := 4294967296)))) ?_
  refine net_cons rfl rfl (n_pick_and rfl (ev rfl) (fun h => (evi rfl h))) ?_
  refine net_cons rfl rfl (n_assign rfl (ev rfl)) ?_
  refine net_nil fun a w1 hF hx => ?_
  replace hw := hw.next hx
  replace hF := hF.keep (.cons (t := 2) rfl .nil)
  refine wpList_nil ?_
  refine wp_ret (ret1 hF Try.results91 rfl ?_)
  exact ⟨_, rfl, hw.ext, rfl⟩


theorem mod_ok {m : Nat} (h1 : 1 ≤ m) (h2 : m < 4294967296) : (!(decide (1 ≤ m) && decide (m < 4294967296))) = false := by simp [h1, h2]


theorem PowMod_c (b n m : Nat) (hb : b < 18446744073709551616) (hn : n < 18446744073709551616) (h1 : 1 ≤ m) (h2 : m < 4294967296) (w : World) : RetF Try.prog 35 [U b, U n, U m].toArray w (.is (.tuple #[U (b ^ n % m), I 0])) := by
  refine enter Try.func35 rfl Try.ntmps35 rfl fun a hF => ?_
  have hw := Own.start w
  refine wp_seq (reg_seq 2 (hF _ _) (by kernel_rfl) ?_)
  refine net_cons rfl rfl (n_assign rfl evc) ?_
  refine net_cons rfl rfl (n_assign rfl evc) ?_
  refine net_nil fun a w1 hF hx => ?_
  replace hw := hw.next hx
  replace hF := hF.keep (.cons (t := 0) rfl (.cons (t := 1) rfl (.cons (t := 2) rfl (.cons (t := 6) rfl (.cons (t := 7) rfl .nil)))))
  refine wpList_nil ?_
  refine wp_seq ?_
  refine wp_seq (reg_seq 3 (hF _ _) (by kernel_rfl) ?_)
  refine net_cons rfl rfl (n_move rfl (ev rfl)) ?_
  refine net_cons rfl rfl (n_ret rfl Try.call91 (.cons (ev rfl) .nil) (fun _ hx => modulus_c _ _)) ?_
  refine net_cons rfl rfl (n_not rfl (ev rfl)) ?_
  refine net_nil fun a w1 hF hx => ?_
  replace hw := hw.next hx
  replace hF := hF.keep (.cons (t := 0) rfl (.cons (t := 1) rfl (.cons (t := 2) rfl (.cons (t := 6) rfl (.cons (t := 7) rfl (.cons (t := 10) rfl .nil))))))
  refine wpList_nil ?_
  refine wp_cond_false ((hF.ev (ev rfl)).trans (congrArg Value.bool (mod_ok h1 h2))) ?_
  refine wp_skip ?_
  refine wp_seq (reg_seq 6 (hF _ _) (by kernel_rfl) ?_)
  refine net_cons rfl rfl (n_move rfl (ev rfl)) ?_
  refine net_cons rfl rfl (n_move rfl (ev rfl)) ?_
  refine net_cons rfl rfl (n_move rfl (ev rfl)) ?_
  refine net_cons rfl rfl (n_ret rfl Try.call92 (.cons (ev rfl) (.cons (ev rfl) (.cons (ev rfl) .nil))) (fun _ hx => power_c _ _ _ (by omega) (by omega) (by omega) (by omega) _)) ?_
  refine net_cons rfl rfl (n_assign rfl (ev rfl)) ?_
  refine net_cons rfl rfl (n_assign rfl evc) ?_
  refine net_nil fun a w1 hF hx => ?_
  replace hw := hw.next hx
  replace hF := hF.keep (.cons (t := 2) rfl (.cons (t := 6) rfl (.cons (t := 7) rfl (.cons (t := 10) rfl .nil))))
  refine wpList_nil ?_
  refine wp_ret (ret2 hF Try.results35 rfl rfl ?_)
  exact ⟨_, rfl, hw.ext, rfl⟩


/-! ### inverses -/
def invN (b q : Nat) : Nat := ((List.range q).find? fun y => decide (b * y % q = 1)).getD 0
theorem invN_eq {b q y : Nat} (hy : y < q) (h : b * y % q = 1) : invN b q = y := by
  unfold invN
  cases hf : (List.range q).find? fun y => decide (b * y % q = 1) with
  | none =>
    have := List.find?_eq_none.1 hf y (List.mem_range.2 hy)
    simp [h] at this
  | some z =>
    have h1 := List.find?_some hf
    have h2 := List.mem_range.1 (List.mem_of_find?_eq_some hf)
    simp only [decide_eq_true_eq] at h1
    show z = y
    have e1 : z * (b * y) % q = z := by rw [Nat.mul_mod, h, Nat.mul_one, Nat.mod_mod, Nat.mod_eq_of_lt h2]
    have e2 : (b * z) * y % q = y := by rw [Nat.mul_mod, h1, Nat.one_mul, Nat.mod_mod, Nat.mod_eq_of_lt hy]
    rw [← e1, ← e2]
    congr 1
    grind
theorem sub_div_mul (r x : Nat) : r - r / x * x = r % x := by
  have h := Nat.div_add_mod r x
  rw [Nat.mul_comm] at h
  omega
theorem nat_mod_int (a m : Nat) : ((a % m : Nat) : Int) = (a : Int) - (m : Int) * ((a / m : Nat) : Int) := by
  have h := Nat.div_add_mod a m
  have : ((m * (a / m) + a % m : Nat) : Int) = (a : Int) := by rw [h]
  rw [Int.natCast_add, Int.natCast_mul] at this
  omega
theorem inv_next {a m r x s y q : Nat} (hm : 0 < m) (h1 : ∃ k : Int, (s : Int) * a - r = m * k) (h2 : ∃ k : Int, (y : Int) * a - x = m * k) (hq : q * x ≤ r) :
    ∃ k : Int, (((s + (m - q % m * y % m)) % m : Nat) : Int) * a - ((r - q * x : Nat) : Int) = m * k := by
  obtain ⟨k, h1⟩ := h1
  obtain ⟨l, h2⟩ := h2
  have hz : q % m * y % m ≤ m := Nat.le_of_lt (Nat.mod_lt _ hm)
  have e1 := nat_mod_int q m
  have e2 := nat_mod_int (q % m * y) m
  have e3 := nat_mod_int (s + (m - q % m * y % m)) m
  rw [Int.natCast_add, Int.natCast_sub hz] at e3
  rw [Int.natCast_mul] at e2
  rw [Int.natCast_sub hq, Int.natCast_mul, e3, e2, e1]
  generalize ((q % m * y / m : Nat) : Int) = c1
  generalize ((q / m : Nat) : Int) = c2
  generalize (((s + (m - q % m * y % m)) / m : Nat) : Int) = c3
  exact ⟨k - q * l + a + c1 * a + c2 * y * a - c3 * a, by grind⟩
theorem inv_fin {a m s : Nat} (hm : 2 ≤ m) (h : ∃ k : Int, (s : Int) * a - ((1 : Nat) : Int) = m * k) : a * s % m = 1 := by
  obtain ⟨k, h⟩ := h
  have h1 : ((a * s : Nat) : Int) = 1 + m * k := by rw [Int.natCast_mul]; grind
  have h2 : ((a * s % m : Nat) : Int) = 1 := by
    rw [Int.natCast_emod, h1, Int.add_mul_emod_self_left, Int.emod_eq_of_lt (by decide) (by omega)]
  omega


theorem Inverse_c (c m : Nat) (ha : c < 18446744073709551616) (h1 : 2 ≤ m) (h2 : m ≤ 4294967296) (hg : Nat.gcd c m = 1) (w : World) : RetF Try.prog 125 [U c, U m].toArray w (.is (.tuple #[U (invN c m), .bool true])) := by
  refine enter Try.func125 rfl Try.ntmps125 rfl fun a hF => ?_
  have hw := Own.start w
  refine wp_seq (reg_seq 2 (hF _ _) (by kernel_rfl) ?_)
  refine net_cons rfl rfl (n_assign rfl evc) ?_
  refine net_cons rfl rfl (n_assign rfl evc) ?_
  refine net_nil fun a w1 hF hx => ?_
  replace hw := hw.next hx
  replace hF := hF.keep (.cons (t := 0) rfl (.cons (t := 1) rfl (.cons (t := 4) rfl (.cons (t := 5) rfl .nil))))
  refine wpList_nil ?_
  refine wp_seq (reg_draw 7 mixed (by kernel_rfl) (hF _ _) ?_)
  refine net_cons rfl rfl (n_move rfl (ev rfl)) ?_
  refine net_cons rfl rfl (n_move rfl (ev rfl)) ?_
  refine net_cons rfl rfl (n_bin rfl (ev rfl) (ev rfl) (r_remN (by omega))) ?_
  refine net_cons rfl rfl (n_move rfl (ev rfl)) ?_
  refine net_cons rfl rfl (n_bin rfl evc (ev rfl) (r_remN (a := 1) (by omega))) ?_
  refine net_cons rfl rfl (n_assign rfl (ev rfl)) ?_
  refine net_cons rfl rfl (n_assign rfl (ev rfl)) ?_
  refine net_nil fun a w1 hF hx => ?_
  replace hw := hw.next hx
  replace hF := hF.keep (.cons (t := 1) rfl (.cons (t := 4) rfl (.cons (t := 5) rfl (.cons (t := 6) rfl (.cons (t := 7) rfl .nil)))))
  refine wpList_nil ?_
  refine wp_seq (reg_seq 3 (hF _ _) (by kernel_rfl) ?_)
  refine net_cons rfl rfl (n_move rfl (ev rfl)) ?_
  refine net_cons rfl rfl (n_assign rfl (ev rfl)) ?_
  refine net_cons rfl rfl (n_assign rfl evc) ?_
  refine net_nil fun a w1 hF hx => ?_
  replace hw := hw.next hx
  replace hF := hF.keep (.cons (t := 1) rfl (.cons (t := 4) rfl (.cons (t := 5) rfl (.cons (t := 6) rfl (.cons (t := 7) rfl (.cons (t := 8) rfl (.cons (t := 9) rfl .nil)))))))
  refine wpList_nil ?_
  refine wp_seq (wp_block ?_)
  refine wp_loop_ix (α := Nat × Nat × Nat × Nat) (fun ⟨r, x, s, y⟩ a w1 => FrV 45 [] [(1, .is (U m)) , (6, .is (U r)) , (7, .is (U s)) , (8, .is (U x)) , (9, .is (U y))] a ∧ Own w w1 [] ∧ (r ≤ m) ∧ (x ≤ m) ∧ (s < m) ∧ (y < m) ∧ (Nat.gcd r x = 1) ∧ (∃ k : Int, (s : Int) * c - r = m * k) ∧ (∃ k : Int, (y : Int) * c - x = m * k)) (fun ⟨r, x, s, y⟩ => x) ((c % m, m, 1 % m, 0)) ⟨hF.keep (.cons (t := 1) rfl (.cons (t := 6) rfl (.cons (t := 7) rfl (.cons (t := 8) rfl (.cons (t := 9) rfl (.nil)))))), hw, Nat.le_of_lt (Nat.mod_lt _ (by omega)), Nat.le_refl _, Nat.mod_lt _ (by omega), by omega, by rw [← Nat.gcd_rec, Nat.gcd_comm]; exact hg, ⟨-((1 / m : Nat) : Int) * c + ((c / m : Nat) : Int), by rw [nat_mod_int 1 m, nat_mod_int c m]; grind⟩, ⟨-1, by grind⟩⟩ ?_
  rintro ⟨r, x, s, y⟩ a w1 ⟨hF, hw, hr, hx0, hs, hy, hgg, hA, hB⟩
  refine wp_seq ?_
  refine wp_seq (reg_seq 2 (hF _ _) (by kernel_rfl) ?_)
  refine net_cons rfl rfl (n_move rfl (ev rfl)) ?_
  refine net_cons rfl rfl (n_bin rfl (ev rfl) evc (r_neqN (b := 0))) ?_
  refine net_nil fun a w1 hF hx => ?_
  replace hw := hw.next hx
  replace hF := hF.keep (.cons (t := 1) rfl (.cons (t := 6) rfl (.cons (t := 7) rfl (.cons (t := 8) rfl (.cons (t := 9) rfl (.cons (t := 18) rfl .nil))))))
  refine wpList_nil ?_
  refine wp_cond_split (hF.ev (ev rfl)) (fun h18 => ?_) (fun h18 => ?_)
  · have hx1 : 0 < x := by { rcases Nat.eq_zero_or_pos x with h | h; simp [h] at h18; exact h }
    refine wp_skip ?_
    refine wp_block ?_
    refine wp_seq (reg_seq 4 (hF _ _) (by kernel_rfl) ?_)
    refine net_cons rfl rfl (n_move rfl (ev rfl)) ?_
    refine net_cons rfl rfl (n_move rfl (ev rfl)) ?_
    refine net_cons rfl rfl (n_bin rfl (ev rfl) (ev rfl) (r_quoN hx1 (by omega))) ?_
    refine net_cons rfl rfl (n_assign rfl (ev rfl)) ?_
    refine net_nil fun a w1 hF hx => ?_
    replace hw := hw.next hx
    replace hF := hF.keep (.cons (t := 1) rfl (.cons (t := 6) rfl (.cons (t := 7) rfl (.cons (t := 8) rfl (.cons (t := 9) rfl (.cons (t := 10) rfl (.cons (t := 18) rfl .nil)))))))
    refine wpList_nil ?_
    refine wp_seq (reg_seq 8 (hF _ _) (by kernel_rfl) ?_)
    refine net_cons rfl rfl (n_move rfl (ev rfl)) ?_
    refine net_cons rfl rfl (n_move rfl (ev rfl)) ?_
    refine net_cons rfl rfl (n_move rfl (ev rfl)) ?_
    refine net_cons rfl rfl (n_move rfl (ev rfl)) ?_
    refine net_cons rfl rfl (n_bin rfl (ev rfl) (ev rfl) (r_mulN (Nat.lt_of_le_of_lt (Nat.div_mul_le_self r x) (by omega)))) ?_
    refine net_cons rfl rfl (n_to (n_bin rfl (ev rfl) (ev rfl) (r_subN (Nat.div_mul_le_self r x) (by omega))) (congrArg (fun n : Nat => U n) (sub_div_mul r x))) ?_
    refine net_cons rfl rfl (n_assign rfl (ev rfl)) ?_
    refine net_cons rfl rfl (n_assign rfl (ev rfl)) ?_
    refine net_nil fun a w1 hF hx => ?_
    replace hw := hw.next hx
    replace hF := hF.keep (.cons (t := 1) rfl (.cons (t := 6) rfl (.cons (t := 7) rfl (.cons (t := 8) rfl (.cons (t := 9) rfl (.cons (t := 10) rfl (.cons (t := 18) rfl .nil)))))))
    refine wpList_nil ?_
    refine reg_draw 16 mixed (by kernel_rfl) (hF _ _) ?_
    refine net_cons rfl rfl (n_move rfl (ev rfl)) ?_
    refine net_cons rfl rfl (n_move rfl (ev rfl)) ?_
    refine net_cons rfl rfl (n_move rfl (ev rfl)) ?_
    refine net_cons rfl rfl (n_move rfl (ev rfl)) ?_
    refine net_cons rfl rfl (n_move rfl (ev rfl)) ?_
    refine net_cons rfl rfl (n_bin rfl (ev rfl) (ev rfl) (r_remN (by omega))) ?_
    refine net_cons rfl rfl (n_move rfl (ev rfl)) ?_
    refine net_cons rfl rfl (n_bin rfl (ev rfl) (ev rfl) (r_mulN (mul_small (Nat.mod_lt _ (by omega)) hy h2))) ?_
    refine net_cons rfl rfl (n_move rfl (ev rfl)) ?_
    refine net_cons rfl rfl (n_bin rfl (ev rfl) (ev rfl) (r_remN (by omega))) ?_
    refine net_cons rfl rfl (n_bin rfl (ev rfl) (ev rfl) (r_subN (Nat.le_of_lt (Nat.mod_lt _ (by omega))) (by omega))) ?_
    refine net_cons rfl rfl (n_bin rfl (ev rfl) (ev rfl) (r_addN (by omega))) ?_
    refine net_cons rfl rfl (n_move rfl (ev rfl)) ?_
    refine net_cons rfl rfl (n_bin rfl (ev rfl) (ev rfl) (r_remN (by omega))) ?_
    refine net_cons rfl rfl (n_assign rfl (ev rfl)) ?_
    refine net_cons rfl rfl (n_assign rfl (ev rfl)) ?_
    refine net_nil fun a w1 hF hx => ?_
    replace hw := hw.next hx
    replace hF := hF.keep (.cons (t := 1) rfl (.cons (t := 6) rfl (.cons (t := 7) rfl (.cons (t := 8) rfl (.cons (t := 9) rfl (.cons (t := 10) rfl (.cons (t := 18) rfl .nil)))))))
    refine wpList_nil ?_
    exact ⟨(x, r % x, y, (s + (m - r / x % m * y % m)) % m), ⟨hF.keep (.cons (t := 1) rfl (.cons (t := 6) rfl (.cons (t := 7) rfl (.cons (t := 8) rfl (.cons (t := 9) rfl (.nil)))))), hw, hx0, Nat.le_trans (Nat.le_of_lt (Nat.mod_lt _ hx1)) hx0, hy, Nat.mod_lt _ (by omega), by rw [Nat.gcd_comm, ← Nat.gcd_rec, Nat.gcd_comm]; exact hgg, hB, sub_div_mul r x ▸ inv_next (by omega) hA hB (Nat.div_mul_le_self r x)⟩, (Nat.mod_lt _ hx1)⟩
  · obtain rfl : x = 0 := by simpa using h18
    obtain rfl : r = 1 := by rw [Nat.gcd_zero_right] at hgg; exact hgg
    have hz := invN_eq hs (inv_fin h1 hA)
    refine wp_exit (go_then_e (go_then_e (go_exit ?_)))
    refine wp_seq (reg_seq 5 (hF _ _) (by kernel_rfl) ?_)
    refine net_cons rfl rfl (n_move rfl (ev rfl)) ?_
    refine net_cons rfl rfl (n_move rfl (ev rfl)) ?_
    refine net_cons rfl rfl (n_bin rfl (ev rfl) evc (r_eqlN (b := 1))) ?_
    refine net_cons rfl rfl (n_assign rfl (ev rfl)) ?_
    refine net_cons rfl rfl (n_assign rfl (ev rfl)) ?_
    refine net_nil fun a w1 hF hx => ?_
    replace hw := hw.next hx
    replace hF := hF.keep (.cons (t := 1) rfl (.cons (t := 4) rfl (.cons (t := 5) rfl (.cons (t := 6) rfl (.cons (t := 7) rfl (.cons (t := 8) rfl (.cons (t := 9) rfl (.cons (t := 18) rfl .nil))))))))
    refine wpList_nil ?_
    refine wp_ret (ret2 hF Try.results125 rfl rfl ?_)
    exact ⟨_, rfl, hw.ext, (by rw [hz]; rfl)⟩


/-! ### the signed road -/
def sg (e : Bool) (n : Nat) : Int := if e then (n : Int) else -(n : Int)
theorem sg_abs (e : Bool) (n : Nat) : -(n : Int) ≤ sg e n ∧ sg e n ≤ (n : Int) := by
  unfold sg
  split <;> omega
theorem sg_next (e : Bool) (u v q : Nat) : sg (!e) u - (q : Int) * sg e v = sg (!e) (u + q * v) := by
  cases e <;> simp [sg] <;> grind
theorem eu_next {r x u v m : Nat} (h : u * x + v * r = m) : v * (r % x) + (u + r / x * v) * x = m := by
  have := Nat.div_add_mod r x
  generalize r / x = q at this ⊢
  generalize r % x = p at this ⊢
  grind
theorem eu_le {r x u v m : Nat} (h : u * x + v * r = m) (hx : 0 < x) : u + r / x * v ≤ m := by
  have h1 := eu_next h
  have h2 : (u + r / x * v) * 1 ≤ (u + r / x * v) * x := Nat.mul_le_mul_left _ hx
  omega
theorem eu_inv {a m r x q : Nat} {s t : Int} (h1 : ∃ k : Int, s * a - r = m * k) (h2 : ∃ k : Int, t * a - x = m * k) (hq : q * x ≤ r) : ∃ k : Int, (s - (q : Int) * t) * a - ((r - q * x : Nat) : Int) = m * k := by
  obtain ⟨k, h1⟩ := h1
  obtain ⟨l, h2⟩ := h2
  rw [Int.natCast_sub hq, Int.natCast_mul]
  exact ⟨k - q * l, by grind⟩
/-- The last line: a number from 0 to m - 1. -/
theorem eu_fin {m : Nat} (hm : 0 < m) (s : Int) : ∃ y : Nat, y < m ∧ ((s.tmod m + m).tmod m) = (y : Int) ∧ ∃ k : Int, (y : Int) = s + m * k := by
  have h1 := Int.tmod_lt_of_pos s (show (0 : Int) < m by omega)
  have h2 : -(m : Int) < s.tmod m := Int.lt_tmod_of_pos s (show (0 : Int) < m by omega)
  have h3 : (0 : Int) ≤ s.tmod m + m := by omega
  have h4 : (s.tmod m + m).tmod m = (s.tmod m + m) % m := Int.tmod_eq_emod_of_nonneg h3
  have h5 := Int.emod_nonneg (s.tmod m + m) (show (m : Int) ≠ 0 by omega)
  have h6 := Int.emod_lt_of_pos (s.tmod m + m) (show (0 : Int) < m by omega)
  refine ⟨((s.tmod m + m) % m).toNat, by omega, by omega, ?_⟩
  have h7 := Int.tmod_add_mul_tdiv s m
  have h8 := Int.emod_add_mul_ediv (s.tmod m + m) m
  refine ⟨1 - s.tdiv m - (s.tmod m + m) / m, ?_⟩
  rw [Int.toNat_of_nonneg h5]
  grind
theorem r_quoI {P : Program} {t : TypeId} {a b : Nat} (h : 0 < b) (ha : a < 9223372036854775808) : R2 P .quo t (I (a : Int)) (I (b : Int)) (I ((a / b : Nat) : Int)) := by
  have := r_quo (P := P) (t := t) (k := .i64) (a := a) (b := b) (by omega)
  have hle := Nat.div_le_self a b
  rw [show ((a : Int).tdiv (b : Int)) = ((a / b : Nat) : Int) by rw [Int.tdiv_eq_ediv_of_nonneg (Int.natCast_nonneg a)]; rfl, wrap_i64_nat (by omega)] at this
  exact this
theorem cast_sub_div {r x : Nat} : (r : Int) - ((r / x : Nat) : Int) * (x : Int) = ((r % x : Nat) : Int) := by
  have h := Nat.div_mul_le_self r x
  rw [← sub_div_mul r x, Int.natCast_sub h, Int.natCast_mul]
theorem mul_bound {q v m : Nat} (e : Bool) (h : q * v ≤ m) : -(m : Int) ≤ (q : Int) * sg e v ∧ (q : Int) * sg e v ≤ (m : Int) := by
  have : (q : Int) * sg e v = sg e (q * v) := by cases e <;> simp [sg] <;> grind
  rw [this]
  have := sg_abs e (q * v)
  omega
theorem inv_fin2 {a m y : Nat} {s : Int} (hm : 2 ≤ m) (h : ∃ k : Int, s * a - ((1 : Nat) : Int) = m * k) (hy : ∃ k : Int, (y : Int) = s + m * k) : a * y % m = 1 := by
  obtain ⟨k, h⟩ := h
  obtain ⟨l, hy⟩ := hy
  refine inv_fin hm ⟨k + l * a, ?_⟩
  rw [hy]
  grind


theorem InvMod_c (c m : Nat) (ha : c < 18446744073709551616) (h1 : 2 ≤ m) (h2 : m < 4294967296) (hg : Nat.gcd c m = 1) (w : World) : RetF Try.prog 123 [U c, U m].toArray w (.is (.tuple #[U (invN c m), I 0])) := by
  refine enter Try.func123 rfl Try.ntmps123 rfl fun a hF => ?_
  have hw := Own.start w
  refine wp_seq (reg_seq 2 (hF _ _) (by kernel_rfl) ?_)
  refine net_cons rfl rfl (n_assign rfl evc) ?_
  refine net_cons rfl rfl (n_assign rfl evc) ?_
  refine net_nil fun a w1 hF hx => ?_
  replace hw := hw.next hx
  replace hF := hF.keep (.cons (t := 0) rfl (.cons (t := 1) rfl (.cons (t := 4) rfl (.cons (t := 5) rfl .nil))))
  refine wpList_nil ?_
  refine wp_seq ?_
  refine wp_seq (reg_seq 3 (hF _ _) (by kernel_rfl) ?_)
  refine net_cons rfl rfl (n_move rfl (ev rfl)) ?_
  refine net_cons rfl rfl (n_ret rfl Try.call91 (.cons (ev rfl) .nil) (fun _ hx => modulus_c _ _)) ?_
  refine net_cons rfl rfl (n_not rfl (ev rfl)) ?_
  refine net_nil fun a w1 hF hx => ?_
  replace hw := hw.next hx
  replace hF := hF.keep (.cons (t := 0) rfl (.cons (t := 1) rfl (.cons (t := 4) rfl (.cons (t := 5) rfl (.cons (t := 13) rfl .nil)))))
  refine wpList_nil ?_
  refine wp_cond_false ((hF.ev (ev rfl)).trans (congrArg Value.bool (mod_ok (by omega) h2))) ?_
  refine wp_skip ?_
  refine wp_seq (reg_draw 8 mixed (by kernel_rfl) (hF _ _) ?_)
  refine net_cons rfl rfl (n_move rfl (ev rfl)) ?_
  refine net_cons rfl rfl (n_convT rfl (ev rfl) Try.underlying24 Try.underlying2 (wrap_i64_nat (by omega))) ?_
  refine net_cons rfl rfl (n_move rfl (ev rfl)) ?_
  refine net_cons rfl rfl (n_move rfl (ev rfl)) ?_
  refine net_cons rfl rfl (n_bin rfl (ev rfl) (ev rfl) (r_remN (by omega))) ?_
  refine net_cons rfl rfl (n_convT rfl (ev rfl) Try.underlying24 Try.underlying2 (wrap_i64_nat (by have := Nat.mod_lt c (show 0 < m by omega); omega))) ?_
  refine net_cons rfl rfl (n_assign rfl (ev rfl)) ?_
  refine net_cons rfl rfl (n_assign rfl (ev rfl)) ?_
  refine net_nil fun a w1 hF hx => ?_
  replace hw := hw.next hx
  replace hF := hF.keep (.cons (t := 1) rfl (.cons (t := 4) rfl (.cons (t := 5) rfl (.cons (t := 6) rfl (.cons (t := 7) rfl (.cons (t := 13) rfl .nil))))))
  refine wpList_nil ?_
  refine wp_seq (reg_seq 2 (hF _ _) (by kernel_rfl) ?_)
  refine net_cons rfl rfl (n_assign rfl evc) ?_
  refine net_cons rfl rfl (n_assign rfl evc) ?_
  refine net_nil fun a w1 hF hx => ?_
  replace hw := hw.next hx
  replace hF := hF.keep (.cons (t := 1) rfl (.cons (t := 4) rfl (.cons (t := 5) rfl (.cons (t := 6) rfl (.cons (t := 7) rfl (.cons (t := 8) rfl (.cons (t := 9) rfl (.cons (t := 13) rfl .nil))))))))
  refine wpList_nil ?_
  refine wp_seq (wp_block ?_)
  refine wp_loop_ix (α := Nat × Nat × Nat × Nat × Bool) (fun ⟨r, x, u, v, e⟩ a w1 => FrV 50 [] [(1, .is (U m)) , (6, .is (I (r : Int))) , (7, .is (I (x : Int))) , (8, .is (I (sg (!e) u))) , (9, .is (I (sg e v)))] a ∧ Own w w1 [] ∧ (r ≤ m) ∧ (x < m) ∧ (u ≤ m) ∧ (v ≤ m) ∧ (u * x + v * r = m) ∧ (Nat.gcd r x = 1) ∧ (∃ k : Int, sg (!e) u * c - r = m * k) ∧ (∃ k : Int, sg e v * c - x = m * k)) (fun ⟨r, x, u, v, e⟩ => x) ((m, c % m, 0, 1, true)) ⟨hF.keep (.cons (t := 1) rfl (.cons (t := 6) rfl (.cons (t := 7) rfl (.cons (t := 8) rfl (.cons (t := 9) rfl (.nil)))))), hw, Nat.le_refl _, Nat.mod_lt _ (by omega), by omega, by omega, by omega, by rw [Nat.gcd_comm, ← Nat.gcd_rec, Nat.gcd_comm]; exact hg, ⟨-1, by simp [sg]⟩, ⟨((c / m : Nat) : Int), by rw [nat_mod_int c m]; simp [sg]; grind⟩⟩ ?_
  rintro ⟨r, x, u, v, e⟩ a w1 ⟨hF, hw, hr, hx0, hu, hv, hE, hgg, hA, hB⟩
  refine wp_seq ?_
  refine wp_seq (reg_seq 2 (hF _ _) (by kernel_rfl) ?_)
  refine net_cons rfl rfl (n_move rfl (ev rfl)) ?_
  refine net_cons rfl rfl (n_bin rfl (ev rfl) evc (r_neqN (b := 0))) ?_
  refine net_nil fun a w1 hF hx => ?_
  replace hw := hw.next hx
  replace hF := hF.keep (.cons (t := 1) rfl (.cons (t := 6) rfl (.cons (t := 7) rfl (.cons (t := 8) rfl (.cons (t := 9) rfl (.cons (t := 21) rfl .nil))))))
  refine wpList_nil ?_
  refine wp_cond_split (hF.ev (ev rfl)) (fun h21 => ?_) (fun h21 => ?_)
  · have hx1 : 0 < x := by { rcases Nat.eq_zero_or_pos x with h | h; simp [h] at h21; exact h }
    have hb1 := eu_le hE hx1
    have hqv : r / x * v ≤ m := by omega
    have hb2 := mul_bound e hqv
    have hb3 := sg_abs (!e) u
    have hb4 := sg_abs (!e) (u + r / x * v)
    have hq := Nat.div_mul_le_self r x
    have hqi : ((r / x : Nat) : Int) * (x : Int) ≤ r := by rw [← Int.natCast_mul]; omega
    have hqj : (0 : Int) ≤ ((r / x : Nat) : Int) * (x : Int) := by rw [← Int.natCast_mul]; omega
    refine wp_skip ?_
    refine wp_block ?_
    refine wp_seq (reg_seq 4 (hF _ _) (by kernel_rfl) ?_)
    refine net_cons rfl rfl (n_move rfl (ev rfl)) ?_
    refine net_cons rfl rfl (n_move rfl (ev rfl)) ?_
    refine net_cons rfl rfl (n_bin rfl (ev rfl) (ev rfl) (r_quoI hx1 (by omega))) ?_
    refine net_cons rfl rfl (n_assign rfl (ev rfl)) ?_
    refine net_nil fun a w1 hF hx => ?_
    replace hw := hw.next hx
    replace hF := hF.keep (.cons (t := 1) rfl (.cons (t := 6) rfl (.cons (t := 7) rfl (.cons (t := 8) rfl (.cons (t := 9) rfl (.cons (t := 10) rfl (.cons (t := 21) rfl .nil)))))))
    refine wpList_nil ?_
    refine wp_seq (reg_seq 8 (hF _ _) (by kernel_rfl) ?_)
    refine net_cons rfl rfl (n_move rfl (ev rfl)) ?_
    refine net_cons rfl rfl (n_move rfl (ev rfl)) ?_
    refine net_cons rfl rfl (n_move rfl (ev rfl)) ?_
    refine net_cons rfl rfl (n_move rfl (ev rfl)) ?_
    refine net_cons rfl rfl (n_bin rfl (ev rfl) (ev rfl) (r_mulI (by omega) (by omega))) ?_
    refine net_cons rfl rfl (n_to (n_bin rfl (ev rfl) (ev rfl) (r_subI (by omega) (by omega))) (congrArg (Value.int .i64) cast_sub_div)) ?_
    refine net_cons rfl rfl (n_assign rfl (ev rfl)) ?_
    refine net_cons rfl rfl (n_assign rfl (ev rfl)) ?_
    refine net_nil fun a w1 hF hx => ?_
    replace hw := hw.next hx
    replace hF := hF.keep (.cons (t := 1) rfl (.cons (t := 6) rfl (.cons (t := 7) rfl (.cons (t := 8) rfl (.cons (t := 9) rfl (.cons (t := 10) rfl (.cons (t := 21) rfl .nil)))))))
    refine wpList_nil ?_
    refine reg_seq 8 (hF _ _) (by kernel_rfl) ?_
    refine net_cons rfl rfl (n_move rfl (ev rfl)) ?_
    refine net_cons rfl rfl (n_move rfl (ev rfl)) ?_
    refine net_cons rfl rfl (n_move rfl (ev rfl)) ?_
    refine net_cons rfl rfl (n_move rfl (ev rfl)) ?_
    refine net_cons rfl rfl (n_bin rfl (ev rfl) (ev rfl) (r_mulI (by omega) (by omega))) ?_
    refine net_cons rfl rfl (n_to (n_bin rfl (ev rfl) (ev rfl) (r_subI (by rw [sg_next]; omega) (by rw [sg_next]; omega))) (congrArg (Value.int .i64) (sg_next e u v _))) ?_
    refine net_cons rfl rfl (n_assign rfl (ev rfl)) ?_
    refine net_cons rfl rfl (n_assign rfl (ev rfl)) ?_
    refine net_nil fun a w1 hF hx => ?_
    replace hw := hw.next hx
    replace hF := hF.keep (.cons (t := 1) rfl (.cons (t := 6) rfl (.cons (t := 7) rfl (.cons (t := 8) rfl (.cons (t := 9) rfl (.cons (t := 10) rfl (.cons (t := 21) rfl .nil)))))))
    refine wpList_nil ?_
    exact ⟨(x, r % x, v, u + r / x * v, !e), ⟨(by rw [Bool.not_not]; exact hF.keep (.cons (t := 1) rfl (.cons (t := 6) rfl (.cons (t := 7) rfl (.cons (t := 8) rfl (.cons (t := 9) rfl .nil)))))), hw, by omega, Nat.lt_trans (Nat.mod_lt _ hx1) hx0, hv, eu_le hE hx1, eu_next hE, by rw [Nat.gcd_comm, ← Nat.gcd_rec, Nat.gcd_comm]; exact hgg, by rw [Bool.not_not]; exact hB, by rw [← sg_next, ← sub_div_mul r x]; exact eu_inv hA hB (Nat.div_mul_le_self r x)⟩, (Nat.mod_lt _ hx1)⟩
  · obtain rfl : x = 0 := by simpa using h21
    obtain rfl : r = 1 := by rw [Nat.gcd_zero_right] at hgg; exact hgg
    obtain ⟨y, hy1, hy2, hy3⟩ := eu_fin (m := m) (by omega) (sg (!e) u)
    have hz := invN_eq hy1 (inv_fin2 h1 hA hy3)
    have hb5 := Int.tmod_lt_of_pos (sg (!e) u) (show (0 : Int) < m by omega)
    have hb6 : -(m : Int) < (sg (!e) u).tmod m := Int.lt_tmod_of_pos (sg (!e) u) (show (0 : Int) < m by omega)
    refine wp_exit (go_then_e (go_then_e (go_exit ?_)))
    refine wp_seq ?_
    refine wp_seq (reg_seq 2 (hF _ _) (by kernel_rfl) ?_)
    refine net_cons rfl rfl (n_move rfl (ev rfl)) ?_
    refine net_cons rfl rfl (n_bin rfl (ev rfl) evc (r_neqN (b := 1))) ?_
    refine net_nil fun a w1 hF hx => ?_
    replace hw := hw.next hx
    replace hF := hF.keep (.cons (t := 1) rfl (.cons (t := 6) rfl (.cons (t := 7) rfl (.cons (t := 8) rfl (.cons (t := 9) rfl (.cons (t := 21) rfl (.cons (t := 38) rfl .nil)))))))
    refine wpList_nil ?_
    refine wp_cond_false ((hF.ev (ev rfl)).trans (congrArg Value.bool (by simp))) ?_
    refine wp_skip ?_
    refine wp_seq (reg_seq 13 (hF _ _) (by kernel_rfl) ?_)
    refine net_cons rfl rfl (n_move rfl (ev rfl)) ?_
    refine net_cons rfl rfl (n_move rfl (ev rfl)) ?_
    refine net_cons rfl rfl (n_convT rfl (ev rfl) Try.underlying24 Try.underlying2 (wrap_i64_nat (by omega))) ?_
    refine net_cons rfl rfl (n_bin rfl (ev rfl) (ev rfl) (r_rem (by omega))) ?_
    refine net_cons rfl rfl (n_move rfl (ev rfl)) ?_
    refine net_cons rfl rfl (n_convT rfl (ev rfl) Try.underlying24 Try.underlying2 (wrap_i64_nat (by omega))) ?_
    refine net_cons rfl rfl (n_bin rfl (ev rfl) (ev rfl) (r_addI (by omega) (by omega))) ?_
    refine net_cons rfl rfl (n_move rfl (ev rfl)) ?_
    refine net_cons rfl rfl (n_convT rfl (ev rfl) Try.underlying24 Try.underlying2 (wrap_i64_nat (by omega))) ?_
    refine net_cons rfl rfl (n_to (n_bin rfl (ev rfl) (ev rfl) (r_rem (by omega))) (congrArg (Value.int .i64) hy2)) ?_
    refine net_cons rfl rfl (n_convT rfl (ev rfl) Try.underlying2 Try.underlying24 (wrap_u64_nat (by omega))) ?_
    refine net_cons rfl rfl (n_assign rfl (ev rfl)) ?_
    refine net_cons rfl rfl (n_assign rfl evc) ?_
    refine net_nil fun a w1 hF hx => ?_
    replace hw := hw.next hx
    replace hF := hF.keep (.cons (t := 1) rfl (.cons (t := 4) rfl (.cons (t := 5) rfl (.cons (t := 6) rfl (.cons (t := 7) rfl (.cons (t := 8) rfl (.cons (t := 9) rfl (.cons (t := 21) rfl (.cons (t := 38) rfl .nil)))))))))
    refine wpList_nil ?_
    refine wp_ret (ret2 hF Try.results123 rfl rfl ?_)
    exact ⟨_, rfl, hw.ext, (by rw [hz]; rfl)⟩
end Go.Proofs.Ythgpojlcbbgaoaa

