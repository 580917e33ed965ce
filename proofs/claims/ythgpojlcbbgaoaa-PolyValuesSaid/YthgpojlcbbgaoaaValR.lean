/- coefficients, values, interpolation: the reference; the law of values -/
import Derived.Test.YthgpojlcbbgaoaaVal

set_option autoImplicit false
set_option maxRecDepth 100000
set_option linter.unusedVariables false
namespace Go.Proofs.Ythgpojlcbbgaoaa
open Go.RowKit

theorem rCoefficients_c (root : Key) (kd : Nat) (dp dg : Int) (p q g : Nat) (hp : p < 18446744073709551616) (hq : q < 18446744073709551616) (hg : g < 18446744073709551616) (w : World) : RetF Try.prog 38 [K root, SV kd dp dg p q g].toArray w (.ex 24 1 (cofR root kd dp dg p q g).1.length ((cofR root kd dp dg p q g).1.map U) (fun v => .tuple #[v, I (cofR root kd dp dg p q g).2])) := by
  refine enter Try.func38 rfl Try.ntmps38 rfl fun a hF => ?_
  have hw := Own.start w
  refine wp_seq (wp_region_lit ?_)
  refine t_net 0 1 (by kernel_rfl) rfl hF ?_
  refine net_cons rfl rfl (n_box rfl (ev rfl) rfl) ?_
  refine net_nil fun a w1 hF hx => ?_
  obtain ⟨b2, h_, hw⟩ := hw.blk hx (hF.at_ 2 _ rfl)
  replace hF := hF.now h_
  replace hF := hF.keep (.cons (t := 1) rfl (.cons (t := 2) rfl .nil))
  refine t_net 1 1 (by kernel_rfl) rfl hF ?_
  refine net_cons rfl rfl (n_box rfl (ev rfl) rfl) ?_
  refine net_nil fun a w1 hF hx => ?_
  obtain ⟨b3, h_, hw⟩ := hw.blk hx (hF.at_ 3 _ rfl)
  replace hF := hF.now h_
  replace hF := hF.keep (.cons (t := 2) rfl (.cons (t := 3) rfl .nil))
  refine t_net 2 2 (by kernel_rfl) rfl hF ?_
  refine net_cons rfl rfl (n_assign rfl evc) ?_
  refine net_cons rfl rfl (n_assign rfl evc) ?_
  refine net_nil fun a w1 hF hx => ?_
  replace hw := hw.next hx
  replace hF := hF.keep (.cons (t := 2) rfl (.cons (t := 3) rfl (.cons (t := 4) rfl (.cons (t := 5) rfl .nil))))
  refine wpList_nil ?_
  refine wp_seq ?_
  refine wp_seq (reg_seq 3 (hF _ _) (by kernel_rfl) ?_)
  refine net_cons rfl rfl (n_load rfl (ev rfl) (ldN hw (i := 1) (vs := _) rfl Try.isAgg28 Try.sizeOf28 rfl rfl)) ?_
  refine net_cons rfl rfl (n_ret rfl Try.call30 (.cons (ev rfl) .nil) (fun _ hx => (Valid_c _ _ _ _ _ _ hp hq hg _))) ?_
  refine net_cons rfl rfl (n_not rfl (ev rfl)) ?_
  refine net_nil fun a w1 hF hx => ?_
  replace hw := hw.next hx
  replace hF := hF.keep (.cons (t := 2) rfl (.cons (t := 3) rfl (.cons (t := 4) rfl (.cons (t := 5) rfl (.cons (t := 8) rfl .nil)))))
  refine wpList_nil ?_
  refine wp_cond_split (hF.ev (ev rfl)) (fun h8 => ?_) (fun h8 => ?_)
  · have hz : okS kd dp dg p q g = false := by simpa using h8
    refine wp_seq (reg_seq 2 (hF _ _) (by kernel_rfl) ?_)
    refine net_cons rfl rfl (n_assign rfl evc) ?_
    refine net_cons rfl rfl (n_assign rfl evc) ?_
    refine net_nil fun a w1 hF hx => ?_
    replace hw := hw.next hx
    replace hF := hF.keep (.cons (t := 2) rfl (.cons (t := 3) rfl (.cons (t := 4) rfl (.cons (t := 5) rfl (.cons (t := 8) rfl .nil)))))
    refine wpList_nil ?_
    refine wp_ret (go_then_r (ret2 hF Try.results38 rfl rfl ?_))
    exact ⟨_, rfl, hw.ext, (rowF_nil (by simp [cofR, hz]))⟩
  · have hz : okS kd dp dg p q g = true := by simpa using h8
    obtain ⟨hz1, hz2, hz3, hz4, hz5, hz6, hz7⟩ := okS_all hz
    obtain ⟨hz8, hz9, hz10, hz11, hz12⟩ := okG_q hz6
    obtain ⟨hpp, hqp, _⟩ := okG_all hz6
    obtain ⟨d, hde⟩ := Int.eq_ofNat_of_zero_le hz2
    obtain ⟨n, hne⟩ := Int.eq_ofNat_of_zero_le (show 0 ≤ dg by omega)
    refine wp_skip ?_
    rw [hde, hne] at hw
    refine wp_seq (wp_region_lit ?_)
    refine t_net 0 3 (by kernel_rfl) rfl hF ?_
    refine net_cons rfl rfl (n_load rfl (ev rfl) (ldN hw (i := 0) (vs := _) rfl Try.isAgg23 Try.sizeOf23 (kc_len _) (cut_whole (kc_len _)))) ?_
    refine net_cons rfl rfl (n_load rfl (ev rfl) (ldN hw (i := 1) (vs := _) rfl Try.isAgg28 Try.sizeOf28 rfl rfl)) ?_
    refine net_cons rfl rfl (n_ret rfl Try.call98 (.cons (ev rfl) (.cons (ev rfl) .nil)) (fun _ hx => (CoefficientsOf_c root kd d n p q g (by omega) (by omega) hq _))) ?_
    refine net_nil fun a w1 hF hx => ?_
    obtain ⟨s11, h_, hw⟩ := hw.ex hx (hF.at_ 11 _ rfl)
    replace hF := hF.now h_
    replace hF := hF.keep (.cons (t := 3) rfl (.cons (t := 4) rfl (.cons (t := 5) rfl (.cons (t := 8) rfl (.cons (t := 11) rfl .nil)))))
    obtain ⟨A11, c11, rfl, _, _, _⟩ := hw.rd (i := 2) rfl
    refine t_net 3 2 (by kernel_rfl) rfl hF ?_
    refine net_cons rfl rfl (n_assign rfl (ev rfl)) ?_
    refine net_cons rfl rfl (n_assign rfl evc) ?_
    refine net_nil fun a w1 hF hx => ?_
    replace hw := hw.next hx
    replace hF := hF.keep (.cons (t := 3) rfl (.cons (t := 4) rfl (.cons (t := 5) rfl (.cons (t := 8) rfl .nil))))
    refine wpList_nil ?_
    refine wp_ret (ret2 hF Try.results38 rfl rfl ?_)
    exact ⟨_, rfl, hw.ext, (rowF_ok (i := 2) (cofR_ok hz hne) (cfs_len _ _ _) hw rfl)⟩

theorem Polynomial_c (kd : Nat) (dp dg : Int) (p q g : Nat) (hp : p < 18446744073709551616) (hq : q < 18446744073709551616) (hg : g < 18446744073709551616) (n cp : Nat) (A : Option Addr) (l : List Nat) (hl : l.length = n) (hn : n ≤ 9223372036854775800) (h1 : 1 ≤ dg) (h8 : dg ≤ 8) (w : World) (hR : Rd w A (l.map U)) : RetF Try.prog 58 [SV kd dp dg p q g, .slice A n cp].toArray w (.is (.bool (polyOk q dg n l))) := by
  refine enter Try.func58 rfl Try.ntmps58 rfl fun a hF => ?_
  have hw := Own.start w
  refine wp_seq (wp_region_lit ?_)
  refine t_net 0 1 (by kernel_rfl) rfl hF ?_
  refine net_cons rfl rfl (n_box rfl (ev rfl) rfl) ?_
  refine net_nil fun a w1 hF hx => ?_
  obtain ⟨b2, h_, hw⟩ := hw.blk hx (hF.at_ 2 _ rfl)
  replace hF := hF.now h_
  replace hF := hF.keep (.cons (t := 1) rfl (.cons (t := 2) rfl .nil))
  refine t_net 1 1 (by kernel_rfl) rfl hF ?_
  refine net_cons rfl rfl (n_assign rfl evc) ?_
  refine net_nil fun a w1 hF hx => ?_
  replace hw := hw.next hx
  replace hF := hF.keep (.cons (t := 1) rfl (.cons (t := 2) rfl (.cons (t := 4) rfl .nil)))
  refine wpList_nil ?_
  refine wp_seq ?_
  refine wp_seq (reg_seq 6 (hF _ _) (by kernel_rfl) ?_)
  refine net_cons rfl rfl (n_move rfl (ev rfl)) ?_
  refine net_cons rfl rfl (n_len rfl (ev rfl) Try.underlying63) ?_
  refine net_cons rfl rfl (n_fieldAddrO (off' := 2) rfl (ev rfl) Try.runUnderlying28 rfl Try.sizeOf3 rfl) ?_
  refine net_cons rfl rfl (n_load rfl (ev rfl) (ld1 hw (i := 0) rfl Try.isAgg3 rfl)) ?_
  refine net_cons rfl rfl (n_bin rfl (ev rfl) evc (r_addI (by omega) (by omega))) ?_
  refine net_cons rfl rfl (n_bin rfl (ev rfl) (ev rfl) r_neq) ?_
  refine net_nil fun a w1 hF hx => ?_
  replace hw := hw.next hx
  replace hF := hF.keep (.cons (t := 1) rfl (.cons (t := 2) rfl (.cons (t := 4) rfl (.cons (t := 11) rfl .nil))))
  refine wpList_nil ?_
  refine wp_cond_split (hF.ev (ev rfl)) (fun h11 => ?_) (fun h11 => ?_)
  · have hz : polyOk q dg n l = false := by unfold polyOk; rw [show decide ((n : Int) = dg + 1) = false by simpa using h11]; rfl
    refine wp_seq (reg_seq 1 (hF _ _) (by kernel_rfl) ?_)
    refine net_cons rfl rfl (n_assign rfl evc) ?_
    refine net_nil fun a w1 hF hx => ?_
    replace hw := hw.next hx
    replace hF := hF.keep (.cons (t := 1) rfl (.cons (t := 2) rfl (.cons (t := 4) rfl (.cons (t := 11) rfl .nil))))
    refine wpList_nil ?_
    refine wp_ret (go_then_r (ret1 hF Try.results58 rfl ?_))
    exact ⟨_, rfl, hw.ext, (by rw [hz]; rfl)⟩
  · have hnd : (n : Int) = dg + 1 := by simpa using h11
    refine wp_skip ?_
    refine wp_seq ?_
    refine wp_seq (reg_seq 1 (hF _ _) (by kernel_rfl) ?_)
    refine net_cons rfl rfl (n_assign rfl evc) ?_
    refine net_nil fun a w1 hF hx => ?_
    replace hw := hw.next hx
    replace hF := hF.keep (.cons (t := 1) rfl (.cons (t := 2) rfl (.cons (t := 4) rfl (.cons (t := 5) rfl (.cons (t := 11) rfl .nil)))))
    refine wpList_nil ?_
    refine wp_block ?_
    refine wp_loop_ix (α := Nat) (fun i a w1 => FrV 26 [] [(1, .is (.slice A n cp)) , (2, .is (ptr0 b2)) , (5, .is (I (i : Int)))] a ∧ Own w w1 [.blk b2 28 [B8 kd, I dp, I dg, U p, U q, U g]] ∧ (i ≤ n) ∧ (∀ j y, j < i → l[j]? = some y → y < q)) (fun i => n - i) (0) ⟨hF.keep (.cons (t := 1) rfl (.cons (t := 2) rfl (.cons (t := 5) rfl (.nil)))), hw, by omega, fun j y h => by omega⟩ ?_
    rintro i a w1 ⟨hF, hw, hi0, hbad⟩
    refine wp_seq ?_
    refine wp_seq (reg_seq 4 (hF _ _) (by kernel_rfl) ?_)
    refine net_cons rfl rfl (n_move rfl (ev rfl)) ?_
    refine net_cons rfl rfl (n_move rfl (ev rfl)) ?_
    refine net_cons rfl rfl (n_len rfl (ev rfl) Try.underlying63) ?_
    refine net_cons rfl rfl (n_bin rfl (ev rfl) (ev rfl) r_lss) ?_
    refine net_nil fun a w1 hF hx => ?_
    replace hw := hw.next hx
    replace hF := hF.keep (.cons (t := 1) rfl (.cons (t := 2) rfl (.cons (t := 5) rfl (.cons (t := 15) rfl .nil))))
    refine wpList_nil ?_
    refine wp_cond_split (hF.ev (ev rfl)) (fun h15 => ?_) (fun h15 => ?_)
    · have hi : i < n := by have := of_bool_t h15; omega
      obtain ⟨x, hx0⟩ := some_at hl hi
      have hF_ := hF
      have hw_ := hw
      obtain ⟨bX, oX, rfl, hcX⟩ := hR.at_ (by rw [List.length_map]; omega)
      have hF := hF_
      have hw := hw_
      refine wp_skip ?_
      refine wp_seq (wp_block ?_)
      refine wp_seq (reg_draw 8 mixed (by kernel_rfl) (hF _ _) ?_)
      refine net_cons rfl rfl (n_move rfl (ev rfl)) ?_
      refine net_cons rfl rfl (n_move rfl (ev rfl)) ?_
      refine net_cons rfl rfl (n_indexS (off' := oX + (i)) rfl (ev rfl) (ev rfl) Try.underlying63 Try.sizeOf24 (by omega) (by omega)) ?_
      refine net_cons rfl rfl (n_load rfl (ev rfl) (fun w2 hx2 => ld1R hcX (map_at hx0) Try.isAgg24 (by omega) w2 (hw.ext.trans hx2))) ?_
      refine net_cons rfl rfl (n_fieldAddrO (off' := 3) rfl (ev rfl) Try.runUnderlying28 rfl Try.sizeOf26 rfl) ?_
      refine net_cons rfl rfl (n_fieldAddrO (off' := 4) rfl (ev rfl) Try.runUnderlying26 rfl Try.sizeOf24 rfl) ?_
      refine net_cons rfl rfl (n_load rfl (ev rfl) (ld1 hw (i := 0) rfl Try.isAgg24 rfl)) ?_
      refine net_cons rfl rfl (n_bin rfl (ev rfl) (ev rfl) (r_geqN)) ?_
      refine net_nil fun a w1 hF hx => ?_
      replace hw := hw.next hx
      replace hF := hF.keep (.cons (t := 1) rfl (.cons (t := 2) rfl (.cons (t := 5) rfl (.cons (t := 15) rfl (.cons (t := 25) rfl .nil)))))
      refine wpList_nil ?_
      refine wp_cond_split (hF.ev (ev rfl)) (fun h25 => ?_) (fun h25 => ?_)
      · have hz : polyOk q dg n l = false := by unfold polyOk; rw [show (l.all fun c => decide (c < q)) = false from List.all_eq_false.2 ⟨x, List.mem_of_getElem? hx0, by have := of_bool_t h25; simp; omega⟩, Bool.and_false]
        refine wp_seq (reg_seq 1 (hF _ _) (by kernel_rfl) ?_)
        refine net_cons rfl rfl (n_assign rfl evc) ?_
        refine net_nil fun a w1 hF hx => ?_
        replace hw := hw.next hx
        replace hF := hF.keep (.cons (t := 1) rfl (.cons (t := 2) rfl (.cons (t := 4) rfl (.cons (t := 5) rfl (.cons (t := 15) rfl (.cons (t := 25) rfl .nil))))))
        refine wpList_nil ?_
        refine wp_ret (go_block_r (go_then_r (go_then_r (go_block_r (go_then_r (ret1 hF Try.results58 rfl ?_))))))
        exact ⟨_, rfl, hw.ext, (by rw [hz]; rfl)⟩
      · refine wp_skip ?_
        refine reg_seq 3 (hF _ _) (by kernel_rfl) ?_
        refine net_cons rfl rfl (n_move rfl (ev rfl)) ?_
        refine net_cons rfl rfl (n_bin rfl (ev rfl) evc (r_inc (by omega))) ?_
        refine net_cons rfl rfl (n_assign rfl (ev rfl)) ?_
        refine net_nil fun a w1 hF hx => ?_
        replace hw := hw.next hx
        replace hF := hF.keep (.cons (t := 1) rfl (.cons (t := 2) rfl (.cons (t := 5) rfl (.cons (t := 15) rfl (.cons (t := 25) rfl .nil)))))
        refine wpList_nil ?_
        exact ⟨i + 1, ⟨hF.keep (.cons (t := 1) rfl (.cons (t := 2) rfl (.cons (t := 5) rfl (.nil)))), hw, by omega, up_at hbad hx0 (by have := of_bool_f h25; omega)⟩, by omega⟩
    · obtain rfl : n = i := by have := of_bool_f h15; omega
      have hz : polyOk q dg n l = true := by unfold polyOk; rw [decide_eq_true hnd, Bool.true_and, List.all_eq_true]; intro x hx; obtain ⟨j, hj, rfl⟩ := List.mem_iff_getElem.1 hx; exact decide_eq_true (hbad j _ (by omega) (List.getElem?_eq_getElem hj))
      refine wp_exit (go_then_e (go_then_e (go_exit ?_)))
      refine wp_seq (reg_seq 1 (hF _ _) (by kernel_rfl) ?_)
      refine net_cons rfl rfl (n_assign rfl evc) ?_
      refine net_nil fun a w1 hF hx => ?_
      replace hw := hw.next hx
      replace hF := hF.keep (.cons (t := 1) rfl (.cons (t := 2) rfl (.cons (t := 4) rfl (.cons (t := 5) rfl (.cons (t := 15) rfl .nil)))))
      refine wpList_nil ?_
      refine wp_ret (ret1 hF Try.results58 rfl ?_)
      exact ⟨_, rfl, hw.ext, (by rw [hz]; rfl)⟩


theorem polyOk_neg2 {q n : Nat} {dg : Int} {l : List Nat} {x : Nat} {b : Bool} (h : ((!polyOk q dg n l) || decide (q ≤ x)) = b) : (polyOk q dg n l && decide (x < q)) = !b := by
  subst h
  rw [Bool.not_or, Bool.not_not, ← decide_not]
  congr 1
  rw [decide_eq_decide]
  omega


theorem rValue_c (kd : Nat) (dp dg : Int) (p q g : Nat) (hp : p < 18446744073709551616) (hq : q < 18446744073709551616) (hg : g < 18446744073709551616) (n cp : Nat) (A : Option Addr) (l : List Nat) (x : Nat) (hl : l.length = n) (hn : n ≤ 9223372036854775800) (w : World) (hR : Rd w A (l.map U)) : RetF Try.prog 42 [SV kd dp dg p q g, .slice A n cp, U x].toArray w (.is (.tuple #[U (valR kd dp dg p q g n l x).1, I (valR kd dp dg p q g n l x).2])) := by
  refine enter Try.func42 rfl Try.ntmps42 rfl fun a hF => ?_
  have hw := Own.start w
  refine wp_seq (wp_region_lit ?_)
  refine t_net 0 1 (by kernel_rfl) rfl hF ?_
  refine net_cons rfl rfl (n_box rfl (ev rfl) rfl) ?_
  refine net_nil fun a w1 hF hx => ?_
  obtain ⟨b3, h_, hw⟩ := hw.blk hx (hF.at_ 3 _ rfl)
  replace hF := hF.now h_
  replace hF := hF.keep (.cons (t := 1) rfl (.cons (t := 2) rfl (.cons (t := 3) rfl .nil)))
  refine t_net 1 2 (by kernel_rfl) rfl hF ?_
  refine net_cons rfl rfl (n_assign rfl evc) ?_
  refine net_cons rfl rfl (n_assign rfl evc) ?_
  refine net_nil fun a w1 hF hx => ?_
  replace hw := hw.next hx
  replace hF := hF.keep (.cons (t := 1) rfl (.cons (t := 2) rfl (.cons (t := 3) rfl (.cons (t := 6) rfl (.cons (t := 7) rfl .nil)))))
  refine wpList_nil ?_
  refine wp_seq ?_
  refine wp_seq (reg_seq 3 (hF _ _) (by kernel_rfl) ?_)
  refine net_cons rfl rfl (n_load rfl (ev rfl) (ldN hw (i := 0) (vs := _) rfl Try.isAgg28 Try.sizeOf28 rfl rfl)) ?_
  refine net_cons rfl rfl (n_ret rfl Try.call30 (.cons (ev rfl) .nil) (fun _ hx => (Valid_c _ _ _ _ _ _ hp hq hg _))) ?_
  refine net_cons rfl rfl (n_not rfl (ev rfl)) ?_
  refine net_nil fun a w1 hF hx => ?_
  replace hw := hw.next hx
  replace hF := hF.keep (.cons (t := 1) rfl (.cons (t := 2) rfl (.cons (t := 3) rfl (.cons (t := 6) rfl (.cons (t := 7) rfl (.cons (t := 10) rfl .nil))))))
  refine wpList_nil ?_
  refine wp_cond_split (hF.ev (ev rfl)) (fun h10 => ?_) (fun h10 => ?_)
  · have hz : okS kd dp dg p q g = false := by simpa using h10
    refine wp_seq (reg_seq 2 (hF _ _) (by kernel_rfl) ?_)
    refine net_cons rfl rfl (n_assign rfl evc) ?_
    refine net_cons rfl rfl (n_assign rfl evc) ?_
    refine net_nil fun a w1 hF hx => ?_
    replace hw := hw.next hx
    replace hF := hF.keep (.cons (t := 1) rfl (.cons (t := 2) rfl (.cons (t := 3) rfl (.cons (t := 6) rfl (.cons (t := 7) rfl (.cons (t := 10) rfl .nil))))))
    refine wpList_nil ?_
    refine wp_ret (go_then_r (ret2 hF Try.results42 rfl rfl ?_))
    exact ⟨_, rfl, hw.ext, (by rw [valR_no hz]; rfl)⟩
  · have hz : okS kd dp dg p q g = true := by simpa using h10
    obtain ⟨hz1, hz2, hz3, hz4, hz5, hz6, hz7⟩ := okS_all hz
    obtain ⟨hz8, hz9, hz10, hz11, hz12⟩ := okG_q hz6
    obtain ⟨hpp, hqp, _⟩ := okG_all hz6
    refine wp_skip ?_
    refine wp_seq ?_
    refine wp_seq (reg_seq 11 (hF _ _) (by kernel_rfl) ?_)
    refine net_cons rfl rfl (n_load rfl (ev rfl) (ldN hw (i := 0) (vs := _) rfl Try.isAgg28 Try.sizeOf28 rfl rfl)) ?_
    refine net_cons rfl rfl (n_move rfl (ev rfl)) ?_
    refine net_cons rfl rfl (n_ret rfl Try.call58 (.cons (ev rfl) (.cons (ev rfl) .nil)) (fun _ hx => (Polynomial_c kd dp dg p q g hp hq hg n cp A l hl hn (by omega) (by omega) _ (hR.ext (hw.ext.trans hx))))) ?_
    refine net_cons rfl rfl (n_not rfl (ev rfl)) ?_
    refine net_cons rfl rfl (n_move rfl (ev rfl)) ?_
    refine net_if rfl rfl rfl rfl (fun hc => (n_move rfl (ev rfl))) ?_
    refine net_if rfl rfl rfl rfl (fun hc => (n_fieldAddrO (off' := 3) rfl (ev rfl) Try.runUnderlying28 rfl Try.sizeOf26 rfl)) ?_
    refine net_if rfl rfl rfl rfl (fun hc => (n_fieldAddrO (off' := 4) rfl (evi rfl hc) Try.runUnderlying26 rfl Try.sizeOf24 rfl)) ?_
    refine net_if rfl rfl rfl rfl (fun hc => (n_load rfl (evi rfl hc) (ld1 hw (i := 0) rfl Try.isAgg24 rfl))) ?_
    refine net_if rfl rfl rfl rfl (fun hc => (n_bin rfl (evi rfl hc) (evi rfl hc) (r_geqN))) ?_
    refine net_cons rfl rfl (n_pick_or rfl (ev rfl) (fun h => (evi rfl h))) ?_
    refine net_nil fun a w1 hF hx => ?_
    replace hw := hw.next hx
    replace hF := hF.keep (.cons (t := 1) rfl (.cons (t := 2) rfl (.cons (t := 3) rfl (.cons (t := 6) rfl (.cons (t := 7) rfl (.cons (t := 10) rfl (.cons (t := 21) rfl .nil)))))))
    refine wpList_nil ?_
    refine wp_cond_split (hF.ev (ev rfl)) (fun h21 => ?_) (fun h21 => ?_)
    · have hpk := polyOk_neg2 h21
      refine wp_seq (reg_seq 2 (hF _ _) (by kernel_rfl) ?_)
      refine net_cons rfl rfl (n_assign rfl evc) ?_
      refine net_cons rfl rfl (n_assign rfl evc) ?_
      refine net_nil fun a w1 hF hx => ?_
      replace hw := hw.next hx
      replace hF := hF.keep (.cons (t := 1) rfl (.cons (t := 2) rfl (.cons (t := 3) rfl (.cons (t := 6) rfl (.cons (t := 7) rfl (.cons (t := 10) rfl (.cons (t := 21) rfl .nil)))))))
      refine wpList_nil ?_
      refine wp_ret (go_then_r (ret2 hF Try.results42 rfl rfl ?_))
      exact ⟨_, rfl, hw.ext, (by rw [valR_bad hz hpk]; rfl)⟩
    · have hpk := polyOk_neg2 h21
      obtain ⟨hpk1, hpk2, hpk3⟩ := polyOk_all hpk
      refine wp_skip ?_
      refine wp_seq (reg_seq 8 (hF _ _) (by kernel_rfl) ?_)
      refine net_cons rfl rfl (n_fieldAddrO (off' := 3) rfl (ev rfl) Try.runUnderlying28 rfl Try.sizeOf26 rfl) ?_
      refine net_cons rfl rfl (n_fieldAddrO (off' := 4) rfl (ev rfl) Try.runUnderlying26 rfl Try.sizeOf24 rfl) ?_
      refine net_cons rfl rfl (n_load rfl (ev rfl) (ld1 hw (i := 0) rfl Try.isAgg24 rfl)) ?_
      refine net_cons rfl rfl (n_move rfl (ev rfl)) ?_
      refine net_cons rfl rfl (n_move rfl (ev rfl)) ?_
      refine net_cons rfl rfl (n_ret rfl Try.call99 (.cons (ev rfl) (.cons (ev rfl) (.cons (ev rfl) .nil))) (fun _ hx => (ValueOf_c q x n cp A l (by omega) (by omega) hpk3 hpk2 hl (by omega) _ (hR.ext (hw.ext.trans hx))))) ?_
      refine net_cons rfl rfl (n_assign rfl (ev rfl)) ?_
      refine net_cons rfl rfl (n_assign rfl evc) ?_
      refine net_nil fun a w1 hF hx => ?_
      replace hw := hw.next hx
      replace hF := hF.keep (.cons (t := 1) rfl (.cons (t := 2) rfl (.cons (t := 3) rfl (.cons (t := 6) rfl (.cons (t := 7) rfl (.cons (t := 10) rfl (.cons (t := 21) rfl .nil)))))))
      refine wpList_nil ?_
      refine wp_ret (ret2 hF Try.results42 rfl rfl ?_)
      exact ⟨_, rfl, hw.ext, (by rw [valR_ok hz hpk]; rfl)⟩


theorem rightL_yes {q n : Nat} {pts : List (Nat × Nat)} (hl : pts.length = n) (h1 : ∀ j y, j < n → pts[j]? = some y → bdP q y = false) (h2 : distL pts = true) : rightL q pts = true := by
  rw [rightL, h2, Bool.and_true, Bool.not_eq_true', List.any_eq_false]
  intro x hx
  obtain ⟨j, hj, rfl⟩ := List.mem_iff_getElem.1 hx
  rw [h1 j _ (by omega) (List.getElem?_eq_getElem hj)]
  simp
theorem rightL_no1 {q : Nat} {pts : List (Nat × Nat)} {i : Nat} {x : Nat × Nat} (hx : pts[i]? = some x) (h : bdP q x = true) : rightL q pts = false := by
  rw [rightL, List.any_eq_true.2 ⟨x, List.mem_of_getElem? hx, h⟩]
  rfl
theorem rightL_no2 {q : Nat} {pts : List (Nat × Nat)} (h : distL pts = false) : rightL q pts = false := by rw [rightL, h, Bool.and_false]


theorem Right_c (q n c : Nat) (A : Option Addr) (pts : List (Nat × Nat)) (hl : pts.length = n) (hn : n ≤ 9223372036854775800) (w : World) (hR : Rd w A (pc pts)) : RetF Try.prog 57 [U q, .slice A n c].toArray w (.is (.bool (rightL q pts))) := by
  refine enter Try.func57 rfl Try.ntmps57 rfl fun a hF => ?_
  have hw := Own.start w
  refine wp_seq (reg_seq 1 (hF _ _) (by kernel_rfl) ?_)
  refine net_cons rfl rfl (n_assign rfl evc) ?_
  refine net_nil fun a w1 hF hx => ?_
  replace hw := hw.next hx
  replace hF := hF.keep (.cons (t := 0) rfl (.cons (t := 1) rfl (.cons (t := 4) rfl .nil)))
  refine wpList_nil ?_
  refine wp_seq ?_
  refine wp_seq (reg_seq 1 (hF _ _) (by kernel_rfl) ?_)
  refine net_cons rfl rfl (n_assign rfl evc) ?_
  refine net_nil fun a w1 hF hx => ?_
  replace hw := hw.next hx
  replace hF := hF.keep (.cons (t := 0) rfl (.cons (t := 1) rfl (.cons (t := 4) rfl (.cons (t := 5) rfl .nil))))
  refine wpList_nil ?_
  refine wp_block ?_
  refine wp_loop_ix (α := Nat) (fun i a w1 => FrV 45 [] [(0, .is (U q)) , (1, .is (.slice A n c)) , (5, .is (I (i : Int)))] a ∧ Own w w1 [] ∧ (i ≤ n) ∧ (∀ j y, j < i → pts[j]? = some y → bdP q y = false) ∧ (∀ j y, j < i → pts[j]? = some y → hitX (pts.take j) y.1 = false)) (fun i => n - i) (0) ⟨hF.keep (.cons (t := 0) rfl (.cons (t := 1) rfl (.cons (t := 5) rfl (.nil)))), hw, by omega, fun j y h => by omega, fun j y h => by omega⟩ ?_
  rintro i a w1 ⟨hF, hw, hi0, hb1, hb2⟩
  refine wp_seq ?_
  refine wp_seq (reg_seq 4 (hF _ _) (by kernel_rfl) ?_)
  refine net_cons rfl rfl (n_move rfl (ev rfl)) ?_
  refine net_cons rfl rfl (n_move rfl (ev rfl)) ?_
  refine net_cons rfl rfl (n_len rfl (ev rfl) Try.underlying43) ?_
  refine net_cons rfl rfl (n_bin rfl (ev rfl) (ev rfl) r_lss) ?_
  refine net_nil fun a w1 hF hx => ?_
  replace hw := hw.next hx
  replace hF := hF.keep (.cons (t := 0) rfl (.cons (t := 1) rfl (.cons (t := 5) rfl (.cons (t := 10) rfl .nil))))
  refine wpList_nil ?_
  refine wp_cond_split (hF.ev (ev rfl)) (fun h10 => ?_) (fun h10 => ?_)
  · have hi : i < n := by have := of_bool_t h10; omega
    obtain ⟨x, hx0⟩ := some_at hl hi
    have hF_ := hF
    have hw_ := hw
    obtain ⟨bX, oX, rfl, hcX⟩ := hR.at_ (by rw [pc_len]; omega)
    have hF := hF_
    have hw := hw_
    refine wp_skip ?_
    refine wp_seq (wp_block ?_)
    refine wp_seq ?_
    refine wp_seq (reg_seq 16 (hF _ _) (by kernel_rfl) ?_)
    refine net_cons rfl rfl (n_move rfl (ev rfl)) ?_
    refine net_cons rfl rfl (n_move rfl (ev rfl)) ?_
    refine net_cons rfl rfl (n_indexS (off' := oX + (i) * 2) rfl (ev rfl) (ev rfl) Try.underlying43 Try.sizeOf31 (by omega) rfl) ?_
    refine net_cons rfl rfl (n_fieldAddrO (off' := oX + (i) * 2 + 0) rfl (ev rfl) Try.runUnderlying31 rfl Try.sizeOf24 rfl) ?_
    refine net_cons rfl rfl (n_load rfl (ev rfl) (fun w2 hx2 => ld1R hcX (pc_x hx0) Try.isAgg24 (by omega) w2 (hw.ext.trans hx2))) ?_
    refine net_cons rfl rfl (n_move rfl (ev rfl)) ?_
    refine net_cons rfl rfl (n_bin rfl (ev rfl) (ev rfl) (r_geqN)) ?_
    refine net_cons rfl rfl (n_move rfl (ev rfl)) ?_
    refine net_if rfl rfl rfl rfl (fun hc => (n_move rfl (ev rfl))) ?_
    refine net_if rfl rfl rfl rfl (fun hc => (n_move rfl (ev rfl))) ?_
    refine net_if rfl rfl rfl rfl (fun hc => (n_indexS (off' := oX + (i) * 2) rfl (evi rfl hc) (evi rfl hc) Try.underlying43 Try.sizeOf31 (by omega) rfl)) ?_
    refine net_if rfl rfl rfl rfl (fun hc => (n_fieldAddrO (off' := oX + (i) * 2 + 1) rfl (evi rfl hc) Try.runUnderlying31 rfl Try.sizeOf24 rfl)) ?_
    refine net_if rfl rfl rfl rfl (fun hc => (n_load rfl (evi rfl hc) (fun w2 hx2 => ld1R hcX (pc_y hx0) Try.isAgg24 (by omega) w2 (hw.ext.trans hx2)))) ?_
    refine net_if rfl rfl rfl rfl (fun hc => (n_move rfl (ev rfl))) ?_
    refine net_if rfl rfl rfl rfl (fun hc => (n_bin rfl (evi rfl hc) (evi rfl hc) (r_geqN))) ?_
    refine net_cons rfl rfl (n_pick_or rfl (ev rfl) (fun h => (evi rfl h))) ?_
    refine net_nil fun a w1 hF hx => ?_
    replace hw := hw.next hx
    replace hF := hF.keep (.cons (t := 0) rfl (.cons (t := 1) rfl (.cons (t := 5) rfl (.cons (t := 10) rfl (.cons (t := 28) rfl .nil)))))
    refine wpList_nil ?_
    refine wp_cond_split (hF.ev (ev rfl)) (fun h28 => ?_) (fun h28 => ?_)
    · have hz := rightL_no1 hx0 h28
      refine wp_seq (reg_seq 1 (hF _ _) (by kernel_rfl) ?_)
      refine net_cons rfl rfl (n_assign rfl evc) ?_
      refine net_nil fun a w1 hF hx => ?_
      replace hw := hw.next hx
      replace hF := hF.keep (.cons (t := 0) rfl (.cons (t := 1) rfl (.cons (t := 4) rfl (.cons (t := 5) rfl (.cons (t := 10) rfl (.cons (t := 28) rfl .nil))))))
      refine wpList_nil ?_
      refine wp_ret (go_then_r (go_block_r (go_then_r (go_then_r (go_block_r (go_then_r (ret1 hF Try.results57 rfl ?_)))))))
      exact ⟨_, rfl, hw.ext, (by rw [hz]; rfl)⟩
    · refine wp_skip ?_
      refine wp_seq (reg_seq 1 (hF _ _) (by kernel_rfl) ?_)
      refine net_cons rfl rfl (n_assign rfl evc) ?_
      refine net_nil fun a w1 hF hx => ?_
      replace hw := hw.next hx
      replace hF := hF.keep (.cons (t := 0) rfl (.cons (t := 1) rfl (.cons (t := 5) rfl (.cons (t := 6) rfl (.cons (t := 10) rfl (.cons (t := 28) rfl .nil))))))
      refine wpList_nil ?_
      refine wp_block ?_
      refine wp_loop_ix (α := Nat) (fun k a w1 => FrV 45 [] [(0, .is (U q)) , (1, .is (.slice (some ⟨bX, oX, none⟩) n c)) , (5, .is (I (i : Int))) , (6, .is (I (k : Int)))] a ∧ Own w w1 [] ∧ (k ≤ i) ∧ (∀ j y, j < k → pts[j]? = some y → ¬ y.1 = x.1)) (fun k => i - k) (0) ⟨hF.keep (.cons (t := 0) rfl (.cons (t := 1) rfl (.cons (t := 5) rfl (.cons (t := 6) rfl (.nil))))), hw, by omega, fun j y h => by omega⟩ ?_
      rintro k a w1 ⟨hF, hw, hk0, hkb⟩
      refine wp_seq ?_
      refine wp_seq (reg_seq 3 (hF _ _) (by kernel_rfl) ?_)
      refine net_cons rfl rfl (n_move rfl (ev rfl)) ?_
      refine net_cons rfl rfl (n_move rfl (ev rfl)) ?_
      refine net_cons rfl rfl (n_bin rfl (ev rfl) (ev rfl) r_lss) ?_
      refine net_nil fun a w1 hF hx => ?_
      replace hw := hw.next hx
      replace hF := hF.keep (.cons (t := 0) rfl (.cons (t := 1) rfl (.cons (t := 5) rfl (.cons (t := 6) rfl (.cons (t := 31) rfl .nil)))))
      refine wpList_nil ?_
      refine wp_cond_split (hF.ev (ev rfl)) (fun h31 => ?_) (fun h31 => ?_)
      · have hk : k < i := by have := of_bool_t h31; omega
        obtain ⟨y, hy0⟩ := some_at hl (show k < n by omega)
        refine wp_skip ?_
        refine wp_seq (wp_block ?_)
        refine wp_seq (reg_draw 11 mixed (by kernel_rfl) (hF _ _) ?_)
        refine net_cons rfl rfl (n_move rfl (ev rfl)) ?_
        refine net_cons rfl rfl (n_move rfl (ev rfl)) ?_
        refine net_cons rfl rfl (n_indexS (off' := oX + (k) * 2) rfl (ev rfl) (ev rfl) Try.underlying43 Try.sizeOf31 (by omega) rfl) ?_
        refine net_cons rfl rfl (n_fieldAddrO (off' := oX + (k) * 2 + 0) rfl (ev rfl) Try.runUnderlying31 rfl Try.sizeOf24 rfl) ?_
        refine net_cons rfl rfl (n_load rfl (ev rfl) (fun w2 hx2 => ld1R hcX (pc_x hy0) Try.isAgg24 (by omega) w2 (hw.ext.trans hx2))) ?_
        refine net_cons rfl rfl (n_move rfl (ev rfl)) ?_
        refine net_cons rfl rfl (n_move rfl (ev rfl)) ?_
        refine net_cons rfl rfl (n_indexS (off' := oX + (i) * 2) rfl (ev rfl) (ev rfl) Try.underlying43 Try.sizeOf31 (by omega) rfl) ?_
        refine net_cons rfl rfl (n_fieldAddrO (off' := oX + (i) * 2 + 0) rfl (ev rfl) Try.runUnderlying31 rfl Try.sizeOf24 rfl) ?_
        refine net_cons rfl rfl (n_load rfl (ev rfl) (fun w2 hx2 => ld1R hcX (pc_x hx0) Try.isAgg24 (by omega) w2 (hw.ext.trans hx2))) ?_
        refine net_cons rfl rfl (n_bin rfl (ev rfl) (ev rfl) (r_eqlN)) ?_
        refine net_nil fun a w1 hF hx => ?_
        replace hw := hw.next hx
        replace hF := hF.keep (.cons (t := 0) rfl (.cons (t := 1) rfl (.cons (t := 5) rfl (.cons (t := 6) rfl (.cons (t := 31) rfl (.cons (t := 44) rfl .nil))))))
        refine wpList_nil ?_
        refine wp_cond_split (hF.ev (ev rfl)) (fun h44 => ?_) (fun h44 => ?_)
        · have hz := rightL_no2 (q := q) (distL_no hx0 (hitX_yes hk hy0 h44))
          refine wp_seq (reg_seq 1 (hF _ _) (by kernel_rfl) ?_)
          refine net_cons rfl rfl (n_assign rfl evc) ?_
          refine net_nil fun a w1 hF hx => ?_
          replace hw := hw.next hx
          replace hF := hF.keep (.cons (t := 0) rfl (.cons (t := 1) rfl (.cons (t := 4) rfl (.cons (t := 5) rfl (.cons (t := 6) rfl (.cons (t := 31) rfl (.cons (t := 44) rfl .nil)))))))
          refine wpList_nil ?_
          refine wp_ret (go_block_r (go_then_r (go_then_r (go_block_r (go_block_r (go_then_r (go_then_r (go_block_r (go_then_r (ret1 hF Try.results57 rfl ?_))))))))))
          exact ⟨_, rfl, hw.ext, (by rw [hz]; rfl)⟩
        · refine wp_skip ?_
          refine reg_seq 3 (hF _ _) (by kernel_rfl) ?_
          refine net_cons rfl rfl (n_move rfl (ev rfl)) ?_
          refine net_cons rfl rfl (n_bin rfl (ev rfl) evc (r_inc (by omega))) ?_
          refine net_cons rfl rfl (n_assign rfl (ev rfl)) ?_
          refine net_nil fun a w1 hF hx => ?_
          replace hw := hw.next hx
          replace hF := hF.keep (.cons (t := 0) rfl (.cons (t := 1) rfl (.cons (t := 5) rfl (.cons (t := 6) rfl (.cons (t := 31) rfl (.cons (t := 44) rfl .nil))))))
          refine wpList_nil ?_
          exact ⟨k + 1, ⟨hF.keep (.cons (t := 0) rfl (.cons (t := 1) rfl (.cons (t := 5) rfl (.cons (t := 6) rfl (.nil))))), hw, by omega, up_at hkb hy0 (of_bool_f h44)⟩, by omega⟩
      · obtain rfl : i = k := by have := of_bool_f h31; omega
        refine wp_exit (go_then_e (go_then_e (go_exit ?_)))
        refine reg_seq 3 (hF _ _) (by kernel_rfl) ?_
        refine net_cons rfl rfl (n_move rfl (ev rfl)) ?_
        refine net_cons rfl rfl (n_bin rfl (ev rfl) evc (r_inc (by omega))) ?_
        refine net_cons rfl rfl (n_assign rfl (ev rfl)) ?_
        refine net_nil fun a w1 hF hx => ?_
        replace hw := hw.next hx
        replace hF := hF.keep (.cons (t := 0) rfl (.cons (t := 1) rfl (.cons (t := 5) rfl (.cons (t := 6) rfl (.cons (t := 31) rfl .nil)))))
        refine wpList_nil ?_
        exact ⟨i + 1, ⟨hF.keep (.cons (t := 0) rfl (.cons (t := 1) rfl (.cons (t := 5) rfl (.nil)))), hw, by omega, up_at hb1 hx0 h28, up_at hb2 hx0 (hitX_none hkb)⟩, by omega⟩
  · obtain rfl : n = i := by have := of_bool_f h10; omega
    have hz := rightL_yes hl hb1 (distL_yes hl hb2)
    refine wp_exit (go_then_e (go_then_e (go_exit ?_)))
    refine wp_seq (reg_seq 1 (hF _ _) (by kernel_rfl) ?_)
    refine net_cons rfl rfl (n_assign rfl evc) ?_
    refine net_nil fun a w1 hF hx => ?_
    replace hw := hw.next hx
    replace hF := hF.keep (.cons (t := 0) rfl (.cons (t := 1) rfl (.cons (t := 4) rfl (.cons (t := 5) rfl (.cons (t := 10) rfl .nil)))))
    refine wpList_nil ?_
    refine wp_ret (ret1 hF Try.results57 rfl ?_)
    exact ⟨_, rfl, hw.ext, (by rw [hz]; rfl)⟩


/-! ### the reference's interpolation -/
theorem rng_set {m k v : Nat} {f g : Nat → Nat} (hk : k < m) (hg : ∀ j, j < m → g j = if j = k then v else f j) : seg (((List.range m).map f).map U) k [U v] = ((List.range m).map g).map U := by
  rw [seg_one (by simp; exact hk), ← List.map_set]
  congr 1
  apply List.ext_getElem?
  intro j
  rw [List.getElem?_set, List.getElem?_map, List.getElem?_map, List.length_map, List.length_range]
  by_cases hj : j < m
  · rw [List.getElem?_range hj]
    by_cases e : k = j
    · subst e
      rw [if_pos rfl, if_pos hk, Option.map_some, hg k hk, if_pos rfl]
    · rw [if_neg e, Option.map_some, Option.map_some, hg j hj, if_neg (fun h => e h.symm)]
  · rw [if_neg (by omega), List.getElem?_eq_none (by simpa using hj)]
    rfl
theorem rng_at {m j : Nat} {f : Nat → Nat} (h : j < m) : ((List.range m).map f)[j]? = some (f j) := by simp [h]
def prevL (l : List Nat) (i : Nat) : Nat := if i = 0 then 0 else l.getD (i - 1) 0
def lnF (q : Nat) (l : List Nat) (r i j : Nat) : Nat := if j < i then (linN q l r).getD j 0 else if j = i then prevL l i else 0
def lnM (q : Nat) (l : List Nat) (r i j : Nat) : Nat := if j < i then (linN q l r).getD j 0 else if j = i then prevL l i else if j = i + 1 then l.getD i 0 else 0
theorem linN_at {q i n x : Nat} {l : List Nat} {r : Nat} (hl : l.length = n) (hx : l[i]? = some x) : (linN q l r)[i]? = some ((prevL l i + q - x * r % q) % q) := by
  have hi : i < n := by rw [← hl]; exact (List.getElem?_eq_some_iff.1 hx).1
  have h1 : (l ++ [0])[i]? = some x := by rw [List.getElem?_append_left (by omega)]; exact hx
  have h2 : (0 :: (l ++ [0]))[i]? = some (prevL l i) := by
    cases i with
    | zero => rfl
    | succ k =>
      have hk : k < l.length := by omega
      rw [List.getElem?_cons_succ, List.getElem?_append_left hk, prevL, if_neg (by omega), Nat.add_sub_cancel, List.getD_eq_getElem?_getD, List.getElem?_eq_getElem hk]
      rfl
  rw [linN, stepP, List.getElem?_zipWith, h1, h2]
theorem linN_last {q n : Nat} {l : List Nat} {r : Nat} (hl : l.length = n) (hq : 0 < q) (hlq : ∀ x ∈ l, x < q) : (linN q l r)[n]? = some (prevL l n) := by
  have h1 : (l ++ [0])[n]? = some 0 := by rw [List.getElem?_append_right (by omega)]; simp [hl]
  have h2 : (0 :: (l ++ [0]))[n]? = some (prevL l n) ∧ prevL l n < q := by
    cases n with
    | zero => exact ⟨rfl, hq⟩
    | succ k =>
      have hk : k < l.length := by omega
      have e : l.getD k 0 = l[k] := by rw [List.getD_eq_getElem?_getD, List.getElem?_eq_getElem hk]; rfl
      refine ⟨?_, ?_⟩
      · rw [List.getElem?_cons_succ, List.getElem?_append_left hk, prevL, if_neg (by omega), Nat.add_sub_cancel, e, List.getElem?_eq_getElem hk]
      · rw [prevL, if_neg (by omega), Nat.add_sub_cancel, e]
        exact hlq _ (List.getElem_mem hk)
  rw [linN, stepP, List.getElem?_zipWith, h1, h2.1]
  simp [Nat.mod_eq_of_lt h2.2]
theorem prevL_lt {q i : Nat} {l : List Nat} (hq : 0 < q) (h : ∀ x ∈ l, x < q) : prevL l i < q := by
  unfold prevL
  split
  · exact hq
  · rw [List.getD_eq_getElem?_getD]
    cases hx : l[i - 1]? with
    | none => exact hq
    | some x => exact h x (List.mem_of_getElem? hx)
theorem ln_mid {q i n x r : Nat} {l : List Nat} (hl : l.length = n) (hx : l[i]? = some x) (hxq : x < q) : seg (((List.range (n + 1)).map (lnF q l r i)).map U) (i + 1) [U ((0 + x) % q)] = ((List.range (n + 1)).map (lnM q l r i)).map U := by
  have hi : i < n := by rw [← hl]; exact (List.getElem?_eq_some_iff.1 hx).1
  refine rng_set (by omega) fun j hj => ?_
  rw [Nat.zero_add, Nat.mod_eq_of_lt hxq]
  unfold lnM lnF
  have e : l.getD i 0 = x := by rw [List.getD_eq_getElem?_getD, hx]; rfl
  by_cases h1 : j < i
  · rw [if_pos h1, if_neg (by omega), if_pos h1]
  · rw [if_neg h1, if_neg h1]
    by_cases h2 : j = i
    · rw [if_pos h2, if_neg (by omega), if_pos h2]
    · rw [if_neg h2, if_neg h2, e]
theorem ln_new {q i n x r : Nat} {l : List Nat} (hl : l.length = n) (hx : l[i]? = some x) : seg (((List.range (n + 1)).map (lnM q l r i)).map U) i [U ((prevL l i + q - x * r % q) % q)] = ((List.range (n + 1)).map (lnF q l r (i + 1))).map U := by
  have hi : i < n := by rw [← hl]; exact (List.getElem?_eq_some_iff.1 hx).1
  refine rng_set (by omega) fun j hj => ?_
  unfold lnM lnF
  by_cases h1 : j < i
  · rw [if_pos (show j < i + 1 by omega), if_neg (show ¬ j = i by omega), if_pos h1]
  · by_cases h2 : j = i
    · subst h2
      rw [if_pos (by omega), if_pos rfl, List.getD_eq_getElem?_getD, linN_at hl hx]
      rfl
    · rw [if_neg (show ¬ j < i + 1 by omega), if_neg h2, if_neg h1, if_neg h2]
      by_cases h3 : j = i + 1
      · rw [if_pos h3, if_pos h3, prevL, if_neg (by omega), Nat.add_sub_cancel]
      · rw [if_neg h3, if_neg h3]
theorem ln_end {q n r : Nat} {l : List Nat} (hl : l.length = n) (hq : 0 < q) (hlq : ∀ x ∈ l, x < q) : (List.range (n + 1)).map (lnF q l r n) = linN q l r := by
  apply List.ext_getElem?
  intro j
  by_cases hj : j < n + 1
  · rw [rng_at hj]
    unfold lnF
    have hlen := linN_len q l r
    by_cases h1 : j < n
    · rw [if_pos h1, List.getD_eq_getElem?_getD, List.getElem?_eq_getElem (by omega)]
      rfl
    · obtain rfl : j = n := by omega
      rw [if_neg h1, if_pos rfl, linN_last hl hq hlq]
  · rw [List.getElem?_eq_none (by simpa using hj), List.getElem?_eq_none (by rw [linN_len]; omega)]
theorem ln_start {q r : Nat} {l : List Nat} {n : Nat} : ((List.range (n + 1)).map (lnF q l r 0)).map U = List.replicate (n + 1) (U 0) := by
  apply List.ext_getElem?
  intro j
  rw [List.getElem?_map, List.getElem?_replicate]
  by_cases hj : j < n + 1
  · rw [rng_at hj, if_pos hj]
    unfold lnF prevL
    by_cases h : j = 0 <;> simp [h]
  · rw [List.getElem?_eq_none (by simpa using hj), if_neg hj]
    rfl


theorem linear_c (q r n c : Nat) (A : Option Addr) (l : List Nat) (hq : 2 ≤ q) (hq2 : q ≤ 4294967295) (hrq : r < q) (hb : ∀ x ∈ l, x < q) (hl : l.length = n) (hn : n ≤ 1000000) (w : World) (hR : Rd w A (l.map U)) : RetF Try.prog 138 [U q, .slice A n c, U r].toArray w (.cap 24 ((linN q l r).map U) (mkS (n + 1))) := by
  refine enter Try.func138 rfl Try.ntmps138 rfl fun a hF => ?_
  have hw := Own.start w
  refine wp_seq (reg_seq 1 (hF _ _) (by kernel_rfl) ?_)
  refine net_cons rfl rfl (n_assign rfl evc) ?_
  refine net_nil fun a w1 hF hx => ?_
  replace hw := hw.next hx
  replace hF := hF.keep (.cons (t := 0) rfl (.cons (t := 1) rfl (.cons (t := 2) rfl (.cons (t := 6) rfl .nil))))
  refine wpList_nil ?_
  refine wp_seq (wp_region_lit ?_)
  refine t_net 0 4 (by kernel_rfl) rfl hF ?_
  refine net_cons rfl rfl (n_move rfl (ev rfl)) ?_
  refine net_cons rfl rfl (n_len rfl (ev rfl) Try.underlying63) ?_
  refine net_cons rfl rfl (n_bin rfl (ev rfl) evc (r_inc (by omega))) ?_
  refine net_cons rfl rfl (n_mkU (n := n + 1) sl63 zU rfl (ev rfl) (ev rfl) (by omega) (by omega)) ?_
  refine net_nil fun a w1 hF hx => ?_
  obtain ⟨b12, h_, hw⟩ := hw.cap hx (hF.at_ 12 _ rfl)
  replace hF := hF.now (v := .slice (some ⟨b12, 0, none⟩) (n + 1) (n + 1)) h_
  replace hF := hF.keep (.cons (t := 0) rfl (.cons (t := 1) rfl (.cons (t := 2) rfl (.cons (t := 6) rfl (.cons (t := 12) rfl .nil)))))
  refine t_net 4 1 (by kernel_rfl) rfl hF ?_
  refine net_cons rfl rfl (n_assign rfl (ev rfl)) ?_
  refine net_nil fun a w1 hF hx => ?_
  replace hw := hw.next hx
  replace hF := hF.keep (.cons (t := 0) rfl (.cons (t := 1) rfl (.cons (t := 2) rfl (.cons (t := 6) rfl (.cons (t := 7) rfl .nil)))))
  refine wpList_nil ?_
  refine wp_seq ?_
  refine wp_seq (reg_seq 1 (hF _ _) (by kernel_rfl) ?_)
  refine net_cons rfl rfl (n_assign rfl evc) ?_
  refine net_nil fun a w1 hF hx => ?_
  replace hw := hw.next hx
  replace hF := hF.keep (.cons (t := 0) rfl (.cons (t := 1) rfl (.cons (t := 2) rfl (.cons (t := 6) rfl (.cons (t := 7) rfl (.cons (t := 8) rfl .nil))))))
  refine wpList_nil ?_
  refine wp_block ?_
  refine wp_loop_ix (α := Nat) (fun i a w1 => FrV 53 [] [(0, .is (U q)) , (1, .is (.slice A n c)) , (2, .is (U r)) , (7, .is (.slice (some ⟨b12, 0, none⟩) (n + 1) (n + 1))) , (8, .is (I (i : Int)))] a ∧ Own w w1 [.blk b12 24 (((List.range (n + 1)).map (lnF q l r (i))).map U)] ∧ (i ≤ n)) (fun i => n - i) (0) ⟨hF.keep (.cons (t := 0) rfl (.cons (t := 1) rfl (.cons (t := 2) rfl (.cons (t := 7) rfl (.cons (t := 8) rfl (.nil)))))), (by rw [ln_start]; exact hw), by omega⟩ ?_
  rintro i a w1 ⟨hF, hw, hi0⟩
  refine wp_seq ?_
  refine wp_seq (reg_seq 4 (hF _ _) (by kernel_rfl) ?_)
  refine net_cons rfl rfl (n_move rfl (ev rfl)) ?_
  refine net_cons rfl rfl (n_move rfl (ev rfl)) ?_
  refine net_cons rfl rfl (n_len rfl (ev rfl) Try.underlying63) ?_
  refine net_cons rfl rfl (n_bin rfl (ev rfl) (ev rfl) r_lss) ?_
  refine net_nil fun a w1 hF hx => ?_
  replace hw := hw.next hx
  replace hF := hF.keep (.cons (t := 0) rfl (.cons (t := 1) rfl (.cons (t := 2) rfl (.cons (t := 7) rfl (.cons (t := 8) rfl (.cons (t := 16) rfl .nil))))))
  refine wpList_nil ?_
  refine wp_cond_split (hF.ev (ev rfl)) (fun h16 => ?_) (fun h16 => ?_)
  · have hi : i < n := by have := of_bool_t h16; omega
    obtain ⟨x, hx0⟩ := some_at hl hi
    have hxq := hb x (List.mem_of_getElem? hx0)
    have hpl := prevL_lt (q := q) (i := i) (show 0 < q by omega) hb
    have he1 : ((List.range (n + 1)).map (lnF q l r i))[i + 1]? = some 0 := by rw [rng_at (by omega)]; unfold lnF; rw [if_neg (by omega), if_neg (by omega)]
    have he2 : ((List.range (n + 1)).map (lnM q l r i))[i]? = some (prevL l i) := by rw [rng_at (by omega)]; unfold lnM; rw [if_neg (by omega), if_pos rfl]
    have hF_ := hF
    have hw_ := hw
    obtain ⟨bX, oX, rfl, hcX⟩ := hR.at_ (by rw [List.length_map]; omega)
    have hF := hF_
    have hw := hw_
    refine wp_skip ?_
    refine wp_seq (wp_block ?_)
    refine wp_seq (reg_draw 16 mixed (by kernel_rfl) (hF _ _) ?_)
    refine net_cons rfl rfl (n_move rfl (ev rfl)) ?_
    refine net_cons rfl rfl (n_move rfl (ev rfl)) ?_
    refine net_cons rfl rfl (n_bin rfl (ev rfl) evc (r_inc (by omega))) ?_
    refine net_cons rfl rfl (n_move rfl (ev rfl)) ?_
    refine net_cons rfl rfl (n_move rfl (ev rfl)) ?_
    refine net_cons rfl rfl (n_bin rfl (ev rfl) evc (r_inc (by omega))) ?_
    refine net_cons rfl rfl (n_indexS (off' := i + 1) rfl (ev rfl) (ev rfl) Try.underlying63 Try.sizeOf24 (by omega) (by omega)) ?_
    refine net_cons rfl rfl (n_load rfl (ev rfl) (ld1 hw (i := 0) rfl Try.isAgg24 (map_at he1))) ?_
    refine net_cons rfl rfl (n_move rfl (ev rfl)) ?_
    refine net_cons rfl rfl (n_move rfl (ev rfl)) ?_
    refine net_cons rfl rfl (n_indexS (off' := oX + (i)) rfl (ev rfl) (ev rfl) Try.underlying63 Try.sizeOf24 (by omega) (by omega)) ?_
    refine net_cons rfl rfl (n_load rfl (ev rfl) (fun w2 hx2 => ld1R hcX (map_at hx0) Try.isAgg24 (by omega) w2 (hw.ext.trans hx2))) ?_
    refine net_cons rfl rfl (n_bin rfl (ev rfl) (ev rfl) (r_addN (by omega))) ?_
    refine net_cons rfl rfl (n_move rfl (ev rfl)) ?_
    refine net_cons rfl rfl (n_bin rfl (ev rfl) (ev rfl) (r_remN (by omega))) ?_
    refine net_cons rfl rfl (n_indexS (off' := i + 1) rfl (ev rfl) (ev rfl) Try.underlying63 Try.sizeOf24 (by omega) (by omega)) ?_
    refine net_nil fun a w1 hF hx => ?_
    replace hw := hw.next hx
    replace hF := hF.keep (.cons (t := 0) rfl (.cons (t := 1) rfl (.cons (t := 2) rfl (.cons (t := 7) rfl (.cons (t := 8) rfl (.cons (t := 16) rfl (.cons (t := 33) rfl (.cons (t := 34) rfl .nil))))))))
    refine t_store (i := 0) rfl rfl rfl hF hw rfl (ev rfl) (ev rfl) rfl one1 Try.sizeOf24 rfl (by rw [List.length_map, List.length_map, List.length_range]; omega) (ln_mid hl hx0 hxq) fun w1 hw => ?_
    refine wpList_nil ?_
    refine reg_draw 17 mixed (by kernel_rfl) (hF _ _) ?_
    refine net_cons rfl rfl (n_move rfl (ev rfl)) ?_
    refine net_cons rfl rfl (n_move rfl (ev rfl)) ?_
    refine net_cons rfl rfl (n_move rfl (ev rfl)) ?_
    refine net_cons rfl rfl (n_move rfl (ev rfl)) ?_
    refine net_cons rfl rfl (n_move rfl (ev rfl)) ?_
    refine net_cons rfl rfl (n_indexS (off' := i) rfl (ev rfl) (ev rfl) Try.underlying63 Try.sizeOf24 (by omega) (by omega)) ?_
    refine net_cons rfl rfl (n_load rfl (ev rfl) (ld1 hw (i := 0) rfl Try.isAgg24 (map_at he2))) ?_
    refine net_cons rfl rfl (n_move rfl (ev rfl)) ?_
    refine net_cons rfl rfl (n_move rfl (ev rfl)) ?_
    refine net_cons rfl rfl (n_indexS (off' := oX + (i)) rfl (ev rfl) (ev rfl) Try.underlying63 Try.sizeOf24 (by omega) (by omega)) ?_
    refine net_cons rfl rfl (n_load rfl (ev rfl) (fun w2 hx2 => ld1R hcX (map_at hx0) Try.isAgg24 (by omega) w2 (hw.ext.trans hx2))) ?_
    refine net_cons rfl rfl (n_move rfl (ev rfl)) ?_
    refine net_cons rfl rfl (n_bin rfl (ev rfl) (ev rfl) (r_mulN (mul_le32 (by omega) (by omega)))) ?_
    refine net_cons rfl rfl (n_move rfl (ev rfl)) ?_
    refine net_cons rfl rfl (n_bin rfl (ev rfl) (ev rfl) (r_remN (by omega))) ?_
    refine net_cons rfl rfl (n_to (n_ret rfl Try.call126 (.cons (ev rfl) (.cons (ev rfl) (.cons (ev rfl) .nil))) (fun _ hx => minus_c q (prevL l i) (x * r % q) (by omega) (by omega) hpl (by have := Nat.mod_lt (x * r) (show 0 < q by omega); omega) _)) (congrArg (fun n : Nat => U n) (minus_sub (Nat.mod_lt _ (by omega))))) ?_
    refine net_cons rfl rfl (n_indexS (off' := i) rfl (ev rfl) (ev rfl) Try.underlying63 Try.sizeOf24 (by omega) (by omega)) ?_
    refine net_nil fun a w1 hF hx => ?_
    replace hw := hw.next hx
    replace hF := hF.keep (.cons (t := 0) rfl (.cons (t := 1) rfl (.cons (t := 2) rfl (.cons (t := 7) rfl (.cons (t := 8) rfl (.cons (t := 16) rfl (.cons (t := 33) rfl (.cons (t := 34) rfl (.cons (t := 50) rfl (.cons (t := 51) rfl .nil))))))))))
    refine t_store (i := 0) rfl rfl rfl hF hw rfl (ev rfl) (ev rfl) rfl one1 Try.sizeOf24 rfl (by rw [List.length_map, List.length_map, List.length_range]; omega) (ln_new hl hx0) fun w1 hw => ?_
    refine wpList_nil ?_
    refine reg_seq 3 (hF _ _) (by kernel_rfl) ?_
    refine net_cons rfl rfl (n_move rfl (ev rfl)) ?_
    refine net_cons rfl rfl (n_bin rfl (ev rfl) evc (r_inc (by omega))) ?_
    refine net_cons rfl rfl (n_assign rfl (ev rfl)) ?_
    refine net_nil fun a w1 hF hx => ?_
    replace hw := hw.next hx
    replace hF := hF.keep (.cons (t := 0) rfl (.cons (t := 1) rfl (.cons (t := 2) rfl (.cons (t := 7) rfl (.cons (t := 8) rfl (.cons (t := 16) rfl (.cons (t := 33) rfl (.cons (t := 34) rfl (.cons (t := 50) rfl (.cons (t := 51) rfl .nil))))))))))
    refine wpList_nil ?_
    exact ⟨i + 1, ⟨hF.keep (.cons (t := 0) rfl (.cons (t := 1) rfl (.cons (t := 2) rfl (.cons (t := 7) rfl (.cons (t := 8) rfl (.nil)))))), hw, by omega⟩, by omega⟩
  · obtain rfl : n = i := by have := of_bool_f h16; omega
    rw [ln_end hl (by omega) hb] at hw
    refine wp_exit (go_then_e (go_then_e (go_exit ?_)))
    refine wp_seq (reg_seq 2 (hF _ _) (by kernel_rfl) ?_)
    refine net_cons rfl rfl (n_move rfl (ev rfl)) ?_
    refine net_cons rfl rfl (n_assign rfl (ev rfl)) ?_
    refine net_nil fun a w1 hF hx => ?_
    replace hw := hw.next hx
    replace hF := hF.keep (.cons (t := 0) rfl (.cons (t := 1) rfl (.cons (t := 2) rfl (.cons (t := 6) rfl (.cons (t := 7) rfl (.cons (t := 8) rfl (.cons (t := 16) rfl .nil)))))))
    refine wpList_nil ?_
    refine wp_ret (ret1 hF Try.results138 rfl ?_)
    have hb := hw.ok _ List.mem_cons_self
    exact ⟨_, rfl, hw.ext, b12, rfl, hb.1, hb.2⟩


theorem mixL_hi {a b : List Nat} {k j n : Nat} (ha : a.length = n) (hj : k ≤ j) (hk : k ≤ n) : (mixL a b k)[j]? = b[j]? := by
  rw [mixL, List.getElem?_append_right (by rw [List.length_take]; omega), List.getElem?_drop, List.length_take]
  congr 1
  omega
theorem mixL_up {a b : List Nat} {k n x : Nat} (ha : a.length = n) (hb : b.length = n) (hk : k < n) (hx : a[k]? = some x) : seg ((mixL a b k).map U) k [U x] = (mixL a b (k + 1)).map U := by
  rw [seg_one (by rw [List.length_map, mixL_len ha hb (by omega)]; exact hk), ← List.map_set]
  congr 1
  apply List.ext_getElem?
  intro j
  have e1 : (a.take (k + 1)).length = k + 1 := by rw [List.length_take]; omega
  have e2 : (a.take k).length = k := by rw [List.length_take]; omega
  simp only [mixL, List.getElem?_set, List.getElem?_append, e1, e2, List.length_append, List.length_drop, List.getElem?_take, List.getElem?_drop]
  by_cases h1 : k = j
  · subst h1
    rw [if_pos rfl, if_pos (by omega), if_pos (by omega), if_pos (by omega), hx]
  · rw [if_neg h1]
    by_cases h2 : j < k
    · simp [h2, show j < k + 1 by omega]
    · rw [if_neg h2, if_neg (by omega)]
      congr 1
      omega
theorem lagP_skip {q i j : Nat} {pts : List (Nat × Nat)} (h : i = j) : lagP q pts j (i + 1) = lagP q pts j i := by rw [lagP, if_pos h]
theorem lagP_go {q i j : Nat} {pts : List (Nat × Nat)} {x y : Nat × Nat} (h : ¬ i = j) (hx : pts[j]? = some x) (hy : pts[i]? = some y) : lagP q pts j (i + 1) = (linN q (lagP q pts j i) y.1).map fun c => c * invN (subN q x.1 y.1) q % q := by
  rw [lagP, if_neg h, ptX_at hx, ptX_at hy]
theorem ptY_at {pts : List (Nat × Nat)} {i : Nat} {x : Nat × Nat} (h : pts[i]? = some x) : ptY pts i = x.2 := by
  simp only [ptY, List.getD_eq_getElem?_getD, h, Option.getD_some]
theorem lagP_le {q i j n : Nat} {pts : List (Nat × Nat)} (hi : i ≤ n) : (lagP q pts j i).length ≤ n + 1 := by
  rw [lagP_len]
  split <;> omega
theorem lagP_all {q j n : Nat} {pts : List (Nat × Nat)} (hj : j < n) : (lagP q pts j n).length = n := by rw [lagP_len, if_neg (by omega)]
theorem lagO_go {q j k n u v : Nat} {pts : List (Nat × Nat)} (hl : pts.length = n) (hu : (lagO q pts j)[k]? = some u) (hv : (lagP q pts j n)[k]? = some v) : (lagO q pts (j + 1))[k]? = some ((u + v) % q) := by
  subst hl
  rw [lagO, List.getElem?_zipWith, hu, hv]


theorem Lie_c (q n c : Nat) (A : Option Addr) (pts : List (Nat × Nat)) (hqp : isP q = true) (hl : pts.length = n) (hn : n ≤ 1000) (hxy : ∀ x ∈ pts, x.1 < q ∧ x.2 < q) (hnod : (pts.map (·.1)).Nodup) (w : World) (hR : Rd w A (pc pts)) : RetF Try.prog 100 [U q, .slice A n c].toArray w (.cap 24 ((lagO q pts n).map U) (mkS n)) := by
  have hq := isP_two hqp
  have hq2 := isP_max hqp
  have hgy := fun i => (getD_lt (q := q) (show 0 < q by omega) hxy i).2
  refine enter Try.func100 rfl Try.ntmps100 rfl fun a hF => ?_
  have hw := Own.start w
  refine wp_seq (reg_seq 1 (hF _ _) (by kernel_rfl) ?_)
  refine net_cons rfl rfl (n_assign rfl evc) ?_
  refine net_nil fun a w1 hF hx => ?_
  replace hw := hw.next hx
  replace hF := hF.keep (.cons (t := 0) rfl (.cons (t := 1) rfl (.cons (t := 4) rfl .nil)))
  refine wpList_nil ?_
  refine wp_seq (wp_region_lit ?_)
  refine t_net 0 3 (by kernel_rfl) rfl hF ?_
  refine net_cons rfl rfl (n_move rfl (ev rfl)) ?_
  refine net_cons rfl rfl (n_len rfl (ev rfl) Try.underlying43) ?_
  refine net_cons rfl rfl (n_mkU (n := n) sl63 zU rfl (ev rfl) (ev rfl) (by omega) (by omega)) ?_
  refine net_nil fun a w1 hF hx => ?_
  obtain ⟨b15, h_, hw⟩ := hw.cap hx (hF.at_ 15 _ rfl)
  replace hF := hF.now (v := .slice (some ⟨b15, 0, none⟩) (n) (n)) h_
  replace hF := hF.keep (.cons (t := 0) rfl (.cons (t := 1) rfl (.cons (t := 4) rfl (.cons (t := 15) rfl .nil))))
  refine t_net 3 1 (by kernel_rfl) rfl hF ?_
  refine net_cons rfl rfl (n_assign rfl (ev rfl)) ?_
  refine net_nil fun a w1 hF hx => ?_
  replace hw := hw.next hx
  replace hF := hF.keep (.cons (t := 0) rfl (.cons (t := 1) rfl (.cons (t := 4) rfl (.cons (t := 5) rfl .nil))))
  refine wpList_nil ?_
  refine wp_seq ?_
  refine wp_seq (reg_seq 1 (hF _ _) (by kernel_rfl) ?_)
  refine net_cons rfl rfl (n_assign rfl evc) ?_
  refine net_nil fun a w1 hF hx => ?_
  replace hw := hw.next hx
  replace hF := hF.keep (.cons (t := 0) rfl (.cons (t := 1) rfl (.cons (t := 4) rfl (.cons (t := 5) rfl (.cons (t := 6) rfl .nil)))))
  refine wpList_nil ?_
  refine wp_block ?_
  refine wp_loop_ix (α := Nat) (fun j a w1 => FrV 100 [] [(0, .is (U q)) , (1, .is (.slice A n c)) , (5, .is (.slice (some ⟨b15, 0, none⟩) n n)) , (6, .is (I (j : Int)))] a ∧ Own w w1 [.blk b15 24 ((lagO q pts j).map U)] ∧ (j ≤ n)) (fun j => n - j) (0) ⟨hF.keep (.cons (t := 0) rfl (.cons (t := 1) rfl (.cons (t := 5) rfl (.cons (t := 6) rfl (.nil))))), (by rw [show (lagO q pts 0).map U = List.replicate n (U 0) by rw [lagO, hl, List.map_replicate]]; exact hw), by omega⟩ ?_
  rintro j a w1 ⟨hF, hw, hj0⟩
  refine wp_seq ?_
  refine wp_seq (reg_seq 4 (hF _ _) (by kernel_rfl) ?_)
  refine net_cons rfl rfl (n_move rfl (ev rfl)) ?_
  refine net_cons rfl rfl (n_move rfl (ev rfl)) ?_
  refine net_cons rfl rfl (n_len rfl (ev rfl) Try.underlying43) ?_
  refine net_cons rfl rfl (n_bin rfl (ev rfl) (ev rfl) r_lss) ?_
  refine net_nil fun a w1 hF hx => ?_
  replace hw := hw.next hx
  replace hF := hF.keep (.cons (t := 0) rfl (.cons (t := 1) rfl (.cons (t := 5) rfl (.cons (t := 6) rfl (.cons (t := 19) rfl .nil)))))
  refine wpList_nil ?_
  refine wp_cond_split (hF.ev (ev rfl)) (fun h19 => ?_) (fun h19 => ?_)
  · have hj : j < n := by have := of_bool_t h19; omega
    obtain ⟨x, hx0⟩ := some_at hl hj
    obtain ⟨hxa, hxb⟩ := hxy x (List.mem_of_getElem? hx0)
    have ho1 := lagO_len q pts (j + 1) (by omega)
    have ho2 := lagO_len q pts j (by omega)
    rw [hl] at ho1 ho2
    have hF_ := hF
    have hw_ := hw
    obtain ⟨bX, oX, rfl, hcX⟩ := hR.at_ (by rw [pc_len]; omega)
    have hF := hF_
    have hw := hw_
    refine wp_skip ?_
    refine wp_seq (wp_block ?_)
    refine wp_seq (wp_region_lit ?_)
    refine t_net 0 6 (by kernel_rfl) rfl hF ?_
    refine net_cons rfl rfl (n_move rfl (ev rfl)) ?_
    refine net_cons rfl rfl (n_move rfl (ev rfl)) ?_
    refine net_cons rfl rfl (n_indexS (off' := oX + (j) * 2) rfl (ev rfl) (ev rfl) Try.underlying43 Try.sizeOf31 (by omega) rfl) ?_
    refine net_cons rfl rfl (n_fieldAddrO (off' := oX + (j) * 2 + 1) rfl (ev rfl) Try.runUnderlying31 rfl Try.sizeOf24 rfl) ?_
    refine net_cons rfl rfl (n_load rfl (ev rfl) (fun w2 hx2 => ld1R hcX (pc_y hx0) Try.isAgg24 (by omega) w2 (hw.ext.trans hx2))) ?_
    refine net_cons rfl rfl (n_bsl sl63 rfl (.cons (ev rfl) .nil) (.cons rfl rfl .nil) rfl (by decide) (by decide)) ?_
    refine net_nil fun a w1 hF hx => ?_
    obtain ⟨b27, h_, hw⟩ := hw.cap hx (hF.at_ 27 _ rfl)
    replace hF := hF.now (v := .slice (some ⟨b27, 0, none⟩) (1) (1)) h_
    replace hF := hF.keep (.cons (t := 0) rfl (.cons (t := 1) rfl (.cons (t := 5) rfl (.cons (t := 6) rfl (.cons (t := 19) rfl (.cons (t := 27) rfl .nil))))))
    refine t_net 6 1 (by kernel_rfl) rfl hF ?_
    refine net_cons rfl rfl (n_assign rfl (ev rfl)) ?_
    refine net_nil fun a w1 hF hx => ?_
    replace hw := hw.next hx
    replace hF := hF.keep (.cons (t := 0) rfl (.cons (t := 1) rfl (.cons (t := 5) rfl (.cons (t := 6) rfl (.cons (t := 7) rfl (.cons (t := 19) rfl .nil))))))
    refine wpList_nil ?_
    refine wp_seq ?_
    refine wp_seq (reg_seq 1 (hF _ _) (by kernel_rfl) ?_)
    refine net_cons rfl rfl (n_assign rfl evc) ?_
    refine net_nil fun a w1 hF hx => ?_
    replace hw := hw.next hx
    replace hF := hF.keep (.cons (t := 0) rfl (.cons (t := 1) rfl (.cons (t := 5) rfl (.cons (t := 6) rfl (.cons (t := 7) rfl (.cons (t := 8) rfl (.cons (t := 19) rfl .nil)))))))
    refine wpList_nil ?_
    refine wp_block ?_
    refine wp_loop_ix (α := Nat × Nat) (fun ⟨i, b⟩ a w1 => FrV 100 [] [(0, .is (U q)) , (1, .is (.slice (some ⟨bX, oX, none⟩) n c)) , (5, .is (.slice (some ⟨b15, 0, none⟩) n n)) , (6, .is (I (j : Int))) , (7, .is (.slice (some ⟨b, 0, none⟩) (lagP q pts j i).length (lagP q pts j i).length)) , (8, .is (I (i : Int)))] a ∧ Own w w1 [.blk b15 24 ((lagO q pts j).map U), .blk b 24 ((lagP q pts j i).map U)] ∧ (i ≤ n)) (fun ⟨i, b⟩ => n - i) ((0, b27)) ⟨hF.keep (.cons (t := 0) rfl (.cons (t := 1) rfl (.cons (t := 5) rfl (.cons (t := 6) rfl (.cons (t := 7) rfl (.cons (t := 8) rfl (.nil))))))), (by rw [show (lagP q pts j 0).map U = [U x.2] by rw [lagP, ptY_at hx0]; rfl]; exact hw), by omega⟩ ?_
    rintro ⟨i, b⟩ a w1 ⟨hF, hw, hi0⟩
    refine wp_seq ?_
    refine wp_seq (reg_seq 4 (hF _ _) (by kernel_rfl) ?_)
    refine net_cons rfl rfl (n_move rfl (ev rfl)) ?_
    refine net_cons rfl rfl (n_move rfl (ev rfl)) ?_
    refine net_cons rfl rfl (n_len rfl (ev rfl) Try.underlying43) ?_
    refine net_cons rfl rfl (n_bin rfl (ev rfl) (ev rfl) r_lss) ?_
    refine net_nil fun a w1 hF hx => ?_
    replace hw := hw.next hx
    replace hF := hF.keep (.cons (t := 0) rfl (.cons (t := 1) rfl (.cons (t := 5) rfl (.cons (t := 6) rfl (.cons (t := 7) rfl (.cons (t := 8) rfl (.cons (t := 31) rfl .nil)))))))
    refine wpList_nil ?_
    refine wp_cond_split (hF.ev (ev rfl)) (fun h31 => ?_) (fun h31 => ?_)
    · have hi : i < n := by have := of_bool_t h31; omega
      obtain ⟨y, hy0⟩ := some_at hl hi
      obtain ⟨hya, hyb⟩ := hxy y (List.mem_of_getElem? hy0)
      have hll := lagP_le (q := q) (pts := pts) (i := i) (j := j) (n := n) (by omega)
      refine wp_skip ?_
      refine wp_seq (wp_block ?_)
      refine wp_seq ?_
      refine wp_seq (reg_seq 3 (hF _ _) (by kernel_rfl) ?_)
      refine net_cons rfl rfl (n_move rfl (ev rfl)) ?_
      refine net_cons rfl rfl (n_move rfl (ev rfl)) ?_
      refine net_cons rfl rfl (n_bin rfl (ev rfl) (ev rfl) r_eql) ?_
      refine net_nil fun a w1 hF hx => ?_
      replace hw := hw.next hx
      replace hF := hF.keep (.cons (t := 0) rfl (.cons (t := 1) rfl (.cons (t := 5) rfl (.cons (t := 6) rfl (.cons (t := 7) rfl (.cons (t := 8) rfl (.cons (t := 31) rfl (.cons (t := 36) rfl .nil))))))))
      refine wpList_nil ?_
      refine wp_cond_split (hF.ev (ev rfl)) (fun h36 => ?_) (fun h36 => ?_)
      · have hij : i = j := by have := of_bool_t h36; omega
        rw [← lagP_skip (q := q) (pts := pts) hij] at hF hw
        refine wp_exit (go_then_e (go_exit ?_))
        refine reg_seq 3 (hF _ _) (by kernel_rfl) ?_
        refine net_cons rfl rfl (n_move rfl (ev rfl)) ?_
        refine net_cons rfl rfl (n_bin rfl (ev rfl) evc (r_inc (by omega))) ?_
        refine net_cons rfl rfl (n_assign rfl (ev rfl)) ?_
        refine net_nil fun a w1 hF hx => ?_
        replace hw := hw.next hx
        replace hF := hF.keep (.cons (t := 0) rfl (.cons (t := 1) rfl (.cons (t := 5) rfl (.cons (t := 6) rfl (.cons (t := 7) rfl (.cons (t := 8) rfl (.cons (t := 31) rfl (.cons (t := 36) rfl .nil))))))))
        refine wpList_nil ?_
        exact ⟨(i + 1, _), ⟨hF.keep (.cons (t := 0) rfl (.cons (t := 1) rfl (.cons (t := 5) rfl (.cons (t := 6) rfl (.cons (t := 7) rfl (.cons (t := 8) rfl (.nil))))))), hw, by show i + 1 ≤ n; omega⟩, (by show n - (i + 1) < n - i; omega)⟩
      · have hij : ¬ i = j := by have := of_bool_f h36; omega
        have hne_ := pts_ne hnod hx0 hy0 (fun e => hij e.symm)
        have hil := invN_lt (b := subN q x.1 y.1) (q := q) (by omega)
        have hsl := subN_lt (q := q) (x := x.1) (y := y.1) (by omega)
        refine wp_skip ?_
        refine wp_seq (reg_draw 19 mixed (by kernel_rfl) (hF _ _) ?_)
        refine net_cons rfl rfl (n_move rfl (ev rfl)) ?_
        refine net_cons rfl rfl (n_move rfl (ev rfl)) ?_
        refine net_cons rfl rfl (n_move rfl (ev rfl)) ?_
        refine net_cons rfl rfl (n_indexS (off' := oX + (j) * 2) rfl (ev rfl) (ev rfl) Try.underlying43 Try.sizeOf31 (by omega) rfl) ?_
        refine net_cons rfl rfl (n_fieldAddrO (off' := oX + (j) * 2 + 0) rfl (ev rfl) Try.runUnderlying31 rfl Try.sizeOf24 rfl) ?_
        refine net_cons rfl rfl (n_load rfl (ev rfl) (fun w2 hx2 => ld1R hcX (pc_x hx0) Try.isAgg24 (by omega) w2 (hw.ext.trans hx2))) ?_
        refine net_cons rfl rfl (n_move rfl (ev rfl)) ?_
        refine net_cons rfl rfl (n_move rfl (ev rfl)) ?_
        refine net_cons rfl rfl (n_indexS (off' := oX + (i) * 2) rfl (ev rfl) (ev rfl) Try.underlying43 Try.sizeOf31 (by omega) rfl) ?_
        refine net_cons rfl rfl (n_fieldAddrO (off' := oX + (i) * 2 + 0) rfl (ev rfl) Try.runUnderlying31 rfl Try.sizeOf24 rfl) ?_
        refine net_cons rfl rfl (n_load rfl (ev rfl) (fun w2 hx2 => ld1R hcX (pc_x hy0) Try.isAgg24 (by omega) w2 (hw.ext.trans hx2))) ?_
        refine net_cons rfl rfl (n_to (n_ret rfl Try.call126 (.cons (ev rfl) (.cons (ev rfl) (.cons (ev rfl) .nil))) (fun _ hx => minus_c q x.1 y.1 (by omega) (by omega) hxa (by omega) _)) (congrArg (fun n : Nat => U n) (minus_sub hya))) ?_
        refine net_cons rfl rfl (n_move rfl (ev rfl)) ?_
        refine net_cons rfl rfl (n_ret rfl Try.call125 (.cons (ev rfl) (.cons (ev rfl) .nil)) (fun _ hx => Inverse_c (subN q x.1 y.1) q (by omega) (by omega) (by omega) (gcd_of_ne hqp (sub_ne hxa hya hne_)) _)) ?_
        refine net_cons rfl rfl (n_move rfl (ev rfl)) ?_
        refine net_cons rfl rfl (n_extract rfl (ev rfl) rfl) ?_
        refine net_cons rfl rfl (n_extract rfl (ev rfl) rfl) ?_
        refine net_cons rfl rfl (n_assign rfl (ev rfl)) ?_
        refine net_cons rfl rfl (n_assign rfl (ev rfl)) ?_
        refine net_nil fun a w1 hF hx => ?_
        replace hw := hw.next hx
        replace hF := hF.keep (.cons (t := 0) rfl (.cons (t := 1) rfl (.cons (t := 5) rfl (.cons (t := 6) rfl (.cons (t := 7) rfl (.cons (t := 8) rfl (.cons (t := 9) rfl (.cons (t := 31) rfl (.cons (t := 36) rfl .nil)))))))))
        refine wpList_nil ?_
        refine wp_seq (wp_region_lit ?_)
        refine t_net 0 8 (by kernel_rfl) rfl hF ?_
        refine net_cons rfl rfl (n_move rfl (ev rfl)) ?_
        refine net_cons rfl rfl (n_move rfl (ev rfl)) ?_
        refine net_cons rfl rfl (n_move rfl (ev rfl)) ?_
        refine net_cons rfl rfl (n_move rfl (ev rfl)) ?_
        refine net_cons rfl rfl (n_indexS (off' := oX + (i) * 2) rfl (ev rfl) (ev rfl) Try.underlying43 Try.sizeOf31 (by omega) rfl) ?_
        refine net_cons rfl rfl (n_fieldAddrO (off' := oX + (i) * 2 + 0) rfl (ev rfl) Try.runUnderlying31 rfl Try.sizeOf24 rfl) ?_
        refine net_cons rfl rfl (n_load rfl (ev rfl) (fun w2 hx2 => ld1R hcX (pc_x hy0) Try.isAgg24 (by omega) w2 (hw.ext.trans hx2))) ?_
        refine net_cons rfl rfl (n_ret rfl Try.call138 (.cons (ev rfl) (.cons (ev rfl) (.cons (ev rfl) .nil))) (fun _ hx => (linear_c q y.1 (lagP q pts j i).length _ _ (lagP q pts j i) (by omega) (by omega) hya (lagP_lt (by omega) hgy j i) rfl (by omega) _ ((hw.rdWhole (i := 1) rfl).ext hx)))) ?_
        refine net_nil fun a w1 hF hx => ?_
        obtain ⟨b61, h_, hw⟩ := hw.cap hx (hF.at_ 61 _ rfl)
        replace hF := hF.now (v := .slice (some ⟨b61, 0, none⟩) ((lagP q pts j i).length + 1) ((lagP q pts j i).length + 1)) h_
        replace hF := hF.keep (.cons (t := 0) rfl (.cons (t := 1) rfl (.cons (t := 5) rfl (.cons (t := 6) rfl (.cons (t := 7) rfl (.cons (t := 8) rfl (.cons (t := 9) rfl (.cons (t := 31) rfl (.cons (t := 36) rfl (.cons (t := 61) rfl .nil))))))))))
        refine t_net 8 1 (by kernel_rfl) rfl hF ?_
        refine net_cons rfl rfl (n_assign rfl (ev rfl)) ?_
        refine net_nil fun a w1 hF hx => ?_
        replace hw := hw.next hx
        replace hF := hF.keep (.cons (t := 0) rfl (.cons (t := 1) rfl (.cons (t := 5) rfl (.cons (t := 6) rfl (.cons (t := 7) rfl (.cons (t := 8) rfl (.cons (t := 9) rfl (.cons (t := 31) rfl (.cons (t := 36) rfl .nil)))))))))
        refine wpList_nil ?_
        have hle2 : (linN q (lagP q pts j i) y.1).length = (lagP q pts j i).length + 1 := linN_len _ _ _
        have hle1 : (lagP q pts j (i + 1)).length = (lagP q pts j i).length + 1 := by rw [lagP_go hij hx0 hy0, List.length_map, linN_len]
        refine wp_seq (reg_seq 1 (hF _ _) (by kernel_rfl) ?_)
        refine net_cons rfl rfl (n_assign rfl evc) ?_
        refine net_nil fun a w1 hF hx => ?_
        replace hw := hw.next hx
        replace hF := hF.keep (.cons (t := 0) rfl (.cons (t := 1) rfl (.cons (t := 5) rfl (.cons (t := 6) rfl (.cons (t := 7) rfl (.cons (t := 8) rfl (.cons (t := 9) rfl (.cons (t := 11) rfl (.cons (t := 31) rfl (.cons (t := 36) rfl .nil))))))))))
        refine wpList_nil ?_
        refine wp_block ?_
        refine wp_loop_ix (α := Nat) (fun k a w1 => FrV 100 [] [(0, .is (U q)) , (1, .is (.slice (some ⟨bX, oX, none⟩) n c)) , (5, .is (.slice (some ⟨b15, 0, none⟩) n n)) , (6, .is (I (j : Int))) , (7, .is (.slice (some ⟨b61, 0, none⟩) ((lagP q pts j i).length + 1) ((lagP q pts j i).length + 1))) , (8, .is (I (i : Int))) , (9, .is (U (invN (subN q x.1 y.1) q))) , (11, .is (I (k : Int)))] a ∧ Own w w1 [.blk b15 24 ((lagO q pts j).map U), .blk b 24 ((lagP q pts j i).map U), .blk b61 24 ((mixL (lagP q pts j (i + 1)) (linN q (lagP q pts j i) y.1) k).map U)] ∧ (k ≤ (lagP q pts j i).length + 1)) (fun k => (lagP q pts j i).length + 1 - k) (0) ⟨hF.keep (.cons (t := 0) rfl (.cons (t := 1) rfl (.cons (t := 5) rfl (.cons (t := 6) rfl (.cons (t := 7) rfl (.cons (t := 8) rfl (.cons (t := 9) rfl (.cons (t := 11) rfl (.nil))))))))), (by rw [mixL_zero]; exact hw), by omega⟩ ?_
        rintro k a w1 ⟨hF, hw, hk0⟩
        refine wp_seq ?_
        refine wp_seq (reg_seq 4 (hF _ _) (by kernel_rfl) ?_)
        refine net_cons rfl rfl (n_move rfl (ev rfl)) ?_
        refine net_cons rfl rfl (n_move rfl (ev rfl)) ?_
        refine net_cons rfl rfl (n_len rfl (ev rfl) Try.underlying63) ?_
        refine net_cons rfl rfl (n_bin rfl (ev rfl) (ev rfl) r_lss) ?_
        refine net_nil fun a w1 hF hx => ?_
        replace hw := hw.next hx
        replace hF := hF.keep (.cons (t := 0) rfl (.cons (t := 1) rfl (.cons (t := 5) rfl (.cons (t := 6) rfl (.cons (t := 7) rfl (.cons (t := 8) rfl (.cons (t := 9) rfl (.cons (t := 11) rfl (.cons (t := 65) rfl .nil)))))))))
        refine wpList_nil ?_
        refine wp_cond_split (hF.ev (ev rfl)) (fun h65 => ?_) (fun h65 => ?_)
        · have hk : k < (lagP q pts j i).length + 1 := by have := of_bool_t h65; omega
          obtain ⟨z, hz0⟩ := some_at hle2 hk
          have hzq := stepP_lt (q := q) (by omega) _ _ _ z (List.mem_of_getElem? hz0)
          have hz1 := (mixL_hi (b := linN q (lagP q pts j i) y.1) hle1 (Nat.le_refl k) (by omega)).trans hz0
          have hnew : (lagP q pts j (i + 1))[k]? = some (z * invN (subN q x.1 y.1) q % q) := by rw [lagP_go hij hx0 hy0, List.getElem?_map, hz0]; rfl
          refine wp_skip ?_
          refine wp_seq (wp_block ?_)
          refine wp_region_lit ?_
          refine t_net 0 11 (by kernel_rfl) rfl hF ?_
          refine net_cons rfl rfl (n_move rfl (ev rfl)) ?_
          refine net_cons rfl rfl (n_move rfl (ev rfl)) ?_
          refine net_cons rfl rfl (n_move rfl (ev rfl)) ?_
          refine net_cons rfl rfl (n_move rfl (ev rfl)) ?_
          refine net_cons rfl rfl (n_indexS (off' := k) rfl (ev rfl) (ev rfl) Try.underlying63 Try.sizeOf24 (by omega) (by omega)) ?_
          refine net_cons rfl rfl (n_load rfl (ev rfl) (ld1 hw (i := 2) rfl Try.isAgg24 (map_at hz1))) ?_
          refine net_cons rfl rfl (n_move rfl (ev rfl)) ?_
          refine net_cons rfl rfl (n_bin rfl (ev rfl) (ev rfl) (r_mulN (mul_le32 (by omega) (by omega)))) ?_
          refine net_cons rfl rfl (n_move rfl (ev rfl)) ?_
          refine net_cons rfl rfl (n_bin rfl (ev rfl) (ev rfl) (r_remN (by omega))) ?_
          refine net_cons rfl rfl (n_indexS (off' := k) rfl (ev rfl) (ev rfl) Try.underlying63 Try.sizeOf24 (by omega) (by omega)) ?_
          refine net_nil fun a w1 hF hx => ?_
          replace hw := hw.next hx
          replace hF := hF.keep (.cons (t := 0) rfl (.cons (t := 1) rfl (.cons (t := 5) rfl (.cons (t := 6) rfl (.cons (t := 7) rfl (.cons (t := 8) rfl (.cons (t := 9) rfl (.cons (t := 11) rfl (.cons (t := 65) rfl (.cons (t := 77) rfl (.cons (t := 78) rfl .nil)))))))))))
          refine t_store (i := 2) rfl rfl rfl hF hw rfl (ev rfl) (ev rfl) rfl one1 Try.sizeOf24 rfl (by rw [List.length_map, mixL_len hle1 hle2 (by omega)]; omega) (mixL_up hle1 hle2 hk hnew) fun w1 hw => ?_
          refine wpList_nil ?_
          refine reg_seq 3 (hF _ _) (by kernel_rfl) ?_
          refine net_cons rfl rfl (n_move rfl (ev rfl)) ?_
          refine net_cons rfl rfl (n_bin rfl (ev rfl) evc (r_inc (by omega))) ?_
          refine net_cons rfl rfl (n_assign rfl (ev rfl)) ?_
          refine net_nil fun a w1 hF hx => ?_
          replace hw := hw.next hx
          replace hF := hF.keep (.cons (t := 0) rfl (.cons (t := 1) rfl (.cons (t := 5) rfl (.cons (t := 6) rfl (.cons (t := 7) rfl (.cons (t := 8) rfl (.cons (t := 9) rfl (.cons (t := 11) rfl (.cons (t := 65) rfl (.cons (t := 77) rfl (.cons (t := 78) rfl .nil)))))))))))
          refine wpList_nil ?_
          exact ⟨k + 1, ⟨hF.keep (.cons (t := 0) rfl (.cons (t := 1) rfl (.cons (t := 5) rfl (.cons (t := 6) rfl (.cons (t := 7) rfl (.cons (t := 8) rfl (.cons (t := 9) rfl (.cons (t := 11) rfl (.nil))))))))), hw, by omega⟩, by omega⟩
        · obtain rfl : (lagP q pts j i).length + 1 = k := by have := of_bool_f h65; omega
          rw [mixL_full hle1 hle2] at hw
          rw [← hle1] at hF
          replace hw := hw.drop (.cons_cons _ (.cons _ (.cons_cons _ .slnil)))
          refine wp_exit (go_then_e (go_then_e (go_exit ?_)))
          refine reg_seq 3 (hF _ _) (by kernel_rfl) ?_
          refine net_cons rfl rfl (n_move rfl (ev rfl)) ?_
          refine net_cons rfl rfl (n_bin rfl (ev rfl) evc (r_inc (by omega))) ?_
          refine net_cons rfl rfl (n_assign rfl (ev rfl)) ?_
          refine net_nil fun a w1 hF hx => ?_
          replace hw := hw.next hx
          replace hF := hF.keep (.cons (t := 0) rfl (.cons (t := 1) rfl (.cons (t := 5) rfl (.cons (t := 6) rfl (.cons (t := 7) rfl (.cons (t := 8) rfl (.cons (t := 9) rfl (.cons (t := 11) rfl (.cons (t := 65) rfl .nil)))))))))
          refine wpList_nil ?_
          exact ⟨(i + 1, _), ⟨hF.keep (.cons (t := 0) rfl (.cons (t := 1) rfl (.cons (t := 5) rfl (.cons (t := 6) rfl (.cons (t := 7) rfl (.cons (t := 8) rfl (.nil))))))), hw, by show i + 1 ≤ n; omega⟩, (by show n - (i + 1) < n - i; omega)⟩
    · obtain rfl : n = i := by have := of_bool_f h31; omega
      have hpl := lagP_all (q := q) (pts := pts) hj
      rw [hpl] at hF
      refine wp_exit (go_then_e (go_then_e (go_exit ?_)))
      refine wp_seq (reg_seq 1 (hF _ _) (by kernel_rfl) ?_)
      refine net_cons rfl rfl (n_assign rfl evc) ?_
      refine net_nil fun a w1 hF hx => ?_
      replace hw := hw.next hx
      replace hF := hF.keep (.cons (t := 0) rfl (.cons (t := 1) rfl (.cons (t := 5) rfl (.cons (t := 6) rfl (.cons (t := 7) rfl (.cons (t := 8) rfl (.cons (t := 12) rfl (.cons (t := 31) rfl .nil))))))))
      refine wpList_nil ?_
      refine wp_block ?_
      refine wp_loop_ix (α := Nat) (fun k a w1 => FrV 100 [] [(0, .is (U q)) , (1, .is (.slice (some ⟨bX, oX, none⟩) n c)) , (5, .is (.slice (some ⟨b15, 0, none⟩) n n)) , (6, .is (I (j : Int))) , (7, .is (.slice (some ⟨b, 0, none⟩) n n)) , (12, .is (I (k : Int)))] a ∧ Own w w1 [.blk b15 24 ((mixL (lagO q pts (j + 1)) (lagO q pts j) k).map U), .blk b 24 ((lagP q pts j n).map U)] ∧ (k ≤ n)) (fun k => n - k) (0) ⟨hF.keep (.cons (t := 0) rfl (.cons (t := 1) rfl (.cons (t := 5) rfl (.cons (t := 6) rfl (.cons (t := 7) rfl (.cons (t := 12) rfl (.nil))))))), (by rw [mixL_zero]; exact hw), by omega⟩ ?_
      rintro k a w1 ⟨hF, hw, hk0⟩
      refine wp_seq ?_
      refine wp_seq (reg_seq 4 (hF _ _) (by kernel_rfl) ?_)
      refine net_cons rfl rfl (n_move rfl (ev rfl)) ?_
      refine net_cons rfl rfl (n_move rfl (ev rfl)) ?_
      refine net_cons rfl rfl (n_len rfl (ev rfl) Try.underlying63) ?_
      refine net_cons rfl rfl (n_bin rfl (ev rfl) (ev rfl) r_lss) ?_
      refine net_nil fun a w1 hF hx => ?_
      replace hw := hw.next hx
      replace hF := hF.keep (.cons (t := 0) rfl (.cons (t := 1) rfl (.cons (t := 5) rfl (.cons (t := 6) rfl (.cons (t := 7) rfl (.cons (t := 12) rfl (.cons (t := 82) rfl .nil)))))))
      refine wpList_nil ?_
      refine wp_cond_split (hF.ev (ev rfl)) (fun h82 => ?_) (fun h82 => ?_)
      · have hk : k < n := by have := of_bool_t h82; omega
        obtain ⟨u, hu0⟩ := some_at ho2 hk
        obtain ⟨v, hv0⟩ := some_at hpl hk
        have huq := lagO_lt (q := q) (by omega) pts j u (List.mem_of_getElem? hu0)
        have hvq := lagP_lt (q := q) (by omega) hgy j n v (List.mem_of_getElem? hv0)
        have hu1 := (mixL_hi (b := lagO q pts j) ho1 (Nat.le_refl k) (by omega)).trans hu0
        have hnew := lagO_go hl hu0 hv0
        refine wp_skip ?_
        refine wp_seq (wp_block ?_)
        refine reg_draw 14 mixed (by kernel_rfl) (hF _ _) ?_
        refine net_cons rfl rfl (n_move rfl (ev rfl)) ?_
        refine net_cons rfl rfl (n_move rfl (ev rfl)) ?_
        refine net_cons rfl rfl (n_move rfl (ev rfl)) ?_
        refine net_cons rfl rfl (n_move rfl (ev rfl)) ?_
        refine net_cons rfl rfl (n_indexS (off' := k) rfl (ev rfl) (ev rfl) Try.underlying63 Try.sizeOf24 (by omega) (by omega)) ?_
        refine net_cons rfl rfl (n_load rfl (ev rfl) (ld1 hw (i := 0) rfl Try.isAgg24 (map_at hu1))) ?_
        refine net_cons rfl rfl (n_move rfl (ev rfl)) ?_
        refine net_cons rfl rfl (n_move rfl (ev rfl)) ?_
        refine net_cons rfl rfl (n_indexS (off' := k) rfl (ev rfl) (ev rfl) Try.underlying63 Try.sizeOf24 (by omega) (by omega)) ?_
        refine net_cons rfl rfl (n_load rfl (ev rfl) (ld1 hw (i := 1) rfl Try.isAgg24 (map_at hv0))) ?_
        refine net_cons rfl rfl (n_bin rfl (ev rfl) (ev rfl) (r_addN (by omega))) ?_
        refine net_cons rfl rfl (n_move rfl (ev rfl)) ?_
        refine net_cons rfl rfl (n_bin rfl (ev rfl) (ev rfl) (r_remN (by omega))) ?_
        refine net_cons rfl rfl (n_indexS (off' := k) rfl (ev rfl) (ev rfl) Try.underlying63 Try.sizeOf24 (by omega) (by omega)) ?_
        refine net_nil fun a w1 hF hx => ?_
        replace hw := hw.next hx
        replace hF := hF.keep (.cons (t := 0) rfl (.cons (t := 1) rfl (.cons (t := 5) rfl (.cons (t := 6) rfl (.cons (t := 7) rfl (.cons (t := 12) rfl (.cons (t := 82) rfl (.cons (t := 97) rfl (.cons (t := 98) rfl .nil)))))))))
        refine t_store (i := 0) rfl rfl rfl hF hw rfl (ev rfl) (ev rfl) rfl one1 Try.sizeOf24 rfl (by rw [List.length_map, mixL_len ho1 ho2 (by omega)]; omega) (mixL_up ho1 ho2 hk hnew) fun w1 hw => ?_
        refine wpList_nil ?_
        refine reg_seq 3 (hF _ _) (by kernel_rfl) ?_
        refine net_cons rfl rfl (n_move rfl (ev rfl)) ?_
        refine net_cons rfl rfl (n_bin rfl (ev rfl) evc (r_inc (by omega))) ?_
        refine net_cons rfl rfl (n_assign rfl (ev rfl)) ?_
        refine net_nil fun a w1 hF hx => ?_
        replace hw := hw.next hx
        replace hF := hF.keep (.cons (t := 0) rfl (.cons (t := 1) rfl (.cons (t := 5) rfl (.cons (t := 6) rfl (.cons (t := 7) rfl (.cons (t := 12) rfl (.cons (t := 82) rfl (.cons (t := 97) rfl (.cons (t := 98) rfl .nil)))))))))
        refine wpList_nil ?_
        exact ⟨k + 1, ⟨hF.keep (.cons (t := 0) rfl (.cons (t := 1) rfl (.cons (t := 5) rfl (.cons (t := 6) rfl (.cons (t := 7) rfl (.cons (t := 12) rfl (.nil))))))), hw, by omega⟩, by omega⟩
      · obtain rfl : n = k := by have := of_bool_f h82; omega
        rw [mixL_full ho1 ho2] at hw
        replace hw := hw.drop (.cons_cons _ (.cons _ .slnil))
        refine wp_exit (go_then_e (go_then_e (go_exit ?_)))
        refine reg_seq 3 (hF _ _) (by kernel_rfl) ?_
        refine net_cons rfl rfl (n_move rfl (ev rfl)) ?_
        refine net_cons rfl rfl (n_bin rfl (ev rfl) evc (r_inc (by omega))) ?_
        refine net_cons rfl rfl (n_assign rfl (ev rfl)) ?_
        refine net_nil fun a w1 hF hx => ?_
        replace hw := hw.next hx
        replace hF := hF.keep (.cons (t := 0) rfl (.cons (t := 1) rfl (.cons (t := 5) rfl (.cons (t := 6) rfl (.cons (t := 7) rfl (.cons (t := 12) rfl (.cons (t := 82) rfl .nil)))))))
        refine wpList_nil ?_
        exact ⟨j + 1, ⟨hF.keep (.cons (t := 0) rfl (.cons (t := 1) rfl (.cons (t := 5) rfl (.cons (t := 6) rfl (.nil))))), hw, by omega⟩, by omega⟩
  · obtain rfl : n = j := by have := of_bool_f h19; omega
    refine wp_exit (go_then_e (go_then_e (go_exit ?_)))
    refine wp_seq (reg_seq 2 (hF _ _) (by kernel_rfl) ?_)
    refine net_cons rfl rfl (n_move rfl (ev rfl)) ?_
    refine net_cons rfl rfl (n_assign rfl (ev rfl)) ?_
    refine net_nil fun a w1 hF hx => ?_
    replace hw := hw.next hx
    replace hF := hF.keep (.cons (t := 0) rfl (.cons (t := 1) rfl (.cons (t := 4) rfl (.cons (t := 5) rfl (.cons (t := 6) rfl (.cons (t := 19) rfl .nil))))))
    refine wpList_nil ?_
    refine wp_ret (ret1 hF Try.results100 rfl ?_)
    have hb := hw.ok _ List.mem_cons_self
    exact ⟨_, rfl, hw.ext, b15, rfl, hb.1, hb.2⟩


theorem right_neg2 {q n : Nat} {dg : Int} {pts : List (Nat × Nat)} {b : Bool} (h : ((!decide ((n : Int) = dg + 1)) || !rightL q pts) = b) : (decide ((n : Int) = dg + 1) && rightL q pts) = !b := by
  subst h
  cases decide ((n : Int) = dg + 1) <;> cases rightL q pts <;> rfl


theorem rInterpolate_c (kd : Nat) (dp dg : Int) (p q g : Nat) (hp : p < 18446744073709551616) (hq : q < 18446744073709551616) (hg : g < 18446744073709551616) (n c : Nat) (A : Option Addr) (pts : List (Nat × Nat)) (hl : pts.length = n) (hn : n ≤ 8796093021952) (w : World) (hR : Rd w A (pc pts)) : RetF Try.prog 43 [SV kd dp dg p q g, .slice A n c].toArray w (.ex 24 1 (intR kd dp dg p q g n pts).1.length ((intR kd dp dg p q g n pts).1.map U) (fun v => .tuple #[v, I (intR kd dp dg p q g n pts).2])) := by
  refine enter Try.func43 rfl Try.ntmps43 rfl fun a hF => ?_
  have hw := Own.start w
  refine wp_seq (wp_region_lit ?_)
  refine t_net 0 1 (by kernel_rfl) rfl hF ?_
  refine net_cons rfl rfl (n_box rfl (ev rfl) rfl) ?_
  refine net_nil fun a w1 hF hx => ?_
  obtain ⟨b2, h_, hw⟩ := hw.blk hx (hF.at_ 2 _ rfl)
  replace hF := hF.now h_
  replace hF := hF.keep (.cons (t := 1) rfl (.cons (t := 2) rfl .nil))
  refine t_net 1 2 (by kernel_rfl) rfl hF ?_
  refine net_cons rfl rfl (n_assign rfl evc) ?_
  refine net_cons rfl rfl (n_assign rfl evc) ?_
  refine net_nil fun a w1 hF hx => ?_
  replace hw := hw.next hx
  replace hF := hF.keep (.cons (t := 1) rfl (.cons (t := 2) rfl (.cons (t := 4) rfl (.cons (t := 5) rfl .nil))))
  refine wpList_nil ?_
  refine wp_seq ?_
  refine wp_seq (reg_seq 3 (hF _ _) (by kernel_rfl) ?_)
  refine net_cons rfl rfl (n_load rfl (ev rfl) (ldN hw (i := 0) (vs := _) rfl Try.isAgg28 Try.sizeOf28 rfl rfl)) ?_
  refine net_cons rfl rfl (n_ret rfl Try.call30 (.cons (ev rfl) .nil) (fun _ hx => (Valid_c _ _ _ _ _ _ hp hq hg _))) ?_
  refine net_cons rfl rfl (n_not rfl (ev rfl)) ?_
  refine net_nil fun a w1 hF hx => ?_
  replace hw := hw.next hx
  replace hF := hF.keep (.cons (t := 1) rfl (.cons (t := 2) rfl (.cons (t := 4) rfl (.cons (t := 5) rfl (.cons (t := 8) rfl .nil)))))
  refine wpList_nil ?_
  refine wp_cond_split (hF.ev (ev rfl)) (fun h8 => ?_) (fun h8 => ?_)
  · have hz : okS kd dp dg p q g = false := by simpa using h8
    refine wp_seq (reg_seq 2 (hF _ _) (by kernel_rfl) ?_)
    refine net_cons rfl rfl (n_assign rfl evc) ?_
    refine net_cons rfl rfl (n_assign rfl evc) ?_
    refine net_nil fun a w1 hF hx => ?_
    replace hw := hw.next hx
    replace hF := hF.keep (.cons (t := 1) rfl (.cons (t := 2) rfl (.cons (t := 4) rfl (.cons (t := 5) rfl (.cons (t := 8) rfl .nil)))))
    refine wpList_nil ?_
    refine wp_ret (go_then_r (ret2 hF Try.results43 rfl rfl ?_))
    exact ⟨_, rfl, hw.ext, (rowF_nil (intR_no hz))⟩
  · have hz : okS kd dp dg p q g = true := by simpa using h8
    obtain ⟨hz1, hz2, hz3, hz4, hz5, hz6, hz7⟩ := okS_all hz
    obtain ⟨hz8, hz9, hz10, hz11, hz12⟩ := okG_q hz6
    obtain ⟨hpp, hqp, _⟩ := okG_all hz6
    refine wp_skip ?_
    refine wp_seq ?_
    refine wp_seq (reg_seq 14 (hF _ _) (by kernel_rfl) ?_)
    refine net_cons rfl rfl (n_move rfl (ev rfl)) ?_
    refine net_cons rfl rfl (n_len rfl (ev rfl) Try.underlying43) ?_
    refine net_cons rfl rfl (n_fieldAddrO (off' := 2) rfl (ev rfl) Try.runUnderlying28 rfl Try.sizeOf3 rfl) ?_
    refine net_cons rfl rfl (n_load rfl (ev rfl) (ld1 hw (i := 0) rfl Try.isAgg3 rfl)) ?_
    refine net_cons rfl rfl (n_bin rfl (ev rfl) evc (r_addI (by omega) (by omega))) ?_
    refine net_cons rfl rfl (n_bin rfl (ev rfl) (ev rfl) r_neq) ?_
    refine net_cons rfl rfl (n_move rfl (ev rfl)) ?_
    refine net_if rfl rfl rfl rfl (fun hc => (n_fieldAddrO (off' := 3) rfl (ev rfl) Try.runUnderlying28 rfl Try.sizeOf26 rfl)) ?_
    refine net_if rfl rfl rfl rfl (fun hc => (n_fieldAddrO (off' := 4) rfl (evi rfl hc) Try.runUnderlying26 rfl Try.sizeOf24 rfl)) ?_
    refine net_if rfl rfl rfl rfl (fun hc => (n_load rfl (evi rfl hc) (ld1 hw (i := 0) rfl Try.isAgg24 rfl))) ?_
    refine net_if rfl rfl rfl rfl (fun hc => (n_move rfl (ev rfl))) ?_
    refine net_if rfl rfl rfl rfl (fun hc => (n_ret rfl Try.call57 (.cons (evi rfl hc) (.cons (evi rfl hc) .nil)) (fun _ hx => (Right_c q n c A pts hl (by omega) _ (hR.ext (hw.ext.trans hx)))))) ?_
    refine net_if rfl rfl rfl rfl (fun hc => (n_not rfl (evi rfl hc))) ?_
    refine net_cons rfl rfl (n_pick_or rfl (ev rfl) (fun h => (evi rfl h))) ?_
    refine net_nil fun a w1 hF hx => ?_
    replace hw := hw.next hx
    replace hF := hF.keep (.cons (t := 1) rfl (.cons (t := 2) rfl (.cons (t := 4) rfl (.cons (t := 5) rfl (.cons (t := 8) rfl (.cons (t := 22) rfl .nil))))))
    refine wpList_nil ?_
    refine wp_cond_split (hF.ev (ev rfl)) (fun h22 => ?_) (fun h22 => ?_)
    · have hrt := right_neg2 h22
      refine wp_seq (reg_seq 2 (hF _ _) (by kernel_rfl) ?_)
      refine net_cons rfl rfl (n_assign rfl evc) ?_
      refine net_cons rfl rfl (n_assign rfl evc) ?_
      refine net_nil fun a w1 hF hx => ?_
      replace hw := hw.next hx
      replace hF := hF.keep (.cons (t := 1) rfl (.cons (t := 2) rfl (.cons (t := 4) rfl (.cons (t := 5) rfl (.cons (t := 8) rfl (.cons (t := 22) rfl .nil))))))
      refine wpList_nil ?_
      refine wp_ret (go_then_r (ret2 hF Try.results43 rfl rfl ?_))
      exact ⟨_, rfl, hw.ext, (rowF_nil (intR_bad hz hrt))⟩
    · have hrt : (decide ((n : Int) = dg + 1) && rightL q pts) = true := right_neg2 h22
      obtain ⟨hnd, hrr⟩ := and_t2 hrt
      obtain ⟨hxy, hnod⟩ := right_all hrr
      have hlag := lag_int hqp hxy hnod
      rw [hl] at hlag
      refine wp_skip ?_
      refine wp_seq (wp_region_lit ?_)
      refine t_net 0 5 (by kernel_rfl) rfl hF ?_
      refine net_cons rfl rfl (n_fieldAddrO (off' := 3) rfl (ev rfl) Try.runUnderlying28 rfl Try.sizeOf26 rfl) ?_
      refine net_cons rfl rfl (n_fieldAddrO (off' := 4) rfl (ev rfl) Try.runUnderlying26 rfl Try.sizeOf24 rfl) ?_
      refine net_cons rfl rfl (n_load rfl (ev rfl) (ld1 hw (i := 0) rfl Try.isAgg24 rfl)) ?_
      refine net_cons rfl rfl (n_move rfl (ev rfl)) ?_
      refine net_cons rfl rfl (n_ret rfl Try.call100 (.cons (ev rfl) (.cons (ev rfl) .nil)) (fun _ hx => (Lie_c q n c A pts hqp hl (by omega) hxy hnod _ (hR.ext (hw.ext.trans hx))))) ?_
      refine net_nil fun a w1 hF hx => ?_
      obtain ⟨b27, h_, hw⟩ := hw.cap hx (hF.at_ 27 _ rfl)
      replace hF := hF.now (v := .slice (some ⟨b27, 0, none⟩) (n) (n)) h_
      replace hF := hF.keep (.cons (t := 1) rfl (.cons (t := 2) rfl (.cons (t := 4) rfl (.cons (t := 5) rfl (.cons (t := 8) rfl (.cons (t := 22) rfl (.cons (t := 27) rfl .nil)))))))
      refine t_net 5 2 (by kernel_rfl) rfl hF ?_
      refine net_cons rfl rfl (n_assign rfl (ev rfl)) ?_
      refine net_cons rfl rfl (n_assign rfl evc) ?_
      refine net_nil fun a w1 hF hx => ?_
      replace hw := hw.next hx
      replace hF := hF.keep (.cons (t := 1) rfl (.cons (t := 2) rfl (.cons (t := 4) rfl (.cons (t := 5) rfl (.cons (t := 8) rfl (.cons (t := 22) rfl .nil))))))
      refine wpList_nil ?_
      refine wp_ret (ret2 hF Try.results43 rfl rfl ?_)
      rw [hlag] at hw
      replace hw := hw.blkRow (i := 1) (sz := 1) (n := n) (by rfl) (len_U _ ((intL_len _ _).trans hl)) (by simp only [maxLen]; omega)
      exact ⟨_, rfl, hw.ext, rowF_ok (i := 1) (intR_ok hz hrt) ((intL_len _ _).trans hl) hw rfl⟩

theorem SameWords_c (n c c2 : Nat) (A A2 : Option Addr) (l : List Nat) (hl : l.length = n) (hn : n ≤ 9223372036854775800) (w : World) (hR : Rd w A (l.map U)) (hR2 : Rd w A2 (l.map U)) : RetF Try.prog 39 [.slice A n c, .slice A2 n c2].toArray w (.is (.bool true)) := by
  refine enter Try.func39 rfl Try.ntmps39 rfl fun a hF => ?_
  have hw := Own.start w
  refine wp_seq (reg_seq 1 (hF _ _) (by kernel_rfl) ?_)
  refine net_cons rfl rfl (n_assign rfl evc) ?_
  refine net_nil fun a w1 hF hx => ?_
  replace hw := hw.next hx
  replace hF := hF.keep (.cons (t := 0) rfl (.cons (t := 1) rfl (.cons (t := 4) rfl .nil)))
  refine wpList_nil ?_
  refine wp_seq ?_
  refine wp_seq (reg_seq 5 (hF _ _) (by kernel_rfl) ?_)
  refine net_cons rfl rfl (n_move rfl (ev rfl)) ?_
  refine net_cons rfl rfl (n_len rfl (ev rfl) Try.underlying63) ?_
  refine net_cons rfl rfl (n_move rfl (ev rfl)) ?_
  refine net_cons rfl rfl (n_len rfl (ev rfl) Try.underlying63) ?_
  refine net_cons rfl rfl (n_bin rfl (ev rfl) (ev rfl) r_neq) ?_
  refine net_nil fun a w1 hF hx => ?_
  replace hw := hw.next hx
  replace hF := hF.keep (.cons (t := 0) rfl (.cons (t := 1) rfl (.cons (t := 4) rfl (.cons (t := 10) rfl .nil))))
  refine wpList_nil ?_
  refine wp_cond_false ((hF.ev (ev rfl)).trans (congrArg Value.bool (by simp))) ?_
  refine wp_skip ?_
  refine wp_seq ?_
  refine wp_seq (reg_seq 1 (hF _ _) (by kernel_rfl) ?_)
  refine net_cons rfl rfl (n_assign rfl evc) ?_
  refine net_nil fun a w1 hF hx => ?_
  replace hw := hw.next hx
  replace hF := hF.keep (.cons (t := 0) rfl (.cons (t := 1) rfl (.cons (t := 4) rfl (.cons (t := 5) rfl (.cons (t := 10) rfl .nil)))))
  refine wpList_nil ?_
  refine wp_block ?_
  refine wp_loop_ix (α := Nat) (fun i a w1 => FrV 26 [] [(0, .is (.slice A n c)) , (1, .is (.slice A2 n c2)) , (5, .is (I (i : Int)))] a ∧ Own w w1 [] ∧ (i ≤ n)) (fun i => n - i) (0) ⟨hF.keep (.cons (t := 0) rfl (.cons (t := 1) rfl (.cons (t := 5) rfl (.nil)))), hw, by omega⟩ ?_
  rintro i a w1 ⟨hF, hw, hi0⟩
  refine wp_seq ?_
  refine wp_seq (reg_seq 4 (hF _ _) (by kernel_rfl) ?_)
  refine net_cons rfl rfl (n_move rfl (ev rfl)) ?_
  refine net_cons rfl rfl (n_move rfl (ev rfl)) ?_
  refine net_cons rfl rfl (n_len rfl (ev rfl) Try.underlying63) ?_
  refine net_cons rfl rfl (n_bin rfl (ev rfl) (ev rfl) r_lssN) ?_
  refine net_nil fun a w1 hF hx => ?_
  replace hw := hw.next hx
  replace hF := hF.keep (.cons (t := 0) rfl (.cons (t := 1) rfl (.cons (t := 5) rfl (.cons (t := 14) rfl .nil))))
  refine wpList_nil ?_
  refine wp_cond_split (hF.ev (ev rfl)) (fun h14 => ?_) (fun h14 => ?_)
  · have hi : i < n := of_bool_t h14
    obtain ⟨z, hz0⟩ := some_at hl hi
    have hF_ := hF
    have hw_ := hw
    obtain ⟨bX, oX, rfl, hcX⟩ := hR.at_ (by rw [List.length_map]; omega)
    obtain ⟨bY, oY, rfl, hcY⟩ := hR2.at_ (by rw [List.length_map]; omega)
    have hF := hF_
    have hw := hw_
    refine wp_skip ?_
    refine wp_seq (wp_block ?_)
    refine wp_seq (reg_draw 9 mixed (by kernel_rfl) (hF _ _) ?_)
    refine net_cons rfl rfl (n_move rfl (ev rfl)) ?_
    refine net_cons rfl rfl (n_move rfl (ev rfl)) ?_
    refine net_cons rfl rfl (n_indexS (off' := oX + (i)) rfl (ev rfl) (ev rfl) Try.underlying63 Try.sizeOf24 (by omega) (by omega)) ?_
    refine net_cons rfl rfl (n_load rfl (ev rfl) (fun w2 hx2 => ld1R hcX (map_at hz0) Try.isAgg24 (by omega) w2 (hw.ext.trans hx2))) ?_
    refine net_cons rfl rfl (n_move rfl (ev rfl)) ?_
    refine net_cons rfl rfl (n_move rfl (ev rfl)) ?_
    refine net_cons rfl rfl (n_indexS (off' := oY + (i)) rfl (ev rfl) (ev rfl) Try.underlying63 Try.sizeOf24 (by omega) (by omega)) ?_
    refine net_cons rfl rfl (n_load rfl (ev rfl) (fun w2 hx2 => ld1R hcY (map_at hz0) Try.isAgg24 (by omega) w2 (hw.ext.trans hx2))) ?_
    refine net_cons rfl rfl (n_bin rfl (ev rfl) (ev rfl) r_neqN) ?_
    refine net_nil fun a w1 hF hx => ?_
    replace hw := hw.next hx
    replace hF := hF.keep (.cons (t := 0) rfl (.cons (t := 1) rfl (.cons (t := 5) rfl (.cons (t := 14) rfl (.cons (t := 25) rfl .nil)))))
    refine wpList_nil ?_
    refine wp_cond_false ((hF.ev (ev rfl)).trans (congrArg Value.bool (by simp))) ?_
    refine wp_skip ?_
    refine reg_seq 3 (hF _ _) (by kernel_rfl) ?_
    refine net_cons rfl rfl (n_move rfl (ev rfl)) ?_
    refine net_cons rfl rfl (n_bin rfl (ev rfl) evc (r_inc (by omega))) ?_
    refine net_cons rfl rfl (n_assign rfl (ev rfl)) ?_
    refine net_nil fun a w1 hF hx => ?_
    replace hw := hw.next hx
    replace hF := hF.keep (.cons (t := 0) rfl (.cons (t := 1) rfl (.cons (t := 5) rfl (.cons (t := 14) rfl (.cons (t := 25) rfl .nil)))))
    refine wpList_nil ?_
    exact ⟨i + 1, ⟨hF.keep (.cons (t := 0) rfl (.cons (t := 1) rfl (.cons (t := 5) rfl (.nil)))), hw, by omega⟩, by omega⟩
  · refine wp_exit (go_then_e (go_then_e (go_exit ?_)))
    refine wp_seq (reg_seq 1 (hF _ _) (by kernel_rfl) ?_)
    refine net_cons rfl rfl (n_assign rfl evc) ?_
    refine net_nil fun a w1 hF hx => ?_
    replace hw := hw.next hx
    replace hF := hF.keep (.cons (t := 0) rfl (.cons (t := 1) rfl (.cons (t := 4) rfl (.cons (t := 5) rfl (.cons (t := 14) rfl .nil)))))
    refine wpList_nil ?_
    refine wp_ret (ret1 hF Try.results39 rfl ?_)
    exact ⟨_, rfl, hw.ext, rfl⟩


theorem cofR_len (root : Key) (kd : Nat) (dp dg : Int) (p q g : Nat) : (cofR root kd dp dg p q g).1.length ≤ 9 := by
  unfold cofR
  by_cases h : okS kd dp dg p q g = true
  · obtain ⟨_, _, _, _, h5, _, _⟩ := okS_all h
    rw [if_pos h, cfs_len]
    omega
  · rw [if_neg h]
    simp
theorem intR_len (kd : Nat) (dp dg : Int) (p q g n : Nat) (pts : List (Nat × Nat)) (hl : pts.length = n) : (intR kd dp dg p q g n pts).1.length ≤ n := by
  unfold intR
  split
  · split
    · show (intL q pts).length ≤ n
      rw [intL_len, hl]
      exact Nat.le_refl _
    · simp
  · simp


theorem PolyValues_c (root : Key) (kd : Nat) (dp dg : Int) (p q g : Nat) (hp : p < 18446744073709551616) (hq : q < 18446744073709551616) (hg : g < 18446744073709551616) (m cl : Nat) (Al : Option Addr) (l : List Nat) (x : Nat) (n c : Nat) (A : Option Addr) (pts : List (Nat × Nat)) (hl : l.length = m) (hm : m ≤ 17592186043904) (hpl : pts.length = n) (hn : n ≤ 8796093021952) (w : World) (hRl : Rd w Al (l.map U)) (hR : Rd w A (pc pts)) : RetF Try.prog 8 [K root, SV kd dp dg p q g, .slice Al m cl, U x, .slice A n c].toArray w (.is (.bool true)) := by
  have hcl := cofR_len root kd dp dg p q g
  have hil := intR_len kd dp dg p q g n pts hpl
  refine enter Try.func8 rfl Try.ntmps8 rfl fun a hF => ?_
  have hw := Own.start w
  refine wp_seq (wp_region_lit ?_)
  refine t_net 0 1 (by kernel_rfl) rfl hF ?_
  refine net_cons rfl rfl (n_box rfl (ev rfl) rfl) ?_
  refine net_nil fun a w1 hF hx => ?_
  obtain ⟨b5, h_, hw⟩ := hw.blk hx (hF.at_ 5 _ rfl)
  replace hF := hF.now h_
  replace hF := hF.keep (.cons (t := 1) rfl (.cons (t := 2) rfl (.cons (t := 3) rfl (.cons (t := 4) rfl (.cons (t := 5) rfl .nil)))))
  refine t_net 1 1 (by kernel_rfl) rfl hF ?_
  refine net_cons rfl rfl (n_box rfl (ev rfl) rfl) ?_
  refine net_nil fun a w1 hF hx => ?_
  obtain ⟨b6, h_, hw⟩ := hw.blk hx (hF.at_ 6 _ rfl)
  replace hF := hF.now h_
  replace hF := hF.keep (.cons (t := 2) rfl (.cons (t := 3) rfl (.cons (t := 4) rfl (.cons (t := 5) rfl (.cons (t := 6) rfl .nil)))))
  refine t_net 2 1 (by kernel_rfl) rfl hF ?_
  refine net_cons rfl rfl (n_assign rfl evc) ?_
  refine net_nil fun a w1 hF hx => ?_
  replace hw := hw.next hx
  replace hF := hF.keep (.cons (t := 2) rfl (.cons (t := 3) rfl (.cons (t := 4) rfl (.cons (t := 5) rfl (.cons (t := 6) rfl (.cons (t := 10) rfl .nil))))))
  refine wpList_nil ?_
  refine wp_seq (wp_region_lit ?_)
  refine t_net 0 3 (by kernel_rfl) rfl hF ?_
  refine net_cons rfl rfl (n_load rfl (ev rfl) (ldN hw (i := 0) (vs := _) rfl Try.isAgg23 Try.sizeOf23 (kc_len _) (cut_whole (kc_len _)))) ?_
  refine net_cons rfl rfl (n_load rfl (ev rfl) (ldN hw (i := 1) (vs := _) rfl Try.isAgg28 Try.sizeOf28 rfl rfl)) ?_
  refine net_cons rfl rfl (n_ret rfl Try.call32 (.cons (ev rfl) (.cons (ev rfl) .nil)) (fun _ hx => (Coefficients_c root kd dp dg p q g hp hq hg _))) ?_
  refine net_nil fun a w1 hF hx => ?_
  obtain ⟨s23, h_, hw⟩ := hw.ex hx (hF.at_ 23 _ rfl)
  replace hF := hF.now h_
  replace hF := hF.keep (.cons (t := 2) rfl (.cons (t := 3) rfl (.cons (t := 4) rfl (.cons (t := 5) rfl (.cons (t := 6) rfl (.cons (t := 10) rfl (.cons (t := 23) rfl .nil)))))))
  obtain ⟨A23, c23, rfl, _, _, _⟩ := hw.rd (i := 2) rfl
  refine t_net 3 5 (by kernel_rfl) rfl hF ?_
  refine net_cons rfl rfl (n_move rfl (ev rfl)) ?_
  refine net_cons rfl rfl (n_extract rfl (ev rfl) rfl) ?_
  refine net_cons rfl rfl (n_extract rfl (ev rfl) rfl) ?_
  refine net_cons rfl rfl (n_assign rfl (ev rfl)) ?_
  refine net_cons rfl rfl (n_assign rfl (ev rfl)) ?_
  refine net_nil fun a w1 hF hx => ?_
  replace hw := hw.next hx
  replace hF := hF.keep (.cons (t := 2) rfl (.cons (t := 3) rfl (.cons (t := 4) rfl (.cons (t := 5) rfl (.cons (t := 6) rfl (.cons (t := 10) rfl (.cons (t := 11) rfl (.cons (t := 12) rfl .nil))))))))
  refine wpList_nil ?_
  refine wp_seq (wp_region_lit ?_)
  refine t_net 0 3 (by kernel_rfl) rfl hF ?_
  refine net_cons rfl rfl (n_load rfl (ev rfl) (ldN hw (i := 0) (vs := _) rfl Try.isAgg23 Try.sizeOf23 (kc_len _) (cut_whole (kc_len _)))) ?_
  refine net_cons rfl rfl (n_load rfl (ev rfl) (ldN hw (i := 1) (vs := _) rfl Try.isAgg28 Try.sizeOf28 rfl rfl)) ?_
  refine net_cons rfl rfl (n_ret rfl Try.call38 (.cons (ev rfl) (.cons (ev rfl) .nil)) (fun _ hx => (rCoefficients_c root kd dp dg p q g hp hq hg _))) ?_
  refine net_nil fun a w1 hF hx => ?_
  obtain ⟨s29, h_, hw⟩ := hw.ex hx (hF.at_ 29 _ rfl)
  replace hF := hF.now h_
  replace hF := hF.keep (.cons (t := 2) rfl (.cons (t := 3) rfl (.cons (t := 4) rfl (.cons (t := 5) rfl (.cons (t := 6) rfl (.cons (t := 10) rfl (.cons (t := 11) rfl (.cons (t := 12) rfl (.cons (t := 29) rfl .nil)))))))))
  obtain ⟨A29, c29, rfl, _, _, _⟩ := hw.rd (i := 3) rfl
  refine t_net 3 5 (by kernel_rfl) rfl hF ?_
  refine net_cons rfl rfl (n_move rfl (ev rfl)) ?_
  refine net_cons rfl rfl (n_extract rfl (ev rfl) rfl) ?_
  refine net_cons rfl rfl (n_extract rfl (ev rfl) rfl) ?_
  refine net_cons rfl rfl (n_assign rfl (ev rfl)) ?_
  refine net_cons rfl rfl (n_assign rfl (ev rfl)) ?_
  refine net_nil fun a w1 hF hx => ?_
  replace hw := hw.next hx
  replace hF := hF.keep (.cons (t := 2) rfl (.cons (t := 3) rfl (.cons (t := 4) rfl (.cons (t := 5) rfl (.cons (t := 6) rfl (.cons (t := 10) rfl (.cons (t := 11) rfl (.cons (t := 12) rfl (.cons (t := 13) rfl (.cons (t := 14) rfl .nil))))))))))
  refine wpList_nil ?_
  refine wp_seq ?_
  obtain ⟨_, _, hse_, _, hR23, _⟩ := hw.rd (i := 2) rfl
  injection hse_ with hA_ _ _
  subst hA_
  obtain ⟨_, _, hse_, _, hR29, _⟩ := hw.rd (i := 3) rfl
  injection hse_ with hA_ _ _
  subst hA_
  refine wp_seq (reg_draw 16 mixed (by kernel_rfl) (hF _ _) ?_)
  refine net_cons rfl rfl (n_move rfl (ev rfl)) ?_
  refine net_cons rfl rfl (n_move rfl (ev rfl)) ?_
  refine net_cons rfl rfl (n_ret rfl Try.call39 (.cons (ev rfl) (.cons (ev rfl) .nil)) (fun _ hx => (SameWords_c _ c23 c29 A23 A29 (cofR root kd dp dg p q g).1 rfl (by omega) _ (hR23.ext hx) (hR29.ext hx)))) ?_
  refine net_cons rfl rfl (n_not rfl (ev rfl)) ?_
  refine net_cons rfl rfl (n_move rfl (ev rfl)) ?_
  refine net_if rfl rfl rfl rfl (fun hc => (n_move rfl (ev rfl))) ?_
  refine net_if rfl rfl rfl rfl (fun hc => (n_move rfl (ev rfl))) ?_
  refine net_if rfl rfl rfl rfl (fun hc => (n_bin rfl (evi rfl hc) (evi rfl hc) r_neq)) ?_
  refine net_cons rfl rfl (n_pick_or rfl (ev rfl) (fun h => (evi rfl h))) ?_
  refine net_cons rfl rfl (n_move rfl (ev rfl)) ?_
  refine net_if rfl rfl rfl rfl (fun hc => (n_load rfl (ev rfl) (ldN hw (i := 1) (vs := _) rfl Try.isAgg28 Try.sizeOf28 rfl rfl))) ?_
  refine net_if rfl rfl rfl rfl (fun hc => (n_ret rfl Try.call40 (.cons (evi rfl hc) .nil) (fun _ hx => Check_c _ _ _ _ _ _ (by assumption) (by assumption) (by assumption) _))) ?_
  refine net_if rfl rfl rfl rfl (fun hc => (n_load rfl (ev rfl) (ldN hw (i := 1) (vs := _) rfl Try.isAgg28 Try.sizeOf28 rfl rfl))) ?_
  refine net_if rfl rfl rfl rfl (fun hc => (n_ret rfl Try.call41 (.cons (evi rfl hc) .nil) (fun _ hx => rCheck_c _ _ _ _ _ _ (by assumption) (by assumption) (by assumption) _))) ?_
  refine net_if rfl rfl rfl rfl (fun hc => (n_bin rfl (evi rfl hc) (evi rfl hc) r_neq)) ?_
  refine net_cons rfl rfl (n_pick_or rfl (ev rfl) (fun h => (evi rfl h))) ?_
  refine net_nil fun a w1 hF hx => ?_
  replace hw := hw.next hx
  replace hF := hF.keep (.cons (t := 2) rfl (.cons (t := 3) rfl (.cons (t := 4) rfl (.cons (t := 5) rfl (.cons (t := 6) rfl (.cons (t := 10) rfl (.cons (t := 11) rfl (.cons (t := 12) rfl (.cons (t := 13) rfl (.cons (t := 14) rfl (.cons (t := 47) rfl .nil)))))))))))
  refine wpList_nil ?_
  refine wp_cond_false ((hF.ev (ev rfl)).trans (congrArg Value.bool (by simp))) ?_
  refine wp_skip ?_
  refine wp_seq (wp_region_lit ?_)
  refine t_net 0 1 (by kernel_rfl) rfl hF ?_
  refine net_cons rfl rfl (n_bsl0 sl63 rfl) ?_
  refine net_nil fun a w1 hF hx => ?_
  obtain ⟨b48, h_, hw⟩ := hw.cap hx (hF.at_ 48 _ rfl)
  replace hF := hF.now (v := .slice (some ⟨b48, 0, none⟩) (0) (0)) h_
  replace hF := hF.keep (.cons (t := 2) rfl (.cons (t := 3) rfl (.cons (t := 4) rfl (.cons (t := 5) rfl (.cons (t := 6) rfl (.cons (t := 10) rfl (.cons (t := 11) rfl (.cons (t := 12) rfl (.cons (t := 13) rfl (.cons (t := 14) rfl (.cons (t := 47) rfl (.cons (t := 48) rfl .nil))))))))))))
  refine t_net 1 1 (by kernel_rfl) rfl hF ?_
  refine net_cons rfl rfl (n_move rfl (ev rfl)) ?_
  refine net_nil fun a w1 hF hx => ?_
  replace hw := hw.next hx
  replace hF := hF.keep (.cons (t := 2) rfl (.cons (t := 3) rfl (.cons (t := 4) rfl (.cons (t := 5) rfl (.cons (t := 6) rfl (.cons (t := 10) rfl (.cons (t := 11) rfl (.cons (t := 12) rfl (.cons (t := 13) rfl (.cons (t := 14) rfl (.cons (t := 47) rfl (.cons (t := 48) rfl (.cons (t := 49) rfl .nil)))))))))))))
  replace hw := hw.blkRow (i := 4) (sz := 1) (n := 0) (by rfl) (by rfl) (by decide)
  refine t_append (i := 4) sl63 rfl rfl rfl (by decide) hF hw rfl (ev rfl) (ev rfl) (hRl.ext hw.ext) (by rw [List.length_map, hl, Nat.mul_one]) (one_U l) (by simp only [maxLen]; omega) (by omega) fun v50 a w1 hF hw => ?_
  replace hF := hF.keep (.cons (t := 2) rfl (.cons (t := 3) rfl (.cons (t := 4) rfl (.cons (t := 5) rfl (.cons (t := 6) rfl (.cons (t := 10) rfl (.cons (t := 11) rfl (.cons (t := 12) rfl (.cons (t := 13) rfl (.cons (t := 14) rfl (.cons (t := 47) rfl (.cons (t := 50) rfl .nil))))))))))))
  rw [Nat.zero_add, List.nil_append] at hw
  obtain ⟨A50, c50, rfl, _, _, _⟩ := hw.rd (i := 4) rfl
  refine t_net 3 1 (by kernel_rfl) rfl hF ?_
  refine net_cons rfl rfl (n_assign rfl (ev rfl)) ?_
  refine net_nil fun a w1 hF hx => ?_
  replace hw := hw.next hx
  replace hF := hF.keep (.cons (t := 2) rfl (.cons (t := 3) rfl (.cons (t := 4) rfl (.cons (t := 5) rfl (.cons (t := 6) rfl (.cons (t := 10) rfl (.cons (t := 11) rfl (.cons (t := 12) rfl (.cons (t := 13) rfl (.cons (t := 14) rfl (.cons (t := 15) rfl (.cons (t := 47) rfl .nil))))))))))))
  refine wpList_nil ?_
  obtain ⟨_, _, hse_, _, hR50, _⟩ := hw.rd (i := 4) rfl
  injection hse_ with hA_ _ _
  subst hA_
  refine wp_seq (reg_seq 9 (hF _ _) (by kernel_rfl) ?_)
  refine net_cons rfl rfl (n_load rfl (ev rfl) (ldN hw (i := 1) (vs := _) rfl Try.isAgg28 Try.sizeOf28 rfl rfl)) ?_
  refine net_cons rfl rfl (n_move rfl (ev rfl)) ?_
  refine net_cons rfl rfl (n_move rfl (ev rfl)) ?_
  refine net_cons rfl rfl (n_ret rfl Try.call33 (.cons (ev rfl) (.cons (ev rfl) (.cons (ev rfl) .nil))) (fun _ hx => (PValue_c kd dp dg p q g hp hq hg m c50 A50 l x hl (by omega) _ (hR50.ext hx)))) ?_
  refine net_cons rfl rfl (n_move rfl (ev rfl)) ?_
  refine net_cons rfl rfl (n_extract rfl (ev rfl) rfl) ?_
  refine net_cons rfl rfl (n_extract rfl (ev rfl) rfl) ?_
  refine net_cons rfl rfl (n_assign rfl (ev rfl)) ?_
  refine net_cons rfl rfl (n_assign rfl (ev rfl)) ?_
  refine net_nil fun a w1 hF hx => ?_
  replace hw := hw.next hx
  replace hF := hF.keep (.cons (t := 2) rfl (.cons (t := 3) rfl (.cons (t := 4) rfl (.cons (t := 5) rfl (.cons (t := 6) rfl (.cons (t := 10) rfl (.cons (t := 11) rfl (.cons (t := 12) rfl (.cons (t := 13) rfl (.cons (t := 14) rfl (.cons (t := 15) rfl (.cons (t := 16) rfl (.cons (t := 47) rfl .nil)))))))))))))
  refine wpList_nil ?_
  refine wp_seq (reg_seq 9 (hF _ _) (by kernel_rfl) ?_)
  refine net_cons rfl rfl (n_load rfl (ev rfl) (ldN hw (i := 1) (vs := _) rfl Try.isAgg28 Try.sizeOf28 rfl rfl)) ?_
  refine net_cons rfl rfl (n_move rfl (ev rfl)) ?_
  refine net_cons rfl rfl (n_move rfl (ev rfl)) ?_
  refine net_cons rfl rfl (n_ret rfl Try.call42 (.cons (ev rfl) (.cons (ev rfl) (.cons (ev rfl) .nil))) (fun _ hx => (rValue_c kd dp dg p q g hp hq hg m cl Al l x hl (by omega) _ (hRl.ext (hw.ext.trans hx))))) ?_
  refine net_cons rfl rfl (n_move rfl (ev rfl)) ?_
  refine net_cons rfl rfl (n_extract rfl (ev rfl) rfl) ?_
  refine net_cons rfl rfl (n_extract rfl (ev rfl) rfl) ?_
  refine net_cons rfl rfl (n_assign rfl (ev rfl)) ?_
  refine net_cons rfl rfl (n_assign rfl (ev rfl)) ?_
  refine net_nil fun a w1 hF hx => ?_
  replace hw := hw.next hx
  replace hF := hF.keep (.cons (t := 2) rfl (.cons (t := 3) rfl (.cons (t := 4) rfl (.cons (t := 5) rfl (.cons (t := 6) rfl (.cons (t := 10) rfl (.cons (t := 11) rfl (.cons (t := 12) rfl (.cons (t := 13) rfl (.cons (t := 14) rfl (.cons (t := 15) rfl (.cons (t := 16) rfl (.cons (t := 17) rfl (.cons (t := 47) rfl .nil))))))))))))))
  refine wpList_nil ?_
  refine wp_seq ?_
  obtain ⟨_, _, hse_, _, hR50, _⟩ := hw.rd (i := 4) rfl
  injection hse_ with hA_ _ _
  subst hA_
  refine wp_seq (reg_seq 14 (hF _ _) (by kernel_rfl) ?_)
  refine net_cons rfl rfl (n_move rfl (ev rfl)) ?_
  refine net_cons rfl rfl (n_move rfl (ev rfl)) ?_
  refine net_cons rfl rfl (n_bin rfl (ev rfl) (ev rfl) r_neqN) ?_
  refine net_cons rfl rfl (n_move rfl (ev rfl)) ?_
  refine net_if rfl rfl rfl rfl (fun hc => (n_move rfl (ev rfl))) ?_
  refine net_if rfl rfl rfl rfl (fun hc => (n_move rfl (ev rfl))) ?_
  refine net_if rfl rfl rfl rfl (fun hc => (n_bin rfl (evi rfl hc) (evi rfl hc) r_neq)) ?_
  refine net_cons rfl rfl (n_pick_or rfl (ev rfl) (fun h => (evi rfl h))) ?_
  refine net_cons rfl rfl (n_move rfl (ev rfl)) ?_
  refine net_if rfl rfl rfl rfl (fun hc => (n_move rfl (ev rfl))) ?_
  refine net_if rfl rfl rfl rfl (fun hc => (n_move rfl (ev rfl))) ?_
  refine net_if rfl rfl rfl rfl (fun hc => (n_ret rfl Try.call39 (.cons (evi rfl hc) (.cons (evi rfl hc) .nil)) (fun _ hx => (SameWords_c m c50 cl A50 Al l hl (by omega) _ (hR50.ext hx) (hRl.ext (hw.ext.trans hx)))))) ?_
  refine net_if rfl rfl rfl rfl (fun hc => (n_not rfl (evi rfl hc))) ?_
  refine net_cons rfl rfl (n_pick_or rfl (ev rfl) (fun h => (evi rfl h))) ?_
  refine net_nil fun a w1 hF hx => ?_
  replace hw := hw.next hx
  replace hF := hF.keep (.cons (t := 2) rfl (.cons (t := 3) rfl (.cons (t := 4) rfl (.cons (t := 5) rfl (.cons (t := 6) rfl (.cons (t := 10) rfl (.cons (t := 11) rfl (.cons (t := 12) rfl (.cons (t := 13) rfl (.cons (t := 14) rfl (.cons (t := 15) rfl (.cons (t := 47) rfl (.cons (t := 78) rfl .nil)))))))))))))
  refine wpList_nil ?_
  refine wp_cond_false ((hF.ev (ev rfl)).trans (congrArg Value.bool (by simp))) ?_
  refine wp_skip ?_
  refine wp_seq (wp_region_lit ?_)
  refine t_net 0 1 (by kernel_rfl) rfl hF ?_
  refine net_cons rfl rfl (n_bsl0 sl43 rfl) ?_
  refine net_nil fun a w1 hF hx => ?_
  obtain ⟨b79, h_, hw⟩ := hw.cap hx (hF.at_ 79 _ rfl)
  replace hF := hF.now (v := .slice (some ⟨b79, 0, none⟩) (0) (0)) h_
  replace hF := hF.keep (.cons (t := 2) rfl (.cons (t := 3) rfl (.cons (t := 4) rfl (.cons (t := 5) rfl (.cons (t := 6) rfl (.cons (t := 10) rfl (.cons (t := 11) rfl (.cons (t := 12) rfl (.cons (t := 13) rfl (.cons (t := 14) rfl (.cons (t := 15) rfl (.cons (t := 47) rfl (.cons (t := 78) rfl (.cons (t := 79) rfl .nil))))))))))))))
  refine t_net 1 1 (by kernel_rfl) rfl hF ?_
  refine net_cons rfl rfl (n_move rfl (ev rfl)) ?_
  refine net_nil fun a w1 hF hx => ?_
  replace hw := hw.next hx
  replace hF := hF.keep (.cons (t := 2) rfl (.cons (t := 3) rfl (.cons (t := 4) rfl (.cons (t := 5) rfl (.cons (t := 6) rfl (.cons (t := 10) rfl (.cons (t := 11) rfl (.cons (t := 12) rfl (.cons (t := 13) rfl (.cons (t := 14) rfl (.cons (t := 15) rfl (.cons (t := 47) rfl (.cons (t := 78) rfl (.cons (t := 79) rfl (.cons (t := 80) rfl .nil)))))))))))))))
  replace hw := hw.blkRow (i := 5) (sz := 2) (n := 0) (by rfl) (by rfl) (by decide)
  refine t_append (i := 5) sl43 rfl rfl rfl (by decide) hF hw rfl (ev rfl) (ev rfl) (hR.ext hw.ext) (by rw [pc_len, hpl]) (one_pc pts) (by simp only [maxLen]; omega) (by omega) fun v81 a w1 hF hw => ?_
  replace hF := hF.keep (.cons (t := 2) rfl (.cons (t := 3) rfl (.cons (t := 4) rfl (.cons (t := 5) rfl (.cons (t := 6) rfl (.cons (t := 10) rfl (.cons (t := 11) rfl (.cons (t := 12) rfl (.cons (t := 13) rfl (.cons (t := 14) rfl (.cons (t := 15) rfl (.cons (t := 47) rfl (.cons (t := 78) rfl (.cons (t := 81) rfl .nil))))))))))))))
  rw [Nat.zero_add, List.nil_append] at hw
  obtain ⟨A81, c81, rfl, hle81, _, _⟩ := hw.rd (i := 5) rfl
  refine t_net 3 1 (by kernel_rfl) rfl hF ?_
  refine net_cons rfl rfl (n_assign rfl (ev rfl)) ?_
  refine net_nil fun a w1 hF hx => ?_
  replace hw := hw.next hx
  replace hF := hF.keep (.cons (t := 2) rfl (.cons (t := 3) rfl (.cons (t := 4) rfl (.cons (t := 5) rfl (.cons (t := 6) rfl (.cons (t := 10) rfl (.cons (t := 11) rfl (.cons (t := 12) rfl (.cons (t := 13) rfl (.cons (t := 14) rfl (.cons (t := 15) rfl (.cons (t := 18) rfl (.cons (t := 47) rfl (.cons (t := 78) rfl .nil))))))))))))))
  refine wpList_nil ?_
  obtain ⟨_, _, hse_, _, hR81, _⟩ := hw.rd (i := 5) rfl
  injection hse_ with hA_ _ _
  subst hA_
  refine wp_seq (wp_region_lit ?_)
  refine t_net 0 3 (by kernel_rfl) rfl hF ?_
  refine net_cons rfl rfl (n_load rfl (ev rfl) (ldN hw (i := 1) (vs := _) rfl Try.isAgg28 Try.sizeOf28 rfl rfl)) ?_
  refine net_cons rfl rfl (n_move rfl (ev rfl)) ?_
  refine net_cons rfl rfl (n_ret rfl Try.call34 (.cons (ev rfl) (.cons (ev rfl) .nil)) (fun _ hx => (Interpolate_c kd dp dg p q g hp hq hg n c81 A81 pts hpl hle81 hn _ (hR81.ext hx)))) ?_
  refine net_nil fun a w1 hF hx => ?_
  obtain ⟨s85, h_, hw⟩ := hw.ex hx (hF.at_ 85 _ rfl)
  replace hF := hF.now h_
  replace hF := hF.keep (.cons (t := 2) rfl (.cons (t := 3) rfl (.cons (t := 4) rfl (.cons (t := 5) rfl (.cons (t := 6) rfl (.cons (t := 10) rfl (.cons (t := 11) rfl (.cons (t := 12) rfl (.cons (t := 13) rfl (.cons (t := 14) rfl (.cons (t := 15) rfl (.cons (t := 18) rfl (.cons (t := 47) rfl (.cons (t := 78) rfl (.cons (t := 85) rfl .nil)))))))))))))))
  obtain ⟨A85, c85, rfl, _, _, _⟩ := hw.rd (i := 6) rfl
  refine t_net 3 5 (by kernel_rfl) rfl hF ?_
  refine net_cons rfl rfl (n_move rfl (ev rfl)) ?_
  refine net_cons rfl rfl (n_extract rfl (ev rfl) rfl) ?_
  refine net_cons rfl rfl (n_extract rfl (ev rfl) rfl) ?_
  refine net_cons rfl rfl (n_assign rfl (ev rfl)) ?_
  refine net_cons rfl rfl (n_assign rfl (ev rfl)) ?_
  refine net_nil fun a w1 hF hx => ?_
  replace hw := hw.next hx
  replace hF := hF.keep (.cons (t := 2) rfl (.cons (t := 3) rfl (.cons (t := 4) rfl (.cons (t := 5) rfl (.cons (t := 6) rfl (.cons (t := 10) rfl (.cons (t := 11) rfl (.cons (t := 12) rfl (.cons (t := 13) rfl (.cons (t := 14) rfl (.cons (t := 15) rfl (.cons (t := 18) rfl (.cons (t := 47) rfl (.cons (t := 78) rfl .nil))))))))))))))
  refine wpList_nil ?_
  refine wp_seq (wp_region_lit ?_)
  refine t_net 0 3 (by kernel_rfl) rfl hF ?_
  refine net_cons rfl rfl (n_load rfl (ev rfl) (ldN hw (i := 1) (vs := _) rfl Try.isAgg28 Try.sizeOf28 rfl rfl)) ?_
  refine net_cons rfl rfl (n_move rfl (ev rfl)) ?_
  refine net_cons rfl rfl (n_ret rfl Try.call43 (.cons (ev rfl) (.cons (ev rfl) .nil)) (fun _ hx => (rInterpolate_c kd dp dg p q g hp hq hg n c A pts hpl hn _ (hR.ext (hw.ext.trans hx))))) ?_
  refine net_nil fun a w1 hF hx => ?_
  obtain ⟨s91, h_, hw⟩ := hw.ex hx (hF.at_ 91 _ rfl)
  replace hF := hF.now h_
  replace hF := hF.keep (.cons (t := 2) rfl (.cons (t := 3) rfl (.cons (t := 4) rfl (.cons (t := 5) rfl (.cons (t := 6) rfl (.cons (t := 10) rfl (.cons (t := 11) rfl (.cons (t := 12) rfl (.cons (t := 13) rfl (.cons (t := 14) rfl (.cons (t := 15) rfl (.cons (t := 18) rfl (.cons (t := 47) rfl (.cons (t := 78) rfl (.cons (t := 91) rfl .nil)))))))))))))))
  obtain ⟨A91, c91, rfl, _, _, _⟩ := hw.rd (i := 7) rfl
  refine t_net 3 5 (by kernel_rfl) rfl hF ?_
  refine net_cons rfl rfl (n_move rfl (ev rfl)) ?_
  refine net_cons rfl rfl (n_extract rfl (ev rfl) rfl) ?_
  refine net_cons rfl rfl (n_extract rfl (ev rfl) rfl) ?_
  refine net_cons rfl rfl (n_assign rfl (ev rfl)) ?_
  refine net_cons rfl rfl (n_assign rfl (ev rfl)) ?_
  refine net_nil fun a w1 hF hx => ?_
  replace hw := hw.next hx
  replace hF := hF.keep (.cons (t := 2) rfl (.cons (t := 3) rfl (.cons (t := 4) rfl (.cons (t := 5) rfl (.cons (t := 6) rfl (.cons (t := 10) rfl (.cons (t := 11) rfl (.cons (t := 12) rfl (.cons (t := 13) rfl (.cons (t := 14) rfl (.cons (t := 15) rfl (.cons (t := 18) rfl (.cons (t := 47) rfl (.cons (t := 78) rfl .nil))))))))))))))
  refine wpList_nil ?_
  refine wp_seq ?_
  obtain ⟨_, _, hse_, _, hR85, _⟩ := hw.rd (i := 6) rfl
  injection hse_ with hA_ _ _
  subst hA_
  obtain ⟨_, _, hse_, _, hR91, _⟩ := hw.rd (i := 7) rfl
  injection hse_ with hA_ _ _
  subst hA_
  refine wp_seq (reg_seq 9 (hF _ _) (by kernel_rfl) ?_)
  refine net_cons rfl rfl (n_move rfl (ev rfl)) ?_
  refine net_cons rfl rfl (n_move rfl (ev rfl)) ?_
  refine net_cons rfl rfl (n_ret rfl Try.call39 (.cons (ev rfl) (.cons (ev rfl) .nil)) (fun _ hx => (SameWords_c _ c85 c91 A85 A91 (intR kd dp dg p q g n pts).1 rfl (by omega) _ (hR85.ext hx) (hR91.ext hx)))) ?_
  refine net_cons rfl rfl (n_not rfl (ev rfl)) ?_
  refine net_cons rfl rfl (n_move rfl (ev rfl)) ?_
  refine net_if rfl rfl rfl rfl (fun hc => (n_move rfl (ev rfl))) ?_
  refine net_if rfl rfl rfl rfl (fun hc => (n_move rfl (ev rfl))) ?_
  refine net_if rfl rfl rfl rfl (fun hc => (n_bin rfl (evi rfl hc) (evi rfl hc) r_neq)) ?_
  refine net_cons rfl rfl (n_pick_or rfl (ev rfl) (fun h => (evi rfl h))) ?_
  refine net_nil fun a w1 hF hx => ?_
  replace hw := hw.next hx
  replace hF := hF.keep (.cons (t := 2) rfl (.cons (t := 3) rfl (.cons (t := 4) rfl (.cons (t := 5) rfl (.cons (t := 6) rfl (.cons (t := 10) rfl (.cons (t := 11) rfl (.cons (t := 12) rfl (.cons (t := 13) rfl (.cons (t := 14) rfl (.cons (t := 15) rfl (.cons (t := 18) rfl (.cons (t := 47) rfl (.cons (t := 78) rfl (.cons (t := 102) rfl .nil)))))))))))))))
  refine wpList_nil ?_
  refine wp_cond_false ((hF.ev (ev rfl)).trans (congrArg Value.bool (by simp))) ?_
  refine wp_skip ?_
  refine wp_seq ?_
  refine wp_seq (reg_seq 1 (hF _ _) (by kernel_rfl) ?_)
  refine net_cons rfl rfl (n_assign rfl evc) ?_
  refine net_nil fun a w1 hF hx => ?_
  replace hw := hw.next hx
  replace hF := hF.keep (.cons (t := 2) rfl (.cons (t := 3) rfl (.cons (t := 4) rfl (.cons (t := 5) rfl (.cons (t := 6) rfl (.cons (t := 10) rfl (.cons (t := 11) rfl (.cons (t := 12) rfl (.cons (t := 13) rfl (.cons (t := 14) rfl (.cons (t := 15) rfl (.cons (t := 18) rfl (.cons (t := 19) rfl (.cons (t := 47) rfl (.cons (t := 78) rfl (.cons (t := 102) rfl .nil))))))))))))))))
  refine wpList_nil ?_
  refine wp_block ?_
  replace hw : Own w _ [.row (.slice A81 n c81) 31 2 n (pc pts)] := hw.drop (.cons _ (.cons _ (.cons _ (.cons _ (.cons _ (.cons_cons _ (.cons _ (.cons _ .slnil))))))))
  refine wp_loop_ix (α := Nat) (fun i a w1 => FrV 118 [] [(4, .is (.slice A n c)) , (18, .is (.slice A81 n c81)) , (19, .is (I (i : Int)))] a ∧ Own w w1 [.row (.slice A81 n c81) 31 2 n (pc pts)] ∧ (i ≤ n)) (fun i => n - i) (0) ⟨hF.keep (.cons (t := 4) rfl (.cons (t := 18) rfl (.cons (t := 19) rfl (.nil)))), hw, by omega⟩ ?_
  rintro i a w1 ⟨hF, hw, hi0⟩
  refine wp_seq ?_
  refine wp_seq (reg_seq 4 (hF _ _) (by kernel_rfl) ?_)
  refine net_cons rfl rfl (n_move rfl (ev rfl)) ?_
  refine net_cons rfl rfl (n_move rfl (ev rfl)) ?_
  refine net_cons rfl rfl (n_len rfl (ev rfl) Try.underlying43) ?_
  refine net_cons rfl rfl (n_bin rfl (ev rfl) (ev rfl) r_lssN) ?_
  refine net_nil fun a w1 hF hx => ?_
  replace hw := hw.next hx
  replace hF := hF.keep (.cons (t := 4) rfl (.cons (t := 18) rfl (.cons (t := 19) rfl (.cons (t := 106) rfl .nil))))
  refine wpList_nil ?_
  refine wp_cond_split (hF.ev (ev rfl)) (fun h106 => ?_) (fun h106 => ?_)
  · have hi : i < n := of_bool_t h106
    obtain ⟨z, hz0⟩ := some_at hpl hi
    have hfl := pc_len pts
    obtain ⟨_, _, hse_, _, hRr, _⟩ := hw.rd (i := 0) rfl
    injection hse_ with hA_ _ _
    subst hA_
    have hF_ := hF
    have hw_ := hw
    obtain ⟨bX, oX, rfl, hcX⟩ := hR.at_ (by omega)
    obtain ⟨bY, oY, rfl, hcY⟩ := hRr.at_ (by omega)
    have hF := hF_
    have hw := hw_
    refine wp_skip ?_
    refine wp_seq (wp_block ?_)
    refine wp_seq (reg_draw 9 mixed (by kernel_rfl) (hF _ _) ?_)
    refine net_cons rfl rfl (n_move rfl (ev rfl)) ?_
    refine net_cons rfl rfl (n_move rfl (ev rfl)) ?_
    refine net_cons rfl rfl (n_indexS (off' := oY + (i) * 2) rfl (ev rfl) (ev rfl) Try.underlying43 Try.sizeOf31 (by omega) rfl) ?_
    refine net_cons rfl rfl (n_load rfl (ev rfl) (fun w2 hx2 => ldNR hcY (fm_at (f := fun p : Nat × Nat => [U p.1, U p.2]) (sz := 2) (fun _ => rfl) hz0) rfl Try.isAgg31 Try.sizeOf31 (by omega) w2 hx2)) ?_
    refine net_cons rfl rfl (n_move rfl (ev rfl)) ?_
    refine net_cons rfl rfl (n_move rfl (ev rfl)) ?_
    refine net_cons rfl rfl (n_indexS (off' := oX + (i) * 2) rfl (ev rfl) (ev rfl) Try.underlying43 Try.sizeOf31 (by omega) rfl) ?_
    refine net_cons rfl rfl (n_load rfl (ev rfl) (fun w2 hx2 => ldNR hcX (fm_at (f := fun p : Nat × Nat => [U p.1, U p.2]) (sz := 2) (fun _ => rfl) hz0) rfl Try.isAgg31 Try.sizeOf31 (by omega) w2 (hw.ext.trans hx2))) ?_
    refine net_cons rfl rfl (n_bin rfl (ev rfl) (ev rfl) (r_nePt (p := z) (q := z))) ?_
    refine net_nil fun a w1 hF hx => ?_
    replace hw := hw.next hx
    replace hF := hF.keep (.cons (t := 4) rfl (.cons (t := 18) rfl (.cons (t := 19) rfl (.cons (t := 106) rfl (.cons (t := 117) rfl .nil)))))
    refine wpList_nil ?_
    refine wp_cond_false ((hF.ev (ev rfl)).trans (congrArg Value.bool (by simp))) ?_
    refine wp_skip ?_
    refine reg_seq 3 (hF _ _) (by kernel_rfl) ?_
    refine net_cons rfl rfl (n_move rfl (ev rfl)) ?_
    refine net_cons rfl rfl (n_bin rfl (ev rfl) evc (r_inc (by omega))) ?_
    refine net_cons rfl rfl (n_assign rfl (ev rfl)) ?_
    refine net_nil fun a w1 hF hx => ?_
    replace hw := hw.next hx
    replace hF := hF.keep (.cons (t := 4) rfl (.cons (t := 18) rfl (.cons (t := 19) rfl (.cons (t := 106) rfl (.cons (t := 117) rfl .nil)))))
    refine wpList_nil ?_
    exact ⟨i + 1, ⟨hF.keep (.cons (t := 4) rfl (.cons (t := 18) rfl (.cons (t := 19) rfl (.nil)))), hw, by omega⟩, by omega⟩
  · refine wp_exit (go_then_e (go_then_e (go_exit ?_)))
    refine wp_seq (reg_seq 1 (hF _ _) (by kernel_rfl) ?_)
    refine net_cons rfl rfl (n_assign rfl evc) ?_
    refine net_nil fun a w1 hF hx => ?_
    replace hw := hw.next hx
    replace hF := hF.keep (.cons (t := 4) rfl (.cons (t := 10) rfl (.cons (t := 18) rfl (.cons (t := 19) rfl (.cons (t := 106) rfl .nil)))))
    refine wpList_nil ?_
    refine wp_ret (ret1 hF Try.results8 rfl ?_)
    exact ⟨_, rfl, hw.ext, rfl⟩
end Go.Proofs.Ythgpojlcbbgaoaa

