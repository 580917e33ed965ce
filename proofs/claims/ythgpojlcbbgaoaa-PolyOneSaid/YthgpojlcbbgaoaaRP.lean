/- points and polynomials that fit -/
import Derived.Test.YthgpojlcbbgaoaaVal

set_option autoImplicit false
set_option maxRecDepth 100000
set_option linter.unusedVariables false
set_option linter.unusedSimpArgs false
set_option linter.unnecessarySimpa false
namespace Go.Proofs.Ythgpojlcbbgaoaa
open Go.RowKit

theorem Polynomial_c (kd : Nat) (dp dg : Int) (p q g : Nat) (hp : p < 18446744073709551616) (hq : q < 18446744073709551616) (hg : g < 18446744073709551616) (n cp : Nat) (A : Option Addr) (l : List Nat) (hl : l.length = n) (hn : n ≤ 9223372036854775800) (h1 : 1 ≤ dg) (h8 : dg ≤ 8) (w : World) (hR : Rd w A (l.map U)) : RetF Try.prog 58 [SV kd dp dg p q g, .slice A n cp].toArray w (.is (.bool (polyOk q dg n l))) := by
  refine enter Try.func58 rfl Try.ntmps58 rfl fun a hF => ?_
  have hw := Own.start w
  refine wp_seq (wp_region_lit ?_)
  refine t_net 0 1 (by kernel_rfl) rfl hF ?_
  refine net_cons rfl rfl (n_box rfl (ev rfl) rfl) ?_
  refine net_nil fun a w1 hF hx => ?_
  obtain ⟨b2, h_, hw⟩ := hw.blk hx (hF.at_ 2 _ rfl)
  replace hF := hF.now h_
  replace hF := hF.keep (.cons (t := 1) rfl (.cons (t := 2) rfl .nil))
  refine t_net 1 1 (by kernel_rfl) rfl hF ?_
  refine net_cons rfl rfl (n_assign rfl evc) ?_
  refine net_nil fun a w1 hF hx => ?_
  replace hw := hw.next hx
  replace hF := hF.keep (.cons (t := 1) rfl (.cons (t := 2) rfl (.cons (t := 4) rfl .nil)))
  refine wpList_nil ?_
  refine wp_seq ?_
  refine wp_seq (reg_seq 6 (hF _ _) (by kernel_rfl) ?_)
  refine net_cons rfl rfl (n_move rfl (ev rfl)) ?_
  refine net_cons rfl rfl (n_len rfl (ev rfl) Try.underlying63) ?_
  refine net_cons rfl rfl (n_fieldAddrO (off' := 2) rfl (ev rfl) Try.runUnderlying28 rfl Try.sizeOf3 rfl) ?_
  refine net_cons rfl rfl (n_load rfl (ev rfl) (ld1 hw (i := 0) rfl Try.isAgg3 rfl)) ?_
  refine net_cons rfl rfl (n_bin rfl (ev rfl) evc (r_addI (by omega) (by omega))) ?_
  refine net_cons rfl rfl (n_bin rfl (ev rfl) (ev rfl) r_neq) ?_
  refine net_nil fun a w1 hF hx => ?_
  replace hw := hw.next hx
  replace hF := hF.keep (.cons (t := 1) rfl (.cons (t := 2) rfl (.cons (t := 4) rfl (.cons (t := 11) rfl .nil))))
  refine wpList_nil ?_
  refine wp_cond_split (hF.ev (ev rfl)) (fun h11 => ?_) (fun h11 => ?_)
  · have hz : polyOk q dg n l = false := by unfold polyOk; rw [show decide ((n : Int) = dg + 1) = false by simpa using h11]; rfl
    refine wp_seq (reg_seq 1 (hF _ _) (by kernel_rfl) ?_)
    refine net_cons rfl rfl (n_assign rfl evc) ?_
    refine net_nil fun a w1 hF hx => ?_
    replace hw := hw.next hx
    replace hF := hF.keep (.cons (t := 1) rfl (.cons (t := 2) rfl (.cons (t := 4) rfl (.cons (t := 11) rfl .nil))))
    refine wpList_nil ?_
    refine wp_ret (go_then_r (ret1 hF Try.results58 rfl ?_))
    exact ⟨_, rfl, hw.ext, (by rw [hz]; rfl)⟩
  · have hnd : (n : Int) = dg + 1 := by simpa using h11
    refine wp_skip ?_
    refine wp_seq ?_
    refine wp_seq (reg_seq 1 (hF _ _) (by kernel_rfl) ?_)
    refine net_cons rfl rfl (n_assign rfl evc) ?_
    refine net_nil fun a w1 hF hx => ?_
    replace hw := hw.next hx
    replace hF := hF.keep (.cons (t := 1) rfl (.cons (t := 2) rfl (.cons (t := 4) rfl (.cons (t := 5) rfl (.cons (t := 11) rfl .nil)))))
    refine wpList_nil ?_
    refine wp_block ?_
    refine wp_loop_ix (α := Nat) (fun i a w1 => FrV 26 [] [(1, .is (.slice A n cp)) , (2, .is (ptr0 b2)) , (5, .is (I (i : Int)))] a ∧ Own w w1 [.blk b2 28 [B8 kd, I dp, I dg, U p, U q, U g]] ∧ (i ≤ n) ∧ (∀ j y, j < i → l[j]? = some y → y < q)) (fun i => n - i) (0) ⟨hF.keep (.cons (t := 1) rfl (.cons (t := 2) rfl (.cons (t := 5) rfl (.nil)))), hw, by omega, fun j y h => by omega⟩ ?_
    rintro i a w1 ⟨hF, hw, hi0, hbad⟩
    refine wp_seq ?_
    refine wp_seq (reg_seq 4 (hF _ _) (by kernel_rfl) ?_)
    refine net_cons rfl rfl (n_move rfl (ev rfl)) ?_
    refine net_cons rfl rfl (n_move rfl (ev rfl)) ?_
    refine net_cons rfl rfl (n_len rfl (ev rfl) Try.underlying63) ?_
    refine net_cons rfl rfl (n_bin rfl (ev rfl) (ev rfl) r_lss) ?_
    refine net_nil fun a w1 hF hx => ?_
    replace hw := hw.next hx
    replace hF := hF.keep (.cons (t := 1) rfl (.cons (t := 2) rfl (.cons (t := 5) rfl (.cons (t := 15) rfl .nil))))
    refine wpList_nil ?_
    refine wp_cond_split (hF.ev (ev rfl)) (fun h15 => ?_) (fun h15 => ?_)
    · have hi : i < n := by have := of_bool_t h15; omega
      obtain ⟨x, hx0⟩ := some_at hl hi
      have hF_ := hF
      have hw_ := hw
      obtain ⟨bX, oX, rfl, hcX⟩ := hR.at_ (by rw [List.length_map]; omega)
      have hF := hF_
      have hw := hw_
      refine wp_skip ?_
      refine wp_seq (wp_block ?_)
      refine wp_seq (reg_draw 8 mixed (by kernel_rfl) (hF _ _) ?_)
      refine net_cons rfl rfl (n_move rfl (ev rfl)) ?_
      refine net_cons rfl rfl (n_move rfl (ev rfl)) ?_
      refine net_cons rfl rfl (n_indexS (off' := oX + (i)) rfl (ev rfl) (ev rfl) Try.underlying63 Try.sizeOf24 (by omega) (by omega)) ?_
      refine net_cons rfl rfl (n_load rfl (ev rfl) (fun w2 hx2 => ld1R hcX (map_at hx0) Try.isAgg24 (by omega) w2 (hw.ext.trans hx2))) ?_
      refine net_cons rfl rfl (n_fieldAddrO (off' := 3) rfl (ev rfl) Try.runUnderlying28 rfl Try.sizeOf26 rfl) ?_
      refine net_cons rfl rfl (n_fieldAddrO (off' := 4) rfl (ev rfl) Try.runUnderlying26 rfl Try.sizeOf24 rfl) ?_
      refine net_cons rfl rfl (n_load rfl (ev rfl) (ld1 hw (i := 0) rfl Try.isAgg24 rfl)) ?_
      refine net_cons rfl rfl (n_bin rfl (ev rfl) (ev rfl) (r_geqN)) ?_
      refine net_nil fun a w1 hF hx => ?_
      replace hw := hw.next hx
      replace hF := hF.keep (.cons (t := 1) rfl (.cons (t := 2) rfl (.cons (t := 5) rfl (.cons (t := 15) rfl (.cons (t := 25) rfl .nil)))))
      refine wpList_nil ?_
      refine wp_cond_split (hF.ev (ev rfl)) (fun h25 => ?_) (fun h25 => ?_)
      · have hz : polyOk q dg n l = false := by unfold polyOk; rw [show (l.all fun c => decide (c < q)) = false from List.all_eq_false.2 ⟨x, List.mem_of_getElem? hx0, by have := of_bool_t h25; simp; omega⟩, Bool.and_false]
        refine wp_seq (reg_seq 1 (hF _ _) (by kernel_rfl) ?_)
        refine net_cons rfl rfl (n_assign rfl evc) ?_
        refine net_nil fun a w1 hF hx => ?_
        replace hw := hw.next hx
        replace hF := hF.keep (.cons (t := 1) rfl (.cons (t := 2) rfl (.cons (t := 4) rfl (.cons (t := 5) rfl (.cons (t := 15) rfl (.cons (t := 25) rfl .nil))))))
        refine wpList_nil ?_
        refine wp_ret (go_block_r (go_then_r (go_then_r (go_block_r (go_then_r (ret1 hF Try.results58 rfl ?_))))))
        exact ⟨_, rfl, hw.ext, (by rw [hz]; rfl)⟩
      · refine wp_skip ?_
        refine reg_seq 3 (hF _ _) (by kernel_rfl) ?_
        refine net_cons rfl rfl (n_move rfl (ev rfl)) ?_
        refine net_cons rfl rfl (n_bin rfl (ev rfl) evc (r_inc (by omega))) ?_
        refine net_cons rfl rfl (n_assign rfl (ev rfl)) ?_
        refine net_nil fun a w1 hF hx => ?_
        replace hw := hw.next hx
        replace hF := hF.keep (.cons (t := 1) rfl (.cons (t := 2) rfl (.cons (t := 5) rfl (.cons (t := 15) rfl (.cons (t := 25) rfl .nil)))))
        refine wpList_nil ?_
        exact ⟨i + 1, ⟨hF.keep (.cons (t := 1) rfl (.cons (t := 2) rfl (.cons (t := 5) rfl (.nil)))), hw, by omega, up_at hbad hx0 (by have := of_bool_f h25; omega)⟩, by omega⟩
    · obtain rfl : n = i := by have := of_bool_f h15; omega
      have hz : polyOk q dg n l = true := by unfold polyOk; rw [decide_eq_true hnd, Bool.true_and, List.all_eq_true]; intro x hx; obtain ⟨j, hj, rfl⟩ := List.mem_iff_getElem.1 hx; exact decide_eq_true (hbad j _ (by omega) (List.getElem?_eq_getElem hj))
      refine wp_exit (go_then_e (go_then_e (go_exit ?_)))
      refine wp_seq (reg_seq 1 (hF _ _) (by kernel_rfl) ?_)
      refine net_cons rfl rfl (n_assign rfl evc) ?_
      refine net_nil fun a w1 hF hx => ?_
      replace hw := hw.next hx
      replace hF := hF.keep (.cons (t := 1) rfl (.cons (t := 2) rfl (.cons (t := 4) rfl (.cons (t := 5) rfl (.cons (t := 15) rfl .nil)))))
      refine wpList_nil ?_
      refine wp_ret (ret1 hF Try.results58 rfl ?_)
      exact ⟨_, rfl, hw.ext, (by rw [hz]; rfl)⟩


theorem rightL_yes {q n : Nat} {pts : List (Nat × Nat)} (hl : pts.length = n) (h1 : ∀ j y, j < n → pts[j]? = some y → bdP q y = false) (h2 : distL pts = true) : rightL q pts = true := by
  rw [rightL, h2, Bool.and_true, Bool.not_eq_true', List.any_eq_false]
  intro x hx
  obtain ⟨j, hj, rfl⟩ := List.mem_iff_getElem.1 hx
  rw [h1 j _ (by omega) (List.getElem?_eq_getElem hj)]
  simp
theorem rightL_no1 {q : Nat} {pts : List (Nat × Nat)} {i : Nat} {x : Nat × Nat} (hx : pts[i]? = some x) (h : bdP q x = true) : rightL q pts = false := by
  rw [rightL, List.any_eq_true.2 ⟨x, List.mem_of_getElem? hx, h⟩]
  rfl
theorem rightL_no2 {q : Nat} {pts : List (Nat × Nat)} (h : distL pts = false) : rightL q pts = false := by rw [rightL, h, Bool.and_false]


theorem Right_c (q n c : Nat) (A : Option Addr) (pts : List (Nat × Nat)) (hl : pts.length = n) (hn : n ≤ 9223372036854775800) (w : World) (hR : Rd w A (pc pts)) : RetF Try.prog 57 [U q, .slice A n c].toArray w (.is (.bool (rightL q pts))) := by
  refine enter Try.func57 rfl Try.ntmps57 rfl fun a hF => ?_
  have hw := Own.start w
  refine wp_seq (reg_seq 1 (hF _ _) (by kernel_rfl) ?_)
  refine net_cons rfl rfl (n_assign rfl evc) ?_
  refine net_nil fun a w1 hF hx => ?_
  replace hw := hw.next hx
  replace hF := hF.keep (.cons (t := 0) rfl (.cons (t := 1) rfl (.cons (t := 4) rfl .nil)))
  refine wpList_nil ?_
  refine wp_seq ?_
  refine wp_seq (reg_seq 1 (hF _ _) (by kernel_rfl) ?_)
  refine net_cons rfl rfl (n_assign rfl evc) ?_
  refine net_nil fun a w1 hF hx => ?_
  replace hw := hw.next hx
  replace hF := hF.keep (.cons (t := 0) rfl (.cons (t := 1) rfl (.cons (t := 4) rfl (.cons (t := 5) rfl .nil))))
  refine wpList_nil ?_
  refine wp_block ?_
  refine wp_loop_ix (α := Nat) (fun i a w1 => FrV 45 [] [(0, .is (U q)) , (1, .is (.slice A n c)) , (5, .is (I (i : Int)))] a ∧ Own w w1 [] ∧ (i ≤ n) ∧ (∀ j y, j < i → pts[j]? = some y → bdP q y = false) ∧ (∀ j y, j < i → pts[j]? = some y → hitX (pts.take j) y.1 = false)) (fun i => n - i) (0) ⟨hF.keep (.cons (t := 0) rfl (.cons (t := 1) rfl (.cons (t := 5) rfl (.nil)))), hw, by omega, fun j y h => by omega, fun j y h => by omega⟩ ?_
  rintro i a w1 ⟨hF, hw, hi0, hb1, hb2⟩
  refine wp_seq ?_
  refine wp_seq (reg_seq 4 (hF _ _) (by kernel_rfl) ?_)
  refine net_cons rfl rfl (n_move rfl (ev rfl)) ?_
  refine net_cons rfl rfl (n_move rfl (ev rfl)) ?_
  refine net_cons rfl rfl (n_len rfl (ev rfl) Try.underlying43) ?_
  refine net_cons rfl rfl (n_bin rfl (ev rfl) (ev rfl) r_lss) ?_
  refine net_nil fun a w1 hF hx => ?_
  replace hw := hw.next hx
  replace hF := hF.keep (.cons (t := 0) rfl (.cons (t := 1) rfl (.cons (t := 5) rfl (.cons (t := 10) rfl .nil))))
  refine wpList_nil ?_
  refine wp_cond_split (hF.ev (ev rfl)) (fun h10 => ?_) (fun h10 => ?_)
  · have hi : i < n := by have := of_bool_t h10; omega
    obtain ⟨x, hx0⟩ := some_at hl hi
    have hF_ := hF
    have hw_ := hw
    obtain ⟨bX, oX, rfl, hcX⟩ := hR.at_ (by rw [pc_len]; omega)
    have hF := hF_
    have hw := hw_
    refine wp_skip ?_
    refine wp_seq (wp_block ?_)
    refine wp_seq ?_
    refine wp_seq (reg_seq 16 (hF _ _) (by kernel_rfl) ?_)
    refine net_cons rfl rfl (n_move rfl (ev rfl)) ?_
    refine net_cons rfl rfl (n_move rfl (ev rfl)) ?_
    refine net_cons rfl rfl (n_indexS (off' := oX + (i) * 2) rfl (ev rfl) (ev rfl) Try.underlying43 Try.sizeOf31 (by omega) rfl) ?_
    refine net_cons rfl rfl (n_fieldAddrO (off' := oX + (i) * 2 + 0) rfl (ev rfl) Try.runUnderlying31 rfl Try.sizeOf24 rfl) ?_
    refine net_cons rfl rfl (n_load rfl (ev rfl) (fun w2 hx2 => ld1R hcX (pc_x hx0) Try.isAgg24 (by omega) w2 (hw.ext.trans hx2))) ?_
    refine net_cons rfl rfl (n_move rfl (ev rfl)) ?_
    refine net_cons rfl rfl (n_bin rfl (ev rfl) (ev rfl) (r_geqN)) ?_
    refine net_cons rfl rfl (n_move rfl (ev rfl)) ?_
    refine net_if rfl rfl rfl rfl (fun hc => (n_move rfl (ev rfl))) ?_
    refine net_if rfl rfl rfl rfl (fun hc => (n_move rfl (ev rfl))) ?_
    refine net_if rfl rfl rfl rfl (fun hc => (n_indexS (off' := oX + (i) * 2) rfl (evi rfl hc) (evi rfl hc) Try.underlying43 Try.sizeOf31 (by omega) rfl)) ?_
    refine net_if rfl rfl rfl rfl (fun hc => (n_fieldAddrO (off' := oX + (i) * 2 + 1) rfl (evi rfl hc) Try.runUnderlying31 rfl Try.sizeOf24 rfl)) ?_
    refine net_if rfl rfl rfl rfl (fun hc => (n_load rfl (evi rfl hc) (fun w2 hx2 => ld1R hcX (pc_y hx0) Try.isAgg24 (by omega) w2 (hw.ext.trans hx2)))) ?_
    refine net_if rfl rfl rfl rfl (fun hc => (n_move rfl (ev rfl))) ?_
    refine net_if rfl rfl rfl rfl (fun hc => (n_bin rfl (evi rfl hc) (evi rfl hc) (r_geqN))) ?_
    refine net_cons rfl rfl (n_pick_or rfl (ev rfl) (fun h => (evi rfl h))) ?_
    refine net_nil fun a w1 hF hx => ?_
    replace hw := hw.next hx
    replace hF := hF.keep (.cons (t := 0) rfl (.cons (t := 1) rfl (.cons (t := 5) rfl (.cons (t := 10) rfl (.cons (t := 28) rfl .nil)))))
    refine wpList_nil ?_
    refine wp_cond_split (hF.ev (ev rfl)) (fun h28 => ?_) (fun h28 => ?_)
    · have hz := rightL_no1 hx0 h28
      refine wp_seq (reg_seq 1 (hF _ _) (by kernel_rfl) ?_)
      refine net_cons rfl rfl (n_assign rfl evc) ?_
      refine net_nil fun a w1 hF hx => ?_
      replace hw := hw.next hx
      replace hF := hF.keep (.cons (t := 0) rfl (.cons (t := 1) rfl (.cons (t := 4) rfl (.cons (t := 5) rfl (.cons (t := 10) rfl (.cons (t := 28) rfl .nil))))))
      refine wpList_nil ?_
      refine wp_ret (go_then_r (go_block_r (go_then_r (go_then_r (go_block_r (go_then_r (ret1 hF Try.results57 rfl ?_)))))))
      exact ⟨_, rfl, hw.ext, (by rw [hz]; rfl)⟩
    · refine wp_skip ?_
      refine wp_seq (reg_seq 1 (hF _ _) (by kernel_rfl) ?_)
      refine net_cons rfl rfl (n_assign rfl evc) ?_
      refine net_nil fun a w1 hF hx => ?_
      replace hw := hw.next hx
      replace hF := hF.keep (.cons (t := 0) rfl (.cons (t := 1) rfl (.cons (t := 5) rfl (.cons (t := 6) rfl (.cons (t := 10) rfl (.cons (t := 28) rfl .nil))))))
      refine wpList_nil ?_
      refine wp_block ?_
      refine wp_loop_ix (α := Nat) (fun k a w1 => FrV 45 [] [(0, .is (U q)) , (1, .is (.slice (some ⟨bX, oX, none⟩) n c)) , (5, .is (I (i : Int))) , (6, .is (I (k : Int)))] a ∧ Own w w1 [] ∧ (k ≤ i) ∧ (∀ j y, j < k → pts[j]? = some y → ¬ y.1 = x.1)) (fun k => i - k) (0) ⟨hF.keep (.cons (t := 0) rfl (.cons (t := 1) rfl (.cons (t := 5) rfl (.cons (t := 6) rfl (.nil))))), hw, by omega, fun j y h => by omega⟩ ?_
      rintro k a w1 ⟨hF, hw, hk0, hkb⟩
      refine wp_seq ?_
      refine wp_seq (reg_seq 3 (hF _ _) (by kernel_rfl) ?_)
      refine net_cons rfl rfl (n_move rfl (ev rfl)) ?_
      refine net_cons rfl rfl (n_move rfl (ev rfl)) ?_
      refine net_cons rfl rfl (n_bin rfl (ev rfl) (ev rfl) r_lss) ?_
      refine net_nil fun a w1 hF hx => ?_
      replace hw := hw.next hx
      replace hF := hF.keep (.cons (t := 0) rfl (.cons (t := 1) rfl (.cons (t := 5) rfl (.cons (t := 6) rfl (.cons (t := 31) rfl .nil)))))
      refine wpList_nil ?_
      refine wp_cond_split (hF.ev (ev rfl)) (fun h31 => ?_) (fun h31 => ?_)
      · have hk : k < i := by have := of_bool_t h31; omega
        obtain ⟨y, hy0⟩ := some_at hl (show k < n by omega)
        refine wp_skip ?_
        refine wp_seq (wp_block ?_)
        refine wp_seq (reg_draw 11 mixed (by kernel_rfl) (hF _ _) ?_)
        refine net_cons rfl rfl (n_move rfl (ev rfl)) ?_
        refine net_cons rfl rfl (n_move rfl (ev rfl)) ?_
        refine net_cons rfl rfl (n_indexS (off' := oX + (k) * 2) rfl (ev rfl) (ev rfl) Try.underlying43 Try.sizeOf31 (by omega) rfl) ?_
        refine net_cons rfl rfl (n_fieldAddrO (off' := oX + (k) * 2 + 0) rfl (ev rfl) Try.runUnderlying31 rfl Try.sizeOf24 rfl) ?_
        refine net_cons rfl rfl (n_load rfl (ev rfl) (fun w2 hx2 => ld1R hcX (pc_x hy0) Try.isAgg24 (by omega) w2 (hw.ext.trans hx2))) ?_
        refine net_cons rfl rfl (n_move rfl (ev rfl)) ?_
        refine net_cons rfl rfl (n_move rfl (ev rfl)) ?_
        refine net_cons rfl rfl (n_indexS (off' := oX + (i) * 2) rfl (ev rfl) (ev rfl) Try.underlying43 Try.sizeOf31 (by omega) rfl) ?_
        refine net_cons rfl rfl (n_fieldAddrO (off' := oX + (i) * 2 + 0) rfl (ev rfl) Try.runUnderlying31 rfl Try.sizeOf24 rfl) ?_
        refine net_cons rfl rfl (n_load rfl (ev rfl) (fun w2 hx2 => ld1R hcX (pc_x hx0) Try.isAgg24 (by omega) w2 (hw.ext.trans hx2))) ?_
        refine net_cons rfl rfl (n_bin rfl (ev rfl) (ev rfl) (r_eqlN)) ?_
        refine net_nil fun a w1 hF hx => ?_
        replace hw := hw.next hx
        replace hF := hF.keep (.cons (t := 0) rfl (.cons (t := 1) rfl (.cons (t := 5) rfl (.cons (t := 6) rfl (.cons (t := 31) rfl (.cons (t := 44) rfl .nil))))))
        refine wpList_nil ?_
        refine wp_cond_split (hF.ev (ev rfl)) (fun h44 => ?_) (fun h44 => ?_)
        · have hz := rightL_no2 (q := q) (distL_no hx0 (hitX_yes hk hy0 h44))
          refine wp_seq (reg_seq 1 (hF _ _) (by kernel_rfl) ?_)
          refine net_cons rfl rfl (n_assign rfl evc) ?_
          refine net_nil fun a w1 hF hx => ?_
          replace hw := hw.next hx
          replace hF := hF.keep (.cons (t := 0) rfl (.cons (t := 1) rfl (.cons (t := 4) rfl (.cons (t := 5) rfl (.cons (t := 6) rfl (.cons (t := 31) rfl (.cons (t := 44) rfl .nil)))))))
          refine wpList_nil ?_
          refine wp_ret (go_block_r (go_then_r (go_then_r (go_block_r (go_block_r (go_then_r (go_then_r (go_block_r (go_then_r (ret1 hF Try.results57 rfl ?_))))))))))
          exact ⟨_, rfl, hw.ext, (by rw [hz]; rfl)⟩
        · refine wp_skip ?_
          refine reg_seq 3 (hF _ _) (by kernel_rfl) ?_
          refine net_cons rfl rfl (n_move rfl (ev rfl)) ?_
          refine net_cons rfl rfl (n_bin rfl (ev rfl) evc (r_inc (by omega))) ?_
          refine net_cons rfl rfl (n_assign rfl (ev rfl)) ?_
          refine net_nil fun a w1 hF hx => ?_
          replace hw := hw.next hx
          replace hF := hF.keep (.cons (t := 0) rfl (.cons (t := 1) rfl (.cons (t := 5) rfl (.cons (t := 6) rfl (.cons (t := 31) rfl (.cons (t := 44) rfl .nil))))))
          refine wpList_nil ?_
          exact ⟨k + 1, ⟨hF.keep (.cons (t := 0) rfl (.cons (t := 1) rfl (.cons (t := 5) rfl (.cons (t := 6) rfl (.nil))))), hw, by omega, up_at hkb hy0 (of_bool_f h44)⟩, by omega⟩
      · obtain rfl : i = k := by have := of_bool_f h31; omega
        refine wp_exit (go_then_e (go_then_e (go_exit ?_)))
        refine reg_seq 3 (hF _ _) (by kernel_rfl) ?_
        refine net_cons rfl rfl (n_move rfl (ev rfl)) ?_
        refine net_cons rfl rfl (n_bin rfl (ev rfl) evc (r_inc (by omega))) ?_
        refine net_cons rfl rfl (n_assign rfl (ev rfl)) ?_
        refine net_nil fun a w1 hF hx => ?_
        replace hw := hw.next hx
        replace hF := hF.keep (.cons (t := 0) rfl (.cons (t := 1) rfl (.cons (t := 5) rfl (.cons (t := 6) rfl (.cons (t := 31) rfl .nil)))))
        refine wpList_nil ?_
        exact ⟨i + 1, ⟨hF.keep (.cons (t := 0) rfl (.cons (t := 1) rfl (.cons (t := 5) rfl (.nil)))), hw, by omega, up_at hb1 hx0 h28, up_at hb2 hx0 (hitX_none hkb)⟩, by omega⟩
  · obtain rfl : n = i := by have := of_bool_f h10; omega
    have hz := rightL_yes hl hb1 (distL_yes hl hb2)
    refine wp_exit (go_then_e (go_then_e (go_exit ?_)))
    refine wp_seq (reg_seq 1 (hF _ _) (by kernel_rfl) ?_)
    refine net_cons rfl rfl (n_assign rfl evc) ?_
    refine net_nil fun a w1 hF hx => ?_
    replace hw := hw.next hx
    replace hF := hF.keep (.cons (t := 0) rfl (.cons (t := 1) rfl (.cons (t := 4) rfl (.cons (t := 5) rfl (.cons (t := 10) rfl .nil)))))
    refine wpList_nil ?_
    refine wp_ret (ret1 hF Try.results57 rfl ?_)
    exact ⟨_, rfl, hw.ext, (by rw [hz]; rfl)⟩
end Go.Proofs.Ythgpojlcbbgaoaa

