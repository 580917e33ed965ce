/- the law of the one polynomial -/
import Derived.Test.YthgpojlcbbgaoaaAlive
import Derived.Test.YthgpojlcbbgaoaaRP

set_option autoImplicit false
set_option maxRecDepth 100000
set_option linter.unusedVariables false
set_option linter.unusedSimpArgs false
set_option linter.unnecessarySimpa false
namespace Go.Proofs.Ythgpojlcbbgaoaa
open Go.RowKit


theorem okS_n1 {kd : Nat} {dp dg : Int} {p q g : Nat} (h : (!okS kd dp dg p q g) = false) : 1 ≤ dg ∧ dg ≤ 8 := by
  rw [Bool.not_eq_false'] at h
  have := okS_all h
  exact ⟨this.2.2.2.1, this.2.2.2.2.1⟩
theorem okS_n2 {kd : Nat} {dp dg : Int} {p q g : Nat} {b : Bool} (h : (!okS kd dp dg p q g || b) = false) : 1 ≤ dg ∧ dg ≤ 8 := by
  rw [Bool.or_eq_false_iff] at h
  exact okS_n1 h.1
def oneP (kd : Nat) (dp dg : Int) (p q g m : Nat) (l xs : List Nat) : List (Nat × Nat) := xs.map fun x => (x, (valR kd dp dg p q g m l x).1)
section
variable {kd : Nat} {dp dg : Int} {p q g m n : Nat} {l xs : List Nat}
theorem oneP_snoc {i x : Nat} (h : xs[i]? = some x) : pc (oneP kd dp dg p q g m l (xs.take i)) ++ [U x, U (valR kd dp dg p q g m l x).1] = pc (oneP kd dp dg p q g m l (xs.take (i + 1))) := by
  rw [List.take_add_one, h, oneP, oneP, List.map_append, ← pc_snoc (p := (x, (valR kd dp dg p q g m l x).1))]
  rfl
theorem one_yes {b : Bool} (h : ((!okS kd dp dg p q g || !polyOk q dg m l) || b) = false) : okS kd dp dg p q g = true ∧ polyOk q dg m l = true ∧ b = false := by
  rw [Bool.or_eq_false_iff, Bool.or_eq_false_iff, Bool.not_eq_false', Bool.not_eq_false'] at h
  exact ⟨h.1.1, h.1.2, h.2⟩
theorem one_val (hz : okS kd dp dg p q g = true) (hp : polyOk q dg m l = true) (x : Nat) : ((decide ((valR kd dp dg p q g m l x).2 = 0)) != decide (x < q)) = false := by
  by_cases hx : x < q
  · rw [valR_ok hz (by rw [hp, decide_eq_true hx]; rfl), decide_eq_true hx]; rfl
  · rw [valR_bad hz (by rw [hp, decide_eq_false hx]; rfl), decide_eq_false hx]; rfl
theorem one_int (hz : okS kd dp dg p q g = true) (hlm : l.length = m) (hp : polyOk q dg m l = true) (hl : xs.length = n) (hn : (n : Int) = dg + 1) (hr : rightL q (oneP kd dp dg p q g m l xs) = true) : intR kd dp dg p q g n (oneP kd dp dg p q g m l xs) = (l, 0) := by
  obtain ⟨hx, hd⟩ := right_all hr
  have hq := (okG_all (okS_all hz).2.2.2.2.2.1).2.1
  rw [intR_ok hz (by rw [decide_eq_true hn, hr]; rfl)]
  have hpo := hp
  rw [polyOk, Bool.and_eq_true, decide_eq_true_eq, List.all_eq_true] at hpo
  congr 1
  symm
  refine intL_unique hq hx hd (by rw [oneP, List.length_map]; omega) (fun c hc => by simpa using hpo.2 c hc) fun z hz2 => ?_
  obtain ⟨x, hxm, rfl⟩ := List.mem_map.1 hz2
  have hxq := (hx _ hz2).1
  rw [valR_ok hz (by rw [hp, decide_eq_true hxq]; rfl)]
end


theorem PolyOne_c (kd : Nat) (dp dg : Int) (p q g : Nat) (hp : p < 18446744073709551616) (hq : q < 18446744073709551616) (hg : g < 18446744073709551616) (m cl : Nat) (Al : Option Addr) (l : List Nat) (hlm : l.length = m) (hm : m ≤ 9223372036854775800) (n c : Nat) (A : Option Addr) (xs : List Nat) (hl : xs.length = n) (hn : n ≤ 9223372036854775800) (w : World) (hRl : Rd w Al (l.map U)) (hR : Rd w A (xs.map U)) : RetF Try.prog 12 [SV kd dp dg p q g, .slice Al m cl, .slice A n c].toArray w (.is (.bool true)) := by
  refine enter Try.func12 rfl Try.ntmps12 rfl fun a hF => ?_
  have hw := Own.start w
  refine wp_seq (wp_region_lit ?_)
  refine t_net 0 1 (by kernel_rfl) rfl hF ?_
  refine net_cons rfl rfl (n_box rfl (ev rfl) rfl) ?_
  refine net_nil fun a w1 hF hx => ?_
  obtain ⟨b3, h_, hw⟩ := hw.blk hx (hF.at_ 3 _ rfl)
  replace hF := hF.now h_
  replace hF := hF.keep (.cons (t := 1) rfl (.cons (t := 2) rfl (.cons (t := 3) rfl .nil)))
  refine t_net 1 1 (by kernel_rfl) rfl hF ?_
  refine net_cons rfl rfl (n_assign rfl evc) ?_
  refine net_nil fun a w1 hF hx => ?_
  replace hw := hw.next hx
  replace hF := hF.keep (.cons (t := 1) rfl (.cons (t := 2) rfl (.cons (t := 3) rfl (.cons (t := 6) rfl .nil))))
  refine wpList_nil ?_
  try simp only [List.nil_append, List.cons_append, List.set_cons_zero, List.set_cons_succ] at hw
  refine wp_seq (reg_seq 2 (hF _ _) (by kernel_rfl) ?_)
  refine net_cons rfl rfl (n_ret rfl Try.call29 .nil (fun _ hx => (alive_c _))) ?_
  refine net_cons rfl rfl (n_assign rfl (ev rfl)) ?_
  refine net_nil fun a w1 hF hx => ?_
  replace hw := hw.next hx
  replace hF := hF.keep (.cons (t := 1) rfl (.cons (t := 2) rfl (.cons (t := 3) rfl (.cons (t := 6) rfl (.cons (t := 7) rfl .nil)))))
  refine wpList_nil ?_
  try simp only [List.nil_append, List.cons_append, List.set_cons_zero, List.set_cons_succ] at hw
  refine wp_seq ?_
  refine wp_seq (reg_seq 17 (hF _ _) (by kernel_rfl) ?_)
  refine net_cons rfl rfl (n_load rfl (ev rfl) (ldN hw (i := 0) (vs := _) rfl Try.isAgg28 Try.sizeOf28 rfl rfl)) ?_
  refine net_cons rfl rfl (n_ret rfl Try.call30 (.cons (ev rfl) .nil) (fun _ hx => (Valid_c kd dp dg p q g hp hq hg _))) ?_
  refine net_cons rfl rfl (n_not rfl (ev rfl)) ?_
  refine net_cons rfl rfl (n_move rfl (ev rfl)) ?_
  refine net_if rfl rfl rfl rfl (fun hc => (n_load rfl (ev rfl) (ldN hw (i := 0) (vs := _) rfl Try.isAgg28 Try.sizeOf28 rfl rfl))) ?_
  refine net_if rfl rfl rfl rfl (fun hc => (n_move rfl (ev rfl))) ?_
  refine net_if rfl rfl rfl rfl (fun hc => (n_ret rfl Try.call58 (.cons (evi rfl hc) (.cons (evi rfl hc) .nil)) (fun _ hx => (Polynomial_c kd dp dg p q g hp hq hg m cl Al l hlm (by omega) (okS_n1 hc).1 (okS_n1 hc).2 _ (hRl.ext (hw.ext.trans hx)))))) ?_
  refine net_if rfl rfl rfl rfl (fun hc => (n_not rfl (evi rfl hc))) ?_
  refine net_cons rfl rfl (n_pick_or rfl (ev rfl) (fun h => (evi rfl h))) ?_
  refine net_cons rfl rfl (n_move rfl (ev rfl)) ?_
  refine net_if rfl rfl rfl rfl (fun hc => (n_move rfl (ev rfl))) ?_
  refine net_if rfl rfl rfl rfl (fun hc => (n_len rfl (evi rfl hc) Try.underlying63)) ?_
  refine net_if rfl rfl rfl rfl (fun hc => (n_fieldAddrO (off' := 2) rfl (ev rfl) Try.runUnderlying28 rfl Try.sizeOf3 rfl)) ?_
  refine net_if rfl rfl rfl rfl (fun hc => (n_load rfl (evi rfl hc) (ld1 hw (i := 0) rfl Try.isAgg3 rfl))) ?_
  refine net_if rfl rfl rfl rfl (fun hc => (n_bin rfl (evi rfl hc) evc (r_addI (by have := okS_n2 hc; omega) (by have := okS_n2 hc; omega)))) ?_
  refine net_if rfl rfl rfl rfl (fun hc => (n_bin rfl (evi rfl hc) (evi rfl hc) r_neq)) ?_
  refine net_cons rfl rfl (n_pick_or rfl (ev rfl) (fun h => (evi rfl h))) ?_
  refine net_nil fun a w1 hF hx => ?_
  replace hw := hw.next hx
  replace hF := hF.keep (.cons (t := 1) rfl (.cons (t := 2) rfl (.cons (t := 3) rfl (.cons (t := 6) rfl (.cons (t := 7) rfl (.cons (t := 31) rfl .nil))))))
  refine wpList_nil ?_
  try simp only [List.nil_append, List.cons_append, List.set_cons_zero, List.set_cons_succ] at hw
  refine wp_cond_split (hF.ev (ev rfl)) (fun h31 => ?_) (fun h31 => ?_)
  · refine wp_seq (reg_seq 2 (hF _ _) (by kernel_rfl) ?_)
    refine net_cons rfl rfl (n_move rfl (ev rfl)) ?_
    refine net_cons rfl rfl (n_assign rfl (ev rfl)) ?_
    refine net_nil fun a w1 hF hx => ?_
    replace hw := hw.next hx
    replace hF := hF.keep (.cons (t := 1) rfl (.cons (t := 2) rfl (.cons (t := 3) rfl (.cons (t := 6) rfl (.cons (t := 7) rfl (.cons (t := 31) rfl .nil))))))
    refine wpList_nil ?_
    try simp only [List.nil_append, List.cons_append, List.set_cons_zero, List.set_cons_succ] at hw
    refine wp_ret (go_then_r (ret1 hF Try.results12 rfl ?_))
    exact ⟨_, rfl, hw.ext, rfl⟩
  · obtain ⟨hz, hpo, h31⟩ := one_yes h31
    have hza := okS_all hz
    replace h31 : (n : Int) = dg + 1 := by simpa using h31
    refine wp_skip ?_
    refine wp_seq (reg_seq 1 (hF _ _) (by kernel_rfl) ?_)
    refine net_cons rfl rfl (n_assign rfl evc) ?_
    refine net_nil fun a w1 hF hx => ?_
    replace hw := hw.next hx
    replace hF := hF.keep (.cons (t := 1) rfl (.cons (t := 2) rfl (.cons (t := 3) rfl (.cons (t := 6) rfl (.cons (t := 7) rfl (.cons (t := 8) rfl (.cons (t := 31) rfl .nil)))))))
    refine wpList_nil ?_
    try simp only [List.nil_append, List.cons_append, List.set_cons_zero, List.set_cons_succ] at hw
    refine wp_seq ?_
    refine wp_seq (reg_seq 1 (hF _ _) (by kernel_rfl) ?_)
    refine net_cons rfl rfl (n_assign rfl evc) ?_
    refine net_nil fun a w1 hF hx => ?_
    replace hw := hw.next hx
    replace hF := hF.keep (.cons (t := 1) rfl (.cons (t := 2) rfl (.cons (t := 3) rfl (.cons (t := 6) rfl (.cons (t := 7) rfl (.cons (t := 8) rfl (.cons (t := 9) rfl (.cons (t := 31) rfl .nil))))))))
    refine wpList_nil ?_
    try simp only [List.nil_append, List.cons_append, List.set_cons_zero, List.set_cons_succ] at hw
    refine wp_block ?_
    replace hw := hw.addNil 31 2
    refine wp_loop_ix (α := Nat × Value) (fun ⟨i, v⟩ a w1 => FrV 89 [] [(1, .is (.slice Al m cl)) , (2, .is (.slice A n c)) , (3, .is (ptr0 b3)) , (7, .is (.bool true)) , (8, .is (v)) , (9, .is (I (i : Int)))] a ∧ Own w w1 [.blk b3 28 [B8 kd, I dp, I dg, U p, U q, U g], .row v 31 2 i (pc (oneP kd dp dg p q g m l (xs.take i)))] ∧ (i ≤ n)) (fun ⟨i, v⟩ => n - i) ((0, .slice none 0 0)) ⟨hF.keep (.cons (t := 1) rfl (.cons (t := 2) rfl (.cons (t := 3) rfl (.cons (t := 7) rfl (.cons (t := 8) rfl (.cons (t := 9) rfl (.nil))))))), hw, Nat.zero_le _⟩ ?_
    rintro ⟨i, v⟩ a w1 ⟨hF, hw, hi0⟩
    refine wp_seq ?_
    refine wp_seq (reg_seq 4 (hF _ _) (by kernel_rfl) ?_)
    refine net_cons rfl rfl (n_move rfl (ev rfl)) ?_
    refine net_cons rfl rfl (n_move rfl (ev rfl)) ?_
    refine net_cons rfl rfl (n_len rfl (ev rfl) Try.underlying63) ?_
    refine net_cons rfl rfl (n_bin rfl (ev rfl) (ev rfl) r_lssN) ?_
    refine net_nil fun a w1 hF hx => ?_
    replace hw := hw.next hx
    replace hF := hF.keep (.cons (t := 1) rfl (.cons (t := 2) rfl (.cons (t := 3) rfl (.cons (t := 7) rfl (.cons (t := 8) rfl (.cons (t := 9) rfl (.cons (t := 36) rfl .nil)))))))
    refine wpList_nil ?_
    try simp only [List.nil_append, List.cons_append, List.set_cons_zero, List.set_cons_succ] at hw
    refine wp_cond_split (hF.ev (ev rfl)) (fun h36 => ?_) (fun h36 => ?_)
    · have hi : i < n := of_bool_t h36
      obtain ⟨x, hx0⟩ := some_at hl hi
      have hF_ := hF
      have hw_ := hw
      obtain ⟨bX, oX, rfl, hcX⟩ := hR.at_ (by rw [List.length_map]; omega)
      have hF := hF_
      have hw := hw_
      refine wp_skip ?_
      refine wp_seq (wp_block ?_)
      refine wp_seq (reg_draw 12 mixed (by kernel_rfl) (hF _ _) ?_)
      refine net_cons rfl rfl (n_load rfl (ev rfl) (ldN hw (i := 0) (vs := _) rfl Try.isAgg28 Try.sizeOf28 rfl rfl)) ?_
      refine net_cons rfl rfl (n_move rfl (ev rfl)) ?_
      refine net_cons rfl rfl (n_move rfl (ev rfl)) ?_
      refine net_cons rfl rfl (n_move rfl (ev rfl)) ?_
      refine net_cons rfl rfl (n_indexS (off' := oX + (i)) rfl (ev rfl) (ev rfl) Try.underlying63 Try.sizeOf24 (by omega) (by omega)) ?_
      refine net_cons rfl rfl (n_load rfl (ev rfl) (fun w2 hx2 => ld1R hcX (map_at hx0) Try.isAgg24 (by omega) w2 (hw.ext.trans hx2))) ?_
      refine net_cons rfl rfl (n_ret rfl Try.call33 (.cons (ev rfl) (.cons (ev rfl) (.cons (ev rfl) .nil))) (fun _ hx => (PValue_c kd dp dg p q g hp hq hg m cl Al l x hlm (by omega) _ (hRl.ext (hw.ext.trans hx))))) ?_
      refine net_cons rfl rfl (n_move rfl (ev rfl)) ?_
      refine net_cons rfl rfl (n_extract rfl (ev rfl) rfl) ?_
      refine net_cons rfl rfl (n_extract rfl (ev rfl) rfl) ?_
      refine net_cons rfl rfl (n_assign rfl (ev rfl)) ?_
      refine net_cons rfl rfl (n_assign rfl (ev rfl)) ?_
      refine net_nil fun a w1 hF hx => ?_
      replace hw := hw.next hx
      replace hF := hF.keep (.cons (t := 1) rfl (.cons (t := 2) rfl (.cons (t := 3) rfl (.cons (t := 7) rfl (.cons (t := 8) rfl (.cons (t := 9) rfl (.cons (t := 10) rfl (.cons (t := 11) rfl (.cons (t := 36) rfl .nil)))))))))
      refine wpList_nil ?_
      try simp only [List.nil_append, List.cons_append, List.set_cons_zero, List.set_cons_succ] at hw
      refine wp_seq ?_
      refine wp_seq (reg_draw 11 mixed (by kernel_rfl) (hF _ _) ?_)
      refine net_cons rfl rfl (n_move rfl (ev rfl)) ?_
      refine net_cons rfl rfl (n_bin rfl (ev rfl) evc (r_eql (b := 0))) ?_
      refine net_cons rfl rfl (n_move rfl (ev rfl)) ?_
      refine net_cons rfl rfl (n_move rfl (ev rfl)) ?_
      refine net_cons rfl rfl (n_indexS (off' := oX + (i)) rfl (ev rfl) (ev rfl) Try.underlying63 Try.sizeOf24 (by omega) (by omega)) ?_
      refine net_cons rfl rfl (n_load rfl (ev rfl) (fun w2 hx2 => ld1R hcX (map_at hx0) Try.isAgg24 (by omega) w2 (hw.ext.trans hx2))) ?_
      refine net_cons rfl rfl (n_fieldAddrO (off' := 3) rfl (ev rfl) Try.runUnderlying28 rfl Try.sizeOf26 rfl) ?_
      refine net_cons rfl rfl (n_fieldAddrO (off' := 4) rfl (ev rfl) Try.runUnderlying26 rfl Try.sizeOf24 rfl) ?_
      refine net_cons rfl rfl (n_load rfl (ev rfl) (ld1 hw (i := 0) rfl Try.isAgg24 rfl)) ?_
      refine net_cons rfl rfl (n_bin rfl (ev rfl) (ev rfl) r_lssN) ?_
      refine net_cons rfl rfl (n_bin rfl (ev rfl) (ev rfl) (r_neb Try.runUnderlying4)) ?_
      refine net_nil fun a w1 hF hx => ?_
      replace hw := hw.next hx
      replace hF := hF.keep (.cons (t := 1) rfl (.cons (t := 2) rfl (.cons (t := 3) rfl (.cons (t := 7) rfl (.cons (t := 8) rfl (.cons (t := 9) rfl (.cons (t := 10) rfl (.cons (t := 11) rfl (.cons (t := 36) rfl (.cons (t := 59) rfl .nil))))))))))
      refine wpList_nil ?_
      try simp only [List.nil_append, List.cons_append, List.set_cons_zero, List.set_cons_succ] at hw
      refine wp_cond_false ((hF.ev (ev rfl)).trans (congrArg Value.bool (one_val hz hpo x))) ?_
      refine wp_skip ?_
      refine wp_region_lit ?_
      refine t_net 0 8 (by kernel_rfl) rfl hF ?_
      refine net_cons rfl rfl (n_move rfl (ev rfl)) ?_
      refine net_cons rfl rfl (n_move rfl (ev rfl)) ?_
      refine net_cons rfl rfl (n_move rfl (ev rfl)) ?_
      refine net_cons rfl rfl (n_indexS (off' := oX + (i)) rfl (ev rfl) (ev rfl) Try.underlying63 Try.sizeOf24 (by omega) (by omega)) ?_
      refine net_cons rfl rfl (n_load rfl (ev rfl) (fun w2 hx2 => ld1R hcX (map_at hx0) Try.isAgg24 (by omega) w2 (hw.ext.trans hx2))) ?_
      refine net_cons rfl rfl (n_move rfl (ev rfl)) ?_
      refine net_cons rfl rfl (n_build rfl (.cons (ev rfl) (.cons (ev rfl) .nil)) build_31_0_1) ?_
      refine net_cons rfl rfl (n_bsl sl43 rfl (.cons (ev rfl) .nil) (.cons rfl rfl .nil) rfl (by decide) (by decide)) ?_
      refine net_nil fun a w1 hF hx => ?_
      obtain ⟨b67, e67_, l67_, h67_⟩ := hF.at_ 67 _ rfl
      have hR67 := Rd.heap h67_
      replace hF := hF.now (v := .slice (some ⟨b67, 0, none⟩) (1) (1)) e67_
      replace hw := hw.next hx
      replace hF := hF.keep (.cons (t := 1) rfl (.cons (t := 2) rfl (.cons (t := 3) rfl (.cons (t := 7) rfl (.cons (t := 8) rfl (.cons (t := 9) rfl (.cons (t := 10) rfl (.cons (t := 11) rfl (.cons (t := 36) rfl (.cons (t := 59) rfl (.cons (t := 60) rfl (.cons (t := 67) rfl .nil))))))))))))
      refine t_append (i := 1) sl43 rfl rfl rfl (by decide) hF hw rfl (ev rfl) (ev rfl) hR67 rfl (one_pc [(x, (valR kd dp dg p q g m l x).1)]) (by simp only [maxLen]; omega) (by omega) fun v68 a w1 hF hw => ?_
      replace hF := hF.keep (.cons (t := 1) rfl (.cons (t := 2) rfl (.cons (t := 3) rfl (.cons (t := 7) rfl (.cons (t := 8) rfl (.cons (t := 9) rfl (.cons (t := 10) rfl (.cons (t := 11) rfl (.cons (t := 36) rfl (.cons (t := 59) rfl (.cons (t := 68) rfl .nil)))))))))))
      refine t_net 9 1 (by kernel_rfl) rfl hF ?_
      refine net_cons rfl rfl (n_assign rfl (ev rfl)) ?_
      refine net_nil fun a w1 hF hx => ?_
      replace hw := hw.next hx
      replace hF := hF.keep (.cons (t := 1) rfl (.cons (t := 2) rfl (.cons (t := 3) rfl (.cons (t := 7) rfl (.cons (t := 8) rfl (.cons (t := 9) rfl (.cons (t := 10) rfl (.cons (t := 11) rfl (.cons (t := 36) rfl (.cons (t := 59) rfl .nil))))))))))
      refine wpList_nil ?_
      try simp only [List.nil_append, List.cons_append, List.set_cons_zero, List.set_cons_succ] at hw
      refine reg_seq 3 (hF _ _) (by kernel_rfl) ?_
      refine net_cons rfl rfl (n_move rfl (ev rfl)) ?_
      refine net_cons rfl rfl (n_bin rfl (ev rfl) evc (r_inc (by omega))) ?_
      refine net_cons rfl rfl (n_assign rfl (ev rfl)) ?_
      refine net_nil fun a w1 hF hx => ?_
      replace hw := hw.next hx
      replace hF := hF.keep (.cons (t := 1) rfl (.cons (t := 2) rfl (.cons (t := 3) rfl (.cons (t := 7) rfl (.cons (t := 8) rfl (.cons (t := 9) rfl (.cons (t := 10) rfl (.cons (t := 11) rfl (.cons (t := 36) rfl (.cons (t := 59) rfl .nil))))))))))
      refine wpList_nil ?_
      try simp only [List.nil_append, List.cons_append, List.set_cons_zero, List.set_cons_succ] at hw
      exact ⟨(i + 1, v68), ⟨hF.keep (.cons (t := 1) rfl (.cons (t := 2) rfl (.cons (t := 3) rfl (.cons (t := 7) rfl (.cons (t := 8) rfl (.cons (t := 9) rfl (.nil))))))), (by rw [← oneP_snoc hx0]; exact hw), by omega⟩, (by show n - (i + 1) < n - i; omega)⟩
    · obtain rfl : n = i := by have := of_bool_f h36; omega
      rw [take_len hl] at hw
      have hF_ := hF
      have hw_ := hw
      obtain ⟨A8, c8, rfl, hle8, hR8, _⟩ := hw.rd (i := 1) rfl
      have hF := hF_
      have hw := hw_
      refine wp_exit (go_then_e (go_then_e (go_exit ?_)))
      refine wp_seq ?_
      refine wp_seq (reg_seq 6 (hF _ _) (by kernel_rfl) ?_)
      refine net_cons rfl rfl (n_fieldAddrO (off' := 3) rfl (ev rfl) Try.runUnderlying28 rfl Try.sizeOf26 rfl) ?_
      refine net_cons rfl rfl (n_fieldAddrO (off' := 4) rfl (ev rfl) Try.runUnderlying26 rfl Try.sizeOf24 rfl) ?_
      refine net_cons rfl rfl (n_load rfl (ev rfl) (ld1 hw (i := 0) rfl Try.isAgg24 rfl)) ?_
      refine net_cons rfl rfl (n_move rfl (ev rfl)) ?_
      refine net_cons rfl rfl (n_ret rfl Try.call57 (.cons (ev rfl) (.cons (ev rfl) .nil)) (fun _ hx => (Right_c q n c8 A8 (oneP kd dp dg p q g m l xs) (by rw [oneP, List.length_map, hl]) (by omega) _ (hR8.ext hx)))) ?_
      refine net_cons rfl rfl (n_not rfl (ev rfl)) ?_
      refine net_nil fun a w1 hF hx => ?_
      replace hw := hw.next hx
      replace hF := hF.keep (.cons (t := 1) rfl (.cons (t := 2) rfl (.cons (t := 3) rfl (.cons (t := 7) rfl (.cons (t := 8) rfl (.cons (t := 9) rfl (.cons (t := 36) rfl (.cons (t := 74) rfl .nil))))))))
      refine wpList_nil ?_
      try simp only [List.nil_append, List.cons_append, List.set_cons_zero, List.set_cons_succ] at hw
      refine wp_cond_split (hF.ev (ev rfl)) (fun h74 => ?_) (fun h74 => ?_)
      · refine wp_seq (reg_seq 2 (hF _ _) (by kernel_rfl) ?_)
        refine net_cons rfl rfl (n_move rfl (ev rfl)) ?_
        refine net_cons rfl rfl (n_assign rfl (ev rfl)) ?_
        refine net_nil fun a w1 hF hx => ?_
        replace hw := hw.next hx
        replace hF := hF.keep (.cons (t := 1) rfl (.cons (t := 2) rfl (.cons (t := 3) rfl (.cons (t := 6) rfl (.cons (t := 7) rfl (.cons (t := 8) rfl (.cons (t := 9) rfl (.cons (t := 36) rfl (.cons (t := 74) rfl .nil)))))))))
        refine wpList_nil ?_
        try simp only [List.nil_append, List.cons_append, List.set_cons_zero, List.set_cons_succ] at hw
        refine wp_ret (go_then_r (ret1 hF Try.results12 rfl ?_))
        exact ⟨_, rfl, hw.ext, rfl⟩
      · have hr : rightL q (oneP kd dp dg p q g m l xs) = true := by simpa using h74
        have hint := one_int hz hlm hpo hl h31 hr
        obtain ⟨_, _, hse_, _, hR8, _⟩ := hw.rd (i := 1) rfl
        injection hse_ with hA_ _ _
        subst hA_
        refine wp_skip ?_
        refine wp_seq (wp_region_lit ?_)
        refine t_net 0 3 (by kernel_rfl) rfl hF ?_
        refine net_cons rfl rfl (n_load rfl (ev rfl) (ldN hw (i := 0) (vs := _) rfl Try.isAgg28 Try.sizeOf28 rfl rfl)) ?_
        refine net_cons rfl rfl (n_move rfl (ev rfl)) ?_
        refine net_cons rfl rfl (n_ret rfl Try.call34 (.cons (ev rfl) (.cons (ev rfl) .nil)) (fun _ hx => (Interpolate_c kd dp dg p q g hp hq hg n c8 A8 (oneP kd dp dg p q g m l xs) (by rw [oneP, List.length_map, hl]) hle8 (by omega) _ (hR8.ext hx)))) ?_
        refine net_nil fun a w1 hF hx => ?_
        obtain ⟨s79, h_, hw⟩ := hw.ex hx (hF.at_ 79 _ rfl)
        replace hF := hF.now h_
        replace hF := hF.keep (.cons (t := 1) rfl (.cons (t := 2) rfl (.cons (t := 3) rfl (.cons (t := 7) rfl (.cons (t := 8) rfl (.cons (t := 9) rfl (.cons (t := 36) rfl (.cons (t := 74) rfl (.cons (t := 79) rfl .nil)))))))))
        obtain ⟨A79, c79, rfl, _, _, _⟩ := hw.rd (i := 2) rfl
        refine t_net 3 5 (by kernel_rfl) rfl hF ?_
        refine net_cons rfl rfl (n_move rfl (ev rfl)) ?_
        refine net_cons rfl rfl (n_extract rfl (ev rfl) rfl) ?_
        refine net_cons rfl rfl (n_extract rfl (ev rfl) rfl) ?_
        refine net_cons rfl rfl (n_assign rfl (ev rfl)) ?_
        refine net_cons rfl rfl (n_assign rfl (ev rfl)) ?_
        refine net_nil fun a w1 hF hx => ?_
        replace hw := hw.next hx
        replace hF := hF.keep (.cons (t := 1) rfl (.cons (t := 2) rfl (.cons (t := 3) rfl (.cons (t := 7) rfl (.cons (t := 8) rfl (.cons (t := 9) rfl (.cons (t := 12) rfl (.cons (t := 13) rfl (.cons (t := 36) rfl (.cons (t := 74) rfl .nil))))))))))
        refine wpList_nil ?_
        try simp only [List.nil_append, List.cons_append, List.set_cons_zero, List.set_cons_succ] at hw
        obtain ⟨_, _, hse_, _, hR79, _⟩ := hw.rd (i := 2) rfl
        injection hse_ with hA_ _ _
        subst hA_
        refine wp_seq (reg_seq 8 (hF _ _) (by kernel_rfl) ?_)
        refine net_cons rfl rfl (n_move rfl (ev rfl)) ?_
        refine net_cons rfl rfl (n_move rfl (ev rfl)) ?_
        refine net_if rfl rfl rfl rfl (fun hc => (n_move rfl (ev rfl))) ?_
        refine net_if rfl rfl rfl rfl (fun hc => (n_move rfl (ev rfl))) ?_
        refine net_if rfl rfl rfl rfl (fun hc => (n_move rfl (ev rfl))) ?_
        refine net_if rfl rfl rfl rfl (fun hc => (n_ret rfl Try.call59 (.cons (evi rfl hc) (.cons (evi rfl hc) (.cons (evi rfl hc) .nil))) (fun _ hx => (wordsEq_c _ c79 m cl A79 Al (intR kd dp dg p q g n (oneP kd dp dg p q g m l xs)).1 l _ (by rw [hint]) (by rw [hint]) rfl hlm (by rw [hint]; show l.length ≤ _; omega) _ (hR79.ext hx) (hRl.ext (hw.ext.trans hx)))))) ?_
        refine net_cons rfl rfl (n_pick_and rfl (ev rfl) (fun h => (evi rfl h))) ?_
        refine net_cons rfl rfl (n_assign rfl (ev rfl)) ?_
        refine net_nil fun a w1 hF hx => ?_
        replace hw := hw.next hx
        replace hF := hF.keep (.cons (t := 1) rfl (.cons (t := 2) rfl (.cons (t := 3) rfl (.cons (t := 6) rfl (.cons (t := 7) rfl (.cons (t := 8) rfl (.cons (t := 9) rfl (.cons (t := 12) rfl (.cons (t := 13) rfl (.cons (t := 36) rfl (.cons (t := 74) rfl .nil)))))))))))
        refine wpList_nil ?_
        try simp only [List.nil_append, List.cons_append, List.set_cons_zero, List.set_cons_succ] at hw
        refine wp_ret (ret1 hF Try.results12 rfl ?_)
        exact ⟨_, rfl, hw.ext, rfl⟩
end Go.Proofs.Ythgpojlcbbgaoaa

