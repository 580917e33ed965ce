/- punctured keys: the reference -/
import Derived.Test.YthgpojlcbbgaoaaPun2

set_option autoImplicit false
set_option maxRecDepth 100000
set_option linter.unusedVariables false
namespace Go.Proofs.Ythgpojlcbbgaoaa
open Go.RowKit


theorem belowN_half {y v : Nat} (hy : y < 128) (hv : 1 ≤ v) (h : v < y) : belowN (y / 2) v = belowN y v := by
  have : ∀ y v : Fin 128, 1 ≤ v.val → v.val < y.val → belowN (y.val / 2) v.val = belowN y.val v.val := by decide +kernel
  exact this ⟨y, hy⟩ ⟨v, by omega⟩ hv h
theorem belowN_le {y v : Nat} (hv : 1 ≤ v) (h : y ≤ v) : belowN y v = decide ((y : Int) = (v : Int)) := by
  rw [Bool.eq_iff_iff, belowN_iff, decide_eq_true_eq]
  constructor
  · rintro ⟨t, ht, e⟩
    have := Nat.div_le_self y (2 ^ t)
    omega
  · intro e
    exact ⟨0, by decide, by rw [Nat.pow_zero, Nat.div_one]; omega⟩


theorem below_r (x v : Nat) (hx0 : x < 128) (hv1 : 1 ≤ v) (hv2 : v < 9223372036854775808) (w : World) : RetF Try.prog 111 [I (x : Int), I (v : Int)].toArray w (.is (.bool (belowN x v))) := by
  refine enter Try.func111 rfl Try.ntmps111 rfl fun a hF => ?_
  have hw := Own.start w
  refine wp_seq (reg_seq 1 (hF _ _) (by kernel_rfl) ?_)
  refine net_cons rfl rfl (n_assign rfl evc) ?_
  refine net_nil fun a w1 hF hx => ?_
  replace hw := hw.next hx
  replace hF := hF.keep (.cons (t := 0) rfl (.cons (t := 1) rfl (.cons (t := 4) rfl .nil)))
  refine wpList_nil ?_
  refine wp_seq (wp_block ?_)
  refine wp_loop_ix (α := Nat) (fun y a w1 => FrV 13 [] [(0, .is (I (y : Int))) , (1, .is (I (v : Int)))] a ∧ Own w w1 [] ∧ (y < 128) ∧ (belowN y v = belowN x v)) (fun y => y) (x) ⟨hF.keep (.cons (t := 0) rfl (.cons (t := 1) rfl (.nil))), hw, hx0, rfl⟩ ?_
  rintro y a w1 ⟨hF, hw, hy, hb⟩
  refine wp_seq ?_
  refine wp_seq (reg_seq 3 (hF _ _) (by kernel_rfl) ?_)
  refine net_cons rfl rfl (n_move rfl (ev rfl)) ?_
  refine net_cons rfl rfl (n_move rfl (ev rfl)) ?_
  refine net_cons rfl rfl (n_bin rfl (ev rfl) (ev rfl) r_gtr) ?_
  refine net_nil fun a w1 hF hx => ?_
  replace hw := hw.next hx
  replace hF := hF.keep (.cons (t := 0) rfl (.cons (t := 1) rfl (.cons (t := 7) rfl .nil)))
  refine wpList_nil ?_
  refine wp_cond_split (hF.ev (ev rfl)) (fun h7 => ?_) (fun h7 => ?_)
  · have hlt : v < y := by have := of_decide_eq_true h7; omega
    refine wp_skip ?_
    refine wp_block ?_
    refine reg_seq 3 (hF _ _) (by kernel_rfl) ?_
    refine net_cons rfl rfl (n_move rfl (ev rfl)) ?_
    refine net_cons rfl rfl (n_bin rfl (ev rfl) evc (r_quoI (b := 2) (by decide) (by omega))) ?_
    refine net_cons rfl rfl (n_assign rfl (ev rfl)) ?_
    refine net_nil fun a w1 hF hx => ?_
    replace hw := hw.next hx
    replace hF := hF.keep (.cons (t := 0) rfl (.cons (t := 1) rfl (.cons (t := 7) rfl .nil)))
    refine wpList_nil ?_
    exact ⟨y / 2, ⟨hF.keep (.cons (t := 0) rfl (.cons (t := 1) rfl (.nil))), hw, by omega, (belowN_half hy hv1 hlt).trans hb⟩, by omega⟩
  · have hle : y ≤ v := by have := of_decide_eq_false h7; omega
    refine wp_exit (go_then_e (go_then_e (go_exit ?_)))
    refine wp_seq (reg_seq 4 (hF _ _) (by kernel_rfl) ?_)
    refine net_cons rfl rfl (n_move rfl (ev rfl)) ?_
    refine net_cons rfl rfl (n_move rfl (ev rfl)) ?_
    refine net_cons rfl rfl (n_bin rfl (ev rfl) (ev rfl) r_eql) ?_
    refine net_cons rfl rfl (n_assign rfl (ev rfl)) ?_
    refine net_nil fun a w1 hF hx => ?_
    replace hw := hw.next hx
    replace hF := hF.keep (.cons (t := 0) rfl (.cons (t := 1) rfl (.cons (t := 4) rfl (.cons (t := 7) rfl .nil))))
    refine wpList_nil ?_
    refine wp_ret (ret1 hF Try.results111 rfl ?_)
    exact ⟨_, rfl, hw.ext, (by rw [← hb, belowN_le hv1 hle]; rfl)⟩


theorem Below_c (x v : Int) (hx0 : 0 ≤ x) (hx1 : x < 128) (hv1 : 1 ≤ v) (hv2 : v < 9223372036854775808) (w : World) : RetF Try.prog 111 [I x, I v].toArray w (.is (.bool (bel x v))) := by
  obtain ⟨a, rfl⟩ := Int.eq_ofNat_of_zero_le hx0
  obtain ⟨b, rfl⟩ := Int.eq_ofNat_of_zero_le (show 0 ≤ v by omega)
  have := below_r a b (by omega) (by omega) (by omega) w
  simpa [bel] using this
theorem two_pow_i (d : Nat) : (2 : Int) * ((2 ^ d : Nat) : Int) = ((2 ^ (d + 1) : Nat) : Int) := by rw [Nat.pow_succ]; omega


theorem Node_c (d : Nat) (v : Int) (hd : d ≤ 6) (w : World) : RetF Try.prog 116 [I (d : Int), I v].toArray w (.is (.bool (decide (1 ≤ v) && decide (v < ((2 ^ (d + 1) : Nat) : Int))))) := by
  have hp := pow_le128 hd
  have hp2 := two_pow_i d
  have hp3 := Int.natCast_nonneg (2 ^ d)
  refine enter Try.func116 rfl Try.ntmps116 rfl fun a hF => ?_
  have hw := Own.start w
  refine wp_seq (reg_seq 1 (hF _ _) (by kernel_rfl) ?_)
  refine net_cons rfl rfl (n_assign rfl evc) ?_
  refine net_nil fun a w1 hF hx => ?_
  replace hw := hw.next hx
  replace hF := hF.keep (.cons (t := 0) rfl (.cons (t := 1) rfl (.cons (t := 4) rfl .nil)))
  refine wpList_nil ?_
  refine wp_seq (reg_seq 10 (hF _ _) (by kernel_rfl) ?_)
  refine net_cons rfl rfl (n_move rfl (ev rfl)) ?_
  refine net_cons rfl rfl (n_bin rfl (ev rfl) evc (r_geq (b := 1))) ?_
  refine net_cons rfl rfl (n_move rfl (ev rfl)) ?_
  refine net_if rfl rfl rfl rfl (fun hc => (n_move rfl (ev rfl))) ?_
  refine net_if rfl rfl rfl rfl (fun hc => (n_move rfl (ev rfl))) ?_
  refine net_if rfl rfl rfl rfl (fun hc => (n_ret rfl Try.call66 (.cons (evi rfl hc) .nil) (fun _ hx => (Receivers_c (d : Int) (by omega) (by omega) _)))) ?_
  refine net_if rfl rfl rfl rfl (fun hc => (n_to (v' := I ((2 ^ (d + 1) : Nat) : Int)) (n_bin rfl evc (evi rfl hc) (r_mulI (by simp only [Int.toNat_natCast]; omega) (by simp only [Int.toNat_natCast]; omega))) (congrArg (Value.int .i64) (by simp only [Int.toNat_natCast]; omega)))) ?_
  refine net_if rfl rfl rfl rfl (fun hc => (n_bin rfl (evi rfl hc) (evi rfl hc) r_lss)) ?_
  refine net_cons rfl rfl (n_pick_and rfl (ev rfl) (fun h => (evi rfl h))) ?_
  refine net_cons rfl rfl (n_assign rfl (ev rfl)) ?_
  refine net_nil fun a w1 hF hx => ?_
  replace hw := hw.next hx
  replace hF := hF.keep (.cons (t := 4) rfl .nil)
  refine wpList_nil ?_
  refine wp_ret (ret1 hF Try.results116 rfl ?_)
  exact ⟨_, rfl, hw.ext, rfl⟩


def downL (l : Nat) : Nat → List Nat
  | 0 => []
  | s + 1 => l / 2 ^ s :: downL l s
theorem downL_len (l : Nat) : ∀ s, (downL l s).length = s
  | 0 => rfl
  | s + 1 => by rw [downL, List.length_cons, downL_len]
theorem downL_at (l : Nat) : ∀ s i, i < s → (downL l s)[i]? = some (l / 2 ^ (s - 1 - i))
  | 0, i, h => absurd h (Nat.not_lt_zero _)
  | s + 1, 0, h => by simp [downL]
  | s + 1, i + 1, h => by
    rw [downL, List.getElem?_cons_succ, downL_at l s i (by omega), show s + 1 - 1 - (i + 1) = s - 1 - i by omega]
abbrev iv (n : Nat) : Value := I (n : Int)
theorem anc_same {l s T : Nat} (h1 : 1 ≤ l / 2 ^ T) (hs : s ≤ T) (h : l / 2 ^ s = l / 2 ^ T) : s = T := by
  have e : l / 2 ^ T = l / 2 ^ s / 2 ^ (T - s) := by rw [Nat.div_div_eq_div_mul, ← Nat.pow_add, show s + (T - s) = T by omega]
  have := anc_zero (l := l / 2 ^ s) (T := T - s) (by omega) (by rw [← e, h])
  omega
theorem anc_lt {l s T : Nat} (hs : s ≤ T) (h : ¬ l / 2 ^ s = l / 2 ^ T) : s < T := by
  rcases Nat.lt_or_ge s T with h1 | h1
  · exact h1
  · exact absurd (by rw [show s = T by omega]) h
theorem one_iv (l : List Nat) : ∀ u ∈ l.map iv, u.oneCell' = true := by
  intro u hu
  obtain ⟨z, _, rfl⟩ := List.mem_map.1 hu
  rfl


theorem Path_c (l T v : Nat) (hl : l < 128) (hT : T ≤ 7) (hv : l / 2 ^ T = v) (hv1 : 1 ≤ v) (w : World) : RetF Try.prog 113 [I (v : Int), I (l : Int)].toArray w (.ex 3 1 (T + 1) ((downL l (T + 1)).map iv) (fun v => v)) := by
  subst hv
  refine enter Try.func113 rfl Try.ntmps113 rfl fun a hF => ?_
  have hw := Own.start w
  refine wp_seq (reg_seq 1 (hF _ _) (by kernel_rfl) ?_)
  refine net_cons rfl rfl (n_assign rfl evc) ?_
  refine net_nil fun a w1 hF hx => ?_
  replace hw := hw.next hx
  replace hF := hF.keep (.cons (t := 0) rfl (.cons (t := 1) rfl (.cons (t := 4) rfl .nil)))
  refine wpList_nil ?_
  refine wp_seq (reg_seq 1 (hF _ _) (by kernel_rfl) ?_)
  refine net_cons rfl rfl (n_assign rfl evc) ?_
  refine net_nil fun a w1 hF hx => ?_
  replace hw := hw.next hx
  replace hF := hF.keep (.cons (t := 0) rfl (.cons (t := 1) rfl (.cons (t := 4) rfl (.cons (t := 5) rfl .nil))))
  refine wpList_nil ?_
  refine wp_seq (wp_block ?_)
  replace hw := hw.addNil 3 1
  refine wp_loop_ix (α := Nat × Value) (fun ⟨s, v⟩ a w1 => FrV 19 [] [(0, .is (I ((l / 2 ^ T : Nat) : Int))) , (1, .is (I ((l / 2 ^ s : Nat) : Int))) , (5, .is (v))] a ∧ Own w w1 [.row v 3 1 s ((downL l s).map iv)] ∧ (s ≤ T)) (fun ⟨s, v⟩ => T - s) ((0, .slice none 0 0)) ⟨(by simpa using hF.keep (.cons (t := 0) rfl (.cons (t := 1) rfl (.cons (t := 5) rfl .nil)))), hw, Nat.zero_le _⟩ ?_
  rintro ⟨s, v⟩ a w1 ⟨hF, hw, hi0⟩
  refine wp_seq ?_
  refine wp_seq (reg_seq 3 (hF _ _) (by kernel_rfl) ?_)
  refine net_cons rfl rfl (n_move rfl (ev rfl)) ?_
  refine net_cons rfl rfl (n_move rfl (ev rfl)) ?_
  refine net_cons rfl rfl (n_bin rfl (ev rfl) (ev rfl) r_neq) ?_
  refine net_nil fun a w1 hF hx => ?_
  replace hw := hw.next hx
  replace hF := hF.keep (.cons (t := 0) rfl (.cons (t := 1) rfl (.cons (t := 5) rfl (.cons (t := 8) rfl .nil))))
  refine wpList_nil ?_
  refine wp_cond_split (hF.ev (ev rfl)) (fun h8 => ?_) (fun h8 => ?_)
  · have hi : s < T := anc_lt hi0 (ne_decI h8)
    refine wp_skip ?_
    refine wp_block ?_
    refine wp_seq (wp_region_lit ?_)
    refine t_net 0 2 (by kernel_rfl) rfl hF ?_
    refine net_cons rfl rfl (n_move rfl (ev rfl)) ?_
    refine net_cons rfl rfl (n_bsl sl41 rfl (.cons (ev rfl) .nil) (.cons rfl rfl .nil) rfl (by decide) (by decide)) ?_
    refine net_nil fun a w1 hF hx => ?_
    obtain ⟨b10, h_, hw⟩ := hw.cap hx (hF.at_ 10 _ rfl)
    replace hF := hF.now (v := .slice (some ⟨b10, 0, none⟩) (1) (1)) h_
    replace hF := hF.keep (.cons (t := 0) rfl (.cons (t := 1) rfl (.cons (t := 5) rfl (.cons (t := 8) rfl (.cons (t := 10) rfl .nil)))))
    refine t_net 2 1 (by kernel_rfl) rfl hF ?_
    refine net_cons rfl rfl (n_move rfl (ev rfl)) ?_
    refine net_nil fun a w1 hF hx => ?_
    replace hw := hw.next hx
    replace hF := hF.keep (.cons (t := 0) rfl (.cons (t := 1) rfl (.cons (t := 5) rfl (.cons (t := 8) rfl (.cons (t := 10) rfl (.cons (t := 11) rfl .nil))))))
    obtain ⟨A5, c5, rfl, hc5, hR5, hl5⟩ := hw.rd (i := 0) rfl
    replace hw := hw.blkRow (i := 1) (sz := 1) (n := 1) (by rfl) (by rfl) (by decide)
    refine t_append (i := 1) sl41 rfl rfl rfl (by decide) hF hw rfl (ev rfl) (ev rfl) hR5 hl5 (one_iv _) (by simp only [maxLen]; omega) (by omega) fun v12 a w1 hF hw => ?_
    replace hF := hF.keep (.cons (t := 0) rfl (.cons (t := 1) rfl (.cons (t := 5) rfl (.cons (t := 8) rfl (.cons (t := 12) rfl .nil)))))
    replace hw := hw.drop (.cons _ (.cons_cons _ .slnil))
    refine t_net 4 1 (by kernel_rfl) rfl hF ?_
    refine net_cons rfl rfl (n_assign rfl (ev rfl)) ?_
    refine net_nil fun a w1 hF hx => ?_
    replace hw := hw.next hx
    replace hF := hF.keep (.cons (t := 0) rfl (.cons (t := 1) rfl (.cons (t := 5) rfl (.cons (t := 8) rfl .nil))))
    refine wpList_nil ?_
    refine reg_seq 3 (hF _ _) (by kernel_rfl) ?_
    refine net_cons rfl rfl (n_move rfl (ev rfl)) ?_
    refine net_cons rfl rfl (n_to (v' := I ((l / 2 ^ (s + 1) : Nat) : Int)) (n_bin rfl (ev rfl) evc (r_quoI (b := 2) (by decide) (by have := Nat.div_le_self l (2 ^ s); omega))) (congrArg (Value.int .i64) (by rw [Nat.pow_succ, ← Nat.div_div_eq_div_mul]))) ?_
    refine net_cons rfl rfl (n_assign rfl (ev rfl)) ?_
    refine net_nil fun a w1 hF hx => ?_
    replace hw := hw.next hx
    replace hF := hF.keep (.cons (t := 0) rfl (.cons (t := 1) rfl (.cons (t := 5) rfl (.cons (t := 8) rfl .nil))))
    refine wpList_nil ?_
    exact ⟨(s + 1, v12), ⟨hF.keep (.cons (t := 0) rfl (.cons (t := 1) rfl (.cons (t := 5) rfl (.nil)))), (by rw [Nat.add_comm 1 s] at hw; exact hw), by omega⟩, (by show T - (s + 1) < T - s; omega)⟩
  · obtain rfl : s = T := anc_same hv1 hi0 (eq_decI h8)
    refine wp_exit (go_then_e (go_then_e (go_exit ?_)))
    refine wp_seq (wp_region_lit ?_)
    refine t_net 0 2 (by kernel_rfl) rfl hF ?_
    refine net_cons rfl rfl (n_move rfl (ev rfl)) ?_
    refine net_cons rfl rfl (n_bsl sl41 rfl (.cons (ev rfl) .nil) (.cons rfl rfl .nil) rfl (by decide) (by decide)) ?_
    refine net_nil fun a w1 hF hx => ?_
    obtain ⟨b16, h_, hw⟩ := hw.cap hx (hF.at_ 16 _ rfl)
    replace hF := hF.now (v := .slice (some ⟨b16, 0, none⟩) (1) (1)) h_
    replace hF := hF.keep (.cons (t := 0) rfl (.cons (t := 1) rfl (.cons (t := 5) rfl (.cons (t := 8) rfl (.cons (t := 16) rfl .nil)))))
    refine t_net 2 1 (by kernel_rfl) rfl hF ?_
    refine net_cons rfl rfl (n_move rfl (ev rfl)) ?_
    refine net_nil fun a w1 hF hx => ?_
    replace hw := hw.next hx
    replace hF := hF.keep (.cons (t := 0) rfl (.cons (t := 1) rfl (.cons (t := 5) rfl (.cons (t := 8) rfl (.cons (t := 16) rfl (.cons (t := 17) rfl .nil))))))
    obtain ⟨A5, c5, rfl, hc5, hR5, hl5⟩ := hw.rd (i := 0) rfl
    replace hw := hw.blkRow (i := 1) (sz := 1) (n := 1) (by rfl) (by rfl) (by decide)
    refine t_append (i := 1) sl41 rfl rfl rfl (by decide) hF hw rfl (ev rfl) (ev rfl) hR5 hl5 (one_iv _) (by simp only [maxLen]; omega) (by omega) fun v18 a w1 hF hw => ?_
    replace hF := hF.keep (.cons (t := 0) rfl (.cons (t := 1) rfl (.cons (t := 5) rfl (.cons (t := 8) rfl (.cons (t := 18) rfl .nil)))))
    replace hw := hw.drop (.cons _ (.cons_cons _ .slnil))
    refine t_net 4 1 (by kernel_rfl) rfl hF ?_
    refine net_cons rfl rfl (n_assign rfl (ev rfl)) ?_
    refine net_nil fun a w1 hF hx => ?_
    replace hw := hw.next hx
    replace hF := hF.keep (.cons (t := 0) rfl (.cons (t := 1) rfl (.cons (t := 4) rfl (.cons (t := 5) rfl (.cons (t := 8) rfl .nil)))))
    refine wpList_nil ?_
    refine wp_ret (ret1 hF Try.results113 rfl ?_)
    rw [Nat.add_comm 1 s] at hw
    exact ⟨_, rfl, hw.ext, v18, hw.row (i := 0) rfl, rfl⟩

theorem child_c (k : Key) (v : Nat) (hv : v < 128) (w : World) : RetF Try.prog 142 [K k, I (v : Int)].toArray w (.is (K (chK k v))) := by
  refine enter Try.func142 rfl Try.ntmps142 rfl fun a hF => ?_
  have hw := Own.start w
  refine wp_seq (wp_region_lit ?_)
  refine t_net 0 1 (by kernel_rfl) rfl hF ?_
  refine net_cons rfl rfl (n_box rfl (ev rfl) rfl) ?_
  refine net_nil fun a w1 hF hx => ?_
  obtain ⟨b2, h_, hw⟩ := hw.blk hx (hF.at_ 2 _ rfl)
  replace hF := hF.now h_
  replace hF := hF.keep (.cons (t := 1) rfl (.cons (t := 2) rfl .nil))
  refine t_net 1 1 (by kernel_rfl) rfl hF ?_
  refine net_cons rfl rfl (n_alloc rfl Try.zeroValue23 rfl) ?_
  refine net_nil fun a w1 hF hx => ?_
  obtain ⟨b4, h_, hw⟩ := hw.blk hx (hF.at_ 4 _ rfl)
  replace hF := hF.now h_
  replace hF := hF.keep (.cons (t := 1) rfl (.cons (t := 2) rfl (.cons (t := 4) rfl .nil)))
  refine wpList_nil ?_
  refine wp_seq ?_
  refine wp_seq (reg_seq 3 (hF _ _) (by kernel_rfl) ?_)
  refine net_cons rfl rfl (n_move rfl (ev rfl)) ?_
  refine net_cons rfl rfl (n_to (v' := I ((v % 2 : Nat) : Int)) (n_bin rfl (ev rfl) evc (r_rem (by decide))) (congrArg (Value.int .i64) (by rw [Int.tmod_eq_emod_of_nonneg (Int.natCast_nonneg _)]; omega))) ?_
  refine net_cons rfl rfl (n_bin rfl (ev rfl) evc (r_eql (b := 0))) ?_
  refine net_nil fun a w1 hF hx => ?_
  replace hw := hw.next hx
  replace hF := hF.keep (.cons (t := 2) rfl (.cons (t := 4) rfl (.cons (t := 7) rfl .nil)))
  refine wpList_nil ?_
  refine wp_cond_split (hF.ev (ev rfl)) (fun h7 => ?_) (fun h7 => ?_)
  · have hz : v % 2 = 0 := by have := of_decide_eq_true h7; omega
    refine wp_seq (wp_region_lit ?_)
    refine t_net 0 2 (by kernel_rfl) rfl hF ?_
    refine net_cons rfl rfl (n_load rfl (ev rfl) (ldN hw (i := 0) (vs := _) rfl Try.isAgg23 Try.sizeOf23 (kc_len _) (cut_whole (kc_len _)))) ?_
    refine net_cons rfl rfl (n_ret rfl Try.call85 (.cons (ev rfl) (.cons evc (.cons evc .nil))) (fun _ hx => (rDerive_c k 31 0 (by decide) (by decide) _))) ?_
    refine net_nil fun a w1 hF hx => ?_
    replace hw := hw.next hx
    replace hF := hF.keep (.cons (t := 2) rfl (.cons (t := 4) rfl (.cons (t := 7) rfl (.cons (t := 9) rfl .nil))))
    refine t_store (i := 1) rfl rfl rfl hF hw rfl (ev rfl) (ev rfl) rfl (kc_one _) Try.sizeOf23 (kc_len _) (by first | decide | (rw [kc_len]; decide)) (seg_whole (by rw [kc_len]; rfl)) fun w1 hw => ?_
    refine wpList_nil ?_
    refine wp_ret (go_then_r (retc hF Try.results142 rfl (ldN hw (i := 1) (vs := _) rfl Try.isAgg23 Try.sizeOf23 (kc_len _) (cut_whole (kc_len _)) _ (Ext.refl _)) ?_))
    exact ⟨_, rfl, hw.ext, (by rw [chK, hz]; rfl)⟩
  · have hz : v % 2 = 1 := by have := of_decide_eq_false h7; omega
    refine wp_skip ?_
    refine wp_seq (wp_region_lit ?_)
    refine t_net 0 2 (by kernel_rfl) rfl hF ?_
    refine net_cons rfl rfl (n_load rfl (ev rfl) (ldN hw (i := 0) (vs := _) rfl Try.isAgg23 Try.sizeOf23 (kc_len _) (cut_whole (kc_len _)))) ?_
    refine net_cons rfl rfl (n_ret rfl Try.call85 (.cons (ev rfl) (.cons evc (.cons evc .nil))) (fun _ hx => (rDerive_c k 32 0 (by decide) (by decide) _))) ?_
    refine net_nil fun a w1 hF hx => ?_
    replace hw := hw.next hx
    replace hF := hF.keep (.cons (t := 2) rfl (.cons (t := 4) rfl (.cons (t := 7) rfl (.cons (t := 11) rfl .nil))))
    refine t_store (i := 1) rfl rfl rfl hF hw rfl (ev rfl) (ev rfl) rfl (kc_one _) Try.sizeOf23 (kc_len _) (by first | decide | (rw [kc_len]; decide)) (seg_whole (by rw [kc_len]; rfl)) fun w1 hw => ?_
    refine wpList_nil ?_
    refine wp_ret (retc hF Try.results142 rfl (ldN hw (i := 1) (vs := _) rfl Try.isAgg23 Try.sizeOf23 (kc_len _) (cut_whole (kc_len _)) _ (Ext.refl _)) ?_)
    exact ⟨_, rfl, hw.ext, (by rw [chK, hz]; rfl)⟩

theorem NodeKey_c (k : Key) (l T v : Nat) (hl : l < 128) (hT : T ≤ 7) (hv : l / 2 ^ T = v) (hv1 : 1 ≤ v) (w : World) : RetF Try.prog 114 [K k, I (v : Int), I (l : Int)].toArray w (.is (K (walkK l T k))) := by
  refine enter Try.func114 rfl Try.ntmps114 rfl fun a hF => ?_
  have hw := Own.start w
  refine wp_seq (wp_region_lit ?_)
  refine t_net 0 1 (by kernel_rfl) rfl hF ?_
  refine net_cons rfl rfl (n_box rfl (ev rfl) rfl) ?_
  refine net_nil fun a w1 hF hx => ?_
  obtain ⟨b3, h_, hw⟩ := hw.blk hx (hF.at_ 3 _ rfl)
  replace hF := hF.now h_
  replace hF := hF.keep (.cons (t := 1) rfl (.cons (t := 2) rfl (.cons (t := 3) rfl .nil)))
  refine t_net 1 1 (by kernel_rfl) rfl hF ?_
  refine net_cons rfl rfl (n_alloc rfl Try.zeroValue23 rfl) ?_
  refine net_nil fun a w1 hF hx => ?_
  obtain ⟨b6, h_, hw⟩ := hw.blk hx (hF.at_ 6 _ rfl)
  replace hF := hF.now h_
  replace hF := hF.keep (.cons (t := 1) rfl (.cons (t := 2) rfl (.cons (t := 3) rfl (.cons (t := 6) rfl .nil))))
  refine wpList_nil ?_
  refine wp_seq (reg_seq 4 (hF _ _) (by kernel_rfl) ?_)
  refine net_cons rfl rfl (n_move rfl (ev rfl)) ?_
  refine net_cons rfl rfl (n_move rfl (ev rfl)) ?_
  refine net_cons rfl rfl (n_ret rfl Try.call113 (.cons (ev rfl) (.cons (ev rfl) .nil)) (fun _ hx => (Path_c l T v hl hT hv hv1 _))) ?_
  refine net_cons rfl rfl (n_assignF rfl rfl) ?_
  refine net_nil fun a w1 hF hx => ?_
  obtain ⟨s7, h_, hw⟩ := hw.ex hx (hF.at_ 7 _ rfl)
  replace hF := hF.now h_
  replace hF := hF.keep (.cons (t := 3) rfl (.cons (t := 6) rfl (.cons (t := 7) rfl .nil)))
  obtain ⟨A7, c7, rfl, _, _, _⟩ := hw.rd (i := 2) rfl
  refine wpList_nil ?_
  refine wp_seq ?_
  refine wp_seq (reg_seq 1 (hF _ _) (by kernel_rfl) ?_)
  refine net_cons rfl rfl (n_assign rfl evc) ?_
  refine net_nil fun a w1 hF hx => ?_
  replace hw := hw.next hx
  replace hF := hF.keep (.cons (t := 3) rfl (.cons (t := 6) rfl (.cons (t := 7) rfl (.cons (t := 8) rfl .nil))))
  refine wpList_nil ?_
  refine wp_block ?_
  refine wp_loop_ix (α := Nat × Key) (fun ⟨s, k'⟩ a w1 => FrV 25 [] [(3, .is (ptr0 b3)) , (6, .is (ptr0 b6)) , (7, .is (.slice A7 (T + 1) c7)) , (8, .is (I ((T - s + 1 : Nat) : Int)))] a ∧ Own w w1 [.blk b3 23 (kc k'), .blk b6 23 (kc key0), .row (.slice A7 (T + 1) c7) 3 1 (T + 1) ((downL l (T + 1)).map iv)] ∧ (s ≤ T) ∧ (walkK l s k' = walkK l T k)) (fun ⟨s, k'⟩ => s) ((T, k)) ⟨(by simpa using hF.keep (.cons (t := 3) rfl (.cons (t := 6) rfl (.cons (t := 7) rfl (.cons (t := 8) rfl .nil))))), hw, Nat.le_refl _, rfl⟩ ?_
  rintro ⟨s, k'⟩ a w1 ⟨hF, hw, hs, hk⟩
  refine wp_seq ?_
  refine wp_seq (reg_seq 4 (hF _ _) (by kernel_rfl) ?_)
  refine net_cons rfl rfl (n_move rfl (ev rfl)) ?_
  refine net_cons rfl rfl (n_move rfl (ev rfl)) ?_
  refine net_cons rfl rfl (n_len rfl (ev rfl) Try.underlying41) ?_
  refine net_cons rfl rfl (n_bin rfl (ev rfl) (ev rfl) r_lssN) ?_
  refine net_nil fun a w1 hF hx => ?_
  replace hw := hw.next hx
  replace hF := hF.keep (.cons (t := 3) rfl (.cons (t := 6) rfl (.cons (t := 7) rfl (.cons (t := 8) rfl (.cons (t := 15) rfl .nil)))))
  refine wpList_nil ?_
  refine wp_cond_split (hF.ev (ev rfl)) (fun h15 => ?_) (fun h15 => ?_)
  · have hs1 : 1 ≤ s := by have := of_bool_t h15; omega
    obtain ⟨s, rfl⟩ : ∃ m, s = m + 1 := ⟨s - 1, by omega⟩
    have e1 : T - (s + 1) + 1 = T - s := by omega
    rw [e1] at hF
    have hx0 := downL_at l (T + 1) (T - s) (by omega)
    rw [show T + 1 - 1 - (T - s) = s by omega] at hx0
    have hls := Nat.lt_of_le_of_lt (Nat.div_le_self l (2 ^ s)) hl
    obtain ⟨_, _, hA7, _, hR7, _⟩ := hw.rd (i := 2) rfl
    injection hA7 with hA7 _ _
    subst hA7
    have hF_ := hF
    have hw_ := hw
    obtain ⟨bX, oX, rfl, hcX⟩ := hR7.at_ (by rw [List.length_map, downL_len]; omega)
    have hF := hF_
    have hw := hw_
    refine wp_skip ?_
    refine wp_seq (wp_block ?_)
    refine reg_draw 6 mixed (by kernel_rfl) (hF _ _) ?_
    refine net_cons rfl rfl (n_load rfl (ev rfl) (ldN hw (i := 0) (vs := _) rfl Try.isAgg23 Try.sizeOf23 (kc_len _) (cut_whole (kc_len _)))) ?_
    refine net_cons rfl rfl (n_move rfl (ev rfl)) ?_
    refine net_cons rfl rfl (n_move rfl (ev rfl)) ?_
    refine net_cons rfl rfl (n_indexS (off' := oX + (T - s)) rfl (ev rfl) (ev rfl) Try.underlying41 Try.sizeOf3 (by omega) (by omega)) ?_
    refine net_cons rfl rfl (n_load rfl (ev rfl) (fun w2 hx2 => ld1R hcX (map_at (f := iv) hx0) Try.isAgg3 (by omega) w2 hx2)) ?_
    refine net_cons rfl rfl (n_ret rfl Try.call142 (.cons (ev rfl) (.cons (ev rfl) .nil)) (fun _ hx => child_c _ _ (by omega) _)) ?_
    refine net_nil fun a w1 hF hx => ?_
    replace hw := hw.next hx
    replace hF := hF.keep (.cons (t := 3) rfl (.cons (t := 6) rfl (.cons (t := 7) rfl (.cons (t := 8) rfl (.cons (t := 15) rfl (.cons (t := 23) rfl .nil))))))
    refine t_store (i := 0) rfl rfl rfl hF hw rfl (ev rfl) (ev rfl) rfl (kc_one _) Try.sizeOf23 (kc_len _) (by first | decide | (rw [kc_len]; decide)) (seg_whole (by rw [kc_len]; rfl)) fun w1 hw => ?_
    refine wpList_nil ?_
    refine reg_seq 3 (hF _ _) (by kernel_rfl) ?_
    refine net_cons rfl rfl (n_move rfl (ev rfl)) ?_
    refine net_cons rfl rfl (n_to (v' := I ((T - s + 1 : Nat) : Int)) (n_bin rfl (ev rfl) evc (r_inc (by omega))) (congrArg (Value.int .i64) (by omega))) ?_
    refine net_cons rfl rfl (n_assign rfl (ev rfl)) ?_
    refine net_nil fun a w1 hF hx => ?_
    replace hw := hw.next hx
    replace hF := hF.keep (.cons (t := 3) rfl (.cons (t := 6) rfl (.cons (t := 7) rfl (.cons (t := 8) rfl (.cons (t := 15) rfl (.cons (t := 23) rfl .nil))))))
    refine wpList_nil ?_
    exact ⟨(s, chK k' (l / 2 ^ s)), ⟨hF.keep (.cons (t := 3) rfl (.cons (t := 6) rfl (.cons (t := 7) rfl (.cons (t := 8) rfl (.nil))))), hw, by omega, hk⟩, (by show s < s + 1; omega)⟩
  · obtain rfl : s = 0 := by have := of_bool_f h15; omega
    rw [walkK] at hk
    refine wp_exit (go_then_e (go_then_e (go_exit ?_)))
    refine wp_seq (wp_region_lit ?_)
    refine t_net 0 1 (by kernel_rfl) rfl hF ?_
    refine net_cons rfl rfl (n_load rfl (ev rfl) (ldN hw (i := 0) (vs := _) rfl Try.isAgg23 Try.sizeOf23 (kc_len _) (cut_whole (kc_len _)))) ?_
    refine net_nil fun a w1 hF hx => ?_
    replace hw := hw.next hx
    replace hF := hF.keep (.cons (t := 3) rfl (.cons (t := 6) rfl (.cons (t := 7) rfl (.cons (t := 8) rfl (.cons (t := 15) rfl (.cons (t := 24) rfl .nil))))))
    refine t_store (i := 1) rfl rfl rfl hF hw rfl (ev rfl) (ev rfl) rfl (kc_one _) Try.sizeOf23 (kc_len _) (by first | decide | (rw [kc_len]; decide)) (seg_whole (by rw [kc_len]; rfl)) fun w1 hw => ?_
    refine wpList_nil ?_
    refine wp_ret (retc hF Try.results114 rfl (ldN hw (i := 1) (vs := _) rfl Try.isAgg23 Try.sizeOf23 (kc_len _) (cut_whole (kc_len _)) _ (Ext.refl _)) ?_)
    exact ⟨_, rfl, hw.ext, (by rw [← hk]; rfl)⟩
end Go.Proofs.Ythgpojlcbbgaoaa

