/- punctured keys: the law -/
import Derived.Test.YthgpojlcbbgaoaaPun5

set_option autoImplicit false
set_option maxRecDepth 100000
set_option linter.unusedVariables false
namespace Go.Proofs.Ythgpojlcbbgaoaa
open Go.RowKit

theorem TwinP_c (d : Int) (n c : Nat) (A : Option Addr) (L : List Lab) (hl : L.length = n) (hn : n ≤ 4398046511000) (w : World) (hR : Rd w A (L.flatMap lc)) : RetF Try.prog 44 [PuV d (.slice A n c)].toArray w (.ex 95 18 n (L.flatMap lc) (fun v => PuV d v)) := by
  refine enter Try.func44 rfl Try.ntmps44 rfl fun a hF => ?_
  have hw := Own.start w
  refine wp_seq (wp_region_lit ?_)
  refine t_net 0 1 (by kernel_rfl) rfl hF ?_
  refine net_cons rfl rfl (n_box rfl (ev rfl) rfl) ?_
  refine net_nil fun a w1 hF hx => ?_
  obtain ⟨b1, h_, hw⟩ := hw.blk hx (hF.at_ 1 _ rfl)
  replace hF := hF.now h_
  replace hF := hF.keep (.cons (t := 1) rfl .nil)
  refine t_net 1 1 (by kernel_rfl) rfl hF ?_
  refine net_cons rfl rfl (n_alloc rfl Try.zeroValue83 rfl) ?_
  refine net_nil fun a w1 hF hx => ?_
  obtain ⟨b2, h_, hw⟩ := hw.blk hx (hF.at_ 2 _ rfl)
  replace hF := hF.now h_
  replace hF := hF.keep (.cons (t := 1) rfl (.cons (t := 2) rfl .nil))
  refine wpList_nil ?_
  refine wp_seq (wp_region_lit ?_)
  refine t_net 0 2 (by kernel_rfl) rfl hF ?_
  refine net_cons rfl rfl (n_fieldAddrO (off' := 1) rfl (ev rfl) Try.runUnderlying83 rfl Try.sizeOf29 rfl) ?_
  refine net_cons rfl rfl (n_load rfl (ev rfl) (ld1 hw (i := 0) rfl Try.isAgg29 rfl)) ?_
  refine net_nil fun a w1 hF hx => ?_
  replace hw := hw.next hx
  replace hF := hF.keep (.cons (t := 1) rfl (.cons (t := 2) rfl (.cons (t := 4) rfl .nil)))
  replace hw := hw.addNil 95 18
  refine t_append (i := 2) sl29 rfl rfl rfl (by decide) hF hw rfl evc (ev rfl) (hR.ext hw.ext) (by rw [fm_len lc_len, hl]) (one_lc L) (by simp only [maxLen]; omega) (by omega) fun v5 a w1 hF hw => ?_
  replace hF := hF.keep (.cons (t := 1) rfl (.cons (t := 2) rfl (.cons (t := 5) rfl .nil)))
  rw [Nat.zero_add, List.nil_append] at hw
  obtain ⟨A5, c5, rfl, _, _, _⟩ := hw.rd (i := 2) rfl
  refine t_net 3 1 (by kernel_rfl) rfl hF ?_
  refine net_cons rfl rfl (n_fieldAddrO (off' := 1) rfl (ev rfl) Try.runUnderlying83 rfl Try.sizeOf29 rfl) ?_
  refine net_nil fun a w1 hF hx => ?_
  replace hw := hw.next hx
  replace hF := hF.keep (.cons (t := 1) rfl (.cons (t := 2) rfl (.cons (t := 5) rfl (.cons (t := 6) rfl .nil))))
  refine t_store (i := 0) rfl rfl rfl hF hw rfl (ev rfl) (ev rfl) rfl one1 Try.sizeOf29 rfl (Nat.le_of_ble_eq_true rfl) rfl fun w1 hw => ?_
  refine wpList_nil ?_
  refine wp_seq (wp_region_lit ?_)
  refine t_net 0 1 (by kernel_rfl) rfl hF ?_
  refine net_cons rfl rfl (n_load rfl (ev rfl) (ldN hw (i := 0) (vs := _) rfl Try.isAgg83 Try.sizeOf83 rfl rfl)) ?_
  refine net_nil fun a w1 hF hx => ?_
  replace hw := hw.next hx
  replace hF := hF.keep (.cons (t := 1) rfl (.cons (t := 2) rfl (.cons (t := 5) rfl (.cons (t := 6) rfl (.cons (t := 7) rfl .nil)))))
  refine t_store (i := 1) rfl rfl rfl hF hw rfl (ev rfl) (ev rfl) rfl one_pu Try.sizeOf83 rfl (Nat.le_of_ble_eq_true rfl) rfl fun w1 hw => ?_
  refine wpList_nil ?_
  refine wp_ret (retc hF Try.results44 rfl (ldN hw (i := 1) (vs := _) rfl Try.isAgg83 Try.sizeOf83 rfl rfl _ (Ext.refl _)) ?_)
  exact ⟨_, rfl, hw.ext, _, hw.row (i := 2) rfl, rfl⟩

theorem SameP_c (d : Int) (n c c2 : Nat) (A A2 : Option Addr) (l : List Lab) (hl : l.length = n) (hn : n ≤ 9223372036854775800) (w : World) (hR : Rd w A (l.flatMap lc)) (hR2 : Rd w A2 (l.flatMap lc)) : RetF Try.prog 47 [PuV d (.slice A n c), PuV d (.slice A2 n c2)].toArray w (.is (.bool true)) := by
  refine enter Try.func47 rfl Try.ntmps47 rfl fun a hF => ?_
  have hw := Own.start w
  refine wp_seq (wp_region_lit ?_)
  refine t_net 0 1 (by kernel_rfl) rfl hF ?_
  refine net_cons rfl rfl (n_box rfl (ev rfl) rfl) ?_
  refine net_nil fun a w1 hF hx => ?_
  obtain ⟨b2, h_, hw⟩ := hw.blk hx (hF.at_ 2 _ rfl)
  replace hF := hF.now h_
  replace hF := hF.keep (.cons (t := 1) rfl (.cons (t := 2) rfl .nil))
  refine t_net 1 1 (by kernel_rfl) rfl hF ?_
  refine net_cons rfl rfl (n_box rfl (ev rfl) rfl) ?_
  refine net_nil fun a w1 hF hx => ?_
  obtain ⟨b3, h_, hw⟩ := hw.blk hx (hF.at_ 3 _ rfl)
  replace hF := hF.now h_
  replace hF := hF.keep (.cons (t := 2) rfl (.cons (t := 3) rfl .nil))
  refine t_net 2 1 (by kernel_rfl) rfl hF ?_
  refine net_cons rfl rfl (n_assign rfl evc) ?_
  refine net_nil fun a w1 hF hx => ?_
  replace hw := hw.next hx
  replace hF := hF.keep (.cons (t := 2) rfl (.cons (t := 3) rfl (.cons (t := 4) rfl .nil)))
  refine wpList_nil ?_
  refine wp_seq ?_
  refine wp_seq (reg_seq 14 (hF _ _) (by kernel_rfl) ?_)
  refine net_cons rfl rfl (n_fieldAddrO (off' := 0) rfl (ev rfl) Try.runUnderlying83 rfl Try.sizeOf3 rfl) ?_
  refine net_cons rfl rfl (n_load rfl (ev rfl) (ld1 hw (i := 0) rfl Try.isAgg3 rfl)) ?_
  refine net_cons rfl rfl (n_fieldAddrO (off' := 0) rfl (ev rfl) Try.runUnderlying83 rfl Try.sizeOf3 rfl) ?_
  refine net_cons rfl rfl (n_load rfl (ev rfl) (ld1 hw (i := 1) rfl Try.isAgg3 rfl)) ?_
  refine net_cons rfl rfl (n_bin rfl (ev rfl) (ev rfl) r_neq) ?_
  refine net_cons rfl rfl (n_move rfl (ev rfl)) ?_
  refine net_if rfl rfl rfl rfl (fun hc => (n_fieldAddrO (off' := 1) rfl (ev rfl) Try.runUnderlying83 rfl Try.sizeOf29 rfl)) ?_
  refine net_if rfl rfl rfl rfl (fun hc => (n_load rfl (evi rfl hc) (ld1 hw (i := 0) rfl Try.isAgg29 rfl))) ?_
  refine net_if rfl rfl rfl rfl (fun hc => (n_len rfl (evi rfl hc) Try.underlying29)) ?_
  refine net_if rfl rfl rfl rfl (fun hc => (n_fieldAddrO (off' := 1) rfl (ev rfl) Try.runUnderlying83 rfl Try.sizeOf29 rfl)) ?_
  refine net_if rfl rfl rfl rfl (fun hc => (n_load rfl (evi rfl hc) (ld1 hw (i := 1) rfl Try.isAgg29 rfl))) ?_
  refine net_if rfl rfl rfl rfl (fun hc => (n_len rfl (evi rfl hc) Try.underlying29)) ?_
  refine net_if rfl rfl rfl rfl (fun hc => (n_bin rfl (evi rfl hc) (evi rfl hc) r_neq)) ?_
  refine net_cons rfl rfl (n_pick_or rfl (ev rfl) (fun h => (evi rfl h))) ?_
  refine net_nil fun a w1 hF hx => ?_
  replace hw := hw.next hx
  replace hF := hF.keep (.cons (t := 2) rfl (.cons (t := 3) rfl (.cons (t := 4) rfl (.cons (t := 19) rfl .nil))))
  refine wpList_nil ?_
  refine wp_cond_false ((hF.ev (ev rfl)).trans (congrArg Value.bool (by simp))) ?_
  refine wp_skip ?_
  refine wp_seq ?_
  refine wp_seq (reg_seq 1 (hF _ _) (by kernel_rfl) ?_)
  refine net_cons rfl rfl (n_assign rfl evc) ?_
  refine net_nil fun a w1 hF hx => ?_
  replace hw := hw.next hx
  replace hF := hF.keep (.cons (t := 2) rfl (.cons (t := 3) rfl (.cons (t := 4) rfl (.cons (t := 5) rfl (.cons (t := 19) rfl .nil)))))
  refine wpList_nil ?_
  refine wp_block ?_
  refine wp_loop_ix (α := Nat) (fun i a w1 => FrV 38 [] [(2, .is (ptr0 b2)) , (3, .is (ptr0 b3)) , (5, .is (I (i : Int)))] a ∧ Own w w1 [.blk b2 83 [I d, .slice A n c], .blk b3 83 [I d, .slice A2 n c2]] ∧ (i ≤ n)) (fun i => n - i) (0) ⟨hF.keep (.cons (t := 2) rfl (.cons (t := 3) rfl (.cons (t := 5) rfl (.nil)))), hw, Nat.zero_le _⟩ ?_
  rintro i a w1 ⟨hF, hw, hi0⟩
  refine wp_seq ?_
  refine wp_seq (reg_seq 5 (hF _ _) (by kernel_rfl) ?_)
  refine net_cons rfl rfl (n_move rfl (ev rfl)) ?_
  refine net_cons rfl rfl (n_fieldAddrO (off' := 1) rfl (ev rfl) Try.runUnderlying83 rfl Try.sizeOf29 rfl) ?_
  refine net_cons rfl rfl (n_load rfl (ev rfl) (ld1 hw (i := 0) rfl Try.isAgg29 rfl)) ?_
  refine net_cons rfl rfl (n_len rfl (ev rfl) Try.underlying29) ?_
  refine net_cons rfl rfl (n_bin rfl (ev rfl) (ev rfl) r_lssN) ?_
  refine net_nil fun a w1 hF hx => ?_
  replace hw := hw.next hx
  replace hF := hF.keep (.cons (t := 2) rfl (.cons (t := 3) rfl (.cons (t := 5) rfl (.cons (t := 24) rfl .nil))))
  refine wpList_nil ?_
  refine wp_cond_split (hF.ev (ev rfl)) (fun h24 => ?_) (fun h24 => ?_)
  · have hi : i < n := of_bool_t h24
    obtain ⟨z, hz0⟩ := some_at hl hi
    have hfl := fm_len lc_len l
    have hF_ := hF
    have hw_ := hw
    obtain ⟨bX, oX, rfl, hcX⟩ := hR.at_ (by omega)
    obtain ⟨bY, oY, rfl, hcY⟩ := hR2.at_ (by omega)
    have hF := hF_
    have hw := hw_
    refine wp_skip ?_
    refine wp_seq (wp_block ?_)
    refine wp_seq (reg_draw 11 mixed (by kernel_rfl) (hF _ _) ?_)
    refine net_cons rfl rfl (n_fieldAddrO (off' := 1) rfl (ev rfl) Try.runUnderlying83 rfl Try.sizeOf29 rfl) ?_
    refine net_cons rfl rfl (n_load rfl (ev rfl) (ld1 hw (i := 0) rfl Try.isAgg29 rfl)) ?_
    refine net_cons rfl rfl (n_move rfl (ev rfl)) ?_
    refine net_cons rfl rfl (n_indexS (off' := oX + (i) * 18) rfl (ev rfl) (ev rfl) Try.underlying29 Try.sizeOf95 (by omega) rfl) ?_
    refine net_cons rfl rfl (n_load rfl (ev rfl) (fun w2 hx2 => ldNR hcX (fm_at lc_len hz0) (lc_len _) Try.isAgg95 Try.sizeOf95 (by omega) w2 (hw.ext.trans hx2))) ?_
    refine net_cons rfl rfl (n_fieldAddrO (off' := 1) rfl (ev rfl) Try.runUnderlying83 rfl Try.sizeOf29 rfl) ?_
    refine net_cons rfl rfl (n_load rfl (ev rfl) (ld1 hw (i := 1) rfl Try.isAgg29 rfl)) ?_
    refine net_cons rfl rfl (n_move rfl (ev rfl)) ?_
    refine net_cons rfl rfl (n_indexS (off' := oY + (i) * 18) rfl (ev rfl) (ev rfl) Try.underlying29 Try.sizeOf95 (by omega) rfl) ?_
    refine net_cons rfl rfl (n_load rfl (ev rfl) (fun w2 hx2 => ldNR hcY (fm_at lc_len hz0) (lc_len _) Try.isAgg95 Try.sizeOf95 (by omega) w2 (hw.ext.trans hx2))) ?_
    refine net_cons rfl rfl (n_bin rfl (ev rfl) (ev rfl) (r_neLab (p := z) (q := z))) ?_
    refine net_nil fun a w1 hF hx => ?_
    replace hw := hw.next hx
    replace hF := hF.keep (.cons (t := 2) rfl (.cons (t := 3) rfl (.cons (t := 5) rfl (.cons (t := 24) rfl (.cons (t := 37) rfl .nil)))))
    refine wpList_nil ?_
    refine wp_cond_false ((hF.ev (ev rfl)).trans (congrArg Value.bool (by simp))) ?_
    refine wp_skip ?_
    refine reg_seq 3 (hF _ _) (by kernel_rfl) ?_
    refine net_cons rfl rfl (n_move rfl (ev rfl)) ?_
    refine net_cons rfl rfl (n_bin rfl (ev rfl) evc (r_inc (by omega))) ?_
    refine net_cons rfl rfl (n_assign rfl (ev rfl)) ?_
    refine net_nil fun a w1 hF hx => ?_
    replace hw := hw.next hx
    replace hF := hF.keep (.cons (t := 2) rfl (.cons (t := 3) rfl (.cons (t := 5) rfl (.cons (t := 24) rfl (.cons (t := 37) rfl .nil)))))
    refine wpList_nil ?_
    exact ⟨i + 1, ⟨hF.keep (.cons (t := 2) rfl (.cons (t := 3) rfl (.cons (t := 5) rfl (.nil)))), hw, by omega⟩, by omega⟩
  · refine wp_exit (go_then_e (go_then_e (go_exit ?_)))
    refine wp_seq (reg_seq 1 (hF _ _) (by kernel_rfl) ?_)
    refine net_cons rfl rfl (n_assign rfl evc) ?_
    refine net_nil fun a w1 hF hx => ?_
    replace hw := hw.next hx
    replace hF := hF.keep (.cons (t := 2) rfl (.cons (t := 3) rfl (.cons (t := 4) rfl (.cons (t := 5) rfl (.cons (t := 24) rfl .nil)))))
    refine wpList_nil ?_
    refine wp_ret (ret1 hF Try.results47 rfl ?_)
    exact ⟨_, rfl, hw.ext, rfl⟩


theorem full_len (k : Key) (z : Int) : (fullR k z).2.1.length ≤ 1 := by
  unfold fullR
  split <;> simp
theorem pun_len (d : Int) (L : List Lab) (m : Int) : (punR d L m).2.1.length ≤ 1024 := by
  unfold punR
  split
  · rename_i h
    split
    · simp
    · rename_i h2
      obtain ⟨h3, h4⟩ := okPN_depth h
      obtain ⟨k, rfl⟩ := Int.eq_ofNat_of_zero_le h3
      have hp := pow_le64 (d := k) (by omega)
      have hc := count_le (d := k) (by omega) h
      have hl : (((2 ^ k : Nat) : Int) + m).toNat < 128 := by
        simp only [Int.toNat_natCast, Bool.or_eq_true, decide_eq_true_eq, not_or] at h2
        omega
      show (punL (((2 ^ ((k : Nat) : Int).toNat : Nat) : Int) + m).toNat L).length ≤ 1024
      rw [Int.toNat_natCast]
      have := punM_len hl L
      unfold punL
      rw [insAll_len, List.length_nil]
      omega
  · simp



/-- A row that is being written, first cell by first cell. -/
def IncE (v : Value) (n : Nat) (e : Ent) : Prop := n = 0 ∨ ∃ g cap cur, v = .slice (some ⟨g, 0, none⟩) n cap ∧ e = .blk g 95 cur ∧ n ≤ cap ∧ cur.length = cap * 18 ∧ ∀ j, j < n → ∃ z, cur[j * 18]? = some (I z)
theorem inc_start {w0 w : World} {Z : List Ent} {v : Value} {n : Nat} {L : List Lab} (hw : Own w0 w (.row v 95 18 n (L.flatMap lc) :: Z)) (hl : L.length = n) : ∃ e, Own w0 w (e :: Z) ∧ IncE v n e := by
  rcases Nat.eq_zero_or_pos n with h0 | h0
  · exact ⟨_, hw, .inl h0⟩
  · obtain ⟨g, cap, rfl, hcap⟩ := hw.rowForm (i := 0) rfl h0
    obtain ⟨cur, hcl, hct, _, hcm, hw⟩ := hw.rowBlk (i := 0) rfl
    refine ⟨.blk g 95 cur, hw, .inr ⟨g, cap, cur, rfl, rfl, hcap, hcl, fun j hj => ?_⟩⟩
    have h1 := lc_at0 (List.getElem?_eq_getElem (show j < L.length by omega))
    rw [← hct, List.getElem?_take, if_pos (by omega)] at h1
    exact ⟨_, h1⟩
theorem inc_next {v : Value} {n g cap i : Nat} {cur : List Value} {u : Int} (hv : v = .slice (some ⟨g, 0, none⟩) n cap) (hcap : n ≤ cap) (hcl : cur.length = cap * 18) (h : ∀ j, j < n → ∃ z, cur[j * 18]? = some (I z)) (hi : i < n) : IncE v n (.blk g 95 (seg cur (i * 18) [I u])) := by
  refine .inr ⟨g, cap, _, hv, rfl, hcap, ?_, fun j hj => ?_⟩
  · rw [seg_len (by rw [hcl]; simp only [List.length_cons, List.length_nil]; omega), hcl]
  · by_cases e : j = i
    · subst e
      refine ⟨u, ?_⟩
      unfold seg
      rw [List.append_assoc, List.getElem?_append_right (by rw [List.length_take]; omega), List.length_take, Nat.min_eq_left (by omega), Nat.sub_self]
      rfl
    · obtain ⟨z, hz⟩ := h j hj
      refine ⟨z, ?_⟩
      rw [← hz]
      unfold seg
      rcases Nat.lt_or_ge j i with h1 | h1
      · rw [List.append_assoc, List.getElem?_append_left (by rw [List.length_take]; omega), List.getElem?_take, if_pos (by omega)]
      · rw [List.getElem?_append_right (by simp only [List.length_append, List.length_take, List.length_cons, List.length_nil]; omega), List.getElem?_drop]
        congr 1
        simp only [List.length_append, List.length_take, List.length_cons, List.length_nil]
        omega


set_option maxHeartbeats 2000000 in
theorem PolyPunctures_c (k : Key) (z : Int) (d : Int) (n c : Nat) (A : Option Addr) (L : List Lab) (hl : L.length = n) (hcp : n ≤ c) (hn : n ≤ 4398046511000) (m : Int) (hm0 : -9223372036854775808 ≤ m) (hm1 : m < 9223372036854775808) (w : World) (hR : Rd w A (L.flatMap lc)) : RetF Try.prog 9 [K k, I z, PuV d (.slice A n c), I m].toArray w (.is (.bool true)) := by
  refine enter Try.func9 rfl Try.ntmps9 rfl fun a hF => ?_
  have hw := Own.start w
  refine wp_seq (wp_region_lit ?_)
  refine t_net 0 1 (by kernel_rfl) rfl hF ?_
  refine net_cons rfl rfl (n_box rfl (ev rfl) rfl) ?_
  refine net_nil fun a w1 hF hx => ?_
  obtain ⟨b4, h_, hw⟩ := hw.blk hx (hF.at_ 4 _ rfl)
  replace hF := hF.now h_
  replace hF := hF.keep (.cons (t := 1) rfl (.cons (t := 2) rfl (.cons (t := 3) rfl (.cons (t := 4) rfl .nil))))
  refine t_net 1 1 (by kernel_rfl) rfl hF ?_
  refine net_cons rfl rfl (n_box rfl (ev rfl) rfl) ?_
  refine net_nil fun a w1 hF hx => ?_
  obtain ⟨b6, h_, hw⟩ := hw.blk hx (hF.at_ 6 _ rfl)
  replace hF := hF.now h_
  replace hF := hF.keep (.cons (t := 1) rfl (.cons (t := 3) rfl (.cons (t := 4) rfl (.cons (t := 6) rfl .nil))))
  refine t_net 2 1 (by kernel_rfl) rfl hF ?_
  refine net_cons rfl rfl (n_assign rfl evc) ?_
  refine net_nil fun a w1 hF hx => ?_
  replace hw := hw.next hx
  replace hF := hF.keep (.cons (t := 1) rfl (.cons (t := 3) rfl (.cons (t := 4) rfl (.cons (t := 6) rfl (.cons (t := 8) rfl .nil)))))
  refine wpList_nil ?_
  refine wp_seq (wp_region_lit ?_)
  refine t_net 0 2 (by kernel_rfl) rfl hF ?_
  refine net_cons rfl rfl (n_load rfl (ev rfl) (ldN hw (i := 1) (vs := _) rfl Try.isAgg83 Try.sizeOf83 rfl rfl)) ?_
  refine net_cons rfl rfl (n_ret rfl Try.call44 (.cons (ev rfl) .nil) (fun _ hx => (TwinP_c d n c A L hl hn _ (hR.ext (hw.ext.trans hx))))) ?_
  refine net_nil fun a w1 hF hx => ?_
  obtain ⟨s18, h_, hw⟩ := hw.ex hx (hF.at_ 18 _ rfl)
  replace hF := hF.now h_
  replace hF := hF.keep (.cons (t := 1) rfl (.cons (t := 3) rfl (.cons (t := 4) rfl (.cons (t := 6) rfl (.cons (t := 8) rfl (.cons (t := 18) rfl .nil))))))
  obtain ⟨A18, c18, rfl, hle18, _, _⟩ := hw.rd (i := 2) rfl
  refine t_net 2 1 (by kernel_rfl) rfl hF ?_
  refine net_cons rfl rfl (n_alloc rfl Try.zeroValue83 rfl) ?_
  refine net_nil fun a w1 hF hx => ?_
  obtain ⟨b9, h_, hw⟩ := hw.blk hx (hF.at_ 9 _ rfl)
  replace hF := hF.now h_
  replace hF := hF.keep (.cons (t := 1) rfl (.cons (t := 3) rfl (.cons (t := 4) rfl (.cons (t := 6) rfl (.cons (t := 8) rfl (.cons (t := 9) rfl (.cons (t := 18) rfl .nil)))))))
  refine t_store (i := 3) rfl rfl rfl hF hw rfl (ev rfl) (ev rfl) rfl one_pu Try.sizeOf83 rfl (Nat.le_of_ble_eq_true rfl) rfl fun w1 hw => ?_
  refine wpList_nil ?_
  refine wp_seq (wp_region_lit ?_)
  refine t_net 0 3 (by kernel_rfl) rfl hF ?_
  refine net_cons rfl rfl (n_load rfl (ev rfl) (ldN hw (i := 0) (vs := _) rfl Try.isAgg23 Try.sizeOf23 (kc_len _) (cut_whole (kc_len _)))) ?_
  refine net_cons rfl rfl (n_move rfl (ev rfl)) ?_
  refine net_cons rfl rfl (n_ret rfl Try.call45 (.cons (ev rfl) (.cons (ev rfl) .nil)) (fun _ hx => (Full_c k z _))) ?_
  refine net_nil fun a w1 hF hx => ?_
  obtain ⟨s22, h_, hw⟩ := hw.ex hx (hF.at_ 22 _ rfl)
  replace hF := hF.now h_
  replace hF := hF.keep (.cons (t := 1) rfl (.cons (t := 3) rfl (.cons (t := 4) rfl (.cons (t := 6) rfl (.cons (t := 8) rfl (.cons (t := 9) rfl (.cons (t := 18) rfl (.cons (t := 22) rfl .nil))))))))
  obtain ⟨A22, c22, rfl, _, _, _⟩ := hw.rd (i := 4) rfl
  refine t_net 3 4 (by kernel_rfl) rfl hF ?_
  refine net_cons rfl rfl (n_move rfl (ev rfl)) ?_
  refine net_cons rfl rfl (n_extract rfl (ev rfl) rfl) ?_
  refine net_cons rfl rfl (n_extract rfl (ev rfl) rfl) ?_
  refine net_cons rfl rfl (n_alloc rfl Try.zeroValue83 rfl) ?_
  refine net_nil fun a w1 hF hx => ?_
  obtain ⟨b10, h_, hw⟩ := hw.blk hx (hF.at_ 10 _ rfl)
  replace hF := hF.now h_
  replace hF := hF.keep (.cons (t := 1) rfl (.cons (t := 3) rfl (.cons (t := 4) rfl (.cons (t := 6) rfl (.cons (t := 8) rfl (.cons (t := 9) rfl (.cons (t := 10) rfl (.cons (t := 18) rfl (.cons (t := 23) rfl (.cons (t := 24) rfl .nil))))))))))
  refine t_store (i := 5) rfl rfl rfl hF hw rfl (ev rfl) (ev rfl) rfl one_pu Try.sizeOf83 rfl (Nat.le_of_ble_eq_true rfl) rfl fun w1 hw => ?_
  refine t_net 8 1 (by kernel_rfl) rfl hF ?_
  refine net_cons rfl rfl (n_assign rfl (ev rfl)) ?_
  refine net_nil fun a w1 hF hx => ?_
  replace hw := hw.next hx
  replace hF := hF.keep (.cons (t := 1) rfl (.cons (t := 3) rfl (.cons (t := 4) rfl (.cons (t := 6) rfl (.cons (t := 8) rfl (.cons (t := 9) rfl (.cons (t := 10) rfl (.cons (t := 11) rfl (.cons (t := 18) rfl .nil)))))))))
  refine wpList_nil ?_
  refine wp_seq (wp_region_lit ?_)
  refine t_net 0 3 (by kernel_rfl) rfl hF ?_
  refine net_cons rfl rfl (n_load rfl (ev rfl) (ldN hw (i := 0) (vs := _) rfl Try.isAgg23 Try.sizeOf23 (kc_len _) (cut_whole (kc_len _)))) ?_
  refine net_cons rfl rfl (n_move rfl (ev rfl)) ?_
  refine net_cons rfl rfl (n_ret rfl Try.call46 (.cons (ev rfl) (.cons (ev rfl) .nil)) (fun _ hx => (rFull_c k z _))) ?_
  refine net_nil fun a w1 hF hx => ?_
  obtain ⟨s28, h_, hw⟩ := hw.ex hx (hF.at_ 28 _ rfl)
  replace hF := hF.now h_
  replace hF := hF.keep (.cons (t := 1) rfl (.cons (t := 3) rfl (.cons (t := 4) rfl (.cons (t := 6) rfl (.cons (t := 8) rfl (.cons (t := 9) rfl (.cons (t := 10) rfl (.cons (t := 11) rfl (.cons (t := 18) rfl (.cons (t := 28) rfl .nil))))))))))
  obtain ⟨A28, c28, rfl, _, _, _⟩ := hw.rd (i := 6) rfl
  refine t_net 3 4 (by kernel_rfl) rfl hF ?_
  refine net_cons rfl rfl (n_move rfl (ev rfl)) ?_
  refine net_cons rfl rfl (n_extract rfl (ev rfl) rfl) ?_
  refine net_cons rfl rfl (n_extract rfl (ev rfl) rfl) ?_
  refine net_cons rfl rfl (n_alloc rfl Try.zeroValue83 rfl) ?_
  refine net_nil fun a w1 hF hx => ?_
  obtain ⟨b12, h_, hw⟩ := hw.blk hx (hF.at_ 12 _ rfl)
  replace hF := hF.now h_
  replace hF := hF.keep (.cons (t := 1) rfl (.cons (t := 3) rfl (.cons (t := 4) rfl (.cons (t := 6) rfl (.cons (t := 8) rfl (.cons (t := 9) rfl (.cons (t := 10) rfl (.cons (t := 11) rfl (.cons (t := 12) rfl (.cons (t := 18) rfl (.cons (t := 29) rfl (.cons (t := 30) rfl .nil))))))))))))
  refine t_store (i := 7) rfl rfl rfl hF hw rfl (ev rfl) (ev rfl) rfl one_pu Try.sizeOf83 rfl (Nat.le_of_ble_eq_true rfl) rfl fun w1 hw => ?_
  refine t_net 8 1 (by kernel_rfl) rfl hF ?_
  refine net_cons rfl rfl (n_assign rfl (ev rfl)) ?_
  refine net_nil fun a w1 hF hx => ?_
  replace hw := hw.next hx
  replace hF := hF.keep (.cons (t := 1) rfl (.cons (t := 3) rfl (.cons (t := 4) rfl (.cons (t := 6) rfl (.cons (t := 8) rfl (.cons (t := 9) rfl (.cons (t := 10) rfl (.cons (t := 11) rfl (.cons (t := 12) rfl (.cons (t := 13) rfl (.cons (t := 18) rfl .nil)))))))))))
  refine wpList_nil ?_
  refine wp_seq ?_
  obtain ⟨_, _, hse_, _, hR22, _⟩ := hw.rd (i := 4) rfl
  injection hse_ with hA_ _ _
  subst hA_
  obtain ⟨_, _, hse_, _, hR28, _⟩ := hw.rd (i := 6) rfl
  injection hse_ with hA_ _ _
  subst hA_
  obtain ⟨_, _, hse_, _, hR18, _⟩ := hw.rd (i := 2) rfl
  injection hse_ with hA_ _ _
  subst hA_
  refine wp_seq (reg_draw 16 mixed (by kernel_rfl) (hF _ _) ?_)
  refine net_cons rfl rfl (n_load rfl (ev rfl) (ldN hw (i := 5) (vs := _) rfl Try.isAgg83 Try.sizeOf83 rfl rfl)) ?_
  refine net_cons rfl rfl (n_load rfl (ev rfl) (ldN hw (i := 7) (vs := _) rfl Try.isAgg83 Try.sizeOf83 rfl rfl)) ?_
  refine net_cons rfl rfl (n_ret rfl Try.call47 (.cons (ev rfl) (.cons (ev rfl) .nil)) (fun _ hx => (SameP_c _ _ c22 c28 A22 A28 (fullR k z).2.1 rfl (by have := full_len k z; omega) _ (hR22.ext hx) (hR28.ext hx)))) ?_
  refine net_cons rfl rfl (n_not rfl (ev rfl)) ?_
  refine net_cons rfl rfl (n_move rfl (ev rfl)) ?_
  refine net_if rfl rfl rfl rfl (fun hc => (n_move rfl (ev rfl))) ?_
  refine net_if rfl rfl rfl rfl (fun hc => (n_move rfl (ev rfl))) ?_
  refine net_if rfl rfl rfl rfl (fun hc => (n_bin rfl (evi rfl hc) (evi rfl hc) r_neq)) ?_
  refine net_cons rfl rfl (n_pick_or rfl (ev rfl) (fun h => (evi rfl h))) ?_
  refine net_cons rfl rfl (n_move rfl (ev rfl)) ?_
  refine net_if rfl rfl rfl rfl (fun hc => (n_load rfl (ev rfl) (ldN hw (i := 3) (vs := _) rfl Try.isAgg83 Try.sizeOf83 rfl rfl))) ?_
  refine net_if rfl rfl rfl rfl (fun hc => (n_ret rfl Try.call48 (.cons (evi rfl hc) .nil) (fun _ hx => (CheckP_c d n c18 A18 L hl hle18 (by omega) _ (hR18.ext hx))))) ?_
  refine net_if rfl rfl rfl rfl (fun hc => (n_load rfl (ev rfl) (ldN hw (i := 1) (vs := _) rfl Try.isAgg83 Try.sizeOf83 rfl rfl))) ?_
  refine net_if rfl rfl rfl rfl (fun hc => (n_ret rfl Try.call49 (.cons (evi rfl hc) .nil) (fun _ hx => (rCheckP_c d n c A L hl hcp (by omega) _ (hR.ext (hw.ext.trans hx)))))) ?_
  refine net_if rfl rfl rfl rfl (fun hc => (n_bin rfl (evi rfl hc) (evi rfl hc) r_neq)) ?_
  refine net_cons rfl rfl (n_pick_or rfl (ev rfl) (fun h => (evi rfl h))) ?_
  refine net_nil fun a w1 hF hx => ?_
  replace hw := hw.next hx
  replace hF := hF.keep (.cons (t := 1) rfl (.cons (t := 3) rfl (.cons (t := 4) rfl (.cons (t := 6) rfl (.cons (t := 8) rfl (.cons (t := 9) rfl (.cons (t := 10) rfl (.cons (t := 11) rfl (.cons (t := 12) rfl (.cons (t := 13) rfl (.cons (t := 18) rfl (.cons (t := 46) rfl .nil))))))))))))
  refine wpList_nil ?_
  refine wp_cond_false ((hF.ev (ev rfl)).trans (congrArg Value.bool (by simp))) ?_
  refine wp_skip ?_
  obtain ⟨_, _, hse_, _, hR18, _⟩ := hw.rd (i := 2) rfl
  injection hse_ with hA_ _ _
  subst hA_
  refine wp_seq (wp_region_lit ?_)
  refine t_net 0 3 (by kernel_rfl) rfl hF ?_
  refine net_cons rfl rfl (n_load rfl (ev rfl) (ldN hw (i := 3) (vs := _) rfl Try.isAgg83 Try.sizeOf83 rfl rfl)) ?_
  refine net_cons rfl rfl (n_move rfl (ev rfl)) ?_
  refine net_cons rfl rfl (n_ret rfl Try.call50 (.cons (ev rfl) (.cons (ev rfl) .nil)) (fun _ hx => (Puncture_c d n c18 A18 L hl hle18 hn m hm0 hm1 _ (hR18.ext hx)))) ?_
  refine net_nil fun a w1 hF hx => ?_
  obtain ⟨s50, h_, hw⟩ := hw.ex hx (hF.at_ 50 _ rfl)
  replace hF := hF.now h_
  replace hF := hF.keep (.cons (t := 1) rfl (.cons (t := 3) rfl (.cons (t := 4) rfl (.cons (t := 6) rfl (.cons (t := 8) rfl (.cons (t := 9) rfl (.cons (t := 10) rfl (.cons (t := 11) rfl (.cons (t := 12) rfl (.cons (t := 13) rfl (.cons (t := 18) rfl (.cons (t := 46) rfl (.cons (t := 50) rfl .nil)))))))))))))
  obtain ⟨A50, c50, rfl, _, _, _⟩ := hw.rd (i := 8) rfl
  refine t_net 3 3 (by kernel_rfl) rfl hF ?_
  refine net_cons rfl rfl (n_move rfl (ev rfl)) ?_
  refine net_cons rfl rfl (n_extract rfl (ev rfl) rfl) ?_
  refine net_cons rfl rfl (n_extract rfl (ev rfl) rfl) ?_
  refine net_nil fun a w1 hF hx => ?_
  replace hw := hw.next hx
  replace hF := hF.keep (.cons (t := 1) rfl (.cons (t := 3) rfl (.cons (t := 4) rfl (.cons (t := 6) rfl (.cons (t := 8) rfl (.cons (t := 9) rfl (.cons (t := 10) rfl (.cons (t := 11) rfl (.cons (t := 12) rfl (.cons (t := 13) rfl (.cons (t := 18) rfl (.cons (t := 46) rfl (.cons (t := 51) rfl (.cons (t := 52) rfl .nil))))))))))))))
  refine t_store (i := 5) rfl rfl rfl hF hw rfl (ev rfl) (ev rfl) rfl one_pu Try.sizeOf83 rfl (Nat.le_of_ble_eq_true rfl) rfl fun w1 hw => ?_
  refine t_net 7 1 (by kernel_rfl) rfl hF ?_
  refine net_cons rfl rfl (n_assign rfl (ev rfl)) ?_
  refine net_nil fun a w1 hF hx => ?_
  replace hw := hw.next hx
  replace hF := hF.keep (.cons (t := 1) rfl (.cons (t := 3) rfl (.cons (t := 4) rfl (.cons (t := 6) rfl (.cons (t := 8) rfl (.cons (t := 9) rfl (.cons (t := 10) rfl (.cons (t := 11) rfl (.cons (t := 12) rfl (.cons (t := 13) rfl (.cons (t := 18) rfl (.cons (t := 46) rfl .nil))))))))))))
  refine wpList_nil ?_
  refine wp_seq (wp_region_lit ?_)
  refine t_net 0 3 (by kernel_rfl) rfl hF ?_
  refine net_cons rfl rfl (n_load rfl (ev rfl) (ldN hw (i := 1) (vs := _) rfl Try.isAgg83 Try.sizeOf83 rfl rfl)) ?_
  refine net_cons rfl rfl (n_move rfl (ev rfl)) ?_
  refine net_cons rfl rfl (n_ret rfl Try.call51 (.cons (ev rfl) (.cons (ev rfl) .nil)) (fun _ hx => (rPuncture_c d n c A L hl hcp hn m hm0 hm1 _ (hR.ext (hw.ext.trans hx))))) ?_
  refine net_nil fun a w1 hF hx => ?_
  obtain ⟨s56, h_, hw⟩ := hw.ex hx (hF.at_ 56 _ rfl)
  replace hF := hF.now h_
  replace hF := hF.keep (.cons (t := 1) rfl (.cons (t := 3) rfl (.cons (t := 4) rfl (.cons (t := 6) rfl (.cons (t := 8) rfl (.cons (t := 9) rfl (.cons (t := 10) rfl (.cons (t := 11) rfl (.cons (t := 12) rfl (.cons (t := 13) rfl (.cons (t := 18) rfl (.cons (t := 46) rfl (.cons (t := 56) rfl .nil)))))))))))))
  obtain ⟨A56, c56, rfl, _, _, _⟩ := hw.rd (i := 9) rfl
  refine t_net 3 3 (by kernel_rfl) rfl hF ?_
  refine net_cons rfl rfl (n_move rfl (ev rfl)) ?_
  refine net_cons rfl rfl (n_extract rfl (ev rfl) rfl) ?_
  refine net_cons rfl rfl (n_extract rfl (ev rfl) rfl) ?_
  refine net_nil fun a w1 hF hx => ?_
  replace hw := hw.next hx
  replace hF := hF.keep (.cons (t := 1) rfl (.cons (t := 3) rfl (.cons (t := 4) rfl (.cons (t := 6) rfl (.cons (t := 8) rfl (.cons (t := 9) rfl (.cons (t := 10) rfl (.cons (t := 11) rfl (.cons (t := 12) rfl (.cons (t := 13) rfl (.cons (t := 18) rfl (.cons (t := 46) rfl (.cons (t := 57) rfl (.cons (t := 58) rfl .nil))))))))))))))
  refine t_store (i := 7) rfl rfl rfl hF hw rfl (ev rfl) (ev rfl) rfl one_pu Try.sizeOf83 rfl (Nat.le_of_ble_eq_true rfl) rfl fun w1 hw => ?_
  refine t_net 7 1 (by kernel_rfl) rfl hF ?_
  refine net_cons rfl rfl (n_assign rfl (ev rfl)) ?_
  refine net_nil fun a w1 hF hx => ?_
  replace hw := hw.next hx
  replace hF := hF.keep (.cons (t := 1) rfl (.cons (t := 3) rfl (.cons (t := 4) rfl (.cons (t := 6) rfl (.cons (t := 8) rfl (.cons (t := 9) rfl (.cons (t := 10) rfl (.cons (t := 11) rfl (.cons (t := 12) rfl (.cons (t := 13) rfl (.cons (t := 18) rfl (.cons (t := 46) rfl .nil))))))))))))
  refine wpList_nil ?_
  refine wp_seq ?_
  obtain ⟨_, _, hse_, _, hR50, _⟩ := hw.rd (i := 8) rfl
  injection hse_ with hA_ _ _
  subst hA_
  obtain ⟨_, _, hse_, _, hR56, _⟩ := hw.rd (i := 9) rfl
  injection hse_ with hA_ _ _
  subst hA_
  refine wp_seq (reg_seq 9 (hF _ _) (by kernel_rfl) ?_)
  refine net_cons rfl rfl (n_load rfl (ev rfl) (ldN hw (i := 5) (vs := _) rfl Try.isAgg83 Try.sizeOf83 rfl rfl)) ?_
  refine net_cons rfl rfl (n_load rfl (ev rfl) (ldN hw (i := 7) (vs := _) rfl Try.isAgg83 Try.sizeOf83 rfl rfl)) ?_
  refine net_cons rfl rfl (n_ret rfl Try.call47 (.cons (ev rfl) (.cons (ev rfl) .nil)) (fun _ hx => (SameP_c _ _ c50 c56 A50 A56 (punR d L m).2.1 rfl (by have := pun_len d L m; omega) _ (hR50.ext hx) (hR56.ext hx)))) ?_
  refine net_cons rfl rfl (n_not rfl (ev rfl)) ?_
  refine net_cons rfl rfl (n_move rfl (ev rfl)) ?_
  refine net_if rfl rfl rfl rfl (fun hc => (n_move rfl (ev rfl))) ?_
  refine net_if rfl rfl rfl rfl (fun hc => (n_move rfl (ev rfl))) ?_
  refine net_if rfl rfl rfl rfl (fun hc => (n_bin rfl (evi rfl hc) (evi rfl hc) r_neq)) ?_
  refine net_cons rfl rfl (n_pick_or rfl (ev rfl) (fun h => (evi rfl h))) ?_
  refine net_nil fun a w1 hF hx => ?_
  replace hw := hw.next hx
  replace hF := hF.keep (.cons (t := 1) rfl (.cons (t := 3) rfl (.cons (t := 4) rfl (.cons (t := 6) rfl (.cons (t := 8) rfl (.cons (t := 9) rfl (.cons (t := 10) rfl (.cons (t := 11) rfl (.cons (t := 12) rfl (.cons (t := 13) rfl (.cons (t := 18) rfl (.cons (t := 46) rfl (.cons (t := 67) rfl .nil)))))))))))))
  refine wpList_nil ?_
  refine wp_cond_false ((hF.ev (ev rfl)).trans (congrArg Value.bool (by simp))) ?_
  refine wp_skip ?_
  refine wp_seq ?_
  refine wp_seq (reg_seq 1 (hF _ _) (by kernel_rfl) ?_)
  refine net_cons rfl rfl (n_assign rfl evc) ?_
  refine net_nil fun a w1 hF hx => ?_
  replace hw := hw.next hx
  replace hF := hF.keep (.cons (t := 1) rfl (.cons (t := 3) rfl (.cons (t := 4) rfl (.cons (t := 6) rfl (.cons (t := 8) rfl (.cons (t := 9) rfl (.cons (t := 10) rfl (.cons (t := 11) rfl (.cons (t := 12) rfl (.cons (t := 13) rfl (.cons (t := 14) rfl (.cons (t := 18) rfl (.cons (t := 46) rfl (.cons (t := 67) rfl .nil))))))))))))))
  refine wpList_nil ?_
  refine wp_block ?_
  replace hw := (hw.front 8 rfl).drop (.cons_cons _ (.cons _ (.cons_cons _ (.cons_cons _ (.cons_cons _ (.cons _ (.cons_cons _ (.cons _ (.cons _ (.cons _ .slnil))))))))))
  obtain ⟨e0, hw, he0⟩ := inc_start hw rfl
  refine wp_loop_ix (α := Nat × Ent) (fun ⟨i, e⟩ a w1 => FrV 109 [] [(3, .is (I m)) , (6, .is (ptr0 b6)) , (9, .is (ptr0 b9)) , (10, .is (ptr0 b10)) , (14, .is (I (i : Int)))] a ∧ Own w w1 [e, .blk b6 83 [I d, .slice A n c], .row (.slice A18 n c18) 95 18 n (L.flatMap lc), .blk b9 83 [I d, .slice A18 n c18], .blk b10 83 [I (punR d L m).1, .slice A50 (punR d L m).2.1.length c50]] ∧ (i ≤ (punR d L m).2.1.length) ∧ (IncE (.slice A50 (punR d L m).2.1.length c50) (punR d L m).2.1.length e)) (fun ⟨i, e⟩ => (punR d L m).2.1.length - i) ((0, e0)) ⟨hF.keep (.cons (t := 3) rfl (.cons (t := 6) rfl (.cons (t := 9) rfl (.cons (t := 10) rfl (.cons (t := 14) rfl (.nil)))))), hw, Nat.zero_le _, he0⟩ ?_
  rintro ⟨i, e⟩ a w1 ⟨hF, hw, hi0, he⟩
  refine wp_seq ?_
  refine wp_seq (reg_seq 5 (hF _ _) (by kernel_rfl) ?_)
  refine net_cons rfl rfl (n_move rfl (ev rfl)) ?_
  refine net_cons rfl rfl (n_fieldAddrO (off' := 1) rfl (ev rfl) Try.runUnderlying83 rfl Try.sizeOf29 rfl) ?_
  refine net_cons rfl rfl (n_load rfl (ev rfl) (ld1 hw (i := 4) rfl Try.isAgg29 rfl)) ?_
  refine net_cons rfl rfl (n_len rfl (ev rfl) Try.underlying29) ?_
  refine net_cons rfl rfl (n_bin rfl (ev rfl) (ev rfl) r_lssN) ?_
  refine net_nil fun a w1 hF hx => ?_
  replace hw := hw.next hx
  replace hF := hF.keep (.cons (t := 3) rfl (.cons (t := 6) rfl (.cons (t := 9) rfl (.cons (t := 10) rfl (.cons (t := 14) rfl (.cons (t := 72) rfl .nil))))))
  refine wpList_nil ?_
  refine wp_cond_split (hF.ev (ev rfl)) (fun h72 => ?_) (fun h72 => ?_)
  · have hi : i < (punR d L m).2.1.length := of_bool_t h72
    have hF_ := hF
    have hw_ := hw
    obtain ⟨g, cap, cur, hv0, rfl, hcap0, hcl0, hz0⟩ := Or.resolve_left he (by omega)
    injection hv0 with hv1 _ hv2
    subst hv1
    subst hv2
    have hF := hF_
    have hw := hw_
    have hv0 : Value.slice (some ⟨g, 0, none⟩) (punR d L m).2.1.length c50 = .slice (some ⟨g, 0, none⟩) (punR d L m).2.1.length c50 := rfl
    obtain ⟨z, hz⟩ := hz0 i hi
    refine wp_skip ?_
    refine wp_seq (wp_block ?_)
    refine wp_region_lit ?_
    refine t_net 0 9 (by kernel_rfl) rfl hF ?_
    refine net_cons rfl rfl (n_fieldAddrO (off' := 1) rfl (ev rfl) Try.runUnderlying83 rfl Try.sizeOf29 rfl) ?_
    refine net_cons rfl rfl (n_load rfl (ev rfl) (ld1 hw (i := 4) rfl Try.isAgg29 rfl)) ?_
    refine net_cons rfl rfl (n_move rfl (ev rfl)) ?_
    refine net_cons rfl rfl (n_indexS (off' := (i) * 18) rfl (ev rfl) (ev rfl) Try.underlying29 Try.sizeOf95 (by omega) (by omega)) ?_
    refine net_cons rfl rfl (n_fieldAddrO (off' := (i) * 18) rfl (ev rfl) Try.runUnderlying95 rfl Try.sizeOf3 rfl) ?_
    refine net_cons rfl rfl (n_load rfl (ev rfl) (ld1 hw (i := 0) rfl Try.isAgg3 hz)) ?_
    refine net_cons rfl rfl (n_bin rfl (ev rfl) evc r_add) ?_
    refine net_cons rfl rfl (n_indexS (off' := (i) * 18) rfl (ev rfl) (ev rfl) Try.underlying29 Try.sizeOf95 (by omega) (by omega)) ?_
    refine net_cons rfl rfl (n_fieldAddrO (off' := (i) * 18) rfl (ev rfl) Try.runUnderlying95 rfl Try.sizeOf3 rfl) ?_
    refine net_nil fun a w1 hF hx => ?_
    replace hw := hw.next hx
    replace hF := hF.keep (.cons (t := 3) rfl (.cons (t := 6) rfl (.cons (t := 9) rfl (.cons (t := 10) rfl (.cons (t := 14) rfl (.cons (t := 72) rfl (.cons (t := 81) rfl (.cons (t := 83) rfl .nil))))))))
    refine t_store (i := 0) rfl rfl rfl hF hw rfl (ev rfl) (ev rfl) rfl one1 Try.sizeOf3 rfl (by rw [hcl0]; omega) rfl fun w1 hw => ?_
    refine wpList_nil ?_
    refine reg_seq 3 (hF _ _) (by kernel_rfl) ?_
    refine net_cons rfl rfl (n_move rfl (ev rfl)) ?_
    refine net_cons rfl rfl (n_bin rfl (ev rfl) evc (r_inc (by have := pun_len d L m; omega))) ?_
    refine net_cons rfl rfl (n_assign rfl (ev rfl)) ?_
    refine net_nil fun a w1 hF hx => ?_
    replace hw := hw.next hx
    replace hF := hF.keep (.cons (t := 3) rfl (.cons (t := 6) rfl (.cons (t := 9) rfl (.cons (t := 10) rfl (.cons (t := 14) rfl (.cons (t := 72) rfl (.cons (t := 81) rfl (.cons (t := 83) rfl .nil))))))))
    refine wpList_nil ?_
    exact ⟨(i + 1, _), ⟨hF.keep (.cons (t := 3) rfl (.cons (t := 6) rfl (.cons (t := 9) rfl (.cons (t := 10) rfl (.cons (t := 14) rfl (.nil)))))), hw, by omega, inc_next hv0 hcap0 hcl0 hz0 hi⟩, (by show (punR d L m).2.1.length - (i + 1) < (punR d L m).2.1.length - i; omega)⟩
  · refine wp_exit (go_then_e (go_then_e (go_exit ?_)))
    obtain ⟨_, _, hse_, _, hR18, _⟩ := hw.rd (i := 2) rfl
    injection hse_ with hA_ _ _
    subst hA_
    refine wp_seq (wp_region_lit ?_)
    refine t_net 0 7 (by kernel_rfl) rfl hF ?_
    refine net_cons rfl rfl (n_load rfl (ev rfl) (ldN hw (i := 3) (vs := _) rfl Try.isAgg83 Try.sizeOf83 rfl rfl)) ?_
    refine net_cons rfl rfl (n_move rfl (ev rfl)) ?_
    refine net_cons rfl rfl (n_ret rfl Try.call52 (.cons (ev rfl) (.cons (ev rfl) .nil)) (fun _ hx => (Evaluate_c d n c18 A18 L hl hle18 hn m hm0 hm1 _ (hR18.ext hx)))) ?_
    refine net_cons rfl rfl (n_move rfl (ev rfl)) ?_
    refine net_cons rfl rfl (n_extract rfl (ev rfl) rfl) ?_
    refine net_cons rfl rfl (n_extract rfl (ev rfl) rfl) ?_
    refine net_cons rfl rfl (n_alloc rfl Try.zeroValue23 rfl) ?_
    refine net_nil fun a w1 hF hx => ?_
    obtain ⟨b15, h_, hw⟩ := hw.blk hx (hF.at_ 15 _ rfl)
    replace hF := hF.now h_
    replace hF := hF.keep (.cons (t := 3) rfl (.cons (t := 6) rfl (.cons (t := 9) rfl (.cons (t := 10) rfl (.cons (t := 14) rfl (.cons (t := 15) rfl (.cons (t := 72) rfl (.cons (t := 88) rfl (.cons (t := 89) rfl .nil)))))))))
    refine t_store (i := 5) rfl rfl rfl hF hw rfl (ev rfl) (ev rfl) rfl (kc_one _) Try.sizeOf23 (kc_len _) (by first | decide | (rw [kc_len]; decide)) (seg_whole (by first | (rw [kc_len]; rfl) | rw [kc_len])) fun w1 hw => ?_
    refine t_net 8 1 (by kernel_rfl) rfl hF ?_
    refine net_cons rfl rfl (n_assign rfl (ev rfl)) ?_
    refine net_nil fun a w1 hF hx => ?_
    replace hw := hw.next hx
    replace hF := hF.keep (.cons (t := 3) rfl (.cons (t := 6) rfl (.cons (t := 9) rfl (.cons (t := 10) rfl (.cons (t := 11) rfl (.cons (t := 14) rfl (.cons (t := 15) rfl (.cons (t := 72) rfl .nil))))))))
    refine wpList_nil ?_
    refine wp_seq (wp_region_lit ?_)
    refine t_net 0 7 (by kernel_rfl) rfl hF ?_
    refine net_cons rfl rfl (n_load rfl (ev rfl) (ldN hw (i := 1) (vs := _) rfl Try.isAgg83 Try.sizeOf83 rfl rfl)) ?_
    refine net_cons rfl rfl (n_move rfl (ev rfl)) ?_
    refine net_cons rfl rfl (n_ret rfl Try.call53 (.cons (ev rfl) (.cons (ev rfl) .nil)) (fun _ hx => (rEvaluate_c d n c A L hl hcp hn m hm0 hm1 _ (hR.ext (hw.ext.trans hx))))) ?_
    refine net_cons rfl rfl (n_move rfl (ev rfl)) ?_
    refine net_cons rfl rfl (n_extract rfl (ev rfl) rfl) ?_
    refine net_cons rfl rfl (n_extract rfl (ev rfl) rfl) ?_
    refine net_cons rfl rfl (n_alloc rfl Try.zeroValue23 rfl) ?_
    refine net_nil fun a w1 hF hx => ?_
    obtain ⟨b16, h_, hw⟩ := hw.blk hx (hF.at_ 16 _ rfl)
    replace hF := hF.now h_
    replace hF := hF.keep (.cons (t := 3) rfl (.cons (t := 6) rfl (.cons (t := 9) rfl (.cons (t := 10) rfl (.cons (t := 11) rfl (.cons (t := 14) rfl (.cons (t := 15) rfl (.cons (t := 16) rfl (.cons (t := 72) rfl (.cons (t := 94) rfl (.cons (t := 95) rfl .nil)))))))))))
    refine t_store (i := 6) rfl rfl rfl hF hw rfl (ev rfl) (ev rfl) rfl (kc_one _) Try.sizeOf23 (kc_len _) (by first | decide | (rw [kc_len]; decide)) (seg_whole (by first | (rw [kc_len]; rfl) | rw [kc_len])) fun w1 hw => ?_
    refine t_net 8 1 (by kernel_rfl) rfl hF ?_
    refine net_cons rfl rfl (n_assign rfl (ev rfl)) ?_
    refine net_nil fun a w1 hF hx => ?_
    replace hw := hw.next hx
    replace hF := hF.keep (.cons (t := 3) rfl (.cons (t := 6) rfl (.cons (t := 9) rfl (.cons (t := 10) rfl (.cons (t := 11) rfl (.cons (t := 13) rfl (.cons (t := 14) rfl (.cons (t := 15) rfl (.cons (t := 16) rfl (.cons (t := 72) rfl .nil))))))))))
    refine wpList_nil ?_
    obtain ⟨_, _, hse_, _, hR18, _⟩ := hw.rd (i := 2) rfl
    injection hse_ with hA_ _ _
    subst hA_
    refine wp_seq (reg_seq 14 (hF _ _) (by kernel_rfl) ?_)
    refine net_cons rfl rfl (n_load rfl (ev rfl) (ldN hw (i := 5) (vs := _) rfl Try.isAgg23 Try.sizeOf23 (kc_len _) (cut_whole (kc_len _)))) ?_
    refine net_cons rfl rfl (n_load rfl (ev rfl) (ldN hw (i := 6) (vs := _) rfl Try.isAgg23 Try.sizeOf23 (kc_len _) (cut_whole (kc_len _)))) ?_
    refine net_cons rfl rfl (n_bin rfl (ev rfl) (ev rfl) r_eqKey) ?_
    refine net_cons rfl rfl (n_move rfl (ev rfl)) ?_
    refine net_if rfl rfl rfl rfl (fun hc => (n_move rfl (ev rfl))) ?_
    refine net_if rfl rfl rfl rfl (fun hc => (n_move rfl (ev rfl))) ?_
    refine net_if rfl rfl rfl rfl (fun hc => (n_bin rfl (evi rfl hc) (evi rfl hc) r_eql)) ?_
    refine net_cons rfl rfl (n_pick_and rfl (ev rfl) (fun h => (evi rfl h))) ?_
    refine net_cons rfl rfl (n_move rfl (ev rfl)) ?_
    refine net_if rfl rfl rfl rfl (fun hc => (n_load rfl (ev rfl) (ldN hw (i := 3) (vs := _) rfl Try.isAgg83 Try.sizeOf83 rfl rfl))) ?_
    refine net_if rfl rfl rfl rfl (fun hc => (n_load rfl (ev rfl) (ldN hw (i := 1) (vs := _) rfl Try.isAgg83 Try.sizeOf83 rfl rfl))) ?_
    refine net_if rfl rfl rfl rfl (fun hc => (n_ret rfl Try.call47 (.cons (evi rfl hc) (.cons (evi rfl hc) .nil)) (fun _ hx => (SameP_c d n c18 c A18 A L hl (by omega) _ (hR18.ext hx) (hR.ext (hw.ext.trans hx)))))) ?_
    refine net_cons rfl rfl (n_pick_and rfl (ev rfl) (fun h => (evi rfl h))) ?_
    refine net_cons rfl rfl (n_assign rfl (ev rfl)) ?_
    refine net_nil fun a w1 hF hx => ?_
    replace hw := hw.next hx
    replace hF := hF.keep (.cons (t := 3) rfl (.cons (t := 6) rfl (.cons (t := 8) rfl (.cons (t := 9) rfl (.cons (t := 10) rfl (.cons (t := 11) rfl (.cons (t := 13) rfl (.cons (t := 14) rfl (.cons (t := 15) rfl (.cons (t := 16) rfl (.cons (t := 72) rfl .nil)))))))))))
    refine wpList_nil ?_
    refine wp_ret (ret1 hF Try.results9 rfl ?_)
    exact ⟨_, rfl, hw.ext, (by show Value.bool _ = Value.bool true; simp)⟩
end Go.Proofs.Ythgpojlcbbgaoaa

