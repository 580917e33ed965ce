/- the law of the order of punctures -/
import Derived.Test.YthgpojlcbbgaoaaPunH

set_option autoImplicit false
set_option maxRecDepth 100000
set_option linter.unusedVariables false
set_option linter.unusedSimpArgs false
set_option linter.unnecessarySimpa false
namespace Go.Proofs.Ythgpojlcbbgaoaa
open Go.RowKit

theorem SameP_c (d : Int) (n c c2 : Nat) (A A2 : Option Addr) (l : List Lab) (hl : l.length = n) (hn : n ≤ 9223372036854775800) (w : World) (hR : Rd w A (l.flatMap lc)) (hR2 : Rd w A2 (l.flatMap lc)) : RetF Try.prog 47 [PuV d (.slice A n c), PuV d (.slice A2 n c2)].toArray w (.is (.bool true)) := by
  refine enter Try.func47 rfl Try.ntmps47 rfl fun a hF => ?_
  have hw := Own.start w
  refine wp_seq (wp_region_lit ?_)
  refine t_net 0 1 (by kernel_rfl) rfl hF ?_
  refine net_cons rfl rfl (n_box rfl (ev rfl) rfl) ?_
  refine net_nil fun a w1 hF hx => ?_
  obtain ⟨b2, h_, hw⟩ := hw.blk hx (hF.at_ 2 _ rfl)
  replace hF := hF.now h_
  replace hF := hF.keep (.cons (t := 1) rfl (.cons (t := 2) rfl .nil))
  refine t_net 1 1 (by kernel_rfl) rfl hF ?_
  refine net_cons rfl rfl (n_box rfl (ev rfl) rfl) ?_
  refine net_nil fun a w1 hF hx => ?_
  obtain ⟨b3, h_, hw⟩ := hw.blk hx (hF.at_ 3 _ rfl)
  replace hF := hF.now h_
  replace hF := hF.keep (.cons (t := 2) rfl (.cons (t := 3) rfl .nil))
  refine t_net 2 1 (by kernel_rfl) rfl hF ?_
  refine net_cons rfl rfl (n_assign rfl evc) ?_
  refine net_nil fun a w1 hF hx => ?_
  replace hw := hw.next hx
  replace hF := hF.keep (.cons (t := 2) rfl (.cons (t := 3) rfl (.cons (t := 4) rfl .nil)))
  refine wpList_nil ?_
  refine wp_seq ?_
  refine wp_seq (reg_seq 14 (hF _ _) (by kernel_rfl) ?_)
  refine net_cons rfl rfl (n_fieldAddrO (off' := 0) rfl (ev rfl) Try.runUnderlying83 rfl Try.sizeOf3 rfl) ?_
  refine net_cons rfl rfl (n_load rfl (ev rfl) (ld1 hw (i := 0) rfl Try.isAgg3 rfl)) ?_
  refine net_cons rfl rfl (n_fieldAddrO (off' := 0) rfl (ev rfl) Try.runUnderlying83 rfl Try.sizeOf3 rfl) ?_
  refine net_cons rfl rfl (n_load rfl (ev rfl) (ld1 hw (i := 1) rfl Try.isAgg3 rfl)) ?_
  refine net_cons rfl rfl (n_bin rfl (ev rfl) (ev rfl) r_neq) ?_
  refine net_cons rfl rfl (n_move rfl (ev rfl)) ?_
  refine net_if rfl rfl rfl rfl (fun hc => (n_fieldAddrO (off' := 1) rfl (ev rfl) Try.runUnderlying83 rfl Try.sizeOf29 rfl)) ?_
  refine net_if rfl rfl rfl rfl (fun hc => (n_load rfl (evi rfl hc) (ld1 hw (i := 0) rfl Try.isAgg29 rfl))) ?_
  refine net_if rfl rfl rfl rfl (fun hc => (n_len rfl (evi rfl hc) Try.underlying29)) ?_
  refine net_if rfl rfl rfl rfl (fun hc => (n_fieldAddrO (off' := 1) rfl (ev rfl) Try.runUnderlying83 rfl Try.sizeOf29 rfl)) ?_
  refine net_if rfl rfl rfl rfl (fun hc => (n_load rfl (evi rfl hc) (ld1 hw (i := 1) rfl Try.isAgg29 rfl))) ?_
  refine net_if rfl rfl rfl rfl (fun hc => (n_len rfl (evi rfl hc) Try.underlying29)) ?_
  refine net_if rfl rfl rfl rfl (fun hc => (n_bin rfl (evi rfl hc) (evi rfl hc) r_neq)) ?_
  refine net_cons rfl rfl (n_pick_or rfl (ev rfl) (fun h => (evi rfl h))) ?_
  refine net_nil fun a w1 hF hx => ?_
  replace hw := hw.next hx
  replace hF := hF.keep (.cons (t := 2) rfl (.cons (t := 3) rfl (.cons (t := 4) rfl (.cons (t := 19) rfl .nil))))
  refine wpList_nil ?_
  refine wp_cond_false ((hF.ev (ev rfl)).trans (congrArg Value.bool (by simp))) ?_
  refine wp_skip ?_
  refine wp_seq ?_
  refine wp_seq (reg_seq 1 (hF _ _) (by kernel_rfl) ?_)
  refine net_cons rfl rfl (n_assign rfl evc) ?_
  refine net_nil fun a w1 hF hx => ?_
  replace hw := hw.next hx
  replace hF := hF.keep (.cons (t := 2) rfl (.cons (t := 3) rfl (.cons (t := 4) rfl (.cons (t := 5) rfl (.cons (t := 19) rfl .nil)))))
  refine wpList_nil ?_
  refine wp_block ?_
  refine wp_loop_ix (α := Nat) (fun i a w1 => FrV 38 [] [(2, .is (ptr0 b2)) , (3, .is (ptr0 b3)) , (5, .is (I (i : Int)))] a ∧ Own w w1 [.blk b2 83 [I d, .slice A n c], .blk b3 83 [I d, .slice A2 n c2]] ∧ (i ≤ n)) (fun i => n - i) (0) ⟨hF.keep (.cons (t := 2) rfl (.cons (t := 3) rfl (.cons (t := 5) rfl (.nil)))), hw, Nat.zero_le _⟩ ?_
  rintro i a w1 ⟨hF, hw, hi0⟩
  refine wp_seq ?_
  refine wp_seq (reg_seq 5 (hF _ _) (by kernel_rfl) ?_)
  refine net_cons rfl rfl (n_move rfl (ev rfl)) ?_
  refine net_cons rfl rfl (n_fieldAddrO (off' := 1) rfl (ev rfl) Try.runUnderlying83 rfl Try.sizeOf29 rfl) ?_
  refine net_cons rfl rfl (n_load rfl (ev rfl) (ld1 hw (i := 0) rfl Try.isAgg29 rfl)) ?_
  refine net_cons rfl rfl (n_len rfl (ev rfl) Try.underlying29) ?_
  refine net_cons rfl rfl (n_bin rfl (ev rfl) (ev rfl) r_lssN) ?_
  refine net_nil fun a w1 hF hx => ?_
  replace hw := hw.next hx
  replace hF := hF.keep (.cons (t := 2) rfl (.cons (t := 3) rfl (.cons (t := 5) rfl (.cons (t := 24) rfl .nil))))
  refine wpList_nil ?_
  refine wp_cond_split (hF.ev (ev rfl)) (fun h24 => ?_) (fun h24 => ?_)
  · have hi : i < n := of_bool_t h24
    obtain ⟨z, hz0⟩ := some_at hl hi
    have hfl := fm_len lc_len l
    have hF_ := hF
    have hw_ := hw
    obtain ⟨bX, oX, rfl, hcX⟩ := hR.at_ (by omega)
    obtain ⟨bY, oY, rfl, hcY⟩ := hR2.at_ (by omega)
    have hF := hF_
    have hw := hw_
    refine wp_skip ?_
    refine wp_seq (wp_block ?_)
    refine wp_seq (reg_draw 11 mixed (by kernel_rfl) (hF _ _) ?_)
    refine net_cons rfl rfl (n_fieldAddrO (off' := 1) rfl (ev rfl) Try.runUnderlying83 rfl Try.sizeOf29 rfl) ?_
    refine net_cons rfl rfl (n_load rfl (ev rfl) (ld1 hw (i := 0) rfl Try.isAgg29 rfl)) ?_
    refine net_cons rfl rfl (n_move rfl (ev rfl)) ?_
    refine net_cons rfl rfl (n_indexS (off' := oX + (i) * 18) rfl (ev rfl) (ev rfl) Try.underlying29 Try.sizeOf95 (by omega) rfl) ?_
    refine net_cons rfl rfl (n_load rfl (ev rfl) (fun w2 hx2 => ldNR hcX (fm_at lc_len hz0) (lc_len _) Try.isAgg95 Try.sizeOf95 (by omega) w2 (hw.ext.trans hx2))) ?_
    refine net_cons rfl rfl (n_fieldAddrO (off' := 1) rfl (ev rfl) Try.runUnderlying83 rfl Try.sizeOf29 rfl) ?_
    refine net_cons rfl rfl (n_load rfl (ev rfl) (ld1 hw (i := 1) rfl Try.isAgg29 rfl)) ?_
    refine net_cons rfl rfl (n_move rfl (ev rfl)) ?_
    refine net_cons rfl rfl (n_indexS (off' := oY + (i) * 18) rfl (ev rfl) (ev rfl) Try.underlying29 Try.sizeOf95 (by omega) rfl) ?_
    refine net_cons rfl rfl (n_load rfl (ev rfl) (fun w2 hx2 => ldNR hcY (fm_at lc_len hz0) (lc_len _) Try.isAgg95 Try.sizeOf95 (by omega) w2 (hw.ext.trans hx2))) ?_
    refine net_cons rfl rfl (n_bin rfl (ev rfl) (ev rfl) (r_neLab (p := z) (q := z))) ?_
    refine net_nil fun a w1 hF hx => ?_
    replace hw := hw.next hx
    replace hF := hF.keep (.cons (t := 2) rfl (.cons (t := 3) rfl (.cons (t := 5) rfl (.cons (t := 24) rfl (.cons (t := 37) rfl .nil)))))
    refine wpList_nil ?_
    refine wp_cond_false ((hF.ev (ev rfl)).trans (congrArg Value.bool (by simp))) ?_
    refine wp_skip ?_
    refine reg_seq 3 (hF _ _) (by kernel_rfl) ?_
    refine net_cons rfl rfl (n_move rfl (ev rfl)) ?_
    refine net_cons rfl rfl (n_bin rfl (ev rfl) evc (r_inc (by omega))) ?_
    refine net_cons rfl rfl (n_assign rfl (ev rfl)) ?_
    refine net_nil fun a w1 hF hx => ?_
    replace hw := hw.next hx
    replace hF := hF.keep (.cons (t := 2) rfl (.cons (t := 3) rfl (.cons (t := 5) rfl (.cons (t := 24) rfl (.cons (t := 37) rfl .nil)))))
    refine wpList_nil ?_
    exact ⟨i + 1, ⟨hF.keep (.cons (t := 2) rfl (.cons (t := 3) rfl (.cons (t := 5) rfl (.nil)))), hw, by omega⟩, by omega⟩
  · refine wp_exit (go_then_e (go_then_e (go_exit ?_)))
    refine wp_seq (reg_seq 1 (hF _ _) (by kernel_rfl) ?_)
    refine net_cons rfl rfl (n_assign rfl evc) ?_
    refine net_nil fun a w1 hF hx => ?_
    replace hw := hw.next hx
    replace hF := hF.keep (.cons (t := 2) rfl (.cons (t := 3) rfl (.cons (t := 4) rfl (.cons (t := 5) rfl (.cons (t := 24) rfl .nil)))))
    refine wpList_nil ?_
    refine wp_ret (ret1 hF Try.results47 rfl ?_)
    exact ⟨_, rfl, hw.ext, rfl⟩


theorem seg_set {cs : List Value} {i : Nat} {v : Value} (h : i < cs.length) : seg cs i [v] = cs.set i v := by
  unfold seg
  rw [List.set_eq_take_append_cons_drop, if_pos h, List.append_assoc]
  rfl
theorem swap_row {cur : List Value} {bs : List Nat} {n a b x y : Nat} (h : cur.take (n * 1) = bs.map B8) : ((cur.set a (B8 y)).set b (B8 x)).take (n * 1) = ((bs.set a y).set b x).map B8 := by
  rw [List.take_set, List.take_set, h, List.map_set, List.map_set]
theorem cur_at {cur : List Value} {bs : List Nat} {n a x : Nat} (h : cur.take (n * 1) = bs.map B8) (hx : bs[a]? = some x) : cur[a]? = some (B8 x) := by
  have h1 : (cur.take (n * 1))[a]? = some (B8 x) := by rw [h, List.getElem?_map, hx]; rfl
  rw [List.getElem?_take] at h1
  split at h1
  · exact h1
  · cases h1
theorem swap_lt {bs : List Nat} {a b x y : Nat} (hb : ∀ z ∈ bs, z < 256) (h1 : bs[a]? = some x) (h2 : bs[b]? = some y) : ∀ z ∈ (bs.set a y).set b x ++ [y], z < 256 := fun z hz => hb z ((swap_mem h1 h2 z).2 hz)
theorem punctured_e (k : Key) (d : Nat) (hd : d ≤ 6) (n c : Nat) (A : Option Addr) (ms bs : List Nat) (hs : foldP d k ms = foldP d k bs) (hl : ms.length = n) (hn : n ≤ 9000) (hb : ∀ b ∈ ms, b < 256) (w : World) (hR : Rd w A (ms.map B8)) :
    RetF Try.prog 60 [K k, I (d : Int), .slice A n c].toArray w (.ex 95 18 (foldP d k bs).length ((foldP d k bs).flatMap lc) (fun v => .tuple #[PuV d v, .bool true])) := by
  rw [← hs]
  exact punctured_c k d hd n c A ms hl hn hb w hR


set_option maxHeartbeats 4000000 in
theorem PolyAnyOrder_c (k : Key) (dz : Int) (n c : Nat) (A : Option Addr) (bs : List Nat) (hl : bs.length = n) (hn : n ≤ 9223372036854775800) (hb : ∀ b ∈ bs, b < 256) (ib jb : Nat) (hib : ib < 256) (hjb : jb < 256) (w : World) (hR : Rd w A (bs.map B8)) : RetF Try.prog 15 [K k, I dz, .slice A n c, B8 ib, B8 jb].toArray w (.is (.bool true)) := by
  refine enter Try.func15 rfl Try.ntmps15 rfl fun a hF => ?_
  have hw := Own.start w
  refine wp_seq (wp_region_lit ?_)
  refine t_net 0 1 (by kernel_rfl) rfl hF ?_
  refine net_cons rfl rfl (n_box rfl (ev rfl) rfl) ?_
  refine net_nil fun a w1 hF hx => ?_
  obtain ⟨b5, h_, hw⟩ := hw.blk hx (hF.at_ 5 _ rfl)
  replace hF := hF.now h_
  replace hF := hF.keep (.cons (t := 1) rfl (.cons (t := 2) rfl (.cons (t := 3) rfl (.cons (t := 4) rfl (.cons (t := 5) rfl .nil)))))
  refine t_net 1 1 (by kernel_rfl) rfl hF ?_
  refine net_cons rfl rfl (n_assign rfl evc) ?_
  refine net_nil fun a w1 hF hx => ?_
  replace hw := hw.next hx
  replace hF := hF.keep (.cons (t := 1) rfl (.cons (t := 2) rfl (.cons (t := 3) rfl (.cons (t := 4) rfl (.cons (t := 5) rfl (.cons (t := 10) rfl .nil))))))
  refine wpList_nil ?_
  try simp only [List.nil_append, List.cons_append, List.set_cons_zero, List.set_cons_succ] at hw
  refine wp_seq (reg_seq 2 (hF _ _) (by kernel_rfl) ?_)
  refine net_cons rfl rfl (n_ret rfl Try.call29 .nil (fun _ hx => (alive_c _))) ?_
  refine net_cons rfl rfl (n_assign rfl (ev rfl)) ?_
  refine net_nil fun a w1 hF hx => ?_
  replace hw := hw.next hx
  replace hF := hF.keep (.cons (t := 1) rfl (.cons (t := 2) rfl (.cons (t := 3) rfl (.cons (t := 4) rfl (.cons (t := 5) rfl (.cons (t := 10) rfl (.cons (t := 11) rfl .nil)))))))
  refine wpList_nil ?_
  try simp only [List.nil_append, List.cons_append, List.set_cons_zero, List.set_cons_succ] at hw
  refine wp_seq ?_
  refine wp_seq (reg_seq 16 (hF _ _) (by kernel_rfl) ?_)
  refine net_cons rfl rfl (n_move rfl (ev rfl)) ?_
  refine net_cons rfl rfl (n_bin rfl (ev rfl) evc (r_lss (b := 0))) ?_
  refine net_cons rfl rfl (n_move rfl (ev rfl)) ?_
  refine net_if rfl rfl rfl rfl (fun hc => (n_move rfl (ev rfl))) ?_
  refine net_if rfl rfl rfl rfl (fun hc => (n_bin rfl (evi rfl hc) evc (r_gtr (b := 6)))) ?_
  refine net_cons rfl rfl (n_pick_or rfl (ev rfl) (fun h => (evi rfl h))) ?_
  refine net_cons rfl rfl (n_move rfl (ev rfl)) ?_
  refine net_if rfl rfl rfl rfl (fun hc => (n_move rfl (ev rfl))) ?_
  refine net_if rfl rfl rfl rfl (fun hc => (n_len rfl (evi rfl hc) Try.underlying108)) ?_
  refine net_if rfl rfl rfl rfl (fun hc => (n_bin rfl (evi rfl hc) evc (r_eql (b := 0)))) ?_
  refine net_cons rfl rfl (n_pick_or rfl (ev rfl) (fun h => (evi rfl h))) ?_
  refine net_cons rfl rfl (n_move rfl (ev rfl)) ?_
  refine net_if rfl rfl rfl rfl (fun hc => (n_move rfl (ev rfl))) ?_
  refine net_if rfl rfl rfl rfl (fun hc => (n_len rfl (evi rfl hc) Try.underlying108)) ?_
  refine net_if rfl rfl rfl rfl (fun hc => (n_bin rfl (evi rfl hc) evc (r_gtr (b := 300)))) ?_
  refine net_cons rfl rfl (n_pick_or rfl (ev rfl) (fun h => (evi rfl h))) ?_
  refine net_nil fun a w1 hF hx => ?_
  replace hw := hw.next hx
  replace hF := hF.keep (.cons (t := 1) rfl (.cons (t := 2) rfl (.cons (t := 3) rfl (.cons (t := 4) rfl (.cons (t := 5) rfl (.cons (t := 10) rfl (.cons (t := 11) rfl (.cons (t := 35) rfl .nil))))))))
  refine wpList_nil ?_
  try simp only [List.nil_append, List.cons_append, List.set_cons_zero, List.set_cons_succ] at hw
  refine wp_cond_split (hF.ev (ev rfl)) (fun h35 => ?_) (fun h35 => ?_)
  · refine wp_seq (reg_seq 2 (hF _ _) (by kernel_rfl) ?_)
    refine net_cons rfl rfl (n_move rfl (ev rfl)) ?_
    refine net_cons rfl rfl (n_assign rfl (ev rfl)) ?_
    refine net_nil fun a w1 hF hx => ?_
    replace hw := hw.next hx
    replace hF := hF.keep (.cons (t := 1) rfl (.cons (t := 2) rfl (.cons (t := 3) rfl (.cons (t := 4) rfl (.cons (t := 5) rfl (.cons (t := 10) rfl (.cons (t := 11) rfl (.cons (t := 35) rfl .nil))))))))
    refine wpList_nil ?_
    try simp only [List.nil_append, List.cons_append, List.set_cons_zero, List.set_cons_succ] at hw
    refine wp_ret (go_then_r (ret1 hF Try.results15 rfl ?_))
    exact ⟨_, rfl, hw.ext, rfl⟩
  · simp only [Bool.or_eq_false_iff, decide_eq_false_iff_not] at h35
    obtain ⟨d, rfl⟩ := Int.eq_ofNat_of_zero_le (show 0 ≤ dz by omega)
    have hd : d ≤ 6 := by omega
    have hpw := pow_le64 (d := d) (by omega)
    have hn0 : 0 < n := by omega
    have hn3 : n ≤ 300 := by omega
    have hia := Nat.mod_lt ib hn0
    have hja := Nat.mod_lt jb hn0
    obtain ⟨x, hx0⟩ := some_at hl hia
    obtain ⟨y, hy0⟩ := some_at hl hja
    have hsame : foldP d k ((bs.set (ib % n) y).set (jb % n) x ++ [y]) = foldP d k bs := (fold_same hd k (swap_mem hx0 hy0)).symm
    have hlt := swap_lt hb hx0 hy0
    refine wp_skip ?_
    refine wp_seq (wp_region_lit ?_)
    refine t_net 0 1 (by kernel_rfl) rfl hF ?_
    refine net_cons rfl rfl (n_bsl0 sl108 rfl) ?_
    refine net_nil fun a w1 hF hx => ?_
    obtain ⟨b37, h_, hw⟩ := hw.cap hx (hF.at_ 37 _ rfl)
    replace hF := hF.now (v := .slice (some ⟨b37, 0, none⟩) (0) (0)) h_
    replace hF := hF.keep (.cons (t := 1) rfl (.cons (t := 2) rfl (.cons (t := 3) rfl (.cons (t := 4) rfl (.cons (t := 5) rfl (.cons (t := 10) rfl (.cons (t := 11) rfl (.cons (t := 35) rfl (.cons (t := 37) rfl .nil)))))))))
    refine t_net 1 1 (by kernel_rfl) rfl hF ?_
    refine net_cons rfl rfl (n_move rfl (ev rfl)) ?_
    refine net_nil fun a w1 hF hx => ?_
    replace hw := hw.next hx
    replace hF := hF.keep (.cons (t := 1) rfl (.cons (t := 2) rfl (.cons (t := 3) rfl (.cons (t := 4) rfl (.cons (t := 5) rfl (.cons (t := 10) rfl (.cons (t := 11) rfl (.cons (t := 35) rfl (.cons (t := 37) rfl (.cons (t := 38) rfl .nil))))))))))
    replace hw := hw.blkRow (i := 1) (sz := 1) (n := 0) (by rfl) (by rfl) (by decide)
    refine t_append (i := 1) sl108 rfl rfl rfl (by decide) hF hw rfl (ev rfl) (ev rfl) (hR.ext hw.ext) (by rw [List.length_map]; omega) (fun u hu => by obtain ⟨z, _, rfl⟩ := List.mem_map.1 hu; rfl) (by simp only [maxLen]; omega) (by omega) fun v39 a w1 hF hw => ?_
    replace hF := hF.keep (.cons (t := 1) rfl (.cons (t := 2) rfl (.cons (t := 3) rfl (.cons (t := 4) rfl (.cons (t := 5) rfl (.cons (t := 10) rfl (.cons (t := 11) rfl (.cons (t := 35) rfl (.cons (t := 39) rfl .nil)))))))))
    rw [Nat.zero_add, List.nil_append] at hw
    obtain ⟨g, cap, rfl, hcap⟩ := hw.rowForm (i := 1) rfl hn0
    obtain ⟨cur, hcl, hct, _, hcm, hw⟩ := hw.rowBlk (i := 1) rfl
    rw [Nat.mul_one] at hcl
    refine t_net 3 1 (by kernel_rfl) rfl hF ?_
    refine net_cons rfl rfl (n_assign rfl (ev rfl)) ?_
    refine net_nil fun a w1 hF hx => ?_
    replace hw := hw.next hx
    replace hF := hF.keep (.cons (t := 1) rfl (.cons (t := 2) rfl (.cons (t := 3) rfl (.cons (t := 4) rfl (.cons (t := 5) rfl (.cons (t := 10) rfl (.cons (t := 11) rfl (.cons (t := 12) rfl (.cons (t := 35) rfl .nil)))))))))
    refine wpList_nil ?_
    try simp only [List.nil_append, List.cons_append, List.set_cons_zero, List.set_cons_succ] at hw
    refine wp_seq (reg_draw 12 mixed (by kernel_rfl) (hF _ _) ?_)
    refine net_cons rfl rfl (n_move rfl (ev rfl)) ?_
    refine net_cons rfl rfl (n_convT rfl (ev rfl) Try.underlying5 Try.underlying3 (wrap_b hib)) ?_
    refine net_cons rfl rfl (n_move rfl (ev rfl)) ?_
    refine net_cons rfl rfl (n_len rfl (ev rfl) Try.underlying108) ?_
    refine net_cons rfl rfl (n_bin rfl (ev rfl) (ev rfl) (rem_n hn0)) ?_
    refine net_cons rfl rfl (n_move rfl (ev rfl)) ?_
    refine net_cons rfl rfl (n_convT rfl (ev rfl) Try.underlying5 Try.underlying3 (wrap_b hjb)) ?_
    refine net_cons rfl rfl (n_move rfl (ev rfl)) ?_
    refine net_cons rfl rfl (n_len rfl (ev rfl) Try.underlying108) ?_
    refine net_cons rfl rfl (n_bin rfl (ev rfl) (ev rfl) (rem_n hn0)) ?_
    refine net_cons rfl rfl (n_assign rfl (ev rfl)) ?_
    refine net_cons rfl rfl (n_assign rfl (ev rfl)) ?_
    refine net_nil fun a w1 hF hx => ?_
    replace hw := hw.next hx
    replace hF := hF.keep (.cons (t := 1) rfl (.cons (t := 2) rfl (.cons (t := 5) rfl (.cons (t := 10) rfl (.cons (t := 11) rfl (.cons (t := 12) rfl (.cons (t := 13) rfl (.cons (t := 14) rfl (.cons (t := 35) rfl .nil)))))))))
    refine wpList_nil ?_
    try simp only [List.nil_append, List.cons_append, List.set_cons_zero, List.set_cons_succ] at hw
    refine wp_seq (reg_phase [13, 15] [(0,0),(0,0),(0,1),(0,1),(0,0),(0,0),(0,0),(0,0),(0,1),(0,1),(0,1),(0,0),(0,0),(0,0),(1,1),(1,1)] (fun m w1 => Own w w1 [.blk b5 23 (kc k), .blk g 5 (match m with | 0 => cur | 1 => cur.set (ib % n) (B8 y) | _ => (cur.set (ib % n) (B8 y)).set (jb % n) (B8 x))]) mixed (by kernel_rfl) (by decide) (fun m w1 w2 h hx => h.next hx) hF hw ?_ (isE rfl))
    refine netP_cons rfl rfl (pstep_any fun w1 => (n_move rfl (ev rfl))) ?_
    refine netP_cons rfl rfl (pstep_any fun w1 => (n_move rfl (ev rfl))) ?_
    refine netP_cons rfl rfl (pstep_any fun w1 => (n_move rfl (ev rfl))) ?_
    refine netP_cons rfl rfl (pstep_any fun w1 => (n_move rfl (ev rfl))) ?_
    refine netP_cons rfl rfl (pstep_any fun w1 => (n_move rfl (ev rfl))) ?_
    refine netP_cons rfl rfl (pstep_any fun w1 => (n_move rfl (ev rfl))) ?_
    refine netP_cons rfl rfl (pstep_any fun w1 => (n_indexS (off' := jb % n) rfl (ev rfl) (ev rfl) Try.underlying108 Try.sizeOf5 (by omega) (by omega))) ?_
    refine netP_cons rfl rfl (pstep_at 0 rfl rfl fun w1 hw => (n_load rfl (ev rfl) (ld1 hw (i := 1) rfl Try.isAgg5 (cur_at hct hy0)))) ?_
    refine netP_cons rfl rfl (pstep_any fun w1 => (n_move rfl (ev rfl))) ?_
    refine netP_cons rfl rfl (pstep_any fun w1 => (n_move rfl (ev rfl))) ?_
    refine netP_cons rfl rfl (pstep_any fun w1 => (n_indexS (off' := ib % n) rfl (ev rfl) (ev rfl) Try.underlying108 Try.sizeOf5 (by omega) (by omega))) ?_
    refine netP_cons rfl rfl (pstep_at 0 rfl rfl fun w1 hw => (n_load rfl (ev rfl) (ld1 hw (i := 1) rfl Try.isAgg5 (cur_at hct hx0)))) ?_
    refine netP_cons rfl rfl (pstep_any fun w1 => (n_indexS (off' := ib % n) rfl (ev rfl) (ev rfl) Try.underlying108 Try.sizeOf5 (by omega) (by omega))) ?_
    refine netP_store (m := 0) rfl rfl (ts_store (i := 1) rfl (fun _ h => h) rfl rfl rfl rfl one1 Try.sizeOf5 rfl (by show ib % n + 1 ≤ cur.length; omega) (seg_set (by show ib % n < cur.length; omega)) fun _ h => h) ?_
    refine netP_cons rfl rfl (pstep_any fun w1 => (n_indexS (off' := jb % n) rfl (ev rfl) (ev rfl) Try.underlying108 Try.sizeOf5 (by omega) (by omega))) ?_
    refine netP_store (m := 1) rfl rfl (ts_store (i := 1) rfl (fun _ h => h) rfl rfl rfl rfl one1 Try.sizeOf5 rfl (by show jb % n + 1 ≤ (cur.set (ib % n) (B8 y)).length; rw [List.length_set]; omega) (seg_set (by show jb % n < (cur.set (ib % n) (B8 y)).length; rw [List.length_set]; omega)) fun _ h => h) ?_
    refine netP_nil fun a w1 hF hw => ?_
    replace hF := hF.keep (.cons (t := 1) rfl (.cons (t := 2) rfl (.cons (t := 5) rfl (.cons (t := 11) rfl (.cons (t := 12) rfl (.cons (t := 14) rfl .nil))))))
    replace hw := hw.blkRowC (i := 1) (n := n) (cap := cap) rfl (by show ((cur.set (ib % n) (B8 y)).set (jb % n) (B8 x)).length = cap * 1; rw [List.length_set, List.length_set, Nat.mul_one]; exact hcl) hcap hcm (swap_row hct)
    try simp only [List.nil_append, List.cons_append, List.set_cons_zero, List.set_cons_succ] at hw
    have hF_ := hF
    have hw_ := hw
    obtain ⟨bX, oX, rfl, hcX⟩ := hR.at_ (by rw [List.length_map]; omega)
    have hF := hF_
    have hw := hw_
    refine wp_seq (wp_region_lit ?_)
    refine t_net 0 6 (by kernel_rfl) rfl hF ?_
    refine net_cons rfl rfl (n_move rfl (ev rfl)) ?_
    refine net_cons rfl rfl (n_move rfl (ev rfl)) ?_
    refine net_cons rfl rfl (n_move rfl (ev rfl)) ?_
    refine net_cons rfl rfl (n_indexS (off' := oX + (jb % n)) rfl (ev rfl) (ev rfl) Try.underlying108 Try.sizeOf5 (by omega) (by omega)) ?_
    refine net_cons rfl rfl (n_load rfl (ev rfl) (fun w2 hx2 => ld1R hcX (map_at (f := B8) hy0) Try.isAgg5 (by omega) w2 (hw.ext.trans hx2))) ?_
    refine net_cons rfl rfl (n_bsl sl108 rfl (.cons (ev rfl) .nil) (.cons rfl rfl .nil) rfl (by decide) (by decide)) ?_
    refine net_nil fun a w1 hF hx => ?_
    obtain ⟨b69, e69_, l69_, h69_⟩ := hF.at_ 69 _ rfl
    have hR69 := Rd.heap h69_
    replace hF := hF.now (v := .slice (some ⟨b69, 0, none⟩) (1) (1)) e69_
    replace hw := hw.next hx
    replace hF := hF.keep (.cons (t := 1) rfl (.cons (t := 2) rfl (.cons (t := 5) rfl (.cons (t := 11) rfl (.cons (t := 12) rfl (.cons (t := 14) rfl (.cons (t := 64) rfl (.cons (t := 69) rfl .nil))))))))
    refine t_append (i := 1) sl108 rfl rfl rfl (by decide) hF hw rfl (ev rfl) (ev rfl) hR69 rfl one1 (by simp only [maxLen]; omega) (by omega) fun v70 a w1 hF hw => ?_
    replace hF := hF.keep (.cons (t := 1) rfl (.cons (t := 2) rfl (.cons (t := 5) rfl (.cons (t := 11) rfl (.cons (t := 12) rfl (.cons (t := 14) rfl (.cons (t := 70) rfl .nil)))))))
    obtain ⟨A70, c70, rfl, hle70, _, _⟩ := hw.rd (i := 1) rfl
    replace hw : Own w _ [.blk b5 23 (kc k), .row (.slice A70 (n + 1) c70) 5 1 (n + 1) (((bs.set (ib % n) y).set (jb % n) x ++ [y]).map B8)] := (by rw [List.map_append]; exact hw)
    refine t_net 7 1 (by kernel_rfl) rfl hF ?_
    refine net_cons rfl rfl (n_assign rfl (ev rfl)) ?_
    refine net_nil fun a w1 hF hx => ?_
    replace hw := hw.next hx
    replace hF := hF.keep (.cons (t := 1) rfl (.cons (t := 2) rfl (.cons (t := 5) rfl (.cons (t := 11) rfl (.cons (t := 12) rfl (.cons (t := 14) rfl .nil))))))
    refine wpList_nil ?_
    try simp only [List.nil_append, List.cons_append, List.set_cons_zero, List.set_cons_succ] at hw
    refine wp_seq (wp_region_lit ?_)
    refine t_net 0 4 (by kernel_rfl) rfl hF ?_
    refine net_cons rfl rfl (n_load rfl (ev rfl) (ldN hw (i := 0) (vs := _) rfl Try.isAgg23 Try.sizeOf23 (kc_len _) (cut_whole (kc_len _)))) ?_
    refine net_cons rfl rfl (n_move rfl (ev rfl)) ?_
    refine net_cons rfl rfl (n_move rfl (ev rfl)) ?_
    refine net_cons rfl rfl (n_ret rfl Try.call60 (.cons (ev rfl) (.cons (ev rfl) (.cons (ev rfl) .nil))) (fun _ hx => (punctured_c k d hd n c _ bs hl (by omega) hb _ (hR.ext (hw.ext.trans hx))))) ?_
    refine net_nil fun a w1 hF hx => ?_
    obtain ⟨s75, h_, hw⟩ := hw.ex hx (hF.at_ 75 _ rfl)
    replace hF := hF.now h_
    replace hF := hF.keep (.cons (t := 1) rfl (.cons (t := 2) rfl (.cons (t := 5) rfl (.cons (t := 11) rfl (.cons (t := 12) rfl (.cons (t := 14) rfl (.cons (t := 75) rfl .nil)))))))
    obtain ⟨A75, c75, rfl, hle75, _, _⟩ := hw.rd (i := 2) rfl
    refine t_net 4 4 (by kernel_rfl) rfl hF ?_
    refine net_cons rfl rfl (n_move rfl (ev rfl)) ?_
    refine net_cons rfl rfl (n_extract rfl (ev rfl) rfl) ?_
    refine net_cons rfl rfl (n_extract rfl (ev rfl) rfl) ?_
    refine net_cons rfl rfl (n_alloc rfl Try.zeroValue83 rfl) ?_
    refine net_nil fun a w1 hF hx => ?_
    obtain ⟨b15, h_, hw⟩ := hw.blk hx (hF.at_ 15 _ rfl)
    replace hF := hF.now h_
    replace hF := hF.keep (.cons (t := 1) rfl (.cons (t := 2) rfl (.cons (t := 5) rfl (.cons (t := 11) rfl (.cons (t := 12) rfl (.cons (t := 14) rfl (.cons (t := 15) rfl (.cons (t := 76) rfl (.cons (t := 77) rfl .nil)))))))))
    refine t_store (i := 3) rfl rfl rfl hF hw rfl (ev rfl) (ev rfl) rfl one_pu Try.sizeOf83 rfl (Nat.le_of_ble_eq_true rfl) rfl fun w1 hw => ?_
    refine t_net 9 1 (by kernel_rfl) rfl hF ?_
    refine net_cons rfl rfl (n_assign rfl (ev rfl)) ?_
    refine net_nil fun a w1 hF hx => ?_
    replace hw := hw.next hx
    replace hF := hF.keep (.cons (t := 1) rfl (.cons (t := 2) rfl (.cons (t := 5) rfl (.cons (t := 11) rfl (.cons (t := 12) rfl (.cons (t := 14) rfl (.cons (t := 15) rfl (.cons (t := 16) rfl .nil))))))))
    refine wpList_nil ?_
    try simp only [List.nil_append, List.cons_append, List.set_cons_zero, List.set_cons_succ] at hw
    obtain ⟨_, _, hse_, _, hR70, _⟩ := hw.rd (i := 1) rfl
    injection hse_ with hA_ _ _
    subst hA_
    refine wp_seq (wp_region_lit ?_)
    refine t_net 0 4 (by kernel_rfl) rfl hF ?_
    refine net_cons rfl rfl (n_load rfl (ev rfl) (ldN hw (i := 0) (vs := _) rfl Try.isAgg23 Try.sizeOf23 (kc_len _) (cut_whole (kc_len _)))) ?_
    refine net_cons rfl rfl (n_move rfl (ev rfl)) ?_
    refine net_cons rfl rfl (n_move rfl (ev rfl)) ?_
    refine net_cons rfl rfl (n_ret rfl Try.call60 (.cons (ev rfl) (.cons (ev rfl) (.cons (ev rfl) .nil))) (fun _ hx => (punctured_e k d hd (n + 1) c70 A70 ((bs.set (ib % n) y).set (jb % n) x ++ [y]) bs hsame (by simp [hl]) (by omega) hlt _ (hR70.ext hx)))) ?_
    refine net_nil fun a w1 hF hx => ?_
    obtain ⟨s82, h_, hw⟩ := hw.ex hx (hF.at_ 82 _ rfl)
    replace hF := hF.now h_
    replace hF := hF.keep (.cons (t := 1) rfl (.cons (t := 2) rfl (.cons (t := 5) rfl (.cons (t := 11) rfl (.cons (t := 12) rfl (.cons (t := 14) rfl (.cons (t := 15) rfl (.cons (t := 16) rfl (.cons (t := 82) rfl .nil)))))))))
    obtain ⟨A82, c82, rfl, hle82, _, _⟩ := hw.rd (i := 4) rfl
    refine t_net 4 4 (by kernel_rfl) rfl hF ?_
    refine net_cons rfl rfl (n_move rfl (ev rfl)) ?_
    refine net_cons rfl rfl (n_extract rfl (ev rfl) rfl) ?_
    refine net_cons rfl rfl (n_extract rfl (ev rfl) rfl) ?_
    refine net_cons rfl rfl (n_alloc rfl Try.zeroValue83 rfl) ?_
    refine net_nil fun a w1 hF hx => ?_
    obtain ⟨b17, h_, hw⟩ := hw.blk hx (hF.at_ 17 _ rfl)
    replace hF := hF.now h_
    replace hF := hF.keep (.cons (t := 1) rfl (.cons (t := 2) rfl (.cons (t := 5) rfl (.cons (t := 11) rfl (.cons (t := 12) rfl (.cons (t := 14) rfl (.cons (t := 15) rfl (.cons (t := 16) rfl (.cons (t := 17) rfl (.cons (t := 83) rfl (.cons (t := 84) rfl .nil)))))))))))
    refine t_store (i := 5) rfl rfl rfl hF hw rfl (ev rfl) (ev rfl) rfl one_pu Try.sizeOf83 rfl (Nat.le_of_ble_eq_true rfl) rfl fun w1 hw => ?_
    refine t_net 9 1 (by kernel_rfl) rfl hF ?_
    refine net_cons rfl rfl (n_assign rfl (ev rfl)) ?_
    refine net_nil fun a w1 hF hx => ?_
    replace hw := hw.next hx
    replace hF := hF.keep (.cons (t := 1) rfl (.cons (t := 2) rfl (.cons (t := 5) rfl (.cons (t := 11) rfl (.cons (t := 12) rfl (.cons (t := 14) rfl (.cons (t := 15) rfl (.cons (t := 16) rfl (.cons (t := 17) rfl (.cons (t := 18) rfl .nil))))))))))
    refine wpList_nil ?_
    try simp only [List.nil_append, List.cons_append, List.set_cons_zero, List.set_cons_succ] at hw
    obtain ⟨_, _, hse_, _, hR75, _⟩ := hw.rd (i := 2) rfl
    injection hse_ with hA_ _ _
    subst hA_
    obtain ⟨_, _, hse_, _, hR82, _⟩ := hw.rd (i := 4) rfl
    injection hse_ with hA_ _ _
    subst hA_
    refine wp_seq (reg_seq 13 (hF _ _) (by kernel_rfl) ?_)
    refine net_cons rfl rfl (n_move rfl (ev rfl)) ?_
    refine net_cons rfl rfl (n_move rfl (ev rfl)) ?_
    refine net_if rfl rfl rfl rfl (fun hc => (n_move rfl (ev rfl))) ?_
    refine net_cons rfl rfl (n_pick_and rfl (ev rfl) (fun h => (evi rfl h))) ?_
    refine net_cons rfl rfl (n_move rfl (ev rfl)) ?_
    refine net_if rfl rfl rfl rfl (fun hc => (n_move rfl (ev rfl))) ?_
    refine net_cons rfl rfl (n_pick_and rfl (ev rfl) (fun h => (evi rfl h))) ?_
    refine net_cons rfl rfl (n_move rfl (ev rfl)) ?_
    refine net_if rfl rfl rfl rfl (fun hc => (n_load rfl (ev rfl) (ldN hw (i := 3) (vs := _) rfl Try.isAgg83 Try.sizeOf83 rfl rfl))) ?_
    refine net_if rfl rfl rfl rfl (fun hc => (n_load rfl (ev rfl) (ldN hw (i := 5) (vs := _) rfl Try.isAgg83 Try.sizeOf83 rfl rfl))) ?_
    refine net_if rfl rfl rfl rfl (fun hc => (n_ret rfl Try.call47 (.cons (evi rfl hc) (.cons (evi rfl hc) .nil)) (fun _ hx => (SameP_c d _ c75 c82 A75 A82 (foldP d k bs) rfl (by have := fold_le hd k bs; omega) _ (hR75.ext hx) (hR82.ext hx))))) ?_
    refine net_cons rfl rfl (n_pick_and rfl (ev rfl) (fun h => (evi rfl h))) ?_
    refine net_cons rfl rfl (n_assign rfl (ev rfl)) ?_
    refine net_nil fun a w1 hF hx => ?_
    replace hw := hw.next hx
    replace hF := hF.keep (.cons (t := 1) rfl (.cons (t := 2) rfl (.cons (t := 5) rfl (.cons (t := 10) rfl (.cons (t := 11) rfl (.cons (t := 12) rfl (.cons (t := 14) rfl (.cons (t := 15) rfl (.cons (t := 17) rfl .nil)))))))))
    refine wpList_nil ?_
    try simp only [List.nil_append, List.cons_append, List.set_cons_zero, List.set_cons_succ] at hw
    refine wp_ret (ret1 hF Try.results15 rfl ?_)
    exact ⟨_, rfl, hw.ext, rfl⟩
end Go.Proofs.Ythgpojlcbbgaoaa

