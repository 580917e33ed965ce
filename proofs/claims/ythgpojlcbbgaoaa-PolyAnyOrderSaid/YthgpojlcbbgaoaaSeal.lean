/- sealing: lists of receivers, masks, the two sides of Seal -/
import Derived.Test.YthgpojlcbbgaoaaHdr
import Derived.Test.YthgpojlcbbgaoaaFloat

set_option autoImplicit false
set_option maxRecDepth 100000
set_option linter.unusedVariables false
namespace Go.Proofs.Ythgpojlcbbgaoaa
open Go.RowKit

theorem nest2 {c0 b0 c b : Bool} (h1 : c0 = b0) (h2 : c = b) : ((c0 == b0) && (c == b)) = true := by subst h1 h2; simp

theorem spow_c (kd : Nat) (dp dg : Int) (p q g : Nat) (b n : Nat) (hb : b < 18446744073709551616) (hn : n < 18446744073709551616) (h1 : 1 ≤ p) (h2 : p < 4294967296) (w : World) : RetF Try.prog 69 [SV kd dp dg p q g, U b, U n].toArray w (.is (U (b ^ n % p))) := by
  refine enter Try.func69 rfl Try.ntmps69 rfl fun a hF => ?_
  have hw := Own.start w
  refine wp_seq (wp_region_lit ?_)
  refine t_net 0 1 (by kernel_rfl) rfl hF ?_
  refine net_cons rfl rfl (n_box rfl (ev rfl) rfl) ?_
  refine net_nil fun a w1 hF hx => ?_
  obtain ⟨b3, h_, hw⟩ := hw.blk hx (hF.at_ 3 _ rfl)
  replace hF := hF.now h_
  replace hF := hF.keep (.cons (t := 1) rfl (.cons (t := 2) rfl (.cons (t := 3) rfl .nil)))
  refine t_net 1 1 (by kernel_rfl) rfl hF ?_
  refine net_cons rfl rfl (n_assign rfl evc) ?_
  refine net_nil fun a w1 hF hx => ?_
  replace hw := hw.next hx
  replace hF := hF.keep (.cons (t := 1) rfl (.cons (t := 2) rfl (.cons (t := 3) rfl (.cons (t := 6) rfl .nil))))
  refine wpList_nil ?_
  refine wp_seq (reg_seq 11 (hF _ _) (by kernel_rfl) ?_)
  refine net_cons rfl rfl (n_move rfl (ev rfl)) ?_
  refine net_cons rfl rfl (n_move rfl (ev rfl)) ?_
  refine net_cons rfl rfl (n_fieldAddrO (off' := 3) rfl (ev rfl) Try.runUnderlying28 rfl Try.sizeOf26 rfl) ?_
  refine net_cons rfl rfl (n_fieldAddrO (off' := 3) rfl (ev rfl) Try.runUnderlying26 rfl Try.sizeOf24 rfl) ?_
  refine net_cons rfl rfl (n_load rfl (ev rfl) (ld1 hw (i := 0) rfl Try.isAgg24 rfl)) ?_
  refine net_cons rfl rfl (n_ret rfl Try.call35 (.cons (ev rfl) (.cons (ev rfl) (.cons (ev rfl) .nil))) (fun _ hx => PowMod_c _ _ _ hb hn h1 h2 _)) ?_
  refine net_cons rfl rfl (n_move rfl (ev rfl)) ?_
  refine net_cons rfl rfl (n_extract rfl (ev rfl) rfl) ?_
  refine net_cons rfl rfl (n_extract rfl (ev rfl) rfl) ?_
  refine net_cons rfl rfl (n_assign rfl (ev rfl)) ?_
  refine net_cons rfl rfl (n_assign rfl (ev rfl)) ?_
  refine net_nil fun a w1 hF hx => ?_
  replace hw := hw.next hx
  replace hF := hF.keep (.cons (t := 6) rfl (.cons (t := 7) rfl .nil))
  refine wpList_nil ?_
  refine wp_seq (reg_seq 2 (hF _ _) (by kernel_rfl) ?_)
  refine net_cons rfl rfl (n_move rfl (ev rfl)) ?_
  refine net_cons rfl rfl (n_assign rfl (ev rfl)) ?_
  refine net_nil fun a w1 hF hx => ?_
  replace hw := hw.next hx
  replace hF := hF.keep (.cons (t := 6) rfl .nil)
  refine wpList_nil ?_
  refine wp_ret (ret1 hF Try.results69 rfl ?_)
  exact ⟨_, rfl, hw.ext, rfl⟩

theorem maskKey_c (z : Nat) (hz : z < 18446744073709551616) (w : World) : RetF Try.prog 72 [U z].toArray w (.is (K (derK key0 42 z))) := by
  refine enter Try.func72 rfl Try.ntmps72 rfl fun a hF => ?_
  have hw := Own.start w
  refine wp_seq (wp_region_lit ?_)
  refine t_net 0 1 (by kernel_rfl) rfl hF ?_
  refine net_cons rfl rfl (n_alloc rfl Try.zeroValue23 rfl) ?_
  refine net_nil fun a w1 hF hx => ?_
  obtain ⟨b2, h_, hw⟩ := hw.blk hx (hF.at_ 2 _ rfl)
  replace hF := hF.now h_
  replace hF := hF.keep (.cons (t := 0) rfl (.cons (t := 2) rfl .nil))
  refine wpList_nil ?_
  refine wp_seq (wp_region_lit ?_)
  refine t_net 0 3 (by kernel_rfl) rfl hF ?_
  refine net_cons rfl rfl (n_build rfl .nil build_23_) ?_
  refine net_cons rfl rfl (n_move rfl (ev rfl)) ?_
  refine net_cons rfl rfl (n_ret rfl Try.call37 (.cons (ev rfl) (.cons evc (.cons (ev rfl) .nil))) (fun _ hx => Derive_c key0 42 z (by decide) hz _)) ?_
  refine net_nil fun a w1 hF hx => ?_
  replace hw := hw.next hx
  replace hF := hF.keep (.cons (t := 2) rfl (.cons (t := 5) rfl .nil))
  refine t_store (i := 0) rfl rfl rfl hF hw rfl (ev rfl) (ev rfl) rfl (kc_one _) Try.sizeOf23 (kc_len _) (by first | decide | (rw [kc_len]; decide)) (seg_whole (by rw [kc_len]; rfl)) fun w1 hw => ?_
  refine wpList_nil ?_
  refine wp_ret (retc hF Try.results72 rfl (ldN hw (i := 0) (vs := _) rfl Try.isAgg23 Try.sizeOf23 (kc_len _) (cut_whole (kc_len _)) _ (Ext.refl _)) ?_)
  exact ⟨_, rfl, hw.ext, rfl⟩

theorem MaskKey_c (z : Nat) (hz : z < 18446744073709551616) (w : World) : RetF Try.prog 84 [U z].toArray w (.is (K (derK key0 42 z))) := by
  refine enter Try.func84 rfl Try.ntmps84 rfl fun a hF => ?_
  have hw := Own.start w
  refine wp_seq (wp_region_lit ?_)
  refine t_net 0 1 (by kernel_rfl) rfl hF ?_
  refine net_cons rfl rfl (n_alloc rfl Try.zeroValue23 rfl) ?_
  refine net_nil fun a w1 hF hx => ?_
  obtain ⟨b2, h_, hw⟩ := hw.blk hx (hF.at_ 2 _ rfl)
  replace hF := hF.now h_
  replace hF := hF.keep (.cons (t := 0) rfl (.cons (t := 2) rfl .nil))
  refine wpList_nil ?_
  refine wp_seq (wp_region_lit ?_)
  refine t_net 0 3 (by kernel_rfl) rfl hF ?_
  refine net_cons rfl rfl (n_build rfl .nil build_23_) ?_
  refine net_cons rfl rfl (n_move rfl (ev rfl)) ?_
  refine net_cons rfl rfl (n_ret rfl Try.call85 (.cons (ev rfl) (.cons evc (.cons (ev rfl) .nil))) (fun _ hx => rDerive_c key0 42 z (by decide) hz _)) ?_
  refine net_nil fun a w1 hF hx => ?_
  replace hw := hw.next hx
  replace hF := hF.keep (.cons (t := 2) rfl (.cons (t := 5) rfl .nil))
  refine t_store (i := 0) rfl rfl rfl hF hw rfl (ev rfl) (ev rfl) rfl (kc_one _) Try.sizeOf23 (kc_len _) (by first | decide | (rw [kc_len]; decide)) (seg_whole (by rw [kc_len]; rfl)) fun w1 hw => ?_
  refine wpList_nil ?_
  refine wp_ret (retc hF Try.results84 rfl (ldN hw (i := 0) (vs := _) rfl Try.isAgg23 Try.sizeOf23 (kc_len _) (cut_whole (kc_len _)) _ (Ext.refl _)) ?_)
  exact ⟨_, rfl, hw.ext, rfl⟩


theorem getD_at {α : Type} {l : List α} {i : Nat} {d : α} (h : i < l.length) : l[i]? = some (l.getD i d) := by
  rw [List.getD_eq_getElem?_getD, List.getElem?_eq_getElem h]
  rfl
/-- Whether the number with the index i does not fit into a list of receivers below b. -/
def badL (b : Int) (l : List Int) (i : Nat) : Bool := (decide (l.getD i 0 < 0) || decide (b ≤ l.getD i 0)) || (decide (0 < i) && decide (l.getD i 0 ≤ l.getD (i - 1) 0))
/-- Whether some numbers are a list of receivers below b. -/
def okL (b : Int) (l : List Int) : Bool := (List.range l.length).all fun i => !badL b l i
theorem okL_yes {b : Int} {l : List Int} {n : Nat} (hl : l.length = n) (h : ∀ i, i < n → badL b l i = false) : okL b l = true := by
  simp only [okL, List.all_eq_true, List.mem_range]
  intro i hi
  rw [h i (by omega)]
  rfl
theorem okL_no {b : Int} {l : List Int} {i : Nat} (hi : i < l.length) (h : badL b l i = true) : okL b l = false := by
  cases hz : okL b l with
  | false => rfl
  | true =>
    simp only [okL, List.all_eq_true, List.mem_range] at hz
    have := hz i hi
    rw [h] at this
    cases this
theorem okL_at {b : Int} {l : List Int} (h : okL b l = true) {i : Nat} (hi : i < l.length) : 0 ≤ l.getD i 0 ∧ l.getD i 0 < b := by
  simp only [okL, List.all_eq_true, List.mem_range] at h
  have := h i hi
  simp only [badL, Bool.not_eq_true', Bool.or_eq_false_iff, decide_eq_false_iff_not] at this
  omega
theorem up_bad {b : Int} {l : List Int} {i : Nat} (h : ∀ j, j < i → badL b l j = false) (h2 : badL b l i = false) : ∀ j, j < i + 1 → badL b l j = false := by
  intro j hj
  by_cases e : j = i
  · subst e; exact h2
  · exact h j (by omega)


theorem IsList_c (dp : Int) (h0 : 0 ≤ dp) (h6 : dp ≤ 6) (n c : Nat) (A : Option Addr) (l : List Int) (hl : l.length = n) (hn : n ≤ 9223372036854775800) (w : World) (hR : Rd w A (l.map I)) : RetF Try.prog 31 [I dp, .slice A n c].toArray w (.is (.bool (okL ((2 ^ dp.toNat : Nat) : Int) l))) := by
  refine enter Try.func31 rfl Try.ntmps31 rfl fun a hF => ?_
  have hw := Own.start w
  refine wp_seq (reg_seq 1 (hF _ _) (by kernel_rfl) ?_)
  refine net_cons rfl rfl (n_assign rfl evc) ?_
  refine net_nil fun a w1 hF hx => ?_
  replace hw := hw.next hx
  replace hF := hF.keep (.cons (t := 0) rfl (.cons (t := 1) rfl (.cons (t := 4) rfl .nil)))
  refine wpList_nil ?_
  refine wp_seq ?_
  refine wp_seq (reg_seq 1 (hF _ _) (by kernel_rfl) ?_)
  refine net_cons rfl rfl (n_assign rfl evc) ?_
  refine net_nil fun a w1 hF hx => ?_
  replace hw := hw.next hx
  replace hF := hF.keep (.cons (t := 0) rfl (.cons (t := 1) rfl (.cons (t := 4) rfl (.cons (t := 5) rfl .nil))))
  refine wpList_nil ?_
  refine wp_block ?_
  refine wp_loop_ix (α := Nat) (fun i a w1 => FrV 42 [] [(0, .is (I dp)) , (1, .is (.slice A n c)) , (5, .is (I (i : Int)))] a ∧ Own w w1 [] ∧ (i ≤ n) ∧ (∀ j, j < i → badL ((2 ^ dp.toNat : Nat) : Int) l j = false)) (fun i => n - i) (0) ⟨hF.keep (.cons (t := 0) rfl (.cons (t := 1) rfl (.cons (t := 5) rfl (.nil)))), hw, by omega, fun j h => by omega⟩ ?_
  rintro i a w1 ⟨hF, hw, hi0, hbad⟩
  refine wp_seq ?_
  refine wp_seq (reg_seq 4 (hF _ _) (by kernel_rfl) ?_)
  refine net_cons rfl rfl (n_move rfl (ev rfl)) ?_
  refine net_cons rfl rfl (n_move rfl (ev rfl)) ?_
  refine net_cons rfl rfl (n_len rfl (ev rfl) Try.underlying41) ?_
  refine net_cons rfl rfl (n_bin rfl (ev rfl) (ev rfl) r_lssN) ?_
  refine net_nil fun a w1 hF hx => ?_
  replace hw := hw.next hx
  replace hF := hF.keep (.cons (t := 0) rfl (.cons (t := 1) rfl (.cons (t := 5) rfl (.cons (t := 9) rfl .nil))))
  refine wpList_nil ?_
  refine wp_cond_split (hF.ev (ev rfl)) (fun h9 => ?_) (fun h9 => ?_)
  · have hi : i < n := of_bool_t h9
    have hx0 := getD_at (l := l) (i := i) (d := 0) (by omega)
    have hy0 := getD_at (l := l) (i := i - 1) (d := 0) (by omega)
    have hF_ := hF
    have hw_ := hw
    obtain ⟨bX, oX, rfl, hcX⟩ := hR.at_ (by rw [List.length_map]; omega)
    have hF := hF_
    have hw := hw_
    refine wp_skip ?_
    refine wp_seq (wp_block ?_)
    refine wp_seq (reg_draw 30 mixed (by kernel_rfl) (hF _ _) ?_)
    refine net_cons rfl rfl (n_move rfl (ev rfl)) ?_
    refine net_cons rfl rfl (n_move rfl (ev rfl)) ?_
    refine net_cons rfl rfl (n_indexS (off' := oX + (i)) rfl (ev rfl) (ev rfl) Try.underlying41 Try.sizeOf3 (by omega) (by omega)) ?_
    refine net_cons rfl rfl (n_load rfl (ev rfl) (fun w2 hx2 => ld1R hcX (map_at hx0) Try.isAgg3 (by omega) w2 (hw.ext.trans hx2))) ?_
    refine net_cons rfl rfl (n_bin rfl (ev rfl) evc r_lss) ?_
    refine net_cons rfl rfl (n_move rfl (ev rfl)) ?_
    refine net_if rfl rfl rfl rfl (fun hc => (n_move rfl (ev rfl))) ?_
    refine net_if rfl rfl rfl rfl (fun hc => (n_move rfl (ev rfl))) ?_
    refine net_if rfl rfl rfl rfl (fun hc => (n_indexS (off' := oX + (i)) rfl (evi rfl hc) (evi rfl hc) Try.underlying41 Try.sizeOf3 (by omega) (by omega))) ?_
    refine net_if rfl rfl rfl rfl (fun hc => (n_load rfl (evi rfl hc) (fun w2 hx2 => ld1R hcX (map_at hx0) Try.isAgg3 (by omega) w2 (hw.ext.trans hx2)))) ?_
    refine net_if rfl rfl rfl rfl (fun hc => (n_move rfl (ev rfl))) ?_
    refine net_if rfl rfl rfl rfl (fun hc => (n_ret rfl Try.call66 (.cons (evi rfl hc) .nil) (fun _ hx => Receivers_c dp h0 h6 _))) ?_
    refine net_if rfl rfl rfl rfl (fun hc => (n_bin rfl (evi rfl hc) (evi rfl hc) r_geq)) ?_
    refine net_cons rfl rfl (n_pick_or rfl (ev rfl) (fun h => (evi rfl h))) ?_
    refine net_cons rfl rfl (n_move rfl (ev rfl)) ?_
    refine net_if rfl rfl rfl rfl (fun hc => (n_move rfl (ev rfl))) ?_
    refine net_if rfl rfl rfl rfl (fun hc => (n_bin rfl (evi rfl hc) evc (r_gtrN (b := 0)))) ?_
    refine net_if rfl rfl rfl rfl (fun hc => (n_move rfl (evi rfl hc))) ?_
    refine net_if2 rfl rfl rfl rfl (fun hc hc2 => (n_move rfl (ev rfl))) ?_
    refine net_if2 rfl rfl rfl rfl (fun hc hc2 => (n_move rfl (ev rfl))) ?_
    refine net_if2 rfl rfl rfl rfl (fun hc hc2 => (n_indexS (off' := oX + (i)) rfl (evi rfl (nest2 hc hc2)) (evi rfl (nest2 hc hc2)) Try.underlying41 Try.sizeOf3 (by omega) (by omega))) ?_
    refine net_if2 rfl rfl rfl rfl (fun hc hc2 => (n_load rfl (evi rfl (nest2 hc hc2)) (fun w2 hx2 => ld1R hcX (map_at hx0) Try.isAgg3 (by omega) w2 (hw.ext.trans hx2)))) ?_
    refine net_if2 rfl rfl rfl rfl (fun hc hc2 => (n_move rfl (ev rfl))) ?_
    refine net_if2 rfl rfl rfl rfl (fun hc hc2 => (n_move rfl (ev rfl))) ?_
    refine net_if2 rfl rfl rfl rfl (fun hc hc2 => (n_to (v' := I ((i - 1 : Nat) : Int)) (n_bin rfl (evi rfl (nest2 hc hc2)) evc (r_subI (by omega) (by omega))) (congrArg (Value.int .i64) (by have := of_decide_eq_true hc2; omega)))) ?_
    refine net_if2 rfl rfl rfl rfl (fun hc hc2 => (n_indexS (off' := oX + (i - 1)) rfl (evi rfl (nest2 hc hc2)) (evi rfl (nest2 hc hc2)) Try.underlying41 Try.sizeOf3 (by omega) (by omega))) ?_
    refine net_if2 rfl rfl rfl rfl (fun hc hc2 => (n_load rfl (evi rfl (nest2 hc hc2)) (fun w2 hx2 => ld1R hcX (map_at hy0) Try.isAgg3 (by omega) w2 (hw.ext.trans hx2)))) ?_
    refine net_if2 rfl rfl rfl rfl (fun hc hc2 => (n_bin rfl (evi rfl (nest2 hc hc2)) (evi rfl (nest2 hc hc2)) r_leq)) ?_
    refine net_if rfl rfl rfl rfl (fun hc => (n_pick_and rfl (evi rfl hc) (fun h => (evi rfl (nest2 hc h))))) ?_
    refine net_cons rfl rfl (n_pick_or rfl (ev rfl) (fun h => (evi rfl h))) ?_
    refine net_nil fun a w1 hF hx => ?_
    replace hw := hw.next hx
    replace hF := hF.keep (.cons (t := 0) rfl (.cons (t := 1) rfl (.cons (t := 5) rfl (.cons (t := 9) rfl (.cons (t := 41) rfl .nil)))))
    refine wpList_nil ?_
    refine wp_cond_split (hF.ev (ev rfl)) (fun h41 => ?_) (fun h41 => ?_)
    · have hz := okL_no (b := ((2 ^ dp.toNat : Nat) : Int)) (i := i) (by omega) h41
      refine wp_seq (reg_seq 1 (hF _ _) (by kernel_rfl) ?_)
      refine net_cons rfl rfl (n_assign rfl evc) ?_
      refine net_nil fun a w1 hF hx => ?_
      replace hw := hw.next hx
      replace hF := hF.keep (.cons (t := 0) rfl (.cons (t := 1) rfl (.cons (t := 4) rfl (.cons (t := 5) rfl (.cons (t := 9) rfl (.cons (t := 41) rfl .nil))))))
      refine wpList_nil ?_
      refine wp_ret (go_block_r (go_then_r (go_then_r (go_block_r (go_then_r (ret1 hF Try.results31 rfl ?_))))))
      exact ⟨_, rfl, hw.ext, (by rw [hz]; rfl)⟩
    · refine wp_skip ?_
      refine reg_seq 3 (hF _ _) (by kernel_rfl) ?_
      refine net_cons rfl rfl (n_move rfl (ev rfl)) ?_
      refine net_cons rfl rfl (n_bin rfl (ev rfl) evc (r_inc (by omega))) ?_
      refine net_cons rfl rfl (n_assign rfl (ev rfl)) ?_
      refine net_nil fun a w1 hF hx => ?_
      replace hw := hw.next hx
      replace hF := hF.keep (.cons (t := 0) rfl (.cons (t := 1) rfl (.cons (t := 5) rfl (.cons (t := 9) rfl (.cons (t := 41) rfl .nil)))))
      refine wpList_nil ?_
      exact ⟨i + 1, ⟨hF.keep (.cons (t := 0) rfl (.cons (t := 1) rfl (.cons (t := 5) rfl (.nil)))), hw, by omega, up_bad hbad h41⟩, by omega⟩
  · obtain rfl : i = n := by have := of_bool_f h9; omega
    have hz := okL_yes hl hbad
    refine wp_exit (go_then_e (go_then_e (go_exit ?_)))
    refine wp_seq (reg_seq 1 (hF _ _) (by kernel_rfl) ?_)
    refine net_cons rfl rfl (n_assign rfl evc) ?_
    refine net_nil fun a w1 hF hx => ?_
    replace hw := hw.next hx
    replace hF := hF.keep (.cons (t := 0) rfl (.cons (t := 1) rfl (.cons (t := 4) rfl (.cons (t := 5) rfl (.cons (t := 9) rfl .nil)))))
    refine wpList_nil ?_
    refine wp_ret (ret1 hF Try.results31 rfl ?_)
    exact ⟨_, rfl, hw.ext, (by rw [hz]; rfl)⟩


/-! ### what a header contains -/
def liftN (p q base : Nat) (cs : List Nat) (x : Nat) : Nat := base ^ (pv cs x % q) % p
def pc (pts : List (Nat × Nat)) : List Value := pts.flatMap fun p => [U p.1, U p.2]
theorem pc_snoc (pts : List (Nat × Nat)) (p : Nat × Nat) : pc (pts ++ [p]) = pc pts ++ [U p.1, U p.2] := by simp [pc]
theorem pc_len (pts : List (Nat × Nat)) : (pc pts).length = pts.length * 2 := fm_len (f := fun p : Nat × Nat => [U p.1, U p.2]) (sz := 2) (fun _ => rfl) pts
theorem Own.front {w0 w : World} {M : List Ent} {m : Ent} (h : Own w0 w M) (i : Nat) (hi : M[i]? = some m) : Own w0 w (m :: M.eraseIdx i) := by
  obtain ⟨h1, h2⟩ := List.getElem?_eq_some_iff.1 hi
  subst h2
  refine h.perm ?_
  rw [List.eraseIdx_eq_take_drop_succ]
  conv => lhs; rw [← List.take_append_drop i M, List.drop_eq_getElem_cons h1]
  exact List.perm_middle
abbrev ptr0 (b : Nat) : Value := .pointer (some ⟨b, 0, none⟩)
/-- The closure lift. -/
abbrev liftF (b6 b17 b14 b15 : Nat) : Value := .func (.func 70) #[] #[ptr0 b6, ptr0 b17, ptr0 b14, ptr0 b15]


theorem lift_c (kd : Nat) (dp dg : Int) (p q g base x n c b6 b17 b14 b15 : Nat) (A : Option Addr) (items pts s : Value) (box chk : Key) (cs : List Nat) (hs : s = .slice A n c) (hb : base < 18446744073709551616) (h1 : 1 ≤ p) (h2 : p < 4294967296) (hq : 0 < q) (hq2 : q ≤ 4294967295) (hxq : x < q) (hcq : ∀ c ∈ cs, c < q) (hcl : cs.length = n) (hn : n ≤ 1000000) (w : World) (h6 : w.heap[b6]? = some (.cells [B8 kd, I dp, I dg, U p, U q, U g].toArray 28 (0, 0))) (h17 : w.heap[b17]? = some (.cells (hcs items base pts box chk).toArray 45 (0, 0))) (h14 : w.heap[b14]? = some (.cells [s].toArray 116 (0, 0))) (h15 : w.heap[b15]? = some (.cells [U q].toArray 119 (0, 0))) (hR : Rd w A (cs.map U)) : RetF Try.prog 70 [U x, ptr0 b6, ptr0 b17, ptr0 b14, ptr0 b15].toArray w (.is (U (liftN p q base cs x))) := by
  subst hs
  have hpq := Nat.mod_lt (pv cs x) hq
  refine enter Try.func70 rfl Try.ntmps70 rfl fun a hF => ?_
  have hw := Own.start w
  refine wp_seq (reg_seq 1 (hF _ _) (by kernel_rfl) ?_)
  refine net_cons rfl rfl (n_assign rfl evc) ?_
  refine net_nil fun a w1 hF hx => ?_
  replace hw := hw.next hx
  replace hF := hF.keep (.cons (t := 0) rfl (.cons (t := 1) rfl (.cons (t := 2) rfl (.cons (t := 3) rfl (.cons (t := 4) rfl (.cons (t := 6) rfl .nil))))))
  refine wpList_nil ?_
  refine wp_seq (reg_draw 9 mixed (by kernel_rfl) (hF _ _) ?_)
  refine net_cons rfl rfl (n_load rfl (ev rfl) (fun w2 hx2 => ldHN h6 Try.isAgg28 Try.sizeOf28 rfl rfl w2 (hw.ext.trans hx2))) ?_
  refine net_cons rfl rfl (n_fieldAddrO (off' := 1) rfl (ev rfl) Try.runUnderlying45 rfl Try.sizeOf24 rfl) ?_
  refine net_cons rfl rfl (n_load rfl (ev rfl) (fun w2 hx2 => ldH1 h17 Try.isAgg24 rfl w2 (hw.ext.trans hx2))) ?_
  refine net_cons rfl rfl (n_load rfl (ev rfl) (fun w2 hx2 => ldH1 h14 Try.isAgg116 rfl w2 (hw.ext.trans hx2))) ?_
  refine net_cons rfl rfl (n_load rfl (ev rfl) (fun w2 hx2 => ldH1 h15 Try.isAgg119 rfl w2 (hw.ext.trans hx2))) ?_
  refine net_cons rfl rfl (n_move rfl (ev rfl)) ?_
  refine net_cons rfl rfl (n_ret rfl Try.call65 (.cons (ev rfl) (.cons (ev rfl) (.cons (ev rfl) .nil))) (fun _ hx => at_c q x n c A cs hq hq2 hxq hcq hcl hn _ (hR.ext (hw.ext.trans hx)))) ?_
  refine net_cons rfl rfl (n_ret rfl Try.call69 (.cons (ev rfl) (.cons (ev rfl) (.cons (ev rfl) .nil))) (fun _ hx => spow_c _ _ _ _ _ _ _ _ hb (by omega) h1 h2 _)) ?_
  refine net_cons rfl rfl (n_assign rfl (ev rfl)) ?_
  refine net_nil fun a w1 hF hx => ?_
  replace hw := hw.next hx
  replace hF := hF.keep (.cons (t := 6) rfl .nil)
  refine wpList_nil ?_
  refine wp_ret (ret1 hF Try.results70 rfl ?_)
  exact ⟨_, rfl, hw.ext, rfl⟩

theorem add_c (kd : Nat) (dp dg : Int) (p q g base x n k b6 b17 b14 b15 b18 : Nat) (items v s : Value) (box chk : Key) (cs : List Nat) (pts : List (Nat × Nat)) (Z : List Ent) (w0 w : World) (hb : base < 18446744073709551616) (h1 : 1 ≤ p) (h2 : p < 4294967296) (hq : 0 < q) (hq2 : q ≤ 4294967295) (hxq : x < q) (hcq : ∀ c ∈ cs, c < q) (hcl : cs.length = n) (hn : n ≤ 1000000) (hk : k ≤ 1000000) (hw : Own w0 w (.blk b17 45 (hcs items base v box chk) :: .row v 31 2 (k) (pc pts) :: .blk b18 124 [liftF b6 b17 b14 b15] :: .blk b6 28 [B8 kd, I dp, I dg, U p, U q, U g] :: .blk b14 116 [s] :: .row s 24 1 n (cs.map U) :: .blk b15 119 [U q] :: Z)) : Calls Try.prog 71 [I (x : Int), ptr0 b17, ptr0 b18].toArray w fun e w' => ∃ u, e = .returned u ∧ ∃ v', Own w0 w' (.blk b17 45 (hcs items base v' box chk) :: .row v' 31 2 (k + 1) (pc (pts ++ [(x, liftN p q base cs x)])) :: .blk b18 124 [liftF b6 b17 b14 b15] :: .blk b6 28 [B8 kd, I dp, I dg, U p, U q, U g] :: .blk b14 116 [s] :: .row s 24 1 n (cs.map U) :: .blk b15 119 [U q] :: Z) := by
  refine enter Try.func71 rfl Try.ntmps71 rfl fun a hF => ?_
  obtain ⟨As, ca, hse, _, hsR, _⟩ := hw.rd (i := 5) rfl
  refine reg_draw 10 mixed (by kernel_rfl) (hF _ _) ?_
  refine net_cons rfl rfl (n_fieldAddrO (off' := 2) rfl (ev rfl) Try.runUnderlying45 rfl Try.sizeOf43 rfl) ?_
  refine net_cons rfl rfl (n_load rfl (ev rfl) (ld1 hw (i := 0) rfl Try.isAgg43 rfl)) ?_
  refine net_cons rfl rfl (n_move rfl (ev rfl)) ?_
  refine net_cons rfl rfl (n_convT rfl (ev rfl) Try.underlying3 Try.underlying24 (wrap_u64_nat (by omega))) ?_
  refine net_cons rfl rfl (n_load rfl (ev rfl) (ld1 hw (i := 2) rfl Try.isAgg124 rfl)) ?_
  refine net_cons rfl rfl (n_move rfl (ev rfl)) ?_
  refine net_cons rfl rfl (n_convT rfl (ev rfl) Try.underlying3 Try.underlying24 (wrap_u64_nat (by omega))) ?_
  refine net_cons rfl rfl (n_retv rfl (cap := [ptr0 b6, ptr0 b17, ptr0 b14, ptr0 b15]) (ev rfl) Try.call70 (.cons (ev rfl) .nil) (fun w2 hx => lift_c kd dp dg p q g base x n ca b6 b17 b14 b15 As items v s box chk cs hse hb h1 h2 hq hq2 hxq hcq hcl hn w2 (hw.heap (i := 3) rfl hx) (hw.heap (i := 0) rfl hx) (hw.heap (i := 4) rfl hx) (hw.heap (i := 6) rfl hx) (hsR.ext hx))) ?_
  refine net_cons rfl rfl (n_build rfl (.cons (ev rfl) (.cons (ev rfl) .nil)) build_31_0_1) ?_
  refine net_cons rfl rfl (n_bsl sl43 rfl (.cons (ev rfl) .nil) (.cons rfl rfl .nil) rfl (by decide) (by decide)) ?_
  refine net_nil fun a w1 hF hx => ?_
  obtain ⟨b13, e13_, l13_, h13_⟩ := hF.at_ 13 _ rfl
  have hR13 := Rd.heap h13_
  replace hF := hF.now (v := .slice (some ⟨b13, 0, none⟩) (1) (1)) e13_
  replace hw := hw.next hx
  replace hF := hF.keep (.cons (t := 1) rfl (.cons (t := 5) rfl (.cons (t := 13) rfl .nil)))
  refine t_append (i := 1) sl43 rfl rfl rfl (by decide) hF hw rfl (ev rfl) (ev rfl) hR13 rfl (by intro u hu; simp only [List.mem_cons, List.append_nil, List.not_mem_nil, or_false] at hu; rcases hu with rfl | rfl <;> rfl) (by simp only [maxLen]; omega) (by omega) fun v14 a w1 hF hw => ?_
  replace hF := hF.keep (.cons (t := 1) rfl (.cons (t := 14) rfl .nil))
  obtain ⟨A14, c14, rfl, _, _, _⟩ := hw.rd (i := 1) rfl
  refine t_net 11 1 (by kernel_rfl) rfl hF ?_
  refine net_cons rfl rfl (n_fieldAddrO (off' := 2) rfl (ev rfl) Try.runUnderlying45 rfl Try.sizeOf43 rfl) ?_
  refine net_nil fun a w1 hF hx => ?_
  replace hw := hw.next hx
  replace hF := hF.keep (.cons (t := 14) rfl (.cons (t := 15) rfl .nil))
  refine t_store (i := 0) rfl rfl rfl hF hw rfl (ev rfl) (ev rfl) rfl one1 Try.sizeOf43 rfl (Nat.le_of_ble_eq_true rfl) rfl fun w1 hw => ?_
  refine wpList_nil ?_
  refine end0 hF Try.results71 ?_
  refine ⟨_, rfl, .slice A14 (k + 1) c14, ?_⟩
  rw [pc_snoc]
  exact hw


/-- The numbers X of the points. -/
def xsL (b n : Nat) (l : List Int) : List Nat := l.map (fun u => u.toNat + 1) ++ (List.range (n - l.length)).map fun j => b + 1 + j
theorem xsL_len {b n : Nat} {l : List Int} (h : l.length ≤ n) : (xsL b n l).length = n := by
  simp only [xsL, List.length_append, List.length_map, List.length_range]
  omega
theorem xsL_lo {b n i : Nat} {l : List Int} (h : i < l.length) : (xsL b n l)[i]? = some ((l.getD i 0).toNat + 1) := by
  rw [xsL, List.getElem?_append_left (by rw [List.length_map]; exact h), List.getElem?_map, getD_at (d := 0) h]
  rfl
theorem xsL_hi {b n i : Nat} {l : List Int} (h : l.length ≤ i) (hn : i < n) : (xsL b n l)[i]? = some (b + 1 + (i - l.length)) := by
  rw [xsL, List.getElem?_append_right (by rw [List.length_map]; exact h), List.length_map, List.getElem?_map, List.getElem?_range (by omega)]
  rfl
def rN (root : Key) (q nonce : Nat) : Nat := 1 + numK (derK root 41 nonce) 0 (q - 1)
def baseN (root : Key) (p q g nonce : Nat) : Nat := g ^ rN root q nonce % p
def ptsL (root : Key) (d n p q g : Nat) (l : List Int) (nonce : Nat) : List (Nat × Nat) := (xsL (2 ^ d) n l).map fun x => (x, liftN p q (baseN root p q g nonce) (cfs root n q) x)
def boxK (root : Key) (n p q g : Nat) (session : Key) (nonce : Nat) : Key := encK (derK key0 42 (liftN p q (baseN root p q g nonce) (cfs root n q) 0)) session
theorem numK_le (k : Key) (i m : Nat) : numK k i m ≤ m := by
  unfold numK
  split
  · omega
  · exact Nat.le_of_lt (Nat.mod_lt _ (by omega))
theorem ptsL_len {root : Key} {d n p q g : Nat} {l : List Int} {nonce : Nat} (h : l.length ≤ n) : (ptsL root d n p q g l nonce).length = n := by rw [ptsL, List.length_map, xsL_len h]
theorem ptsL_step {root : Key} {d n p q g : Nat} {l : List Int} {nonce i x : Nat} (h : (xsL (2 ^ d) n l)[i]? = some x) :
    pc ((ptsL root d n p q g l nonce).take i) ++ [U x, U (liftN p q (baseN root p q g nonce) (cfs root n q) x)] = pc ((ptsL root d n p q g l nonce).take (i + 1)) := by
  rw [List.take_add_one, ptsL, List.getElem?_map, h]
  exact (pc_snoc _ (x, liftN p q (baseN root p q g nonce) (cfs root n q) x)).symm


theorem SealOf_c (root session : Key) (kd d n p q g nonce m c : Nat) (A : Option Addr) (l : List Int) (hp : p < 18446744073709551616) (hq : q < 18446744073709551616) (hg : g < 18446744073709551616) (hno : nonce < 18446744073709551616) (hz : okS kd d n p q g = true) (hok : okL ((2 ^ d : Nat) : Int) l = true) (hl : l.length = m) (hm : m ≤ n) (w : World) (hR : Rd w A (l.map I)) : RetF Try.prog 73 [K root, SV kd (d : Int) (n : Int) p q g, .slice A m c, K session, U nonce].toArray w (.ex 31 2 n (pc (ptsL root d n p q g l nonce)) (fun v => HV (.slice none 0 0) (baseN root p q g nonce) v (boxK root n p q g session nonce) (derK session 53 0))) := by
  obtain ⟨hz1, hz2, hz3, hz4, hz5, hz6, hz7⟩ := okS_all hz
  obtain ⟨hz8, hz9, hz10, hz11, hz12⟩ := okG_q hz6
  have hpw := pow_le64 (d := d) (by omega)
  have hpw0 := Int.natCast_nonneg (2 ^ d)
  simp only [Int.toNat_natCast] at hz7
  have hcl := cfs_len root n q
  have hcq := cfs_lt root n (show 0 < q by omega)
  have hnum := numK_le (derK root 41 nonce) 0 (q - 1)
  have hbp := Nat.mod_lt (g ^ rN root q nonce) (show 0 < p by omega)
  have hptl := ptsL_len (root := root) (d := d) (p := p) (q := q) (g := g) (nonce := nonce) (show l.length ≤ n by omega)
  refine enter Try.func73 rfl Try.ntmps73 rfl fun a hF => ?_
  have hw := Own.start w
  refine wp_seq (wp_region_lit ?_)
  refine t_net 0 1 (by kernel_rfl) rfl hF ?_
  refine net_cons rfl rfl (n_box rfl (ev rfl) rfl) ?_
  refine net_nil fun a w1 hF hx => ?_
  obtain ⟨b5, h_, hw⟩ := hw.blk hx (hF.at_ 5 _ rfl)
  replace hF := hF.now h_
  replace hF := hF.keep (.cons (t := 1) rfl (.cons (t := 2) rfl (.cons (t := 3) rfl (.cons (t := 4) rfl (.cons (t := 5) rfl .nil)))))
  refine t_net 1 1 (by kernel_rfl) rfl hF ?_
  refine net_cons rfl rfl (n_box rfl (ev rfl) rfl) ?_
  refine net_nil fun a w1 hF hx => ?_
  obtain ⟨b6, h_, hw⟩ := hw.blk hx (hF.at_ 6 _ rfl)
  replace hF := hF.now h_
  replace hF := hF.keep (.cons (t := 2) rfl (.cons (t := 3) rfl (.cons (t := 4) rfl (.cons (t := 5) rfl (.cons (t := 6) rfl .nil)))))
  refine t_net 2 1 (by kernel_rfl) rfl hF ?_
  refine net_cons rfl rfl (n_box rfl (ev rfl) rfl) ?_
  refine net_nil fun a w1 hF hx => ?_
  obtain ⟨b8, h_, hw⟩ := hw.blk hx (hF.at_ 8 _ rfl)
  replace hF := hF.now h_
  replace hF := hF.keep (.cons (t := 2) rfl (.cons (t := 4) rfl (.cons (t := 5) rfl (.cons (t := 6) rfl (.cons (t := 8) rfl .nil)))))
  refine t_net 3 1 (by kernel_rfl) rfl hF ?_
  refine net_cons rfl rfl (n_alloc rfl Try.zeroValue45 rfl) ?_
  refine net_nil fun a w1 hF hx => ?_
  obtain ⟨b10, h_, hw⟩ := hw.blk hx (hF.at_ 10 _ rfl)
  replace hF := hF.now h_
  replace hF := hF.keep (.cons (t := 2) rfl (.cons (t := 4) rfl (.cons (t := 5) rfl (.cons (t := 6) rfl (.cons (t := 8) rfl (.cons (t := 10) rfl .nil))))))
  refine wpList_nil ?_
  refine wp_seq (reg_draw 8 mixed (by kernel_rfl) (hF _ _) ?_)
  refine net_cons rfl rfl (n_fieldAddrO (off' := 3) rfl (ev rfl) Try.runUnderlying28 rfl Try.sizeOf26 rfl) ?_
  refine net_cons rfl rfl (n_fieldAddrO (off' := 3) rfl (ev rfl) Try.runUnderlying26 rfl Try.sizeOf24 rfl) ?_
  refine net_cons rfl rfl (n_load rfl (ev rfl) (ld1 hw (i := 1) rfl Try.isAgg24 rfl)) ?_
  refine net_cons rfl rfl (n_fieldAddrO (off' := 3) rfl (ev rfl) Try.runUnderlying28 rfl Try.sizeOf26 rfl) ?_
  refine net_cons rfl rfl (n_fieldAddrO (off' := 4) rfl (ev rfl) Try.runUnderlying26 rfl Try.sizeOf24 rfl) ?_
  refine net_cons rfl rfl (n_load rfl (ev rfl) (ld1 hw (i := 1) rfl Try.isAgg24 rfl)) ?_
  refine net_cons rfl rfl (n_assign rfl (ev rfl)) ?_
  refine net_cons rfl rfl (n_assign rfl (ev rfl)) ?_
  refine net_nil fun a w1 hF hx => ?_
  replace hw := hw.next hx
  replace hF := hF.keep (.cons (t := 2) rfl (.cons (t := 4) rfl (.cons (t := 5) rfl (.cons (t := 6) rfl (.cons (t := 8) rfl (.cons (t := 10) rfl (.cons (t := 11) rfl (.cons (t := 12) rfl .nil))))))))
  refine wpList_nil ?_
  refine wp_seq (wp_region_lit ?_)
  refine t_net 0 3 (by kernel_rfl) rfl hF ?_
  refine net_cons rfl rfl (n_load rfl (ev rfl) (ldN hw (i := 0) (vs := _) rfl Try.isAgg23 Try.sizeOf23 (kc_len _) (cut_whole (kc_len _)))) ?_
  refine net_cons rfl rfl (n_load rfl (ev rfl) (ldN hw (i := 1) (vs := _) rfl Try.isAgg28 Try.sizeOf28 rfl rfl)) ?_
  refine net_cons rfl rfl (n_ret rfl Try.call98 (.cons (ev rfl) (.cons (ev rfl) .nil)) (fun _ hx => CoefficientsOf_c _ _ _ _ _ _ _ (by omega) (by omega) (by omega) _)) ?_
  refine net_nil fun a w1 hF hx => ?_
  obtain ⟨s26, h_, hw⟩ := hw.ex hx (hF.at_ 26 _ rfl)
  replace hF := hF.now h_
  replace hF := hF.keep (.cons (t := 2) rfl (.cons (t := 4) rfl (.cons (t := 5) rfl (.cons (t := 6) rfl (.cons (t := 8) rfl (.cons (t := 10) rfl (.cons (t := 11) rfl (.cons (t := 12) rfl (.cons (t := 26) rfl .nil)))))))))
  refine t_net 3 1 (by kernel_rfl) rfl hF ?_
  refine net_cons rfl rfl (n_assign rfl (ev rfl)) ?_
  refine net_nil fun a w1 hF hx => ?_
  replace hw := hw.next hx
  replace hF := hF.keep (.cons (t := 2) rfl (.cons (t := 4) rfl (.cons (t := 5) rfl (.cons (t := 6) rfl (.cons (t := 8) rfl (.cons (t := 10) rfl (.cons (t := 11) rfl (.cons (t := 12) rfl (.cons (t := 13) rfl .nil)))))))))
  refine wpList_nil ?_
  refine wp_seq (reg_seq 8 (hF _ _) (by kernel_rfl) ?_)
  refine net_cons rfl rfl (n_load rfl (ev rfl) (ldN hw (i := 0) (vs := _) rfl Try.isAgg23 Try.sizeOf23 (kc_len _) (cut_whole (kc_len _)))) ?_
  refine net_cons rfl rfl (n_move rfl (ev rfl)) ?_
  refine net_cons rfl rfl (n_ret rfl Try.call85 (.cons (ev rfl) (.cons evc (.cons (ev rfl) .nil))) (fun _ hx => rDerive_c root 41 nonce (by decide) hno _)) ?_
  refine net_cons rfl rfl (n_move rfl (ev rfl)) ?_
  refine net_cons rfl rfl (n_bin rfl (ev rfl) evc (r_subN (b := 1) (by omega) (by omega))) ?_
  refine net_cons rfl rfl (n_ret rfl Try.call119 (.cons (ev rfl) (.cons evc (.cons (ev rfl) .nil))) (fun _ hx => rNumber_c _ 0 _ (by decide) (by omega) _)) ?_
  refine net_cons rfl rfl (n_bin rfl evc (ev rfl) (r_addN (a := 1) (by omega))) ?_
  refine net_cons rfl rfl (n_assign rfl (ev rfl)) ?_
  refine net_nil fun a w1 hF hx => ?_
  replace hw := hw.next hx
  replace hF := hF.keep (.cons (t := 2) rfl (.cons (t := 5) rfl (.cons (t := 6) rfl (.cons (t := 8) rfl (.cons (t := 10) rfl (.cons (t := 11) rfl (.cons (t := 12) rfl (.cons (t := 13) rfl (.cons (t := 14) rfl .nil)))))))))
  refine wpList_nil ?_
  refine wp_seq (reg_draw 10 mixed (by kernel_rfl) (hF _ _) ?_)
  refine net_cons rfl rfl (n_fieldAddrO (off' := 3) rfl (ev rfl) Try.runUnderlying28 rfl Try.sizeOf26 rfl) ?_
  refine net_cons rfl rfl (n_fieldAddrO (off' := 5) rfl (ev rfl) Try.runUnderlying26 rfl Try.sizeOf24 rfl) ?_
  refine net_cons rfl rfl (n_load rfl (ev rfl) (ld1 hw (i := 1) rfl Try.isAgg24 rfl)) ?_
  refine net_cons rfl rfl (n_move rfl (ev rfl)) ?_
  refine net_cons rfl rfl (n_move rfl (ev rfl)) ?_
  refine net_cons rfl rfl (n_ret rfl Try.call81 (.cons (ev rfl) (.cons (ev rfl) (.cons (ev rfl) .nil))) (fun _ hx => rPower_c g (rN root q nonce) p hg (by unfold rN; omega) (by omega) (by omega) _)) ?_
  refine net_cons rfl rfl (n_load rfl (ev rfl) (ldN hw (i := 2) (vs := _) rfl Try.isAgg23 Try.sizeOf23 (kc_len _) (cut_whole (kc_len _)))) ?_
  refine net_cons rfl rfl (n_ret rfl Try.call85 (.cons (ev rfl) (.cons evc (.cons evc .nil))) (fun _ hx => rDerive_c session 53 0 (by decide) (by decide) _)) ?_
  refine net_cons rfl rfl (n_build rfl (.cons (ev rfl) (.cons (ev rfl) .nil)) build_45_1_4) ?_
  refine net_cons rfl rfl (n_alloc rfl Try.zeroValue45 rfl) ?_
  refine net_nil fun a w1 hF hx => ?_
  obtain ⟨b15, h_, hw⟩ := hw.blk hx (hF.at_ 15 _ rfl)
  replace hF := hF.now h_
  replace hF := hF.keep (.cons (t := 2) rfl (.cons (t := 5) rfl (.cons (t := 6) rfl (.cons (t := 8) rfl (.cons (t := 10) rfl (.cons (t := 11) rfl (.cons (t := 12) rfl (.cons (t := 13) rfl (.cons (t := 15) rfl (.cons (t := 42) rfl .nil))))))))))
  refine t_store (i := 5) rfl rfl rfl hF hw rfl (ev rfl) (ev rfl) rfl one_hcs Try.sizeOf45 (hcs_len _ _ _ _ _) (by first | decide | (rw [hcs_len]; decide)) (seg_whole (by rw [hcs_len] <;> rfl)) fun w1 hw => ?_
  refine wpList_nil ?_
  refine wp_seq ?_
  refine wp_seq (reg_seq 1 (hF _ _) (by kernel_rfl) ?_)
  refine net_cons rfl rfl (n_assign rfl evc) ?_
  refine net_nil fun a w1 hF hx => ?_
  replace hw := hw.next hx
  replace hF := hF.keep (.cons (t := 2) rfl (.cons (t := 5) rfl (.cons (t := 6) rfl (.cons (t := 8) rfl (.cons (t := 10) rfl (.cons (t := 11) rfl (.cons (t := 12) rfl (.cons (t := 13) rfl (.cons (t := 15) rfl (.cons (t := 16) rfl (.cons (t := 42) rfl .nil)))))))))))
  refine wpList_nil ?_
  refine wp_block ?_
  replace hw := hw.addNil 31 2
  refine wp_loop_ix (α := Nat × Value) (fun ⟨i, v⟩ a w1 => FrV 96 [] [(2, .is (.slice A m c)) , (6, .is (.pointer (some ⟨b6, 0, none⟩))) , (8, .is (.pointer (some ⟨b8, 0, none⟩))) , (10, .is (.pointer (some ⟨b10, 0, none⟩))) , (11, .is (U p)) , (12, .is (U q)) , (13, .is (s26)) , (15, .is (.pointer (some ⟨b15, 0, none⟩))) , (16, .is (I (i : Int)))] a ∧ Own w w1 [.blk b5 23 (kc root), .blk b6 28 [B8 kd, I (d : Int), I (n : Int), U p, U q, U g], .blk b8 23 (kc session), .blk b10 45 (hcs (.slice none 0 0) 0 (.slice none 0 0) key0 key0), .row s26 24 1 (n + 1) ((cfs root n q).map U), .blk b15 45 (hcs (.slice none 0 0) (baseN root p q g nonce) v key0 (derK session 53 0)), .row v 31 2 i (pc ((ptsL root d n p q g l nonce).take i))] ∧ (i ≤ n)) (fun ⟨i, v⟩ => n - i) ((0, .slice none 0 0)) ⟨hF.keep (.cons (t := 2) rfl (.cons (t := 6) rfl (.cons (t := 8) rfl (.cons (t := 10) rfl (.cons (t := 11) rfl (.cons (t := 12) rfl (.cons (t := 13) rfl (.cons (t := 15) rfl (.cons (t := 16) rfl (.nil)))))))))), hw, by omega⟩ ?_
  rintro ⟨i, v⟩ a w1 ⟨hF, hw, hi0⟩
  refine wp_seq ?_
  refine wp_seq (reg_seq 4 (hF _ _) (by kernel_rfl) ?_)
  refine net_cons rfl rfl (n_move rfl (ev rfl)) ?_
  refine net_cons rfl rfl (n_fieldAddrO (off' := 2) rfl (ev rfl) Try.runUnderlying28 rfl Try.sizeOf3 rfl) ?_
  refine net_cons rfl rfl (n_load rfl (ev rfl) (ld1 hw (i := 1) rfl Try.isAgg3 rfl)) ?_
  refine net_cons rfl rfl (n_bin rfl (ev rfl) (ev rfl) r_lssN) ?_
  refine net_nil fun a w1 hF hx => ?_
  replace hw := hw.next hx
  replace hF := hF.keep (.cons (t := 2) rfl (.cons (t := 6) rfl (.cons (t := 8) rfl (.cons (t := 10) rfl (.cons (t := 11) rfl (.cons (t := 12) rfl (.cons (t := 13) rfl (.cons (t := 15) rfl (.cons (t := 16) rfl (.cons (t := 46) rfl .nil))))))))))
  refine wpList_nil ?_
  refine wp_cond_split (hF.ev (ev rfl)) (fun h46 => ?_) (fun h46 => ?_)
  · have hi : i < n := of_bool_t h46
    refine wp_skip ?_
    refine wp_seq (wp_block ?_)
    refine wp_seq (reg_seq 11 (hF _ _) (by kernel_rfl) ?_)
    refine net_cons rfl rfl (n_fieldAddrO (off' := 1) rfl (ev rfl) Try.runUnderlying28 rfl Try.sizeOf3 rfl) ?_
    refine net_cons rfl rfl (n_load rfl (ev rfl) (ld1 hw (i := 1) rfl Try.isAgg3 rfl)) ?_
    refine net_cons rfl rfl (n_ret rfl Try.call66 (.cons (ev rfl) .nil) (fun _ hx => Receivers_c (d : Int) (by omega) (by omega) _)) ?_
    refine net_cons rfl rfl (n_bin rfl (ev rfl) evc (r_addI (by simp only [Int.toNat_natCast]; omega) (by simp only [Int.toNat_natCast]; omega))) ?_
    refine net_cons rfl rfl (n_move rfl (ev rfl)) ?_
    refine net_cons rfl rfl (n_bin rfl (ev rfl) (ev rfl) (r_addI (by simp only [Int.toNat_natCast]; omega) (by simp only [Int.toNat_natCast]; omega))) ?_
    refine net_cons rfl rfl (n_move rfl (ev rfl)) ?_
    refine net_cons rfl rfl (n_len rfl (ev rfl) Try.underlying41) ?_
    refine net_cons rfl rfl (n_bin rfl (ev rfl) (ev rfl) (r_subI (by simp only [Int.toNat_natCast]; omega) (by simp only [Int.toNat_natCast]; omega))) ?_
    refine net_cons rfl rfl (n_convT rfl (ev rfl) Try.underlying3 Try.underlying24 rfl) ?_
    refine net_cons rfl rfl (n_assign rfl (ev rfl)) ?_
    refine net_nil fun a w1 hF hx => ?_
    replace hw := hw.next hx
    replace hF := hF.keep (.cons (t := 2) rfl (.cons (t := 6) rfl (.cons (t := 8) rfl (.cons (t := 10) rfl (.cons (t := 11) rfl (.cons (t := 12) rfl (.cons (t := 13) rfl (.cons (t := 15) rfl (.cons (t := 16) rfl (.cons (t := 17) rfl (.cons (t := 46) rfl .nil)))))))))))
    refine wpList_nil ?_
    refine wp_seq ?_
    refine wp_seq (reg_seq 4 (hF _ _) (by kernel_rfl) ?_)
    refine net_cons rfl rfl (n_move rfl (ev rfl)) ?_
    refine net_cons rfl rfl (n_move rfl (ev rfl)) ?_
    refine net_cons rfl rfl (n_len rfl (ev rfl) Try.underlying41) ?_
    refine net_cons rfl rfl (n_bin rfl (ev rfl) (ev rfl) r_lssN) ?_
    refine net_nil fun a w1 hF hx => ?_
    replace hw := hw.next hx
    replace hF := hF.keep (.cons (t := 2) rfl (.cons (t := 6) rfl (.cons (t := 8) rfl (.cons (t := 10) rfl (.cons (t := 11) rfl (.cons (t := 12) rfl (.cons (t := 13) rfl (.cons (t := 15) rfl (.cons (t := 16) rfl (.cons (t := 17) rfl (.cons (t := 46) rfl (.cons (t := 62) rfl .nil))))))))))))
    refine wpList_nil ?_
    refine wp_cond_split (hF.ev (ev rfl)) (fun h62 => ?_) (fun h62 => ?_)
    · have him : i < m := of_bool_t h62
      have hx0 := getD_at (l := l) (i := i) (d := 0) (by omega)
      obtain ⟨hu0, hu1⟩ := okL_at hok (i := i) (by omega)
      have hxe := xsL_lo (b := 2 ^ d) (n := n) (l := l) (i := i) (by omega)
      obtain ⟨x, hx_⟩ : ∃ x, x = (l.getD i 0).toNat + 1 := ⟨_, rfl⟩
      rw [← hx_] at hxe
      have hmv : U ((l.getD i 0).toNat + 1) = U x := by rw [hx_]
      have hxq : x < q := by omega
      have hF_ := hF
      have hw_ := hw
      obtain ⟨bX, oX, rfl, hcX⟩ := hR.at_ (by rw [List.length_map]; omega)
      have hF := hF_
      have hw := hw_
      refine reg_seq 7 (hF _ _) (by kernel_rfl) ?_
      refine net_cons rfl rfl (n_move rfl (ev rfl)) ?_
      refine net_cons rfl rfl (n_move rfl (ev rfl)) ?_
      refine net_cons rfl rfl (n_indexS (off' := oX + (i)) rfl (ev rfl) (ev rfl) Try.underlying41 Try.sizeOf3 (by omega) (by omega)) ?_
      refine net_cons rfl rfl (n_load rfl (ev rfl) (fun w2 hx2 => ld1R hcX (map_at hx0) Try.isAgg3 (by omega) w2 (hw.ext.trans hx2))) ?_
      refine net_cons rfl rfl (n_convT rfl (ev rfl) Try.underlying3 Try.underlying24 (show IntKind.u64.wrap (l.getD i 0) = (((l.getD i 0).toNat : Nat) : Int) by rw [← wrap_u64_nat (show (l.getD i 0).toNat < 18446744073709551616 by omega), Int.toNat_of_nonneg hu0])) ?_
      refine net_cons rfl rfl (n_bin rfl (ev rfl) evc (r_addN (b := 1) (by omega))) ?_
      refine net_cons rfl rfl (n_assign rfl (ev rfl)) ?_
      refine net_nil fun a w1 hF hx => ?_
      replace hw := hw.next hx
      replace hF := hF.keep (.cons (t := 2) rfl (.cons (t := 6) rfl (.cons (t := 8) rfl (.cons (t := 10) rfl (.cons (t := 11) rfl (.cons (t := 12) rfl (.cons (t := 13) rfl (.cons (t := 15) rfl (.cons (t := 16) rfl (.cons (t := 17) rfl (.cons (t := 46) rfl (.cons (t := 62) rfl .nil))))))))))))
      refine wpList_nil ?_
      obtain ⟨As, ca, hse, _, hsR, _⟩ := hw.rd (i := 4) rfl
      have hpv := Nat.mod_lt (pv (cfs root n q) x) (show 0 < q by omega)
      refine reg_draw 13 mixed (by kernel_rfl) (hF _ _) ?_
      refine net_cons rfl rfl (n_fieldAddrO (off' := 2) rfl (ev rfl) Try.runUnderlying45 rfl Try.sizeOf43 rfl) ?_
      refine net_cons rfl rfl (n_load rfl (ev rfl) (ld1 hw (i := 5) rfl Try.isAgg43 rfl)) ?_
      refine net_cons rfl rfl (n_to (v' := U x) (n_move rfl (ev rfl)) hmv) ?_
      refine net_cons rfl rfl (n_fieldAddrO (off' := 1) rfl (ev rfl) Try.runUnderlying45 rfl Try.sizeOf24 rfl) ?_
      refine net_cons rfl rfl (n_load rfl (ev rfl) (ld1 hw (i := 5) rfl Try.isAgg24 rfl)) ?_
      refine net_cons rfl rfl (n_move rfl (ev rfl)) ?_
      refine net_cons rfl rfl (n_to (n_move rfl (ev rfl)) hse) ?_
      refine net_cons rfl rfl (n_to (v' := U x) (n_move rfl (ev rfl)) hmv) ?_
      refine net_cons rfl rfl (n_ret rfl Try.call99 (.cons (ev rfl) (.cons (ev rfl) (.cons (ev rfl) .nil))) (fun _ hx => (ValueOf_c q x (n + 1) ca As _ (by omega) (by omega) hxq hcq hcl (by omega) _ (hsR.ext hx)))) ?_
      refine net_cons rfl rfl (n_move rfl (ev rfl)) ?_
      refine net_cons rfl rfl (n_ret rfl Try.call81 (.cons (ev rfl) (.cons (ev rfl) (.cons (ev rfl) .nil))) (fun _ hx => rPower_c (baseN root p q g nonce) _ p (by unfold baseN; omega) (by omega) (by omega) (by omega) _)) ?_
      refine net_cons rfl rfl (n_build rfl (.cons (ev rfl) (.cons (ev rfl) .nil)) build_31_0_1) ?_
      refine net_cons rfl rfl (n_bsl sl43 rfl (.cons (ev rfl) .nil) (.cons rfl rfl .nil) rfl (by decide) (by decide)) ?_
      refine net_nil fun a w1 hF hx => ?_
      obtain ⟨b81, e81_, l81_, h81_⟩ := hF.at_ 81 _ rfl
      have hR81 := Rd.heap h81_
      replace hF := hF.now (v := .slice (some ⟨b81, 0, none⟩) (1) (1)) e81_
      replace hw := hw.next hx
      replace hF := hF.keep (.cons (t := 2) rfl (.cons (t := 6) rfl (.cons (t := 8) rfl (.cons (t := 10) rfl (.cons (t := 11) rfl (.cons (t := 12) rfl (.cons (t := 13) rfl (.cons (t := 15) rfl (.cons (t := 16) rfl (.cons (t := 17) rfl (.cons (t := 46) rfl (.cons (t := 62) rfl (.cons (t := 70) rfl (.cons (t := 81) rfl .nil))))))))))))))
      refine t_append (i := 6) sl43 rfl rfl rfl (by decide) hF hw rfl (ev rfl) (ev rfl) hR81 rfl (by intro u hu; simp only [List.mem_cons, List.append_nil, List.not_mem_nil, or_false] at hu; rcases hu with rfl | rfl <;> rfl) (by simp only [maxLen]; omega) (by omega) fun v82 a w1 hF hw => ?_
      replace hF := hF.keep (.cons (t := 2) rfl (.cons (t := 6) rfl (.cons (t := 8) rfl (.cons (t := 10) rfl (.cons (t := 11) rfl (.cons (t := 12) rfl (.cons (t := 13) rfl (.cons (t := 15) rfl (.cons (t := 16) rfl (.cons (t := 17) rfl (.cons (t := 46) rfl (.cons (t := 62) rfl (.cons (t := 82) rfl .nil)))))))))))))
      obtain ⟨A82, c82, rfl, _, _, _⟩ := hw.rd (i := 6) rfl
      refine t_net 14 1 (by kernel_rfl) rfl hF ?_
      refine net_cons rfl rfl (n_fieldAddrO (off' := 2) rfl (ev rfl) Try.runUnderlying45 rfl Try.sizeOf43 rfl) ?_
      refine net_nil fun a w1 hF hx => ?_
      replace hw := hw.next hx
      replace hF := hF.keep (.cons (t := 2) rfl (.cons (t := 6) rfl (.cons (t := 8) rfl (.cons (t := 10) rfl (.cons (t := 11) rfl (.cons (t := 12) rfl (.cons (t := 13) rfl (.cons (t := 15) rfl (.cons (t := 16) rfl (.cons (t := 17) rfl (.cons (t := 46) rfl (.cons (t := 62) rfl (.cons (t := 82) rfl (.cons (t := 83) rfl .nil))))))))))))))
      refine t_store (i := 5) rfl rfl rfl hF hw rfl (ev rfl) (ev rfl) rfl one1 Try.sizeOf43 rfl (Nat.le_of_ble_eq_true rfl) rfl fun w1 hw => ?_
      refine wpList_nil ?_
      refine reg_seq 3 (hF _ _) (by kernel_rfl) ?_
      refine net_cons rfl rfl (n_move rfl (ev rfl)) ?_
      refine net_cons rfl rfl (n_bin rfl (ev rfl) evc (r_inc (by omega))) ?_
      refine net_cons rfl rfl (n_assign rfl (ev rfl)) ?_
      refine net_nil fun a w1 hF hx => ?_
      replace hw := hw.next hx
      replace hF := hF.keep (.cons (t := 2) rfl (.cons (t := 6) rfl (.cons (t := 8) rfl (.cons (t := 10) rfl (.cons (t := 11) rfl (.cons (t := 12) rfl (.cons (t := 13) rfl (.cons (t := 15) rfl (.cons (t := 16) rfl (.cons (t := 17) rfl (.cons (t := 46) rfl (.cons (t := 62) rfl (.cons (t := 82) rfl (.cons (t := 83) rfl .nil))))))))))))))
      refine wpList_nil ?_
      exact ⟨(i + 1, .slice A82 (i + 1) c82), ⟨hF.keep (.cons (t := 2) rfl (.cons (t := 6) rfl (.cons (t := 8) rfl (.cons (t := 10) rfl (.cons (t := 11) rfl (.cons (t := 12) rfl (.cons (t := 13) rfl (.cons (t := 15) rfl (.cons (t := 16) rfl (.nil)))))))))), (ptsL_step hxe ▸ hw), by omega⟩, (by show n - (i + 1) < n - i; omega)⟩
    · have him : ¬ i < m := of_bool_f h62
      have hxe := xsL_hi (b := 2 ^ d) (n := n) (l := l) (i := i) (by omega) hi
      obtain ⟨x, hx_⟩ : ∃ x, x = 2 ^ d + 1 + (i - l.length) := ⟨_, rfl⟩
      rw [← hx_] at hxe
      have hxq : x < q := by omega
      have hmv : Value.int .u64 (IntKind.u64.wrap (((2 ^ ((d : Int)).toNat : Nat) : Int) + 1 + (i : Int) - (m : Int))) = U x := by
        refine congrArg (Value.int .u64) ?_
        rw [show (((2 ^ ((d : Int)).toNat : Nat) : Int) + 1 + (i : Int) - (m : Int)) = (x : Int) by simp only [Int.toNat_natCast]; omega]
        exact wrap_u64_nat (by omega)
      refine wp_skip ?_
      obtain ⟨As, ca, hse, _, hsR, _⟩ := hw.rd (i := 4) rfl
      have hpv := Nat.mod_lt (pv (cfs root n q) x) (show 0 < q by omega)
      refine reg_draw 13 mixed (by kernel_rfl) (hF _ _) ?_
      refine net_cons rfl rfl (n_fieldAddrO (off' := 2) rfl (ev rfl) Try.runUnderlying45 rfl Try.sizeOf43 rfl) ?_
      refine net_cons rfl rfl (n_load rfl (ev rfl) (ld1 hw (i := 5) rfl Try.isAgg43 rfl)) ?_
      refine net_cons rfl rfl (n_to (v' := U x) (n_move rfl (ev rfl)) hmv) ?_
      refine net_cons rfl rfl (n_fieldAddrO (off' := 1) rfl (ev rfl) Try.runUnderlying45 rfl Try.sizeOf24 rfl) ?_
      refine net_cons rfl rfl (n_load rfl (ev rfl) (ld1 hw (i := 5) rfl Try.isAgg24 rfl)) ?_
      refine net_cons rfl rfl (n_move rfl (ev rfl)) ?_
      refine net_cons rfl rfl (n_to (n_move rfl (ev rfl)) hse) ?_
      refine net_cons rfl rfl (n_to (v' := U x) (n_move rfl (ev rfl)) hmv) ?_
      refine net_cons rfl rfl (n_ret rfl Try.call99 (.cons (ev rfl) (.cons (ev rfl) (.cons (ev rfl) .nil))) (fun _ hx => (ValueOf_c q x (n + 1) ca As _ (by omega) (by omega) hxq hcq hcl (by omega) _ (hsR.ext hx)))) ?_
      refine net_cons rfl rfl (n_move rfl (ev rfl)) ?_
      refine net_cons rfl rfl (n_ret rfl Try.call81 (.cons (ev rfl) (.cons (ev rfl) (.cons (ev rfl) .nil))) (fun _ hx => rPower_c (baseN root p q g nonce) _ p (by unfold baseN; omega) (by omega) (by omega) (by omega) _)) ?_
      refine net_cons rfl rfl (n_build rfl (.cons (ev rfl) (.cons (ev rfl) .nil)) build_31_0_1) ?_
      refine net_cons rfl rfl (n_bsl sl43 rfl (.cons (ev rfl) .nil) (.cons rfl rfl .nil) rfl (by decide) (by decide)) ?_
      refine net_nil fun a w1 hF hx => ?_
      obtain ⟨b81, e81_, l81_, h81_⟩ := hF.at_ 81 _ rfl
      have hR81 := Rd.heap h81_
      replace hF := hF.now (v := .slice (some ⟨b81, 0, none⟩) (1) (1)) e81_
      replace hw := hw.next hx
      replace hF := hF.keep (.cons (t := 2) rfl (.cons (t := 6) rfl (.cons (t := 8) rfl (.cons (t := 10) rfl (.cons (t := 11) rfl (.cons (t := 12) rfl (.cons (t := 13) rfl (.cons (t := 15) rfl (.cons (t := 16) rfl (.cons (t := 17) rfl (.cons (t := 46) rfl (.cons (t := 62) rfl (.cons (t := 70) rfl (.cons (t := 81) rfl .nil))))))))))))))
      refine t_append (i := 6) sl43 rfl rfl rfl (by decide) hF hw rfl (ev rfl) (ev rfl) hR81 rfl (by intro u hu; simp only [List.mem_cons, List.append_nil, List.not_mem_nil, or_false] at hu; rcases hu with rfl | rfl <;> rfl) (by simp only [maxLen]; omega) (by omega) fun v82 a w1 hF hw => ?_
      replace hF := hF.keep (.cons (t := 2) rfl (.cons (t := 6) rfl (.cons (t := 8) rfl (.cons (t := 10) rfl (.cons (t := 11) rfl (.cons (t := 12) rfl (.cons (t := 13) rfl (.cons (t := 15) rfl (.cons (t := 16) rfl (.cons (t := 17) rfl (.cons (t := 46) rfl (.cons (t := 62) rfl (.cons (t := 82) rfl .nil)))))))))))))
      obtain ⟨A82, c82, rfl, _, _, _⟩ := hw.rd (i := 6) rfl
      refine t_net 14 1 (by kernel_rfl) rfl hF ?_
      refine net_cons rfl rfl (n_fieldAddrO (off' := 2) rfl (ev rfl) Try.runUnderlying45 rfl Try.sizeOf43 rfl) ?_
      refine net_nil fun a w1 hF hx => ?_
      replace hw := hw.next hx
      replace hF := hF.keep (.cons (t := 2) rfl (.cons (t := 6) rfl (.cons (t := 8) rfl (.cons (t := 10) rfl (.cons (t := 11) rfl (.cons (t := 12) rfl (.cons (t := 13) rfl (.cons (t := 15) rfl (.cons (t := 16) rfl (.cons (t := 17) rfl (.cons (t := 46) rfl (.cons (t := 62) rfl (.cons (t := 82) rfl (.cons (t := 83) rfl .nil))))))))))))))
      refine t_store (i := 5) rfl rfl rfl hF hw rfl (ev rfl) (ev rfl) rfl one1 Try.sizeOf43 rfl (Nat.le_of_ble_eq_true rfl) rfl fun w1 hw => ?_
      refine wpList_nil ?_
      refine reg_seq 3 (hF _ _) (by kernel_rfl) ?_
      refine net_cons rfl rfl (n_move rfl (ev rfl)) ?_
      refine net_cons rfl rfl (n_bin rfl (ev rfl) evc (r_inc (by omega))) ?_
      refine net_cons rfl rfl (n_assign rfl (ev rfl)) ?_
      refine net_nil fun a w1 hF hx => ?_
      replace hw := hw.next hx
      replace hF := hF.keep (.cons (t := 2) rfl (.cons (t := 6) rfl (.cons (t := 8) rfl (.cons (t := 10) rfl (.cons (t := 11) rfl (.cons (t := 12) rfl (.cons (t := 13) rfl (.cons (t := 15) rfl (.cons (t := 16) rfl (.cons (t := 17) rfl (.cons (t := 46) rfl (.cons (t := 62) rfl (.cons (t := 82) rfl (.cons (t := 83) rfl .nil))))))))))))))
      refine wpList_nil ?_
      exact ⟨(i + 1, .slice A82 (i + 1) c82), ⟨hF.keep (.cons (t := 2) rfl (.cons (t := 6) rfl (.cons (t := 8) rfl (.cons (t := 10) rfl (.cons (t := 11) rfl (.cons (t := 12) rfl (.cons (t := 13) rfl (.cons (t := 15) rfl (.cons (t := 16) rfl (.nil)))))))))), (ptsL_step hxe ▸ hw), by omega⟩, (by show n - (i + 1) < n - i; omega)⟩
  · obtain rfl : n = i := by have := of_bool_f h46; omega
    rw [take_len hptl] at hw
    obtain ⟨As, ca, hse, _, hsR, _⟩ := hw.rd (i := 4) rfl
    have hpv := Nat.mod_lt (pv (cfs root n q) 0) (show 0 < q by omega)
    have hpv2 := Nat.mod_lt (baseN root p q g nonce ^ (pv (cfs root n q) 0 % q)) (show 0 < p by omega)
    refine wp_exit (go_then_e (go_then_e (go_exit ?_)))
    refine wp_seq (reg_draw 11 mixed (by kernel_rfl) (hF _ _) ?_)
    refine net_cons rfl rfl (n_fieldAddrO (off' := 1) rfl (ev rfl) Try.runUnderlying45 rfl Try.sizeOf24 rfl) ?_
    refine net_cons rfl rfl (n_load rfl (ev rfl) (ld1 hw (i := 5) rfl Try.isAgg24 rfl)) ?_
    refine net_cons rfl rfl (n_move rfl (ev rfl)) ?_
    refine net_cons rfl rfl (n_to (n_move rfl (ev rfl)) hse) ?_
    refine net_cons rfl rfl (n_ret rfl Try.call99 (.cons (ev rfl) (.cons (ev rfl) (.cons evc .nil))) (fun _ hx => (ValueOf_c q 0 (n + 1) ca As _ (by omega) (by omega) (by omega) hcq hcl (by omega) _ (hsR.ext hx)))) ?_
    refine net_cons rfl rfl (n_move rfl (ev rfl)) ?_
    refine net_cons rfl rfl (n_ret rfl Try.call81 (.cons (ev rfl) (.cons (ev rfl) (.cons (ev rfl) .nil))) (fun _ hx => rPower_c (baseN root p q g nonce) _ p (by unfold baseN; omega) (by omega) (by omega) (by omega) _)) ?_
    refine net_cons rfl rfl (n_ret rfl Try.call84 (.cons (ev rfl) .nil) (fun _ hx => MaskKey_c _ (by omega) _)) ?_
    refine net_cons rfl rfl (n_load rfl (ev rfl) (ldN hw (i := 2) (vs := _) rfl Try.isAgg23 Try.sizeOf23 (kc_len _) (cut_whole (kc_len _)))) ?_
    refine net_cons rfl rfl (n_ret rfl Try.call120 (.cons (ev rfl) (.cons (ev rfl) .nil)) (fun _ hx => rEncrypt_c _ _ _)) ?_
    refine net_cons rfl rfl (n_fieldAddrO (off' := 3) rfl (ev rfl) Try.runUnderlying45 rfl Try.sizeOf23 rfl) ?_
    refine net_nil fun a w1 hF hx => ?_
    replace hw := hw.next hx
    replace hF := hF.keep (.cons (t := 2) rfl (.cons (t := 6) rfl (.cons (t := 8) rfl (.cons (t := 10) rfl (.cons (t := 11) rfl (.cons (t := 12) rfl (.cons (t := 13) rfl (.cons (t := 15) rfl (.cons (t := 16) rfl (.cons (t := 46) rfl (.cons (t := 93) rfl (.cons (t := 94) rfl .nil))))))))))))
    refine t_store (i := 5) rfl rfl rfl hF hw rfl (ev rfl) (ev rfl) rfl (kc_one _) Try.sizeOf23 (kc_len _) (by rw [hcs_len]; decide) (hcs_box _ _ _ _ _ _) fun w1 hw => ?_
    refine wpList_nil ?_
    obtain ⟨Av, cv, rfl, _, _, _⟩ := hw.rd (i := 6) rfl
    refine wp_seq (wp_region_lit ?_)
    refine t_net 0 1 (by kernel_rfl) rfl hF ?_
    refine net_cons rfl rfl (n_load rfl (ev rfl) (ldN hw (i := 5) (vs := _) rfl Try.isAgg45 Try.sizeOf45 (hcs_len _ _ _ _ _) (cut_whole (hcs_len _ _ _ _ _)))) ?_
    refine net_nil fun a w1 hF hx => ?_
    replace hw := hw.next hx
    replace hF := hF.keep (.cons (t := 2) rfl (.cons (t := 6) rfl (.cons (t := 8) rfl (.cons (t := 10) rfl (.cons (t := 11) rfl (.cons (t := 12) rfl (.cons (t := 13) rfl (.cons (t := 15) rfl (.cons (t := 16) rfl (.cons (t := 46) rfl (.cons (t := 93) rfl (.cons (t := 94) rfl (.cons (t := 95) rfl .nil)))))))))))))
    refine t_store (i := 3) rfl rfl rfl hF hw rfl (ev rfl) (ev rfl) rfl one_hcs Try.sizeOf45 (hcs_len _ _ _ _ _) (by first | decide | (rw [hcs_len]; decide)) (seg_whole (by rw [hcs_len] <;> rfl)) fun w1 hw => ?_
    refine wpList_nil ?_
    refine wp_ret (retc hF Try.results73 rfl (ldN hw (i := 3) (vs := _) rfl Try.isAgg45 Try.sizeOf45 (hcs_len _ _ _ _ _) (cut_whole (hcs_len _ _ _ _ _)) _ (Ext.refl _)) ?_)
    exact ⟨_, rfl, hw.ext, _, hw.row (i := 6) rfl, rfl⟩


theorem hcs_box_at (items : Value) (base : Nat) (pts : Value) (box chk : Key) : ((hcs items base pts box chk).drop 3).take 16 = kc box := by
  show (kc box ++ kc chk).take 16 = _
  rw [List.take_append_of_le_length (by rw [kc_len]; decide), take_len (kc_len box)]
theorem hcs_chk_at (items : Value) (base : Nat) (pts : Value) (box chk : Key) : ((hcs items base pts box chk).drop 19).take 16 = kc chk := by
  show ((kc box ++ kc chk).drop 16).take 16 = _
  rw [List.drop_append, kc_len, List.drop_of_length_le (by rw [kc_len]; decide)]
  exact take_len (kc_len chk)
/-- What Seal returns. -/
def sealR (root : Key) (kd : Nat) (dp dg : Int) (p q g : Nat) (l : List Int) (session : Key) (nonce : Nat) : (Nat × List (Nat × Nat) × Key × Key) × Int :=
  if okS kd dp dg p q g then (if okL ((2 ^ dp.toNat : Nat) : Int) l then (if (l.length : Int) ≤ dg then ((baseN root p q g nonce, ptsL root dp.toNat dg.toNat p q g l nonce, boxK root dg.toNat p q g session nonce, derK session 53 0), 0)
    else ((0, [], key0, key0), 4)) else ((0, [], key0, key0), 2)) else ((0, [], key0, key0), 30)
section
variable {root session : Key} {kd : Nat} {dp dg : Int} {p q g nonce : Nat} {l : List Int}
theorem sealR_no (h : okS kd dp dg p q g = false) : sealR root kd dp dg p q g l session nonce = ((0, [], key0, key0), 30) := by simp [sealR, h]
theorem sealR_bad (h : okS kd dp dg p q g = true) (h2 : okL ((2 ^ dp.toNat : Nat) : Int) l = false) : sealR root kd dp dg p q g l session nonce = ((0, [], key0, key0), 2) := by
  unfold sealR
  rw [h, if_pos rfl, h2]
  rfl
theorem sealR_many (h : okS kd dp dg p q g = true) (h2 : okL ((2 ^ dp.toNat : Nat) : Int) l = true) (h3 : ¬ (l.length : Int) ≤ dg) : sealR root kd dp dg p q g l session nonce = ((0, [], key0, key0), 4) := by
  unfold sealR
  rw [h, if_pos rfl, h2, if_pos rfl, if_neg h3]
theorem sealR_ok {d n : Nat} (h : okS kd d n p q g = true) (h2 : okL ((2 ^ d : Nat) : Int) l = true) (h3 : l.length ≤ n) : sealR root kd d n p q g l session nonce = ((baseN root p q g nonce, ptsL root d n p q g l nonce, boxK root n p q g session nonce, derK session 53 0), (0 : Int)) := by
  unfold sealR
  rw [h, if_pos rfl, Int.toNat_natCast, h2, if_pos rfl, if_pos (by omega), Int.toNat_natCast]
end
/-- .. as the value that comes back. -/
def sealF (R : (Nat × List (Nat × Nat) × Key × Key) × Int) : Fact := .ex 31 2 R.1.2.1.length (pc R.1.2.1) fun v => .tuple #[HV (.slice none 0 0) R.1.1 v R.1.2.2.1 R.1.2.2.2, I R.2]
theorem sealF_none {B : Nat} {w : World} {e : Int} : (sealF ((0, [], key0, key0), e)).ok B (.tuple #[HV (.slice none 0 0) 0 (.slice none 0 0) key0 key0, I e]) w := ⟨.slice none 0 0, World.ownsRow_nil w B 31 2, rfl⟩
theorem ptsL_take {root : Key} {d n p q g : Nat} {l : List Int} {nonce i x : Nat} (h : (xsL (2 ^ d) n l)[i]? = some x) :
    (ptsL root d n p q g l nonce).take i ++ [(x, liftN p q (baseN root p q g nonce) (cfs root n q) x)] = (ptsL root d n p q g l nonce).take (i + 1) := by
  rw [List.take_add_one, ptsL, List.getElem?_map, h]
  rfl


theorem rSeal_c (root session : Key) (kd : Nat) (dp dg : Int) (p q g nonce m c : Nat) (A : Option Addr) (l : List Int) (hp : p < 18446744073709551616) (hq : q < 18446744073709551616) (hg : g < 18446744073709551616) (hno : nonce < 18446744073709551616) (hl : l.length = m) (hm : m ≤ 9223372036854775800) (w : World) (hR : Rd w A (l.map I)) : RetF Try.prog 22 [K root, SV kd dp dg p q g, .slice A m c, K session, U nonce].toArray w (sealF (sealR root kd dp dg p q g l session nonce)) := by
  refine enter Try.func22 rfl Try.ntmps22 rfl fun a hF => ?_
  have hw := Own.start w
  refine wp_seq (wp_region_lit ?_)
  refine t_net 0 1 (by kernel_rfl) rfl hF ?_
  refine net_cons rfl rfl (n_box rfl (ev rfl) rfl) ?_
  refine net_nil fun a w1 hF hx => ?_
  obtain ⟨b5, h_, hw⟩ := hw.blk hx (hF.at_ 5 _ rfl)
  replace hF := hF.now h_
  replace hF := hF.keep (.cons (t := 1) rfl (.cons (t := 2) rfl (.cons (t := 3) rfl (.cons (t := 4) rfl (.cons (t := 5) rfl .nil)))))
  refine t_net 1 1 (by kernel_rfl) rfl hF ?_
  refine net_cons rfl rfl (n_box rfl (ev rfl) rfl) ?_
  refine net_nil fun a w1 hF hx => ?_
  obtain ⟨b6, h_, hw⟩ := hw.blk hx (hF.at_ 6 _ rfl)
  replace hF := hF.now h_
  replace hF := hF.keep (.cons (t := 2) rfl (.cons (t := 3) rfl (.cons (t := 4) rfl (.cons (t := 5) rfl (.cons (t := 6) rfl .nil)))))
  refine t_net 2 1 (by kernel_rfl) rfl hF ?_
  refine net_cons rfl rfl (n_box rfl (ev rfl) rfl) ?_
  refine net_nil fun a w1 hF hx => ?_
  obtain ⟨b8, h_, hw⟩ := hw.blk hx (hF.at_ 8 _ rfl)
  replace hF := hF.now h_
  replace hF := hF.keep (.cons (t := 2) rfl (.cons (t := 4) rfl (.cons (t := 5) rfl (.cons (t := 6) rfl (.cons (t := 8) rfl .nil)))))
  refine t_net 3 1 (by kernel_rfl) rfl hF ?_
  refine net_cons rfl rfl (n_alloc rfl Try.zeroValue45 rfl) ?_
  refine net_nil fun a w1 hF hx => ?_
  obtain ⟨b10, h_, hw⟩ := hw.blk hx (hF.at_ 10 _ rfl)
  replace hF := hF.now h_
  replace hF := hF.keep (.cons (t := 2) rfl (.cons (t := 4) rfl (.cons (t := 5) rfl (.cons (t := 6) rfl (.cons (t := 8) rfl (.cons (t := 10) rfl .nil))))))
  refine t_net 4 1 (by kernel_rfl) rfl hF ?_
  refine net_cons rfl rfl (n_assign rfl evc) ?_
  refine net_nil fun a w1 hF hx => ?_
  replace hw := hw.next hx
  replace hF := hF.keep (.cons (t := 2) rfl (.cons (t := 4) rfl (.cons (t := 5) rfl (.cons (t := 6) rfl (.cons (t := 8) rfl (.cons (t := 10) rfl (.cons (t := 11) rfl .nil)))))))
  refine wpList_nil ?_
  refine wp_seq ?_
  refine wp_seq (reg_seq 3 (hF _ _) (by kernel_rfl) ?_)
  refine net_cons rfl rfl (n_load rfl (ev rfl) (ldN hw (i := 1) (vs := _) rfl Try.isAgg28 Try.sizeOf28 rfl rfl)) ?_
  refine net_cons rfl rfl (n_ret rfl Try.call30 (.cons (ev rfl) .nil) (fun _ hx => Valid_c _ _ _ _ _ _ (by assumption) (by assumption) (by assumption) _)) ?_
  refine net_cons rfl rfl (n_not rfl (ev rfl)) ?_
  refine net_nil fun a w1 hF hx => ?_
  replace hw := hw.next hx
  replace hF := hF.keep (.cons (t := 2) rfl (.cons (t := 4) rfl (.cons (t := 5) rfl (.cons (t := 6) rfl (.cons (t := 8) rfl (.cons (t := 10) rfl (.cons (t := 11) rfl (.cons (t := 14) rfl .nil))))))))
  refine wpList_nil ?_
  refine wp_cond_split (hF.ev (ev rfl)) (fun h14 => ?_) (fun h14 => ?_)
  · have hz : okS kd dp dg p q g = false := by simpa using h14
    refine wp_seq (wp_region_lit ?_)
    refine t_net 0 1 (by kernel_rfl) rfl hF ?_
    refine net_cons rfl rfl (n_build rfl .nil build_45_) ?_
    refine net_nil fun a w1 hF hx => ?_
    replace hw := hw.next hx
    replace hF := hF.keep (.cons (t := 2) rfl (.cons (t := 4) rfl (.cons (t := 5) rfl (.cons (t := 6) rfl (.cons (t := 8) rfl (.cons (t := 10) rfl (.cons (t := 11) rfl (.cons (t := 14) rfl (.cons (t := 15) rfl .nil)))))))))
    refine t_store (i := 3) rfl rfl rfl hF hw rfl (ev rfl) (ev rfl) rfl one_hcs Try.sizeOf45 (hcs_len _ _ _ _ _) (by first | decide | (rw [hcs_len]; decide)) (seg_whole (by rw [hcs_len] <;> rfl)) fun w1 hw => ?_
    refine t_net 2 1 (by kernel_rfl) rfl hF ?_
    refine net_cons rfl rfl (n_assign rfl evc) ?_
    refine net_nil fun a w1 hF hx => ?_
    replace hw := hw.next hx
    replace hF := hF.keep (.cons (t := 2) rfl (.cons (t := 4) rfl (.cons (t := 5) rfl (.cons (t := 6) rfl (.cons (t := 8) rfl (.cons (t := 10) rfl (.cons (t := 11) rfl (.cons (t := 14) rfl .nil))))))))
    refine wpList_nil ?_
    refine wp_ret (go_then_r (retc2 hF Try.results22 rfl (ldN hw (i := 3) (vs := _) rfl Try.isAgg45 Try.sizeOf45 (hcs_len _ _ _ _ _) (cut_whole (hcs_len _ _ _ _ _)) _ (Ext.refl _)) rfl ?_))
    exact ⟨_, rfl, hw.ext, (by rw [sealR_no hz]; exact sealF_none)⟩
  · have hz : okS kd dp dg p q g = true := by simpa using h14
    obtain ⟨hz1, hz2, hz3, hz4, hz5, hz6, hz7⟩ := okS_all hz
    obtain ⟨hz8, hz9, hz10, hz11, hz12⟩ := okG_q hz6
    obtain ⟨d, hde⟩ := Int.eq_ofNat_of_zero_le hz2
    obtain ⟨n, hne⟩ := Int.eq_ofNat_of_zero_le (show 0 ≤ dg by omega)
    refine wp_skip ?_
    refine wp_seq ?_
    refine wp_seq (reg_seq 5 (hF _ _) (by kernel_rfl) ?_)
    refine net_cons rfl rfl (n_fieldAddrO (off' := 1) rfl (ev rfl) Try.runUnderlying28 rfl Try.sizeOf3 rfl) ?_
    refine net_cons rfl rfl (n_load rfl (ev rfl) (ld1 hw (i := 1) rfl Try.isAgg3 rfl)) ?_
    refine net_cons rfl rfl (n_move rfl (ev rfl)) ?_
    refine net_cons rfl rfl (n_ret rfl Try.call31 (.cons (ev rfl) (.cons (ev rfl) .nil)) (fun _ hx => IsList_c dp hz2 hz3 m c A l hl (by omega) _ (hR.ext (hw.ext.trans hx)))) ?_
    refine net_cons rfl rfl (n_not rfl (ev rfl)) ?_
    refine net_nil fun a w1 hF hx => ?_
    replace hw := hw.next hx
    replace hF := hF.keep (.cons (t := 2) rfl (.cons (t := 4) rfl (.cons (t := 5) rfl (.cons (t := 6) rfl (.cons (t := 8) rfl (.cons (t := 10) rfl (.cons (t := 11) rfl (.cons (t := 14) rfl (.cons (t := 20) rfl .nil)))))))))
    refine wpList_nil ?_
    refine wp_cond_split (hF.ev (ev rfl)) (fun h20 => ?_) (fun h20 => ?_)
    · have hok : okL ((2 ^ dp.toNat : Nat) : Int) l = false := by simpa using h20
      refine wp_seq (wp_region_lit ?_)
      refine t_net 0 1 (by kernel_rfl) rfl hF ?_
      refine net_cons rfl rfl (n_build rfl .nil build_45_) ?_
      refine net_nil fun a w1 hF hx => ?_
      replace hw := hw.next hx
      replace hF := hF.keep (.cons (t := 2) rfl (.cons (t := 4) rfl (.cons (t := 5) rfl (.cons (t := 6) rfl (.cons (t := 8) rfl (.cons (t := 10) rfl (.cons (t := 11) rfl (.cons (t := 14) rfl (.cons (t := 20) rfl (.cons (t := 21) rfl .nil))))))))))
      refine t_store (i := 3) rfl rfl rfl hF hw rfl (ev rfl) (ev rfl) rfl one_hcs Try.sizeOf45 (hcs_len _ _ _ _ _) (by first | decide | (rw [hcs_len]; decide)) (seg_whole (by rw [hcs_len] <;> rfl)) fun w1 hw => ?_
      refine t_net 2 1 (by kernel_rfl) rfl hF ?_
      refine net_cons rfl rfl (n_assign rfl evc) ?_
      refine net_nil fun a w1 hF hx => ?_
      replace hw := hw.next hx
      replace hF := hF.keep (.cons (t := 2) rfl (.cons (t := 4) rfl (.cons (t := 5) rfl (.cons (t := 6) rfl (.cons (t := 8) rfl (.cons (t := 10) rfl (.cons (t := 11) rfl (.cons (t := 14) rfl (.cons (t := 20) rfl .nil)))))))))
      refine wpList_nil ?_
      refine wp_ret (go_then_r (retc2 hF Try.results22 rfl (ldN hw (i := 3) (vs := _) rfl Try.isAgg45 Try.sizeOf45 (hcs_len _ _ _ _ _) (cut_whole (hcs_len _ _ _ _ _)) _ (Ext.refl _)) rfl ?_))
      exact ⟨_, rfl, hw.ext, (by rw [sealR_bad hz hok]; exact sealF_none)⟩
    · have hok : okL ((2 ^ dp.toNat : Nat) : Int) l = true := by simpa using h20
      refine wp_skip ?_
      refine wp_seq ?_
      refine wp_seq (reg_seq 5 (hF _ _) (by kernel_rfl) ?_)
      refine net_cons rfl rfl (n_move rfl (ev rfl)) ?_
      refine net_cons rfl rfl (n_len rfl (ev rfl) Try.underlying41) ?_
      refine net_cons rfl rfl (n_fieldAddrO (off' := 2) rfl (ev rfl) Try.runUnderlying28 rfl Try.sizeOf3 rfl) ?_
      refine net_cons rfl rfl (n_load rfl (ev rfl) (ld1 hw (i := 1) rfl Try.isAgg3 rfl)) ?_
      refine net_cons rfl rfl (n_bin rfl (ev rfl) (ev rfl) r_gtr) ?_
      refine net_nil fun a w1 hF hx => ?_
      replace hw := hw.next hx
      replace hF := hF.keep (.cons (t := 2) rfl (.cons (t := 4) rfl (.cons (t := 5) rfl (.cons (t := 6) rfl (.cons (t := 8) rfl (.cons (t := 10) rfl (.cons (t := 11) rfl (.cons (t := 14) rfl (.cons (t := 20) rfl (.cons (t := 26) rfl .nil))))))))))
      refine wpList_nil ?_
      refine wp_cond_split (hF.ev (ev rfl)) (fun h26 => ?_) (fun h26 => ?_)
      · have hmn := of_bool_t h26
        refine wp_seq (wp_region_lit ?_)
        refine t_net 0 1 (by kernel_rfl) rfl hF ?_
        refine net_cons rfl rfl (n_build rfl .nil build_45_) ?_
        refine net_nil fun a w1 hF hx => ?_
        replace hw := hw.next hx
        replace hF := hF.keep (.cons (t := 2) rfl (.cons (t := 4) rfl (.cons (t := 5) rfl (.cons (t := 6) rfl (.cons (t := 8) rfl (.cons (t := 10) rfl (.cons (t := 11) rfl (.cons (t := 14) rfl (.cons (t := 20) rfl (.cons (t := 26) rfl (.cons (t := 27) rfl .nil)))))))))))
        refine t_store (i := 3) rfl rfl rfl hF hw rfl (ev rfl) (ev rfl) rfl one_hcs Try.sizeOf45 (hcs_len _ _ _ _ _) (by first | decide | (rw [hcs_len]; decide)) (seg_whole (by rw [hcs_len] <;> rfl)) fun w1 hw => ?_
        refine t_net 2 1 (by kernel_rfl) rfl hF ?_
        refine net_cons rfl rfl (n_assign rfl evc) ?_
        refine net_nil fun a w1 hF hx => ?_
        replace hw := hw.next hx
        replace hF := hF.keep (.cons (t := 2) rfl (.cons (t := 4) rfl (.cons (t := 5) rfl (.cons (t := 6) rfl (.cons (t := 8) rfl (.cons (t := 10) rfl (.cons (t := 11) rfl (.cons (t := 14) rfl (.cons (t := 20) rfl (.cons (t := 26) rfl .nil))))))))))
        refine wpList_nil ?_
        refine wp_ret (go_then_r (retc2 hF Try.results22 rfl (ldN hw (i := 3) (vs := _) rfl Try.isAgg45 Try.sizeOf45 (hcs_len _ _ _ _ _) (cut_whole (hcs_len _ _ _ _ _)) _ (Ext.refl _)) rfl ?_))
        exact ⟨_, rfl, hw.ext, (by rw [sealR_many hz hok (by omega)]; exact sealF_none)⟩
      · have hmn := of_bool_f h26
        refine wp_skip ?_
        rw [hde, hne] at hw
        refine wp_seq (wp_region_lit ?_)
        refine t_net 0 6 (by kernel_rfl) rfl hF ?_
        refine net_cons rfl rfl (n_load rfl (ev rfl) (ldN hw (i := 0) (vs := _) rfl Try.isAgg23 Try.sizeOf23 (kc_len _) (cut_whole (kc_len _)))) ?_
        refine net_cons rfl rfl (n_load rfl (ev rfl) (ldN hw (i := 1) (vs := _) rfl Try.isAgg28 Try.sizeOf28 rfl rfl)) ?_
        refine net_cons rfl rfl (n_move rfl (ev rfl)) ?_
        refine net_cons rfl rfl (n_load rfl (ev rfl) (ldN hw (i := 2) (vs := _) rfl Try.isAgg23 Try.sizeOf23 (kc_len _) (cut_whole (kc_len _)))) ?_
        refine net_cons rfl rfl (n_move rfl (ev rfl)) ?_
        refine net_cons rfl rfl (n_ret rfl Try.call73 (.cons (ev rfl) (.cons (ev rfl) (.cons (ev rfl) (.cons (ev rfl) (.cons (ev rfl) .nil))))) (fun _ hx => SealOf_c root session kd d n p q g nonce m c A l hp hq hg hno (by rw [← hde, ← hne]; exact hz) (by rw [hde] at hok; exact hok) hl (by omega) _ (hR.ext (hw.ext.trans hx)))) ?_
        refine net_nil fun a w1 hF hx => ?_
        obtain ⟨s33, h_, hw⟩ := hw.ex hx (hF.at_ 33 _ rfl)
        replace hF := hF.now h_
        replace hF := hF.keep (.cons (t := 2) rfl (.cons (t := 6) rfl (.cons (t := 10) rfl (.cons (t := 11) rfl (.cons (t := 14) rfl (.cons (t := 20) rfl (.cons (t := 26) rfl (.cons (t := 33) rfl .nil))))))))
        obtain ⟨A33, c33, rfl, _, _, _⟩ := hw.rd (i := 4) rfl
        refine t_store (i := 3) rfl rfl rfl hF hw rfl (ev rfl) (ev rfl) rfl one_hcs Try.sizeOf45 (hcs_len _ _ _ _ _) (by first | decide | (rw [hcs_len]; decide)) (seg_whole (by rw [hcs_len] <;> rfl)) fun w1 hw => ?_
        refine t_net 7 1 (by kernel_rfl) rfl hF ?_
        refine net_cons rfl rfl (n_assign rfl evc) ?_
        refine net_nil fun a w1 hF hx => ?_
        replace hw := hw.next hx
        replace hF := hF.keep (.cons (t := 2) rfl (.cons (t := 6) rfl (.cons (t := 10) rfl (.cons (t := 11) rfl (.cons (t := 14) rfl (.cons (t := 20) rfl (.cons (t := 26) rfl .nil)))))))
        refine wpList_nil ?_
        refine wp_ret (retc2 hF Try.results22 rfl (ldN hw (i := 3) (vs := _) rfl Try.isAgg45 Try.sizeOf45 (hcs_len _ _ _ _ _) (cut_whole (hcs_len _ _ _ _ _)) _ (Ext.refl _)) rfl ?_)
        exact ⟨_, rfl, hw.ext, (by rw [hde, hne, sealR_ok (by rw [← hde, ← hne]; exact hz) (by rw [hde] at hok; exact hok) (by omega)]; exact ⟨_, (by rw [show (ptsL root d n p q g l nonce).length = n from ptsL_len (by omega)]; exact hw.row (i := 4) rfl), rfl⟩)⟩

theorem SameInts_c (n c c2 : Nat) (A A2 : Option Addr) (l : List Int) (hl : l.length = n) (hn : n ≤ 9223372036854775800) (w : World) (hR : Rd w A (l.map I)) (hR2 : Rd w A2 (l.map I)) : RetF Try.prog 24 [.slice A n c, .slice A2 n c2].toArray w (.is (.bool true)) := by
  refine enter Try.func24 rfl Try.ntmps24 rfl fun a hF => ?_
  have hw := Own.start w
  refine wp_seq (reg_seq 1 (hF _ _) (by kernel_rfl) ?_)
  refine net_cons rfl rfl (n_assign rfl evc) ?_
  refine net_nil fun a w1 hF hx => ?_
  replace hw := hw.next hx
  replace hF := hF.keep (.cons (t := 0) rfl (.cons (t := 1) rfl (.cons (t := 4) rfl .nil)))
  refine wpList_nil ?_
  refine wp_seq ?_
  refine wp_seq (reg_seq 5 (hF _ _) (by kernel_rfl) ?_)
  refine net_cons rfl rfl (n_move rfl (ev rfl)) ?_
  refine net_cons rfl rfl (n_len rfl (ev rfl) Try.underlying41) ?_
  refine net_cons rfl rfl (n_move rfl (ev rfl)) ?_
  refine net_cons rfl rfl (n_len rfl (ev rfl) Try.underlying41) ?_
  refine net_cons rfl rfl (n_bin rfl (ev rfl) (ev rfl) r_neq) ?_
  refine net_nil fun a w1 hF hx => ?_
  replace hw := hw.next hx
  replace hF := hF.keep (.cons (t := 0) rfl (.cons (t := 1) rfl (.cons (t := 4) rfl (.cons (t := 10) rfl .nil))))
  refine wpList_nil ?_
  refine wp_cond_false ((hF.ev (ev rfl)).trans (congrArg Value.bool (by simp))) ?_
  refine wp_skip ?_
  refine wp_seq ?_
  refine wp_seq (reg_seq 1 (hF _ _) (by kernel_rfl) ?_)
  refine net_cons rfl rfl (n_assign rfl evc) ?_
  refine net_nil fun a w1 hF hx => ?_
  replace hw := hw.next hx
  replace hF := hF.keep (.cons (t := 0) rfl (.cons (t := 1) rfl (.cons (t := 4) rfl (.cons (t := 5) rfl (.cons (t := 10) rfl .nil)))))
  refine wpList_nil ?_
  refine wp_block ?_
  refine wp_loop_ix (α := Nat) (fun i a w1 => FrV 26 [] [(0, .is (.slice A n c)) , (1, .is (.slice A2 n c2)) , (5, .is (I (i : Int)))] a ∧ Own w w1 [] ∧ (i ≤ n)) (fun i => n - i) (0) ⟨hF.keep (.cons (t := 0) rfl (.cons (t := 1) rfl (.cons (t := 5) rfl (.nil)))), hw, by omega⟩ ?_
  rintro i a w1 ⟨hF, hw, hi0⟩
  refine wp_seq ?_
  refine wp_seq (reg_seq 4 (hF _ _) (by kernel_rfl) ?_)
  refine net_cons rfl rfl (n_move rfl (ev rfl)) ?_
  refine net_cons rfl rfl (n_move rfl (ev rfl)) ?_
  refine net_cons rfl rfl (n_len rfl (ev rfl) Try.underlying41) ?_
  refine net_cons rfl rfl (n_bin rfl (ev rfl) (ev rfl) r_lssN) ?_
  refine net_nil fun a w1 hF hx => ?_
  replace hw := hw.next hx
  replace hF := hF.keep (.cons (t := 0) rfl (.cons (t := 1) rfl (.cons (t := 5) rfl (.cons (t := 14) rfl .nil))))
  refine wpList_nil ?_
  refine wp_cond_split (hF.ev (ev rfl)) (fun h14 => ?_) (fun h14 => ?_)
  · have hi : i < n := of_bool_t h14
    obtain ⟨z, hz0⟩ := some_at hl hi
    have hF_ := hF
    have hw_ := hw
    obtain ⟨bX, oX, rfl, hcX⟩ := hR.at_ (by rw [List.length_map]; omega)
    obtain ⟨bY, oY, rfl, hcY⟩ := hR2.at_ (by rw [List.length_map]; omega)
    have hF := hF_
    have hw := hw_
    refine wp_skip ?_
    refine wp_seq (wp_block ?_)
    refine wp_seq (reg_draw 9 mixed (by kernel_rfl) (hF _ _) ?_)
    refine net_cons rfl rfl (n_move rfl (ev rfl)) ?_
    refine net_cons rfl rfl (n_move rfl (ev rfl)) ?_
    refine net_cons rfl rfl (n_indexS (off' := oX + (i)) rfl (ev rfl) (ev rfl) Try.underlying41 Try.sizeOf3 (by omega) (by omega)) ?_
    refine net_cons rfl rfl (n_load rfl (ev rfl) (fun w2 hx2 => ld1R hcX (map_at hz0) Try.isAgg3 (by omega) w2 (hw.ext.trans hx2))) ?_
    refine net_cons rfl rfl (n_move rfl (ev rfl)) ?_
    refine net_cons rfl rfl (n_move rfl (ev rfl)) ?_
    refine net_cons rfl rfl (n_indexS (off' := oY + (i)) rfl (ev rfl) (ev rfl) Try.underlying41 Try.sizeOf3 (by omega) (by omega)) ?_
    refine net_cons rfl rfl (n_load rfl (ev rfl) (fun w2 hx2 => ld1R hcY (map_at hz0) Try.isAgg3 (by omega) w2 (hw.ext.trans hx2))) ?_
    refine net_cons rfl rfl (n_bin rfl (ev rfl) (ev rfl) r_neq) ?_
    refine net_nil fun a w1 hF hx => ?_
    replace hw := hw.next hx
    replace hF := hF.keep (.cons (t := 0) rfl (.cons (t := 1) rfl (.cons (t := 5) rfl (.cons (t := 14) rfl (.cons (t := 25) rfl .nil)))))
    refine wpList_nil ?_
    refine wp_cond_false ((hF.ev (ev rfl)).trans (congrArg Value.bool (by simp))) ?_
    refine wp_skip ?_
    refine reg_seq 3 (hF _ _) (by kernel_rfl) ?_
    refine net_cons rfl rfl (n_move rfl (ev rfl)) ?_
    refine net_cons rfl rfl (n_bin rfl (ev rfl) evc (r_inc (by omega))) ?_
    refine net_cons rfl rfl (n_assign rfl (ev rfl)) ?_
    refine net_nil fun a w1 hF hx => ?_
    replace hw := hw.next hx
    replace hF := hF.keep (.cons (t := 0) rfl (.cons (t := 1) rfl (.cons (t := 5) rfl (.cons (t := 14) rfl (.cons (t := 25) rfl .nil)))))
    refine wpList_nil ?_
    exact ⟨i + 1, ⟨hF.keep (.cons (t := 0) rfl (.cons (t := 1) rfl (.cons (t := 5) rfl (.nil)))), hw, by omega⟩, by omega⟩
  · refine wp_exit (go_then_e (go_then_e (go_exit ?_)))
    refine wp_seq (reg_seq 1 (hF _ _) (by kernel_rfl) ?_)
    refine net_cons rfl rfl (n_assign rfl evc) ?_
    refine net_nil fun a w1 hF hx => ?_
    replace hw := hw.next hx
    replace hF := hF.keep (.cons (t := 0) rfl (.cons (t := 1) rfl (.cons (t := 4) rfl (.cons (t := 5) rfl (.cons (t := 14) rfl .nil)))))
    refine wpList_nil ?_
    refine wp_ret (ret1 hF Try.results24 rfl ?_)
    exact ⟨_, rfl, hw.ext, rfl⟩

theorem SameHeader0_c (base n c c2 : Nat) (A A2 : Option Addr) (box chk : Key) (l : List (Nat × Nat)) (hl : l.length = n) (hn : n ≤ 9223372036854775800) (w : World) (hR : Rd w A (pc l)) (hR2 : Rd w A2 (pc l)) : RetF Try.prog 23 [HV (.slice none 0 0) base (.slice A n c) box chk, HV (.slice none 0 0) base (.slice A2 n c2) box chk].toArray w (.is (.bool true)) := by
  refine enter Try.func23 rfl Try.ntmps23 rfl fun a hF => ?_
  have hw := Own.start w
  refine wp_seq (wp_region_lit ?_)
  refine t_net 0 1 (by kernel_rfl) rfl hF ?_
  refine net_cons rfl rfl (n_box rfl (ev rfl) rfl) ?_
  refine net_nil fun a w1 hF hx => ?_
  obtain ⟨b2, h_, hw⟩ := hw.blk hx (hF.at_ 2 _ rfl)
  replace hF := hF.now h_
  replace hF := hF.keep (.cons (t := 1) rfl (.cons (t := 2) rfl .nil))
  refine t_net 1 1 (by kernel_rfl) rfl hF ?_
  refine net_cons rfl rfl (n_box rfl (ev rfl) rfl) ?_
  refine net_nil fun a w1 hF hx => ?_
  obtain ⟨b3, h_, hw⟩ := hw.blk hx (hF.at_ 3 _ rfl)
  replace hF := hF.now h_
  replace hF := hF.keep (.cons (t := 2) rfl (.cons (t := 3) rfl .nil))
  refine t_net 2 1 (by kernel_rfl) rfl hF ?_
  refine net_cons rfl rfl (n_assign rfl evc) ?_
  refine net_nil fun a w1 hF hx => ?_
  replace hw := hw.next hx
  replace hF := hF.keep (.cons (t := 2) rfl (.cons (t := 3) rfl (.cons (t := 4) rfl .nil)))
  refine wpList_nil ?_
  refine wp_seq ?_
  refine wp_seq (reg_seq 37 (hF _ _) (by kernel_rfl) ?_)
  refine net_cons rfl rfl (n_fieldAddrO (off' := 0) rfl (ev rfl) Try.runUnderlying45 rfl Try.sizeOf42 rfl) ?_
  refine net_cons rfl rfl (n_load rfl (ev rfl) (ld1 hw (i := 0) rfl Try.isAgg42 rfl)) ?_
  refine net_cons rfl rfl (n_len rfl (ev rfl) Try.underlying42) ?_
  refine net_cons rfl rfl (n_fieldAddrO (off' := 0) rfl (ev rfl) Try.runUnderlying45 rfl Try.sizeOf42 rfl) ?_
  refine net_cons rfl rfl (n_load rfl (ev rfl) (ld1 hw (i := 1) rfl Try.isAgg42 rfl)) ?_
  refine net_cons rfl rfl (n_len rfl (ev rfl) Try.underlying42) ?_
  refine net_cons rfl rfl (n_bin rfl (ev rfl) (ev rfl) r_neq) ?_
  refine net_cons rfl rfl (n_move rfl (ev rfl)) ?_
  refine net_if rfl rfl rfl rfl (fun hc => (n_fieldAddrO (off' := 2) rfl (ev rfl) Try.runUnderlying45 rfl Try.sizeOf43 rfl)) ?_
  refine net_if rfl rfl rfl rfl (fun hc => (n_load rfl (evi rfl hc) (ld1 hw (i := 0) rfl Try.isAgg43 rfl))) ?_
  refine net_if rfl rfl rfl rfl (fun hc => (n_len rfl (evi rfl hc) Try.underlying43)) ?_
  refine net_if rfl rfl rfl rfl (fun hc => (n_fieldAddrO (off' := 2) rfl (ev rfl) Try.runUnderlying45 rfl Try.sizeOf43 rfl)) ?_
  refine net_if rfl rfl rfl rfl (fun hc => (n_load rfl (evi rfl hc) (ld1 hw (i := 1) rfl Try.isAgg43 rfl))) ?_
  refine net_if rfl rfl rfl rfl (fun hc => (n_len rfl (evi rfl hc) Try.underlying43)) ?_
  refine net_if rfl rfl rfl rfl (fun hc => (n_bin rfl (evi rfl hc) (evi rfl hc) r_neq)) ?_
  refine net_cons rfl rfl (n_pick_or rfl (ev rfl) (fun h => (evi rfl h))) ?_
  refine net_cons rfl rfl (n_move rfl (ev rfl)) ?_
  refine net_if rfl rfl rfl rfl (fun hc => (n_fieldAddrO (off' := 1) rfl (ev rfl) Try.runUnderlying45 rfl Try.sizeOf24 rfl)) ?_
  refine net_if rfl rfl rfl rfl (fun hc => (n_load rfl (evi rfl hc) (ld1 hw (i := 0) rfl Try.isAgg24 rfl))) ?_
  refine net_if rfl rfl rfl rfl (fun hc => (n_fieldAddrO (off' := 1) rfl (ev rfl) Try.runUnderlying45 rfl Try.sizeOf24 rfl)) ?_
  refine net_if rfl rfl rfl rfl (fun hc => (n_load rfl (evi rfl hc) (ld1 hw (i := 1) rfl Try.isAgg24 rfl))) ?_
  refine net_if rfl rfl rfl rfl (fun hc => (n_bin rfl (evi rfl hc) (evi rfl hc) (r_neqN))) ?_
  refine net_cons rfl rfl (n_pick_or rfl (ev rfl) (fun h => (evi rfl h))) ?_
  refine net_cons rfl rfl (n_move rfl (ev rfl)) ?_
  refine net_if rfl rfl rfl rfl (fun hc => (n_fieldAddrO (off' := 3) rfl (ev rfl) Try.runUnderlying45 rfl Try.sizeOf23 rfl)) ?_
  refine net_if rfl rfl rfl rfl (fun hc => (n_load rfl (evi rfl hc) (ldN hw (i := 0) (vs := _) rfl Try.isAgg23 Try.sizeOf23 (kc_len _) (hcs_box_at _ _ _ _ _)))) ?_
  refine net_if rfl rfl rfl rfl (fun hc => (n_fieldAddrO (off' := 3) rfl (ev rfl) Try.runUnderlying45 rfl Try.sizeOf23 rfl)) ?_
  refine net_if rfl rfl rfl rfl (fun hc => (n_load rfl (evi rfl hc) (ldN hw (i := 1) (vs := _) rfl Try.isAgg23 Try.sizeOf23 (kc_len _) (hcs_box_at _ _ _ _ _)))) ?_
  refine net_if rfl rfl rfl rfl (fun hc => (n_bin rfl (evi rfl hc) (evi rfl hc) r_neKey)) ?_
  refine net_cons rfl rfl (n_pick_or rfl (ev rfl) (fun h => (evi rfl h))) ?_
  refine net_cons rfl rfl (n_move rfl (ev rfl)) ?_
  refine net_if rfl rfl rfl rfl (fun hc => (n_fieldAddrO (off' := 19) rfl (ev rfl) Try.runUnderlying45 rfl Try.sizeOf23 rfl)) ?_
  refine net_if rfl rfl rfl rfl (fun hc => (n_load rfl (evi rfl hc) (ldN hw (i := 0) (vs := _) rfl Try.isAgg23 Try.sizeOf23 (kc_len _) (hcs_chk_at _ _ _ _ _)))) ?_
  refine net_if rfl rfl rfl rfl (fun hc => (n_fieldAddrO (off' := 19) rfl (ev rfl) Try.runUnderlying45 rfl Try.sizeOf23 rfl)) ?_
  refine net_if rfl rfl rfl rfl (fun hc => (n_load rfl (evi rfl hc) (ldN hw (i := 1) (vs := _) rfl Try.isAgg23 Try.sizeOf23 (kc_len _) (hcs_chk_at _ _ _ _ _)))) ?_
  refine net_if rfl rfl rfl rfl (fun hc => (n_bin rfl (evi rfl hc) (evi rfl hc) r_neKey)) ?_
  refine net_cons rfl rfl (n_pick_or rfl (ev rfl) (fun h => (evi rfl h))) ?_
  refine net_nil fun a w1 hF hx => ?_
  replace hw := hw.next hx
  replace hF := hF.keep (.cons (t := 2) rfl (.cons (t := 3) rfl (.cons (t := 4) rfl (.cons (t := 43) rfl .nil))))
  refine wpList_nil ?_
  refine wp_cond_false ((hF.ev (ev rfl)).trans (congrArg Value.bool (by simp))) ?_
  refine wp_skip ?_
  refine wp_seq ?_
  refine wp_seq (reg_seq 1 (hF _ _) (by kernel_rfl) ?_)
  refine net_cons rfl rfl (n_assign rfl evc) ?_
  refine net_nil fun a w1 hF hx => ?_
  replace hw := hw.next hx
  replace hF := hF.keep (.cons (t := 2) rfl (.cons (t := 3) rfl (.cons (t := 4) rfl (.cons (t := 5) rfl (.cons (t := 43) rfl .nil)))))
  refine wpList_nil ?_
  refine wp_block ?_
  refine wp_loop_ix (α := Unit) (fun u a w1 => FrV 80 [] [(2, .is (.pointer (some ⟨b2, 0, none⟩))) , (3, .is (.pointer (some ⟨b3, 0, none⟩))) , (5, .is (I ((0 : Nat) : Int)))] a ∧ Own w w1 [.blk b2 45 (hcs (.slice none 0 0) base (.slice A n c) box chk), .blk b3 45 (hcs (.slice none 0 0) base (.slice A2 n c2) box chk)]) (fun u => 0) (()) ⟨hF.keep (.cons (t := 2) rfl (.cons (t := 3) rfl (.cons (t := 5) rfl (.nil)))), hw⟩ ?_
  rintro u a w1 ⟨hF, hw⟩
  refine wp_seq ?_
  refine wp_seq (reg_seq 5 (hF _ _) (by kernel_rfl) ?_)
  refine net_cons rfl rfl (n_move rfl (ev rfl)) ?_
  refine net_cons rfl rfl (n_fieldAddrO (off' := 0) rfl (ev rfl) Try.runUnderlying45 rfl Try.sizeOf42 rfl) ?_
  refine net_cons rfl rfl (n_load rfl (ev rfl) (ld1 hw (i := 0) rfl Try.isAgg42 rfl)) ?_
  refine net_cons rfl rfl (n_len rfl (ev rfl) Try.underlying42) ?_
  refine net_cons rfl rfl (n_bin rfl (ev rfl) (ev rfl) r_lssN) ?_
  refine net_nil fun a w1 hF hx => ?_
  replace hw := hw.next hx
  replace hF := hF.keep (.cons (t := 2) rfl (.cons (t := 3) rfl (.cons (t := 5) rfl (.cons (t := 48) rfl .nil))))
  refine wpList_nil ?_
  refine wp_cond_false ((hF.ev (ev rfl)).trans (congrArg Value.bool (by simp))) ?_
  refine wp_exit (go_then_e (go_then_e (go_exit ?_)))
  refine wp_seq ?_
  refine wp_seq (reg_seq 1 (hF _ _) (by kernel_rfl) ?_)
  refine net_cons rfl rfl (n_assign rfl evc) ?_
  refine net_nil fun a w1 hF hx => ?_
  replace hw := hw.next hx
  replace hF := hF.keep (.cons (t := 2) rfl (.cons (t := 3) rfl (.cons (t := 5) rfl (.cons (t := 6) rfl (.cons (t := 48) rfl .nil)))))
  refine wpList_nil ?_
  refine wp_block ?_
  refine wp_loop_ix (α := Nat) (fun i a w1 => FrV 80 [] [(2, .is (.pointer (some ⟨b2, 0, none⟩))) , (3, .is (.pointer (some ⟨b3, 0, none⟩))) , (6, .is (I (i : Int)))] a ∧ Own w w1 [.blk b2 45 (hcs (.slice none 0 0) base (.slice A n c) box chk), .blk b3 45 (hcs (.slice none 0 0) base (.slice A2 n c2) box chk)] ∧ (i ≤ n)) (fun i => n - i) (0) ⟨hF.keep (.cons (t := 2) rfl (.cons (t := 3) rfl (.cons (t := 6) rfl (.nil)))), hw, by omega⟩ ?_
  rintro i a w1 ⟨hF, hw, hi0⟩
  refine wp_seq ?_
  refine wp_seq (reg_seq 5 (hF _ _) (by kernel_rfl) ?_)
  refine net_cons rfl rfl (n_move rfl (ev rfl)) ?_
  refine net_cons rfl rfl (n_fieldAddrO (off' := 2) rfl (ev rfl) Try.runUnderlying45 rfl Try.sizeOf43 rfl) ?_
  refine net_cons rfl rfl (n_load rfl (ev rfl) (ld1 hw (i := 0) rfl Try.isAgg43 rfl)) ?_
  refine net_cons rfl rfl (n_len rfl (ev rfl) Try.underlying43) ?_
  refine net_cons rfl rfl (n_bin rfl (ev rfl) (ev rfl) r_lssN) ?_
  refine net_nil fun a w1 hF hx => ?_
  replace hw := hw.next hx
  replace hF := hF.keep (.cons (t := 2) rfl (.cons (t := 3) rfl (.cons (t := 6) rfl (.cons (t := 66) rfl .nil))))
  refine wpList_nil ?_
  refine wp_cond_split (hF.ev (ev rfl)) (fun h66 => ?_) (fun h66 => ?_)
  · have hi : i < n := of_bool_t h66
    obtain ⟨z, hz0⟩ := some_at hl hi
    have hfl := pc_len l
    have hF_ := hF
    have hw_ := hw
    obtain ⟨bX, oX, rfl, hcX⟩ := hR.at_ (by omega)
    obtain ⟨bY, oY, rfl, hcY⟩ := hR2.at_ (by omega)
    have hF := hF_
    have hw := hw_
    refine wp_skip ?_
    refine wp_seq (wp_block ?_)
    refine wp_seq (reg_draw 11 mixed (by kernel_rfl) (hF _ _) ?_)
    refine net_cons rfl rfl (n_fieldAddrO (off' := 2) rfl (ev rfl) Try.runUnderlying45 rfl Try.sizeOf43 rfl) ?_
    refine net_cons rfl rfl (n_load rfl (ev rfl) (ld1 hw (i := 0) rfl Try.isAgg43 rfl)) ?_
    refine net_cons rfl rfl (n_move rfl (ev rfl)) ?_
    refine net_cons rfl rfl (n_indexS (off' := oX + (i) * 2) rfl (ev rfl) (ev rfl) Try.underlying43 Try.sizeOf31 (by omega) rfl) ?_
    refine net_cons rfl rfl (n_load rfl (ev rfl) (fun w2 hx2 => ldNR hcX (fm_at (f := fun p : Nat × Nat => [U p.1, U p.2]) (sz := 2) (fun _ => rfl) hz0) rfl Try.isAgg31 Try.sizeOf31 (by omega) w2 (hw.ext.trans hx2))) ?_
    refine net_cons rfl rfl (n_fieldAddrO (off' := 2) rfl (ev rfl) Try.runUnderlying45 rfl Try.sizeOf43 rfl) ?_
    refine net_cons rfl rfl (n_load rfl (ev rfl) (ld1 hw (i := 1) rfl Try.isAgg43 rfl)) ?_
    refine net_cons rfl rfl (n_move rfl (ev rfl)) ?_
    refine net_cons rfl rfl (n_indexS (off' := oY + (i) * 2) rfl (ev rfl) (ev rfl) Try.underlying43 Try.sizeOf31 (by omega) rfl) ?_
    refine net_cons rfl rfl (n_load rfl (ev rfl) (fun w2 hx2 => ldNR hcY (fm_at (f := fun p : Nat × Nat => [U p.1, U p.2]) (sz := 2) (fun _ => rfl) hz0) rfl Try.isAgg31 Try.sizeOf31 (by omega) w2 (hw.ext.trans hx2))) ?_
    refine net_cons rfl rfl (n_bin rfl (ev rfl) (ev rfl) (r_nePt (p := z) (q := z))) ?_
    refine net_nil fun a w1 hF hx => ?_
    replace hw := hw.next hx
    replace hF := hF.keep (.cons (t := 2) rfl (.cons (t := 3) rfl (.cons (t := 6) rfl (.cons (t := 66) rfl (.cons (t := 79) rfl .nil)))))
    refine wpList_nil ?_
    refine wp_cond_false ((hF.ev (ev rfl)).trans (congrArg Value.bool (by simp))) ?_
    refine wp_skip ?_
    refine reg_seq 3 (hF _ _) (by kernel_rfl) ?_
    refine net_cons rfl rfl (n_move rfl (ev rfl)) ?_
    refine net_cons rfl rfl (n_bin rfl (ev rfl) evc (r_inc (by omega))) ?_
    refine net_cons rfl rfl (n_assign rfl (ev rfl)) ?_
    refine net_nil fun a w1 hF hx => ?_
    replace hw := hw.next hx
    replace hF := hF.keep (.cons (t := 2) rfl (.cons (t := 3) rfl (.cons (t := 6) rfl (.cons (t := 66) rfl (.cons (t := 79) rfl .nil)))))
    refine wpList_nil ?_
    exact ⟨i + 1, ⟨hF.keep (.cons (t := 2) rfl (.cons (t := 3) rfl (.cons (t := 6) rfl (.nil)))), hw, by omega⟩, by omega⟩
  · refine wp_exit (go_then_e (go_then_e (go_exit ?_)))
    refine wp_seq (reg_seq 1 (hF _ _) (by kernel_rfl) ?_)
    refine net_cons rfl rfl (n_assign rfl evc) ?_
    refine net_nil fun a w1 hF hx => ?_
    replace hw := hw.next hx
    replace hF := hF.keep (.cons (t := 2) rfl (.cons (t := 3) rfl (.cons (t := 4) rfl (.cons (t := 6) rfl (.cons (t := 66) rfl .nil)))))
    refine wpList_nil ?_
    refine wp_ret (ret1 hF Try.results23 rfl ?_)
    exact ⟨_, rfl, hw.ext, rfl⟩

theorem Seal_c (root session : Key) (kd : Nat) (dp dg : Int) (p q g nonce m c : Nat) (A : Option Addr) (l : List Int) (hp : p < 18446744073709551616) (hq : q < 18446744073709551616) (hg : g < 18446744073709551616) (hno : nonce < 18446744073709551616) (hl : l.length = m) (hm : m ≤ 9223372036854775800) (w : World) (hR : Rd w A (l.map I)) : RetF Try.prog 21 [K root, SV kd dp dg p q g, .slice A m c, K session, U nonce].toArray w (sealF (sealR root kd dp dg p q g l session nonce)) := by
  refine enter Try.func21 rfl Try.ntmps21 rfl fun a hF => ?_
  have hw := Own.start w
  refine wp_seq (wp_region_lit ?_)
  refine t_net 0 1 (by kernel_rfl) rfl hF ?_
  refine net_cons rfl rfl (n_box rfl (ev rfl) rfl) ?_
  refine net_nil fun a w1 hF hx => ?_
  obtain ⟨b5, h_, hw⟩ := hw.blk hx (hF.at_ 5 _ rfl)
  replace hF := hF.now h_
  replace hF := hF.keep (.cons (t := 1) rfl (.cons (t := 2) rfl (.cons (t := 3) rfl (.cons (t := 4) rfl (.cons (t := 5) rfl .nil)))))
  refine t_net 1 1 (by kernel_rfl) rfl hF ?_
  refine net_cons rfl rfl (n_box rfl (ev rfl) rfl) ?_
  refine net_nil fun a w1 hF hx => ?_
  obtain ⟨b6, h_, hw⟩ := hw.blk hx (hF.at_ 6 _ rfl)
  replace hF := hF.now h_
  replace hF := hF.keep (.cons (t := 2) rfl (.cons (t := 3) rfl (.cons (t := 4) rfl (.cons (t := 5) rfl (.cons (t := 6) rfl .nil)))))
  refine t_net 2 1 (by kernel_rfl) rfl hF ?_
  refine net_cons rfl rfl (n_box rfl (ev rfl) rfl) ?_
  refine net_nil fun a w1 hF hx => ?_
  obtain ⟨b8, h_, hw⟩ := hw.blk hx (hF.at_ 8 _ rfl)
  replace hF := hF.now h_
  replace hF := hF.keep (.cons (t := 2) rfl (.cons (t := 4) rfl (.cons (t := 5) rfl (.cons (t := 6) rfl (.cons (t := 8) rfl .nil)))))
  refine t_net 3 1 (by kernel_rfl) rfl hF ?_
  refine net_cons rfl rfl (n_alloc rfl Try.zeroValue45 rfl) ?_
  refine net_nil fun a w1 hF hx => ?_
  obtain ⟨b10, h_, hw⟩ := hw.blk hx (hF.at_ 10 _ rfl)
  replace hF := hF.now h_
  replace hF := hF.keep (.cons (t := 2) rfl (.cons (t := 4) rfl (.cons (t := 5) rfl (.cons (t := 6) rfl (.cons (t := 8) rfl (.cons (t := 10) rfl .nil))))))
  refine t_net 4 1 (by kernel_rfl) rfl hF ?_
  refine net_cons rfl rfl (n_assign rfl evc) ?_
  refine net_nil fun a w1 hF hx => ?_
  replace hw := hw.next hx
  replace hF := hF.keep (.cons (t := 2) rfl (.cons (t := 4) rfl (.cons (t := 5) rfl (.cons (t := 6) rfl (.cons (t := 8) rfl (.cons (t := 10) rfl (.cons (t := 11) rfl .nil)))))))
  refine wpList_nil ?_
  refine wp_seq ?_
  refine wp_seq (reg_seq 3 (hF _ _) (by kernel_rfl) ?_)
  refine net_cons rfl rfl (n_load rfl (ev rfl) (ldN hw (i := 1) (vs := _) rfl Try.isAgg28 Try.sizeOf28 rfl rfl)) ?_
  refine net_cons rfl rfl (n_ret rfl Try.call63 (.cons (ev rfl) .nil) (fun _ hx => valid_c _ _ _ _ _ _ (by assumption) (by assumption) (by assumption) _)) ?_
  refine net_cons rfl rfl (n_not rfl (ev rfl)) ?_
  refine net_nil fun a w1 hF hx => ?_
  replace hw := hw.next hx
  replace hF := hF.keep (.cons (t := 2) rfl (.cons (t := 4) rfl (.cons (t := 5) rfl (.cons (t := 6) rfl (.cons (t := 8) rfl (.cons (t := 10) rfl (.cons (t := 11) rfl (.cons (t := 25) rfl .nil))))))))
  refine wpList_nil ?_
  refine wp_cond_split (hF.ev (ev rfl)) (fun h25 => ?_) (fun h25 => ?_)
  · have hz : okS kd dp dg p q g = false := by simpa using h25
    refine wp_seq (wp_region_lit ?_)
    refine t_net 0 1 (by kernel_rfl) rfl hF ?_
    refine net_cons rfl rfl (n_build rfl .nil build_45_) ?_
    refine net_nil fun a w1 hF hx => ?_
    replace hw := hw.next hx
    replace hF := hF.keep (.cons (t := 2) rfl (.cons (t := 4) rfl (.cons (t := 5) rfl (.cons (t := 6) rfl (.cons (t := 8) rfl (.cons (t := 10) rfl (.cons (t := 11) rfl (.cons (t := 25) rfl (.cons (t := 26) rfl .nil)))))))))
    refine t_store (i := 3) rfl rfl rfl hF hw rfl (ev rfl) (ev rfl) rfl one_hcs Try.sizeOf45 (hcs_len _ _ _ _ _) (by first | decide | (rw [hcs_len]; decide)) (seg_whole (by rw [hcs_len] <;> rfl)) fun w1 hw => ?_
    refine t_net 2 1 (by kernel_rfl) rfl hF ?_
    refine net_cons rfl rfl (n_assign rfl evc) ?_
    refine net_nil fun a w1 hF hx => ?_
    replace hw := hw.next hx
    replace hF := hF.keep (.cons (t := 2) rfl (.cons (t := 4) rfl (.cons (t := 5) rfl (.cons (t := 6) rfl (.cons (t := 8) rfl (.cons (t := 10) rfl (.cons (t := 11) rfl (.cons (t := 25) rfl .nil))))))))
    refine wpList_nil ?_
    refine wp_ret (go_then_r (retc2 hF Try.results21 rfl (ldN hw (i := 3) (vs := _) rfl Try.isAgg45 Try.sizeOf45 (hcs_len _ _ _ _ _) (cut_whole (hcs_len _ _ _ _ _)) _ (Ext.refl _)) rfl ?_))
    exact ⟨_, rfl, hw.ext, (by rw [sealR_no hz]; exact sealF_none)⟩
  · have hz : okS kd dp dg p q g = true := by simpa using h25
    obtain ⟨hz1, hz2, hz3, hz4, hz5, hz6, hz7⟩ := okS_all hz
    obtain ⟨hz8, hz9, hz10, hz11, hz12⟩ := okG_q hz6
    obtain ⟨d, hde⟩ := Int.eq_ofNat_of_zero_le hz2
    obtain ⟨n, hne⟩ := Int.eq_ofNat_of_zero_le (show 0 ≤ dg by omega)
    refine wp_skip ?_
    refine wp_seq ?_
    refine wp_seq (reg_seq 3 (hF _ _) (by kernel_rfl) ?_)
    refine net_cons rfl rfl (n_move rfl (ev rfl)) ?_
    refine net_cons rfl rfl (n_len rfl (ev rfl) Try.underlying41) ?_
    refine net_cons rfl rfl (n_move rfl evc) ?_
    refine net_nil fun a w1 hF hx => ?_
    replace hw := hw.next hx
    replace hF := hF.keep (.cons (t := 2) rfl (.cons (t := 4) rfl (.cons (t := 5) rfl (.cons (t := 6) rfl (.cons (t := 8) rfl (.cons (t := 10) rfl (.cons (t := 11) rfl (.cons (t := 25) rfl (.cons (t := 27) rfl (.cons (t := 28) rfl (.cons (t := 29) rfl .nil)))))))))))
    refine wpList_nil ?_
    refine wp_block ?_
    refine wp_loop_ix (α := Nat) (fun i a w1 => FrV 123 [] [(2, .is (.slice A m c)) , (4, .is (U nonce)) , (5, .is (.pointer (some ⟨b5, 0, none⟩))) , (6, .is (.pointer (some ⟨b6, 0, none⟩))) , (8, .is (.pointer (some ⟨b8, 0, none⟩))) , (10, .is (.pointer (some ⟨b10, 0, none⟩))) , (27, .is (.slice A m c)) , (28, .is (I (m : Int))) , (29, .is (I (i : Int)))] a ∧ Own w w1 [.blk b5 23 (kc root), .blk b6 28 [B8 kd, I dp, I dg, U p, U q, U g], .blk b8 23 (kc session), .blk b10 45 (hcs (.slice none 0 0) 0 (.slice none 0 0) key0 key0)] ∧ (i ≤ m) ∧ (∀ j, j < i → badL ((2 ^ dp.toNat : Nat) : Int) l j = false)) (fun i => m - i) (0) ⟨hF.keep (.cons (t := 2) rfl (.cons (t := 4) rfl (.cons (t := 5) rfl (.cons (t := 6) rfl (.cons (t := 8) rfl (.cons (t := 10) rfl (.cons (t := 27) rfl (.cons (t := 28) rfl (.cons (t := 29) rfl (.nil)))))))))), hw, by omega, fun j h => by omega⟩ ?_
    rintro i a w1 ⟨hF, hw, hi0, hbad⟩
    refine wp_seq (reg_seq 1 (hF _ _) (by kernel_rfl) ?_)
    refine net_cons rfl rfl (n_bin rfl (ev rfl) (ev rfl) r_lssN) ?_
    refine net_nil fun a w1 hF hx => ?_
    replace hw := hw.next hx
    replace hF := hF.keep (.cons (t := 2) rfl (.cons (t := 4) rfl (.cons (t := 5) rfl (.cons (t := 6) rfl (.cons (t := 8) rfl (.cons (t := 10) rfl (.cons (t := 27) rfl (.cons (t := 28) rfl (.cons (t := 29) rfl (.cons (t := 30) rfl .nil))))))))))
    refine wpList_nil ?_
    refine wp_seq ?_
    refine wp_cond_split (hF.ev (ev rfl)) (fun h30 => ?_) (fun h30 => ?_)
    · have hi : i < m := of_bool_t h30
      have hx0 := getD_at (l := l) (i := i) (d := 0) (by omega)
      have hy0 := getD_at (l := l) (i := i - 1) (d := 0) (by omega)
      have hF_ := hF
      have hw_ := hw
      obtain ⟨bX, oX, rfl, hcX⟩ := hR.at_ (by rw [List.length_map]; omega)
      have hF := hF_
      have hw := hw_
      refine wp_skip ?_
      refine wp_seq (wp_block ?_)
      refine wp_seq (reg_seq 5 (hF _ _) (by kernel_rfl) ?_)
      refine net_cons rfl rfl (n_move rfl (ev rfl)) ?_
      refine net_cons rfl rfl (n_indexS (off' := oX + (i)) rfl (ev rfl) (ev rfl) Try.underlying41 Try.sizeOf3 (by omega) (by omega)) ?_
      refine net_cons rfl rfl (n_load rfl (ev rfl) (fun w2 hx2 => ld1R hcX (map_at hx0) Try.isAgg3 (by omega) w2 (hw.ext.trans hx2))) ?_
      refine net_cons rfl rfl (n_assign rfl (ev rfl)) ?_
      refine net_cons rfl rfl (n_assign rfl (ev rfl)) ?_
      refine net_nil fun a w1 hF hx => ?_
      replace hw := hw.next hx
      replace hF := hF.keep (.cons (t := 2) rfl (.cons (t := 4) rfl (.cons (t := 5) rfl (.cons (t := 6) rfl (.cons (t := 8) rfl (.cons (t := 10) rfl (.cons (t := 12) rfl (.cons (t := 13) rfl (.cons (t := 27) rfl (.cons (t := 28) rfl (.cons (t := 29) rfl (.cons (t := 30) rfl .nil))))))))))))
      refine wpList_nil ?_
      refine wp_seq (reg_seq 22 (hF _ _) (by kernel_rfl) ?_)
      refine net_cons rfl rfl (n_move rfl (ev rfl)) ?_
      refine net_cons rfl rfl (n_bin rfl (ev rfl) evc r_lss) ?_
      refine net_cons rfl rfl (n_move rfl (ev rfl)) ?_
      refine net_if rfl rfl rfl rfl (fun hc => (n_move rfl (ev rfl))) ?_
      refine net_if rfl rfl rfl rfl (fun hc => (n_fieldAddrO (off' := 1) rfl (ev rfl) Try.runUnderlying28 rfl Try.sizeOf3 rfl)) ?_
      refine net_if rfl rfl rfl rfl (fun hc => (n_load rfl (evi rfl hc) (ld1 hw (i := 1) rfl Try.isAgg3 rfl))) ?_
      refine net_if rfl rfl rfl rfl (fun hc => (n_bin rfl evc (evi rfl hc) (sh1 hz2 hz3))) ?_
      refine net_if rfl rfl rfl rfl (fun hc => (n_bin rfl (evi rfl hc) (evi rfl hc) r_geq)) ?_
      refine net_cons rfl rfl (n_pick_or rfl (ev rfl) (fun h => (evi rfl h))) ?_
      refine net_cons rfl rfl (n_move rfl (ev rfl)) ?_
      refine net_if rfl rfl rfl rfl (fun hc => (n_move rfl (ev rfl))) ?_
      refine net_if rfl rfl rfl rfl (fun hc => (n_bin rfl (evi rfl hc) evc (r_gtrN (b := 0)))) ?_
      refine net_if rfl rfl rfl rfl (fun hc => (n_move rfl (evi rfl hc))) ?_
      refine net_if2 rfl rfl rfl rfl (fun hc hc2 => (n_move rfl (ev rfl))) ?_
      refine net_if2 rfl rfl rfl rfl (fun hc hc2 => (n_move rfl (ev rfl))) ?_
      refine net_if2 rfl rfl rfl rfl (fun hc hc2 => (n_move rfl (ev rfl))) ?_
      refine net_if2 rfl rfl rfl rfl (fun hc hc2 => (n_to (v' := I ((i - 1 : Nat) : Int)) (n_bin rfl (evi rfl (nest2 hc hc2)) evc (r_subI (by omega) (by omega))) (congrArg (Value.int .i64) (by have := of_decide_eq_true hc2; omega)))) ?_
      refine net_if2 rfl rfl rfl rfl (fun hc hc2 => (n_indexS (off' := oX + (i - 1)) rfl (evi rfl (nest2 hc hc2)) (evi rfl (nest2 hc hc2)) Try.underlying41 Try.sizeOf3 (by omega) (by omega))) ?_
      refine net_if2 rfl rfl rfl rfl (fun hc hc2 => (n_load rfl (evi rfl (nest2 hc hc2)) (fun w2 hx2 => ld1R hcX (map_at hy0) Try.isAgg3 (by omega) w2 (hw.ext.trans hx2)))) ?_
      refine net_if2 rfl rfl rfl rfl (fun hc hc2 => (n_bin rfl (evi rfl (nest2 hc hc2)) (evi rfl (nest2 hc hc2)) r_leq)) ?_
      refine net_if rfl rfl rfl rfl (fun hc => (n_pick_and rfl (evi rfl hc) (fun h => (evi rfl (nest2 hc h))))) ?_
      refine net_cons rfl rfl (n_pick_or rfl (ev rfl) (fun h => (evi rfl h))) ?_
      refine net_nil fun a w1 hF hx => ?_
      replace hw := hw.next hx
      replace hF := hF.keep (.cons (t := 2) rfl (.cons (t := 4) rfl (.cons (t := 5) rfl (.cons (t := 6) rfl (.cons (t := 8) rfl (.cons (t := 10) rfl (.cons (t := 12) rfl (.cons (t := 13) rfl (.cons (t := 27) rfl (.cons (t := 28) rfl (.cons (t := 29) rfl (.cons (t := 30) rfl (.cons (t := 55) rfl .nil)))))))))))))
      refine wpList_nil ?_
      refine wp_cond_split (hF.ev (ev rfl)) (fun h55 => ?_) (fun h55 => ?_)
      · have hok := okL_no (b := ((2 ^ dp.toNat : Nat) : Int)) (i := i) (by omega) h55
        refine wp_seq (wp_region_lit ?_)
        refine t_net 0 1 (by kernel_rfl) rfl hF ?_
        refine net_cons rfl rfl (n_build rfl .nil build_45_) ?_
        refine net_nil fun a w1 hF hx => ?_
        replace hw := hw.next hx
        replace hF := hF.keep (.cons (t := 2) rfl (.cons (t := 4) rfl (.cons (t := 5) rfl (.cons (t := 6) rfl (.cons (t := 8) rfl (.cons (t := 10) rfl (.cons (t := 12) rfl (.cons (t := 13) rfl (.cons (t := 27) rfl (.cons (t := 28) rfl (.cons (t := 29) rfl (.cons (t := 30) rfl (.cons (t := 55) rfl (.cons (t := 56) rfl .nil))))))))))))))
        refine t_store (i := 3) rfl rfl rfl hF hw rfl (ev rfl) (ev rfl) rfl one_hcs Try.sizeOf45 (hcs_len _ _ _ _ _) (by first | decide | (rw [hcs_len]; decide)) (seg_whole (by rw [hcs_len] <;> rfl)) fun w1 hw => ?_
        refine t_net 2 1 (by kernel_rfl) rfl hF ?_
        refine net_cons rfl rfl (n_assign rfl evc) ?_
        refine net_nil fun a w1 hF hx => ?_
        replace hw := hw.next hx
        replace hF := hF.keep (.cons (t := 2) rfl (.cons (t := 4) rfl (.cons (t := 5) rfl (.cons (t := 6) rfl (.cons (t := 8) rfl (.cons (t := 10) rfl (.cons (t := 11) rfl (.cons (t := 12) rfl (.cons (t := 13) rfl (.cons (t := 27) rfl (.cons (t := 28) rfl (.cons (t := 29) rfl (.cons (t := 30) rfl (.cons (t := 55) rfl .nil))))))))))))))
        refine wpList_nil ?_
        refine wp_ret (go_block_r (go_then_r (go_then_r (go_block_r (go_then_r (retc2 hF Try.results21 rfl (ldN hw (i := 3) (vs := _) rfl Try.isAgg45 Try.sizeOf45 (hcs_len _ _ _ _ _) (cut_whole (hcs_len _ _ _ _ _)) _ (Ext.refl _)) rfl ?_))))))
        exact ⟨_, rfl, hw.ext, (by rw [sealR_bad hz hok]; exact sealF_none)⟩
      · refine wp_skip ?_
        refine reg_seq 2 (hF _ _) (by kernel_rfl) ?_
        refine net_cons rfl rfl (n_bin rfl (ev rfl) evc (r_inc (by omega))) ?_
        refine net_cons rfl rfl (n_move rfl (ev rfl)) ?_
        refine net_nil fun a w1 hF hx => ?_
        replace hw := hw.next hx
        replace hF := hF.keep (.cons (t := 2) rfl (.cons (t := 4) rfl (.cons (t := 5) rfl (.cons (t := 6) rfl (.cons (t := 8) rfl (.cons (t := 10) rfl (.cons (t := 12) rfl (.cons (t := 13) rfl (.cons (t := 27) rfl (.cons (t := 28) rfl (.cons (t := 29) rfl (.cons (t := 30) rfl (.cons (t := 55) rfl .nil)))))))))))))
        refine wpList_nil ?_
        exact ⟨i + 1, ⟨hF.keep (.cons (t := 2) rfl (.cons (t := 4) rfl (.cons (t := 5) rfl (.cons (t := 6) rfl (.cons (t := 8) rfl (.cons (t := 10) rfl (.cons (t := 27) rfl (.cons (t := 28) rfl (.cons (t := 29) rfl (.nil)))))))))), hw, by omega, up_bad hbad h55⟩, by omega⟩
    · obtain rfl : m = i := by have := of_bool_f h30; omega
      have hok := okL_yes hl hbad
      refine wp_exit (go_then_e (go_then_e (go_exit ?_)))
      refine wp_seq ?_
      refine wp_seq (reg_seq 5 (hF _ _) (by kernel_rfl) ?_)
      refine net_cons rfl rfl (n_move rfl (ev rfl)) ?_
      refine net_cons rfl rfl (n_len rfl (ev rfl) Try.underlying41) ?_
      refine net_cons rfl rfl (n_fieldAddrO (off' := 2) rfl (ev rfl) Try.runUnderlying28 rfl Try.sizeOf3 rfl) ?_
      refine net_cons rfl rfl (n_load rfl (ev rfl) (ld1 hw (i := 1) rfl Try.isAgg3 rfl)) ?_
      refine net_cons rfl rfl (n_bin rfl (ev rfl) (ev rfl) r_gtr) ?_
      refine net_nil fun a w1 hF hx => ?_
      replace hw := hw.next hx
      replace hF := hF.keep (.cons (t := 2) rfl (.cons (t := 4) rfl (.cons (t := 5) rfl (.cons (t := 6) rfl (.cons (t := 8) rfl (.cons (t := 10) rfl (.cons (t := 27) rfl (.cons (t := 28) rfl (.cons (t := 29) rfl (.cons (t := 30) rfl (.cons (t := 62) rfl .nil)))))))))))
      refine wpList_nil ?_
      refine wp_cond_split (hF.ev (ev rfl)) (fun h62 => ?_) (fun h62 => ?_)
      · have hmn := of_bool_t h62
        refine wp_seq (wp_region_lit ?_)
        refine t_net 0 1 (by kernel_rfl) rfl hF ?_
        refine net_cons rfl rfl (n_build rfl .nil build_45_) ?_
        refine net_nil fun a w1 hF hx => ?_
        replace hw := hw.next hx
        replace hF := hF.keep (.cons (t := 2) rfl (.cons (t := 4) rfl (.cons (t := 5) rfl (.cons (t := 6) rfl (.cons (t := 8) rfl (.cons (t := 10) rfl (.cons (t := 27) rfl (.cons (t := 28) rfl (.cons (t := 29) rfl (.cons (t := 30) rfl (.cons (t := 62) rfl (.cons (t := 63) rfl .nil))))))))))))
        refine t_store (i := 3) rfl rfl rfl hF hw rfl (ev rfl) (ev rfl) rfl one_hcs Try.sizeOf45 (hcs_len _ _ _ _ _) (by first | decide | (rw [hcs_len]; decide)) (seg_whole (by rw [hcs_len] <;> rfl)) fun w1 hw => ?_
        refine t_net 2 1 (by kernel_rfl) rfl hF ?_
        refine net_cons rfl rfl (n_assign rfl evc) ?_
        refine net_nil fun a w1 hF hx => ?_
        replace hw := hw.next hx
        replace hF := hF.keep (.cons (t := 2) rfl (.cons (t := 4) rfl (.cons (t := 5) rfl (.cons (t := 6) rfl (.cons (t := 8) rfl (.cons (t := 10) rfl (.cons (t := 11) rfl (.cons (t := 27) rfl (.cons (t := 28) rfl (.cons (t := 29) rfl (.cons (t := 30) rfl (.cons (t := 62) rfl .nil))))))))))))
        refine wpList_nil ?_
        refine wp_ret (go_then_r (retc2 hF Try.results21 rfl (ldN hw (i := 3) (vs := _) rfl Try.isAgg45 Try.sizeOf45 (hcs_len _ _ _ _ _) (cut_whole (hcs_len _ _ _ _ _)) _ (Ext.refl _)) rfl ?_))
        exact ⟨_, rfl, hw.ext, (by rw [sealR_many hz hok (by omega)]; exact sealF_none)⟩
      · have hmn := of_bool_f h62
        refine wp_skip ?_
        rw [hde, hne] at hw
        have hpw := pow_le64 (d := d) (by omega)
        have hpw0 := Int.natCast_nonneg (2 ^ d)
        rw [hde, hne] at hz7
        simp only [Int.toNat_natCast] at hz7
        have hcl := cfs_len root n q
        have hcq := cfs_lt root n (show 0 < q by omega)
        have hnum := numK_le (derK root 41 nonce) 0 (q - 1)
        have hbp := Nat.mod_lt (g ^ rN root q nonce) (show 0 < p by omega)
        have hptl := ptsL_len (root := root) (d := d) (p := p) (q := q) (g := g) (nonce := nonce) (show l.length ≤ n by omega)
        rw [hde, Int.toNat_natCast] at hok
        refine wp_seq (reg_then (R := fun a w1 => ∃ b14 b15 A66 c66, FrV 123 [] [(2, .is (.slice A m c)), (4, .is (U nonce)), (5, .is (ptr0 b5)), (6, .is (ptr0 b6)), (8, .is (ptr0 b8)), (10, .is (ptr0 b10)), (14, .is (ptr0 b14)), (15, .is (ptr0 b15))] a ∧ Own w w1 [.blk b5 23 (kc root), .blk b6 28 [B8 kd, I (d : Int), I (n : Int), U p, U q, U g], .blk b8 23 (kc session), .blk b10 45 (hcs (.slice none 0 0) 0 (.slice none 0 0) key0 key0), .row (.slice A66 (n + 1) c66) 24 1 (n + 1) ((cfs root n q).map U), .blk b14 116 [.slice A66 (n + 1) c66], .blk b15 119 [U q]]) (reg_float 8 3 6 mixed (by kernel_rfl) (hF _ _) ?_) ?_)
        · refine net_cons rfl rfl (n_load rfl (ev rfl) (ldN hw (i := 0) (vs := _) rfl Try.isAgg23 Try.sizeOf23 (kc_len _) (cut_whole (kc_len _)))) ?_
          refine net_cons rfl rfl (n_load rfl (ev rfl) (ldN hw (i := 1) (vs := _) rfl Try.isAgg28 Try.sizeOf28 rfl rfl)) ?_
          refine net_cons rfl rfl (n_ret rfl Try.call64 (.cons (ev rfl) (.cons (ev rfl) .nil)) (fun _ hx => (secret_c root kd d n p q g (by omega) (by omega) hq _))) ?_
          refine net_cons rfl rfl (n_fieldAddrO (off' := 3) rfl (ev rfl) Try.runUnderlying28 rfl Try.sizeOf26 rfl) ?_
          refine net_cons rfl rfl (n_fieldAddrO (off' := 4) rfl (ev rfl) Try.runUnderlying26 rfl Try.sizeOf24 rfl) ?_
          refine net_cons rfl rfl (n_load rfl (ev rfl) (ld1 hw (i := 1) rfl Try.isAgg24 rfl)) ?_
          refine net_cons rfl rfl (n_alloc rfl Try.zeroValue116 rfl) ?_
          refine net_cons rfl rfl (n_alloc rfl Try.zeroValue119 rfl) ?_
          refine net_nil fun cc hc0 hc1 a w1 hF hx => ?_
          obtain rfl | rfl | rfl | rfl : cc = 3 ∨ cc = 4 ∨ cc = 5 ∨ cc = 6 := by omega
          · obtain ⟨s66, h66_, e66_⟩ := hF.at_ 66 _ rfl
            obtain ⟨b14, e14_, l14_, h14_⟩ := hF.at_ 14 _ rfl
            obtain ⟨b15, e15_, l15_, h15_⟩ := hF.at_ 15 _ rfl
            replace hw := hw.addAll hx (nrow h66_ (nblk l14_ h14_ (nblk l15_ h15_ .nil rfl) rfl) rfl)
            replace hF := (((hF.now e66_).now e14_).now e15_)
            replace hF := hF.keep (.cons (t := 2) rfl (.cons (t := 4) rfl (.cons (t := 5) rfl (.cons (t := 6) rfl (.cons (t := 8) rfl (.cons (t := 10) rfl (.cons (t := 14) rfl (.cons (t := 15) rfl (.cons (t := 66) rfl (.nil))))))))))
            obtain ⟨A66, c66, rfl, _, _, _⟩ := hw.rd (i := 4) rfl
            refine t_store (i := 5) rfl rfl rfl hF hw rfl (ev rfl) (ev rfl) rfl one1 Try.sizeOf116 rfl (Nat.le_of_ble_eq_true rfl) rfl fun w1 hw => ?_
            refine t_netL 3 3 (by kernel_rfl) rfl hF ?_
            refine net_cons rfl rfl (n_fieldAddrO (off' := 3) rfl (ev rfl) Try.runUnderlying28 rfl Try.sizeOf26 rfl) ?_
            refine net_cons rfl rfl (n_fieldAddrO (off' := 4) rfl (ev rfl) Try.runUnderlying26 rfl Try.sizeOf24 rfl) ?_
            refine net_cons rfl rfl (n_load rfl (ev rfl) (ld1 hw (i := 1) rfl Try.isAgg24 rfl)) ?_
            refine net_nil fun a w1 hF hx => ?_
            replace hw := hw.next hx
            replace hF := hF.keep (.cons (t := 2) rfl (.cons (t := 4) rfl (.cons (t := 5) rfl (.cons (t := 6) rfl (.cons (t := 8) rfl (.cons (t := 10) rfl (.cons (t := 14) rfl (.cons (t := 15) rfl (.cons (t := 69) rfl (.nil))))))))))
            refine t_store (i := 6) rfl rfl rfl hF hw rfl (ev rfl) (ev rfl) rfl one1 Try.sizeOf119 rfl (Nat.le_of_ble_eq_true rfl) rfl fun w1 hw => ?_
            refine wpList_nil ?_
            exact ⟨rfl, b14, b15, A66, c66, hF.keep (.cons (t := 2) rfl (.cons (t := 4) rfl (.cons (t := 5) rfl (.cons (t := 6) rfl (.cons (t := 8) rfl (.cons (t := 10) rfl (.cons (t := 14) rfl (.cons (t := 15) rfl (.nil))))))))), hw⟩
          · obtain ⟨s66, h66_, e66_⟩ := hF.at_ 66 _ rfl
            obtain ⟨b14, e14_, l14_, h14_⟩ := hF.at_ 14 _ rfl
            obtain ⟨b15, e15_, l15_, h15_⟩ := hF.at_ 15 _ rfl
            replace hw := hw.addAll hx (nrow h66_ (nblk l14_ h14_ (nblk l15_ h15_ .nil rfl) rfl) rfl)
            replace hF := (((hF.now e66_).now e14_).now e15_)
            replace hF := hF.keep (.cons (t := 2) rfl (.cons (t := 4) rfl (.cons (t := 5) rfl (.cons (t := 6) rfl (.cons (t := 8) rfl (.cons (t := 10) rfl (.cons (t := 14) rfl (.cons (t := 15) rfl (.cons (t := 66) rfl (.cons (t := 67) rfl (.nil)))))))))))
            obtain ⟨A66, c66, rfl, _, _, _⟩ := hw.rd (i := 4) rfl
            refine t_store (i := 5) rfl rfl rfl hF hw rfl (ev rfl) (ev rfl) rfl one1 Try.sizeOf116 rfl (Nat.le_of_ble_eq_true rfl) rfl fun w1 hw => ?_
            refine t_netL 4 2 (by kernel_rfl) rfl hF ?_
            refine net_cons rfl rfl (n_fieldAddrO (off' := 4) rfl (ev rfl) Try.runUnderlying26 rfl Try.sizeOf24 rfl) ?_
            refine net_cons rfl rfl (n_load rfl (ev rfl) (ld1 hw (i := 1) rfl Try.isAgg24 rfl)) ?_
            refine net_nil fun a w1 hF hx => ?_
            replace hw := hw.next hx
            replace hF := hF.keep (.cons (t := 2) rfl (.cons (t := 4) rfl (.cons (t := 5) rfl (.cons (t := 6) rfl (.cons (t := 8) rfl (.cons (t := 10) rfl (.cons (t := 14) rfl (.cons (t := 15) rfl (.cons (t := 69) rfl (.nil))))))))))
            refine t_store (i := 6) rfl rfl rfl hF hw rfl (ev rfl) (ev rfl) rfl one1 Try.sizeOf119 rfl (Nat.le_of_ble_eq_true rfl) rfl fun w1 hw => ?_
            refine wpList_nil ?_
            exact ⟨rfl, b14, b15, A66, c66, hF.keep (.cons (t := 2) rfl (.cons (t := 4) rfl (.cons (t := 5) rfl (.cons (t := 6) rfl (.cons (t := 8) rfl (.cons (t := 10) rfl (.cons (t := 14) rfl (.cons (t := 15) rfl (.nil))))))))), hw⟩
          · obtain ⟨s66, h66_, e66_⟩ := hF.at_ 66 _ rfl
            obtain ⟨b14, e14_, l14_, h14_⟩ := hF.at_ 14 _ rfl
            obtain ⟨b15, e15_, l15_, h15_⟩ := hF.at_ 15 _ rfl
            replace hw := hw.addAll hx (nrow h66_ (nblk l14_ h14_ (nblk l15_ h15_ .nil rfl) rfl) rfl)
            replace hF := (((hF.now e66_).now e14_).now e15_)
            replace hF := hF.keep (.cons (t := 2) rfl (.cons (t := 4) rfl (.cons (t := 5) rfl (.cons (t := 6) rfl (.cons (t := 8) rfl (.cons (t := 10) rfl (.cons (t := 14) rfl (.cons (t := 15) rfl (.cons (t := 66) rfl (.cons (t := 67) rfl (.cons (t := 68) rfl (.nil))))))))))))
            obtain ⟨A66, c66, rfl, _, _, _⟩ := hw.rd (i := 4) rfl
            refine t_store (i := 5) rfl rfl rfl hF hw rfl (ev rfl) (ev rfl) rfl one1 Try.sizeOf116 rfl (Nat.le_of_ble_eq_true rfl) rfl fun w1 hw => ?_
            refine t_netL 5 1 (by kernel_rfl) rfl hF ?_
            refine net_cons rfl rfl (n_load rfl (ev rfl) (ld1 hw (i := 1) rfl Try.isAgg24 rfl)) ?_
            refine net_nil fun a w1 hF hx => ?_
            replace hw := hw.next hx
            replace hF := hF.keep (.cons (t := 2) rfl (.cons (t := 4) rfl (.cons (t := 5) rfl (.cons (t := 6) rfl (.cons (t := 8) rfl (.cons (t := 10) rfl (.cons (t := 14) rfl (.cons (t := 15) rfl (.cons (t := 69) rfl (.nil))))))))))
            refine t_store (i := 6) rfl rfl rfl hF hw rfl (ev rfl) (ev rfl) rfl one1 Try.sizeOf119 rfl (Nat.le_of_ble_eq_true rfl) rfl fun w1 hw => ?_
            refine wpList_nil ?_
            exact ⟨rfl, b14, b15, A66, c66, hF.keep (.cons (t := 2) rfl (.cons (t := 4) rfl (.cons (t := 5) rfl (.cons (t := 6) rfl (.cons (t := 8) rfl (.cons (t := 10) rfl (.cons (t := 14) rfl (.cons (t := 15) rfl (.nil))))))))), hw⟩
          · obtain ⟨s66, h66_, e66_⟩ := hF.at_ 66 _ rfl
            obtain ⟨b14, e14_, l14_, h14_⟩ := hF.at_ 14 _ rfl
            obtain ⟨b15, e15_, l15_, h15_⟩ := hF.at_ 15 _ rfl
            replace hw := hw.addAll hx (nrow h66_ (nblk l14_ h14_ (nblk l15_ h15_ .nil rfl) rfl) rfl)
            replace hF := (((hF.now e66_).now e14_).now e15_)
            replace hF := hF.keep (.cons (t := 2) rfl (.cons (t := 4) rfl (.cons (t := 5) rfl (.cons (t := 6) rfl (.cons (t := 8) rfl (.cons (t := 10) rfl (.cons (t := 14) rfl (.cons (t := 15) rfl (.cons (t := 66) rfl (.cons (t := 67) rfl (.cons (t := 68) rfl (.cons (t := 69) rfl (.nil)))))))))))))
            obtain ⟨A66, c66, rfl, _, _, _⟩ := hw.rd (i := 4) rfl
            refine t_store (i := 5) rfl rfl rfl hF hw rfl (ev rfl) (ev rfl) rfl one1 Try.sizeOf116 rfl (Nat.le_of_ble_eq_true rfl) rfl fun w1 hw => ?_
            refine t_store (i := 6) rfl rfl rfl hF hw rfl (ev rfl) (ev rfl) rfl one1 Try.sizeOf119 rfl (Nat.le_of_ble_eq_true rfl) rfl fun w1 hw => ?_
            refine wpList_nil ?_
            exact ⟨rfl, b14, b15, A66, c66, hF.keep (.cons (t := 2) rfl (.cons (t := 4) rfl (.cons (t := 5) rfl (.cons (t := 6) rfl (.cons (t := 8) rfl (.cons (t := 10) rfl (.cons (t := 14) rfl (.cons (t := 15) rfl (.nil))))))))), hw⟩
        rintro a w1 ⟨b14, b15, A66, c66, hF, hw⟩
        refine wp_seq (reg_draw 10 mixed (by kernel_rfl) (hF _ _) ?_)
        refine net_cons rfl rfl (n_load rfl (ev rfl) (ldN hw (i := 0) (vs := _) rfl Try.isAgg23 Try.sizeOf23 (kc_len _) (cut_whole (kc_len _)))) ?_
        refine net_cons rfl rfl (n_move rfl (ev rfl)) ?_
        refine net_cons rfl rfl (n_ret rfl Try.call37 (.cons (ev rfl) (.cons evc (.cons (ev rfl) .nil))) (fun _ hx => Derive_c root 41 nonce (by decide) hno _)) ?_
        refine net_cons rfl rfl (n_fieldAddrO (off' := 3) rfl (ev rfl) Try.runUnderlying28 rfl Try.sizeOf26 rfl) ?_
        refine net_cons rfl rfl (n_fieldAddrO (off' := 4) rfl (ev rfl) Try.runUnderlying26 rfl Try.sizeOf24 rfl) ?_
        refine net_cons rfl rfl (n_load rfl (ev rfl) (ld1 hw (i := 1) rfl Try.isAgg24 rfl)) ?_
        refine net_cons rfl rfl (n_bin rfl (ev rfl) evc (r_subN (b := 1) (by omega) (by omega))) ?_
        refine net_cons rfl rfl (n_ret rfl Try.call68 (.cons (ev rfl) (.cons evc (.cons (ev rfl) .nil))) (fun _ hx => Number_c _ 0 _ (by decide) (by omega) _)) ?_
        refine net_cons rfl rfl (n_bin rfl evc (ev rfl) (r_addN (a := 1) (by omega))) ?_
        refine net_cons rfl rfl (n_assign rfl (ev rfl)) ?_
        refine net_nil fun a w1 hF hx => ?_
        replace hw := hw.next hx
        replace hF := hF.keep (.cons (t := 2) rfl (.cons (t := 4) rfl (.cons (t := 5) rfl (.cons (t := 6) rfl (.cons (t := 8) rfl (.cons (t := 10) rfl (.cons (t := 14) rfl (.cons (t := 15) rfl (.cons (t := 16) rfl .nil)))))))))
        refine wpList_nil ?_
        refine wp_seq (reg_draw 10 mixed (by kernel_rfl) (hF _ _) ?_)
        refine net_cons rfl rfl (n_load rfl (ev rfl) (ldN hw (i := 1) (vs := _) rfl Try.isAgg28 Try.sizeOf28 rfl rfl)) ?_
        refine net_cons rfl rfl (n_fieldAddrO (off' := 3) rfl (ev rfl) Try.runUnderlying28 rfl Try.sizeOf26 rfl) ?_
        refine net_cons rfl rfl (n_fieldAddrO (off' := 5) rfl (ev rfl) Try.runUnderlying26 rfl Try.sizeOf24 rfl) ?_
        refine net_cons rfl rfl (n_load rfl (ev rfl) (ld1 hw (i := 1) rfl Try.isAgg24 rfl)) ?_
        refine net_cons rfl rfl (n_move rfl (ev rfl)) ?_
        refine net_cons rfl rfl (n_ret rfl Try.call69 (.cons (ev rfl) (.cons (ev rfl) (.cons (ev rfl) .nil))) (fun _ hx => spow_c _ _ _ _ _ _ g (rN root q nonce) hg (by unfold rN; omega) (by omega) (by omega) _)) ?_
        refine net_cons rfl rfl (n_load rfl (ev rfl) (ldN hw (i := 2) (vs := _) rfl Try.isAgg23 Try.sizeOf23 (kc_len _) (cut_whole (kc_len _)))) ?_
        refine net_cons rfl rfl (n_ret rfl Try.call37 (.cons (ev rfl) (.cons evc (.cons evc .nil))) (fun _ hx => Derive_c session 53 0 (by decide) (by decide) _)) ?_
        refine net_cons rfl rfl (n_build rfl (.cons (ev rfl) (.cons (ev rfl) .nil)) build_45_1_4) ?_
        refine net_cons rfl rfl (n_alloc rfl Try.zeroValue45 rfl) ?_
        refine net_nil fun a w1 hF hx => ?_
        obtain ⟨b17, h_, hw⟩ := hw.blk hx (hF.at_ 17 _ rfl)
        replace hF := hF.now h_
        replace hF := hF.keep (.cons (t := 2) rfl (.cons (t := 4) rfl (.cons (t := 5) rfl (.cons (t := 6) rfl (.cons (t := 8) rfl (.cons (t := 10) rfl (.cons (t := 14) rfl (.cons (t := 15) rfl (.cons (t := 16) rfl (.cons (t := 17) rfl (.cons (t := 87) rfl .nil)))))))))))
        refine t_store (i := 7) rfl rfl rfl hF hw rfl (ev rfl) (ev rfl) rfl one_hcs Try.sizeOf45 (hcs_len _ _ _ _ _) (by first | decide | (rw [hcs_len]; decide)) (seg_whole (by rw [hcs_len] <;> rfl)) fun w1 hw => ?_
        refine wpList_nil ?_
        refine wp_seq (wp_region_lit ?_)
        refine t_net 0 2 (by kernel_rfl) rfl hF ?_
        refine net_cons rfl rfl (n_makeFunc rfl (vs := #[ptr0 b6, ptr0 b17, ptr0 b14, ptr0 b15]) (.cons (ev rfl) (.cons (ev rfl) (.cons (ev rfl) (.cons (ev rfl) .nil))))) ?_
        refine net_cons rfl rfl (n_alloc rfl Try.zeroValue124 rfl) ?_
        refine net_nil fun a w1 hF hx => ?_
        obtain ⟨b18, h_, hw⟩ := hw.blk hx (hF.at_ 18 _ rfl)
        replace hF := hF.now h_
        replace hF := hF.keep (.cons (t := 2) rfl (.cons (t := 4) rfl (.cons (t := 5) rfl (.cons (t := 6) rfl (.cons (t := 8) rfl (.cons (t := 10) rfl (.cons (t := 14) rfl (.cons (t := 15) rfl (.cons (t := 16) rfl (.cons (t := 17) rfl (.cons (t := 18) rfl (.cons (t := 87) rfl (.cons (t := 88) rfl .nil)))))))))))))
        refine t_store (i := 8) rfl rfl rfl hF hw rfl (ev rfl) (ev rfl) rfl one1 Try.sizeOf124 rfl (Nat.le_of_ble_eq_true rfl) rfl fun w1 hw => ?_
        refine wpList_nil ?_
        refine wp_seq (reg_seq 2 (hF _ _) (by kernel_rfl) ?_)
        refine net_cons rfl rfl (n_makeFunc rfl (vs := #[ptr0 b17, ptr0 b18]) (.cons (ev rfl) (.cons (ev rfl) .nil))) ?_
        refine net_cons rfl rfl (n_assign rfl (ev rfl)) ?_
        refine net_nil fun a w1 hF hx => ?_
        replace hw := hw.next hx
        replace hF := hF.keep (.cons (t := 2) rfl (.cons (t := 4) rfl (.cons (t := 5) rfl (.cons (t := 6) rfl (.cons (t := 8) rfl (.cons (t := 10) rfl (.cons (t := 14) rfl (.cons (t := 15) rfl (.cons (t := 16) rfl (.cons (t := 17) rfl (.cons (t := 18) rfl (.cons (t := 19) rfl (.cons (t := 87) rfl (.cons (t := 88) rfl .nil))))))))))))))
        refine wpList_nil ?_
        refine wp_seq ?_
        refine wp_seq (reg_seq 3 (hF _ _) (by kernel_rfl) ?_)
        refine net_cons rfl rfl (n_move rfl (ev rfl)) ?_
        refine net_cons rfl rfl (n_len rfl (ev rfl) Try.underlying41) ?_
        refine net_cons rfl rfl (n_move rfl evc) ?_
        refine net_nil fun a w1 hF hx => ?_
        replace hw := hw.next hx
        replace hF := hF.keep (.cons (t := 2) rfl (.cons (t := 4) rfl (.cons (t := 5) rfl (.cons (t := 6) rfl (.cons (t := 8) rfl (.cons (t := 10) rfl (.cons (t := 14) rfl (.cons (t := 15) rfl (.cons (t := 16) rfl (.cons (t := 17) rfl (.cons (t := 18) rfl (.cons (t := 19) rfl (.cons (t := 87) rfl (.cons (t := 88) rfl (.cons (t := 90) rfl (.cons (t := 91) rfl (.cons (t := 92) rfl .nil)))))))))))))))))
        refine wpList_nil ?_
        refine wp_block ?_
        replace hw := hw.addNil 31 2
        replace hw : Own w _ ([.blk b5 23 (kc root), .blk b6 28 [B8 kd, I (d : Int), I (n : Int), U p, U q, U g], .blk b8 23 (kc session), .blk b10 45 (hcs (.slice none 0 0) 0 (.slice none 0 0) key0 key0), .row (.slice A66 (n + 1) c66) 24 1 (n + 1) ((cfs root n q).map U), .blk b14 116 [.slice A66 (n + 1) c66], .blk b15 119 [U q], .blk b17 45 (hcs (.slice none 0 0) (baseN root p q g nonce) (.slice none 0 0) key0 (derK session 53 0)), .blk b18 124 [liftF b6 b17 b14 b15], .row (.slice none 0 0) 31 2 0 []]) := hw
        replace hw := hw.front 6 rfl
        replace hw := hw.front 5 rfl
        replace hw := hw.front 6 rfl
        replace hw := hw.front 4 rfl
        replace hw := hw.front 8 rfl
        replace hw := hw.front 9 rfl
        replace hw := hw.front 9 rfl
        refine wp_loop_ix (α := Nat × Value) (fun ⟨i, v⟩ a w1 => FrV 123 [] [(6, .is (.pointer (some ⟨b6, 0, none⟩))) , (8, .is (.pointer (some ⟨b8, 0, none⟩))) , (10, .is (.pointer (some ⟨b10, 0, none⟩))) , (17, .is (.pointer (some ⟨b17, 0, none⟩))) , (18, .is (.pointer (some ⟨b18, 0, none⟩))) , (19, .is (.func (.func 71) #[] #[ptr0 b17, ptr0 b18])) , (90, .is (.slice A m c)) , (91, .is (I (m : Int))) , (92, .is (I (i : Int)))] a ∧ Own w w1 [.blk b17 45 (hcs (.slice none 0 0) (baseN root p q g nonce) v key0 (derK session 53 0)), .row v 31 2 (i) (pc ((ptsL root d n p q g l nonce).take i)), .blk b18 124 [liftF b6 b17 b14 b15], .blk b6 28 [B8 kd, I (d : Int), I (n : Int), U p, U q, U g], .blk b14 116 [.slice A66 (n + 1) c66], .row (.slice A66 (n + 1) c66) 24 1 (n + 1) ((cfs root n q).map U), .blk b15 119 [U q], .blk b5 23 (kc root), .blk b8 23 (kc session), .blk b10 45 (hcs (.slice none 0 0) 0 (.slice none 0 0) key0 key0)] ∧ (i ≤ m)) (fun ⟨i, v⟩ => m - i) ((0, .slice none 0 0)) ⟨hF.keep (.cons (t := 6) rfl (.cons (t := 8) rfl (.cons (t := 10) rfl (.cons (t := 17) rfl (.cons (t := 18) rfl (.cons (t := 19) rfl (.cons (t := 90) rfl (.cons (t := 91) rfl (.cons (t := 92) rfl (.nil)))))))))), hw, by omega⟩ ?_
        rintro ⟨i, v⟩ a w1 ⟨hF, hw, hi0⟩
        refine wp_seq (reg_seq 1 (hF _ _) (by kernel_rfl) ?_)
        refine net_cons rfl rfl (n_bin rfl (ev rfl) (ev rfl) r_lssN) ?_
        refine net_nil fun a w1 hF hx => ?_
        replace hw := hw.next hx
        replace hF := hF.keep (.cons (t := 6) rfl (.cons (t := 8) rfl (.cons (t := 10) rfl (.cons (t := 17) rfl (.cons (t := 18) rfl (.cons (t := 19) rfl (.cons (t := 90) rfl (.cons (t := 91) rfl (.cons (t := 92) rfl (.cons (t := 93) rfl .nil))))))))))
        refine wpList_nil ?_
        refine wp_seq ?_
        refine wp_cond_split (hF.ev (ev rfl)) (fun h93 => ?_) (fun h93 => ?_)
        · have hi : i < m := of_bool_t h93
          have hx0 := getD_at (l := l) (i := i) (d := 0) (by omega)
          obtain ⟨hu0, hu1⟩ := okL_at hok (i := i) (by omega)
          have hxe := xsL_lo (b := 2 ^ d) (n := n) (l := l) (i := i) (by omega)
          have hF_ := hF
          have hw_ := hw
          obtain ⟨bX, oX, rfl, hcX⟩ := hR.at_ (by rw [List.length_map]; omega)
          have hF := hF_
          have hw := hw_
          refine wp_skip ?_
          refine wp_seq (wp_block ?_)
          refine wp_seq (reg_seq 3 (hF _ _) (by kernel_rfl) ?_)
          refine net_cons rfl rfl (n_indexS (off' := oX + (i)) rfl (ev rfl) (ev rfl) Try.underlying41 Try.sizeOf3 (by omega) (by omega)) ?_
          refine net_cons rfl rfl (n_load rfl (ev rfl) (fun w2 hx2 => ld1R hcX (map_at hx0) Try.isAgg3 (by omega) w2 (hw.ext.trans hx2))) ?_
          refine net_cons rfl rfl (n_assign rfl (ev rfl)) ?_
          refine net_nil fun a w1 hF hx => ?_
          replace hw := hw.next hx
          replace hF := hF.keep (.cons (t := 6) rfl (.cons (t := 8) rfl (.cons (t := 10) rfl (.cons (t := 17) rfl (.cons (t := 18) rfl (.cons (t := 19) rfl (.cons (t := 21) rfl (.cons (t := 90) rfl (.cons (t := 91) rfl (.cons (t := 92) rfl (.cons (t := 93) rfl .nil)))))))))))
          refine wpList_nil ?_
          refine wp_region_lit ?_
          refine t_net 0 3 (by kernel_rfl) rfl hF ?_
          refine net_cons rfl rfl (n_move rfl (ev rfl)) ?_
          refine net_cons rfl rfl (n_move rfl (ev rfl)) ?_
          refine net_cons rfl rfl (n_to (v' := I (((l.getD i 0).toNat + 1 : Nat) : Int)) (n_bin rfl (ev rfl) evc (r_addI (by omega) (by omega))) (congrArg (Value.int .i64) (by omega))) ?_
          refine net_nil fun a w1 hF hx => ?_
          replace hw := hw.next hx
          replace hF := hF.keep (.cons (t := 6) rfl (.cons (t := 8) rfl (.cons (t := 10) rfl (.cons (t := 17) rfl (.cons (t := 18) rfl (.cons (t := 19) rfl (.cons (t := 21) rfl (.cons (t := 90) rfl (.cons (t := 91) rfl (.cons (t := 92) rfl (.cons (t := 93) rfl (.cons (t := 96) rfl (.cons (t := 98) rfl .nil)))))))))))))
          refine t_callM rfl rfl hF (cap := [ptr0 b17, ptr0 b18]) (ev rfl) Try.call71 (.cons (ev rfl) .nil) (fun d_ e_ => by injection e_ with e_; subst e_; decide) (add_c kd d n p q g (baseN root p q g nonce) ((l.getD i 0).toNat + 1) (n + 1) (i) b6 b17 b14 b15 b18 (.slice none 0 0) _ (.slice A66 (n + 1) c66) key0 (derK session 53 0) (cfs root n q) ((ptsL root d n p q g l nonce).take i) _ w _ (by unfold baseN; omega) (by omega) (by omega) (by omega) (by omega) (by omega) hcq hcl (by omega) (by omega) hw) fun v_ a w1 hF hw => ?_
          obtain ⟨v2, hw⟩ := hw
          replace hF := hF.keep (.cons (t := 6) rfl (.cons (t := 8) rfl (.cons (t := 10) rfl (.cons (t := 17) rfl (.cons (t := 18) rfl (.cons (t := 19) rfl (.cons (t := 21) rfl (.cons (t := 90) rfl (.cons (t := 91) rfl (.cons (t := 92) rfl (.cons (t := 93) rfl .nil)))))))))))
          refine wpList_nil ?_
          refine reg_seq 2 (hF _ _) (by kernel_rfl) ?_
          refine net_cons rfl rfl (n_bin rfl (ev rfl) evc (r_inc (by omega))) ?_
          refine net_cons rfl rfl (n_move rfl (ev rfl)) ?_
          refine net_nil fun a w1 hF hx => ?_
          replace hw := hw.next hx
          replace hF := hF.keep (.cons (t := 6) rfl (.cons (t := 8) rfl (.cons (t := 10) rfl (.cons (t := 17) rfl (.cons (t := 18) rfl (.cons (t := 19) rfl (.cons (t := 21) rfl (.cons (t := 90) rfl (.cons (t := 91) rfl (.cons (t := 92) rfl (.cons (t := 93) rfl .nil)))))))))))
          refine wpList_nil ?_
          exact ⟨(i + 1, v2), ⟨hF.keep (.cons (t := 6) rfl (.cons (t := 8) rfl (.cons (t := 10) rfl (.cons (t := 17) rfl (.cons (t := 18) rfl (.cons (t := 19) rfl (.cons (t := 90) rfl (.cons (t := 91) rfl (.cons (t := 92) rfl (.nil)))))))))), (ptsL_take hxe ▸ hw), by omega⟩, (by show m - (i + 1) < m - i; omega)⟩
        · obtain rfl : m = i := by have := of_bool_f h93; omega
          refine wp_exit (go_then_e (go_then_e (go_exit ?_)))
          refine wp_seq ?_
          refine wp_seq (reg_seq 5 (hF _ _) (by kernel_rfl) ?_)
          refine net_cons rfl rfl (n_fieldAddrO (off' := 1) rfl (ev rfl) Try.runUnderlying28 rfl Try.sizeOf3 rfl) ?_
          refine net_cons rfl rfl (n_load rfl (ev rfl) (ld1 hw (i := 3) rfl Try.isAgg3 rfl)) ?_
          refine net_cons rfl rfl (n_bin rfl evc (ev rfl) (sh1 (by omega) (by omega))) ?_
          refine net_cons rfl rfl (n_to (v' := I ((2 ^ d + 1 + 0 : Nat) : Int)) (n_bin rfl (ev rfl) evc (r_addI (by simp only [Int.toNat_natCast]; omega) (by simp only [Int.toNat_natCast]; omega))) (congrArg (Value.int .i64) (by simp only [Int.toNat_natCast]; omega))) ?_
          refine net_cons rfl rfl (n_assign rfl (ev rfl)) ?_
          refine net_nil fun a w1 hF hx => ?_
          replace hw := hw.next hx
          replace hF := hF.keep (.cons (t := 6) rfl (.cons (t := 8) rfl (.cons (t := 10) rfl (.cons (t := 17) rfl (.cons (t := 18) rfl (.cons (t := 19) rfl (.cons (t := 22) rfl (.cons (t := 90) rfl (.cons (t := 91) rfl (.cons (t := 92) rfl (.cons (t := 93) rfl .nil)))))))))))
          refine wpList_nil ?_
          refine wp_block ?_
          refine wp_loop_ix (α := Nat × Value) (fun ⟨j, v⟩ a w1 => FrV 123 [] [(6, .is (.pointer (some ⟨b6, 0, none⟩))) , (8, .is (.pointer (some ⟨b8, 0, none⟩))) , (10, .is (.pointer (some ⟨b10, 0, none⟩))) , (17, .is (.pointer (some ⟨b17, 0, none⟩))) , (18, .is (.pointer (some ⟨b18, 0, none⟩))) , (19, .is (.func (.func 71) #[] #[ptr0 b17, ptr0 b18])) , (22, .is (I ((2 ^ d + 1 + j : Nat) : Int)))] a ∧ Own w w1 [.blk b17 45 (hcs (.slice none 0 0) (baseN root p q g nonce) v key0 (derK session 53 0)), .row v 31 2 (m + j) (pc ((ptsL root d n p q g l nonce).take (m + j))), .blk b18 124 [liftF b6 b17 b14 b15], .blk b6 28 [B8 kd, I (d : Int), I (n : Int), U p, U q, U g], .blk b14 116 [.slice A66 (n + 1) c66], .row (.slice A66 (n + 1) c66) 24 1 (n + 1) ((cfs root n q).map U), .blk b15 119 [U q], .blk b5 23 (kc root), .blk b8 23 (kc session), .blk b10 45 (hcs (.slice none 0 0) 0 (.slice none 0 0) key0 key0)] ∧ (m + j ≤ n)) (fun ⟨j, v⟩ => n - j) ((0, v)) ⟨hF.keep (.cons (t := 6) rfl (.cons (t := 8) rfl (.cons (t := 10) rfl (.cons (t := 17) rfl (.cons (t := 18) rfl (.cons (t := 19) rfl (.cons (t := 22) rfl (.nil)))))))), hw, by omega⟩ ?_
          rintro ⟨j, v⟩ a w1 ⟨hF, hw, hj0⟩
          obtain ⟨Av, cv, rfl, _, _, _⟩ := hw.rd (i := 1) rfl
          refine wp_seq ?_
          refine wp_seq (reg_seq 6 (hF _ _) (by kernel_rfl) ?_)
          refine net_cons rfl rfl (n_fieldAddrO (off' := 2) rfl (ev rfl) Try.runUnderlying45 rfl Try.sizeOf43 rfl) ?_
          refine net_cons rfl rfl (n_load rfl (ev rfl) (ld1 hw (i := 0) rfl Try.isAgg43 rfl)) ?_
          refine net_cons rfl rfl (n_len rfl (ev rfl) Try.underlying43) ?_
          refine net_cons rfl rfl (n_fieldAddrO (off' := 2) rfl (ev rfl) Try.runUnderlying28 rfl Try.sizeOf3 rfl) ?_
          refine net_cons rfl rfl (n_load rfl (ev rfl) (ld1 hw (i := 3) rfl Try.isAgg3 rfl)) ?_
          refine net_cons rfl rfl (n_bin rfl (ev rfl) (ev rfl) r_lssN) ?_
          refine net_nil fun a w1 hF hx => ?_
          replace hw := hw.next hx
          replace hF := hF.keep (.cons (t := 6) rfl (.cons (t := 8) rfl (.cons (t := 10) rfl (.cons (t := 17) rfl (.cons (t := 18) rfl (.cons (t := 19) rfl (.cons (t := 22) rfl (.cons (t := 110) rfl .nil))))))))
          refine wpList_nil ?_
          refine wp_cond_split (hF.ev (ev rfl)) (fun h110 => ?_) (fun h110 => ?_)
          · have hj : m + j < n := of_bool_t h110
            have hxe : (xsL (2 ^ d) n l)[m + j]? = some (2 ^ d + 1 + j) := by rw [xsL_hi (by omega) hj, hl, show m + j - m = j by omega]
            refine wp_skip ?_
            refine wp_seq (wp_block ?_)
            refine wp_region_lit ?_
            refine t_net 0 2 (by kernel_rfl) rfl hF ?_
            refine net_cons rfl rfl (n_move rfl (ev rfl)) ?_
            refine net_cons rfl rfl (n_move rfl (ev rfl)) ?_
            refine net_nil fun a w1 hF hx => ?_
            replace hw := hw.next hx
            replace hF := hF.keep (.cons (t := 6) rfl (.cons (t := 8) rfl (.cons (t := 10) rfl (.cons (t := 17) rfl (.cons (t := 18) rfl (.cons (t := 19) rfl (.cons (t := 22) rfl (.cons (t := 110) rfl (.cons (t := 113) rfl (.cons (t := 114) rfl .nil))))))))))
            refine t_callM rfl rfl hF (cap := [ptr0 b17, ptr0 b18]) (ev rfl) Try.call71 (.cons (ev rfl) .nil) (fun d_ e_ => by injection e_ with e_; subst e_; decide) (add_c kd d n p q g (baseN root p q g nonce) (2 ^ d + 1 + j) (n + 1) (m + j) b6 b17 b14 b15 b18 (.slice none 0 0) _ (.slice A66 (n + 1) c66) key0 (derK session 53 0) (cfs root n q) ((ptsL root d n p q g l nonce).take (m + j)) _ w _ (by unfold baseN; omega) (by omega) (by omega) (by omega) (by omega) (by omega) hcq hcl (by omega) (by omega) hw) fun v_ a w1 hF hw => ?_
            obtain ⟨v2, hw⟩ := hw
            replace hF := hF.keep (.cons (t := 6) rfl (.cons (t := 8) rfl (.cons (t := 10) rfl (.cons (t := 17) rfl (.cons (t := 18) rfl (.cons (t := 19) rfl (.cons (t := 22) rfl (.cons (t := 110) rfl .nil))))))))
            refine wpList_nil ?_
            refine reg_seq 3 (hF _ _) (by kernel_rfl) ?_
            refine net_cons rfl rfl (n_move rfl (ev rfl)) ?_
            refine net_cons rfl rfl (n_to (v' := I ((2 ^ d + 1 + (j + 1) : Nat) : Int)) (n_bin rfl (ev rfl) evc (r_addI (by omega) (by omega))) (congrArg (Value.int .i64) (by omega))) ?_
            refine net_cons rfl rfl (n_assign rfl (ev rfl)) ?_
            refine net_nil fun a w1 hF hx => ?_
            replace hw := hw.next hx
            replace hF := hF.keep (.cons (t := 6) rfl (.cons (t := 8) rfl (.cons (t := 10) rfl (.cons (t := 17) rfl (.cons (t := 18) rfl (.cons (t := 19) rfl (.cons (t := 22) rfl (.cons (t := 110) rfl .nil))))))))
            refine wpList_nil ?_
            exact ⟨(j + 1, v2), ⟨hF.keep (.cons (t := 6) rfl (.cons (t := 8) rfl (.cons (t := 10) rfl (.cons (t := 17) rfl (.cons (t := 18) rfl (.cons (t := 19) rfl (.cons (t := 22) rfl (.nil)))))))), (ptsL_take hxe ▸ hw), by omega⟩, (by show n - (j + 1) < n - j; omega)⟩
          · have hjn : m + j = n := by have := of_bool_f h110; omega
            rw [hjn, take_len hptl] at hw
            refine wp_exit (go_then_e (go_then_e (go_exit ?_)))
            obtain ⟨_, _, hse66, _, hR66, _⟩ := hw.rd (i := 5) rfl
            injection hse66 with hA66_ _ _
            subst hA66_
            have hpv2 := Nat.mod_lt ((baseN root p q g nonce) ^ (pv (cfs root n q) 0 % q)) (show 0 < p by omega)
            refine wp_seq (reg_draw 6 mixed (by kernel_rfl) (hF _ _) ?_)
            refine net_cons rfl rfl (n_load rfl (ev rfl) (ld1 hw (i := 2) rfl Try.isAgg124 rfl)) ?_
            refine net_cons rfl rfl (n_retv rfl (cap := [ptr0 b6, ptr0 b17, ptr0 b14, ptr0 b15]) (ev rfl) Try.call70 (.cons evc .nil) (fun w2 hx => lift_c kd d n p q g (baseN root p q g nonce) 0 (n + 1) c66 b6 b17 b14 b15 A66 (.slice none 0 0) _ _ key0 (derK session 53 0) (cfs root n q) rfl (by unfold baseN; omega) (by omega) (by omega) (by omega) (by omega) (by omega) hcq hcl (by omega) w2 (hw.heap (i := 3) rfl hx) (hw.heap (i := 0) rfl hx) (hw.heap (i := 4) rfl hx) (hw.heap (i := 6) rfl hx) (hR66.ext hx))) ?_
            refine net_cons rfl rfl (n_ret rfl Try.call72 (.cons (ev rfl) .nil) (fun _ hx => maskKey_c _ (by unfold liftN; omega) _)) ?_
            refine net_cons rfl rfl (n_load rfl (ev rfl) (ldN hw (i := 8) (vs := _) rfl Try.isAgg23 Try.sizeOf23 (kc_len _) (cut_whole (kc_len _)))) ?_
            refine net_cons rfl rfl (n_ret rfl Try.call36 (.cons (ev rfl) (.cons (ev rfl) .nil)) (fun _ hx => Encrypt_c _ _ _)) ?_
            refine net_cons rfl rfl (n_fieldAddrO (off' := 3) rfl (ev rfl) Try.runUnderlying45 rfl Try.sizeOf23 rfl) ?_
            refine net_nil fun a w1 hF hx => ?_
            replace hw := hw.next hx
            replace hF := hF.keep (.cons (t := 6) rfl (.cons (t := 8) rfl (.cons (t := 10) rfl (.cons (t := 17) rfl (.cons (t := 18) rfl (.cons (t := 19) rfl (.cons (t := 22) rfl (.cons (t := 110) rfl (.cons (t := 120) rfl (.cons (t := 121) rfl .nil))))))))))
            refine t_store (i := 0) rfl rfl rfl hF hw rfl (ev rfl) (ev rfl) rfl (kc_one _) Try.sizeOf23 (kc_len _) (by rw [hcs_len]; decide) (hcs_box _ _ _ _ _ _) fun w1 hw => ?_
            refine wpList_nil ?_
            refine wp_seq (wp_region_lit ?_)
            refine t_net 0 1 (by kernel_rfl) rfl hF ?_
            refine net_cons rfl rfl (n_load rfl (ev rfl) (ldN hw (i := 0) (vs := _) rfl Try.isAgg45 Try.sizeOf45 (hcs_len _ _ _ _ _) (cut_whole (hcs_len _ _ _ _ _)))) ?_
            refine net_nil fun a w1 hF hx => ?_
            replace hw := hw.next hx
            replace hF := hF.keep (.cons (t := 6) rfl (.cons (t := 8) rfl (.cons (t := 10) rfl (.cons (t := 17) rfl (.cons (t := 18) rfl (.cons (t := 19) rfl (.cons (t := 22) rfl (.cons (t := 110) rfl (.cons (t := 120) rfl (.cons (t := 121) rfl (.cons (t := 122) rfl .nil)))))))))))
            refine t_store (i := 9) rfl rfl rfl hF hw rfl (ev rfl) (ev rfl) rfl one_hcs Try.sizeOf45 (hcs_len _ _ _ _ _) (by first | decide | (rw [hcs_len]; decide)) (seg_whole (by rw [hcs_len] <;> rfl)) fun w1 hw => ?_
            refine t_net 2 1 (by kernel_rfl) rfl hF ?_
            refine net_cons rfl rfl (n_assign rfl evc) ?_
            refine net_nil fun a w1 hF hx => ?_
            replace hw := hw.next hx
            replace hF := hF.keep (.cons (t := 6) rfl (.cons (t := 8) rfl (.cons (t := 10) rfl (.cons (t := 11) rfl (.cons (t := 17) rfl (.cons (t := 18) rfl (.cons (t := 19) rfl (.cons (t := 22) rfl (.cons (t := 110) rfl (.cons (t := 120) rfl (.cons (t := 121) rfl .nil)))))))))))
            refine wpList_nil ?_
            refine wp_ret (retc2 hF Try.results21 rfl (ldN hw (i := 9) (vs := _) rfl Try.isAgg45 Try.sizeOf45 (hcs_len _ _ _ _ _) (cut_whole (hcs_len _ _ _ _ _)) _ (Ext.refl _)) rfl ?_)
            exact ⟨_, rfl, hw.ext, (by rw [hde, hne, sealR_ok (by rw [← hde, ← hne]; exact hz) hok (by omega)]; exact ⟨_, (by rw [show (ptsL root d n p q g l nonce).length = n from ptsL_len (by omega)]; exact hw.row (i := 1) rfl), rfl⟩)⟩


theorem sealR_len (root session : Key) (kd : Nat) (dp dg : Int) (p q g nonce : Nat) (l : List Int) : (sealR root kd dp dg p q g l session nonce).1.2.1.length ≤ 8 := by
  unfold sealR
  by_cases h : okS kd dp dg p q g = true
  · obtain ⟨_, _, _, _, h5, _, _⟩ := okS_all h
    rw [if_pos h]
    split
    · split
      · rename_i h3
        show (ptsL _ _ _ _ _ _ _ _).length ≤ 8
        rw [ptsL_len (by omega)]
        omega
      · simp
    · simp
  · rw [if_neg h]
    simp
theorem n_bsl0 {P : Program} {wr : World} {E : Env} {o : Oper} {t e : TypeId} {sz by_ : Nat} (T : SlT P t e sz by_) (ho : o.op = .buildSlice t 0 #[]) : nstep P wr E o (.cap e [] (mkS 0)) :=
  n_run fun a w hw hop => ⟨_, _, by
    obtain ⟨ie, z, h1, h2, h3, h4, h5⟩ := T.hi
    unfold execOp; rw [ho]; simp [Instr.buildSlice, run_underlying T.ht, sizeOf, typeInfo, h1, Instr.fill, newRow]; exact ⟨rfl, by rw [show Array.range 0 = #[] from rfl, Array.map_empty]⟩, (Below.refl _ w).alloc (Nat.le_refl _) _, ⟨w.heap.size, rfl, hw.size, World.alloc_heap_new w _⟩⟩


theorem PolySeals_c (root session : Key) (kd : Nat) (dp dg : Int) (p q g nonce m c : Nat) (A : Option Addr) (l : List Int) (hp : p < 18446744073709551616) (hq : q < 18446744073709551616) (hg : g < 18446744073709551616) (hno : nonce < 18446744073709551616) (hl : l.length = m) (hm : m ≤ 17592186043904) (w : World) (hR : Rd w A (l.map I)) : RetF Try.prog 4 [K root, SV kd dp dg p q g, .slice A m c, K session, U nonce].toArray w (.is (.bool true)) := by
  have hpl := sealR_len root session kd dp dg p q g nonce l
  refine enter Try.func4 rfl Try.ntmps4 rfl fun a hF => ?_
  have hw := Own.start w
  refine wp_seq (wp_region_lit ?_)
  refine t_net 0 1 (by kernel_rfl) rfl hF ?_
  refine net_cons rfl rfl (n_box rfl (ev rfl) rfl) ?_
  refine net_nil fun a w1 hF hx => ?_
  obtain ⟨b5, h_, hw⟩ := hw.blk hx (hF.at_ 5 _ rfl)
  replace hF := hF.now h_
  replace hF := hF.keep (.cons (t := 1) rfl (.cons (t := 2) rfl (.cons (t := 3) rfl (.cons (t := 4) rfl (.cons (t := 5) rfl .nil)))))
  refine t_net 1 1 (by kernel_rfl) rfl hF ?_
  refine net_cons rfl rfl (n_box rfl (ev rfl) rfl) ?_
  refine net_nil fun a w1 hF hx => ?_
  obtain ⟨b6, h_, hw⟩ := hw.blk hx (hF.at_ 6 _ rfl)
  replace hF := hF.now h_
  replace hF := hF.keep (.cons (t := 2) rfl (.cons (t := 3) rfl (.cons (t := 4) rfl (.cons (t := 5) rfl (.cons (t := 6) rfl .nil)))))
  refine t_net 2 1 (by kernel_rfl) rfl hF ?_
  refine net_cons rfl rfl (n_box rfl (ev rfl) rfl) ?_
  refine net_nil fun a w1 hF hx => ?_
  obtain ⟨b8, h_, hw⟩ := hw.blk hx (hF.at_ 8 _ rfl)
  replace hF := hF.now h_
  replace hF := hF.keep (.cons (t := 2) rfl (.cons (t := 4) rfl (.cons (t := 5) rfl (.cons (t := 6) rfl (.cons (t := 8) rfl .nil)))))
  refine t_net 3 1 (by kernel_rfl) rfl hF ?_
  refine net_cons rfl rfl (n_assign rfl evc) ?_
  refine net_nil fun a w1 hF hx => ?_
  replace hw := hw.next hx
  replace hF := hF.keep (.cons (t := 2) rfl (.cons (t := 4) rfl (.cons (t := 5) rfl (.cons (t := 6) rfl (.cons (t := 8) rfl (.cons (t := 10) rfl .nil))))))
  refine wpList_nil ?_
  refine wp_seq (wp_region_lit ?_)
  refine t_net 0 1 (by kernel_rfl) rfl hF ?_
  refine net_cons rfl rfl (n_bsl0 sl41 rfl) ?_
  refine net_nil fun a w1 hF hx => ?_
  obtain ⟨b16, h_, hw⟩ := hw.cap hx (hF.at_ 16 _ rfl)
  replace hF := hF.now (v := .slice (some ⟨b16, 0, none⟩) (0) (0)) h_
  replace hF := hF.keep (.cons (t := 2) rfl (.cons (t := 4) rfl (.cons (t := 5) rfl (.cons (t := 6) rfl (.cons (t := 8) rfl (.cons (t := 10) rfl (.cons (t := 16) rfl .nil)))))))
  refine t_net 1 1 (by kernel_rfl) rfl hF ?_
  refine net_cons rfl rfl (n_move rfl (ev rfl)) ?_
  refine net_nil fun a w1 hF hx => ?_
  replace hw := hw.next hx
  replace hF := hF.keep (.cons (t := 2) rfl (.cons (t := 4) rfl (.cons (t := 5) rfl (.cons (t := 6) rfl (.cons (t := 8) rfl (.cons (t := 10) rfl (.cons (t := 16) rfl (.cons (t := 17) rfl .nil))))))))
  replace hw := hw.blkRow (i := 3) (sz := 1) (n := 0) (by rfl) (by rfl) (by decide)
  refine t_append (i := 3) sl41 rfl rfl rfl (by decide) hF hw rfl (ev rfl) (ev rfl) (hR.ext hw.ext) (by rw [List.length_map, hl, Nat.mul_one]) (by intro u hu; obtain ⟨z, _, rfl⟩ := List.mem_map.1 hu; rfl) (by simp only [maxLen]; omega) (by omega) fun v18 a w1 hF hw => ?_
  replace hF := hF.keep (.cons (t := 2) rfl (.cons (t := 4) rfl (.cons (t := 5) rfl (.cons (t := 6) rfl (.cons (t := 8) rfl (.cons (t := 10) rfl (.cons (t := 18) rfl .nil)))))))
  rw [Nat.zero_add, List.nil_append] at hw
  obtain ⟨A18, c18, rfl, _, _, _⟩ := hw.rd (i := 3) rfl
  refine t_net 3 1 (by kernel_rfl) rfl hF ?_
  refine net_cons rfl rfl (n_assign rfl (ev rfl)) ?_
  refine net_nil fun a w1 hF hx => ?_
  replace hw := hw.next hx
  replace hF := hF.keep (.cons (t := 2) rfl (.cons (t := 4) rfl (.cons (t := 5) rfl (.cons (t := 6) rfl (.cons (t := 8) rfl (.cons (t := 10) rfl (.cons (t := 11) rfl .nil)))))))
  refine wpList_nil ?_
  obtain ⟨_, _, hse_, _, hR18, _⟩ := hw.rd (i := 3) rfl
  injection hse_ with hA_ _ _
  subst hA_
  refine wp_seq (wp_region_lit ?_)
  refine t_net 0 6 (by kernel_rfl) rfl hF ?_
  refine net_cons rfl rfl (n_load rfl (ev rfl) (ldN hw (i := 0) (vs := _) rfl Try.isAgg23 Try.sizeOf23 (kc_len _) (cut_whole (kc_len _)))) ?_
  refine net_cons rfl rfl (n_load rfl (ev rfl) (ldN hw (i := 1) (vs := _) rfl Try.isAgg28 Try.sizeOf28 rfl rfl)) ?_
  refine net_cons rfl rfl (n_move rfl (ev rfl)) ?_
  refine net_cons rfl rfl (n_load rfl (ev rfl) (ldN hw (i := 2) (vs := _) rfl Try.isAgg23 Try.sizeOf23 (kc_len _) (cut_whole (kc_len _)))) ?_
  refine net_cons rfl rfl (n_move rfl (ev rfl)) ?_
  refine net_cons rfl rfl (n_ret rfl Try.call21 (.cons (ev rfl) (.cons (ev rfl) (.cons (ev rfl) (.cons (ev rfl) (.cons (ev rfl) .nil))))) (fun _ hx => (Seal_c root session kd dp dg p q g nonce m c18 A18 l hp hq hg hno hl (by omega) _ (hR18.ext hx)))) ?_
  refine net_nil fun a w1 hF hx => ?_
  obtain ⟨s25, h_, hw⟩ := hw.ex hx (hF.at_ 25 _ rfl)
  replace hF := hF.now h_
  replace hF := hF.keep (.cons (t := 2) rfl (.cons (t := 4) rfl (.cons (t := 5) rfl (.cons (t := 6) rfl (.cons (t := 8) rfl (.cons (t := 10) rfl (.cons (t := 11) rfl (.cons (t := 25) rfl .nil))))))))
  obtain ⟨A25, c25, rfl, _, _, _⟩ := hw.rd (i := 4) rfl
  refine t_net 6 4 (by kernel_rfl) rfl hF ?_
  refine net_cons rfl rfl (n_move rfl (ev rfl)) ?_
  refine net_cons rfl rfl (n_extract rfl (ev rfl) rfl) ?_
  refine net_cons rfl rfl (n_extract rfl (ev rfl) rfl) ?_
  refine net_cons rfl rfl (n_alloc rfl Try.zeroValue45 rfl) ?_
  refine net_nil fun a w1 hF hx => ?_
  obtain ⟨b12, h_, hw⟩ := hw.blk hx (hF.at_ 12 _ rfl)
  replace hF := hF.now h_
  replace hF := hF.keep (.cons (t := 2) rfl (.cons (t := 4) rfl (.cons (t := 5) rfl (.cons (t := 6) rfl (.cons (t := 8) rfl (.cons (t := 10) rfl (.cons (t := 11) rfl (.cons (t := 12) rfl (.cons (t := 26) rfl (.cons (t := 27) rfl .nil))))))))))
  refine t_store (i := 5) rfl rfl rfl hF hw rfl (ev rfl) (ev rfl) rfl one_hcs Try.sizeOf45 (hcs_len _ _ _ _ _) (by first | decide | (rw [hcs_len]; decide)) (seg_whole (by rw [hcs_len] <;> rfl)) fun w1 hw => ?_
  refine t_net 11 1 (by kernel_rfl) rfl hF ?_
  refine net_cons rfl rfl (n_assign rfl (ev rfl)) ?_
  refine net_nil fun a w1 hF hx => ?_
  replace hw := hw.next hx
  replace hF := hF.keep (.cons (t := 2) rfl (.cons (t := 4) rfl (.cons (t := 5) rfl (.cons (t := 6) rfl (.cons (t := 8) rfl (.cons (t := 10) rfl (.cons (t := 11) rfl (.cons (t := 12) rfl (.cons (t := 13) rfl .nil)))))))))
  refine wpList_nil ?_
  refine wp_seq (wp_region_lit ?_)
  refine t_net 0 6 (by kernel_rfl) rfl hF ?_
  refine net_cons rfl rfl (n_load rfl (ev rfl) (ldN hw (i := 0) (vs := _) rfl Try.isAgg23 Try.sizeOf23 (kc_len _) (cut_whole (kc_len _)))) ?_
  refine net_cons rfl rfl (n_load rfl (ev rfl) (ldN hw (i := 1) (vs := _) rfl Try.isAgg28 Try.sizeOf28 rfl rfl)) ?_
  refine net_cons rfl rfl (n_move rfl (ev rfl)) ?_
  refine net_cons rfl rfl (n_load rfl (ev rfl) (ldN hw (i := 2) (vs := _) rfl Try.isAgg23 Try.sizeOf23 (kc_len _) (cut_whole (kc_len _)))) ?_
  refine net_cons rfl rfl (n_move rfl (ev rfl)) ?_
  refine net_cons rfl rfl (n_ret rfl Try.call22 (.cons (ev rfl) (.cons (ev rfl) (.cons (ev rfl) (.cons (ev rfl) (.cons (ev rfl) .nil))))) (fun _ hx => (rSeal_c root session kd dp dg p q g nonce m c A l hp hq hg hno hl (by omega) _ (hR.ext (hw.ext.trans hx))))) ?_
  refine net_nil fun a w1 hF hx => ?_
  obtain ⟨s34, h_, hw⟩ := hw.ex hx (hF.at_ 34 _ rfl)
  replace hF := hF.now h_
  replace hF := hF.keep (.cons (t := 2) rfl (.cons (t := 4) rfl (.cons (t := 5) rfl (.cons (t := 6) rfl (.cons (t := 8) rfl (.cons (t := 10) rfl (.cons (t := 11) rfl (.cons (t := 12) rfl (.cons (t := 13) rfl (.cons (t := 34) rfl .nil))))))))))
  obtain ⟨A34, c34, rfl, _, _, _⟩ := hw.rd (i := 6) rfl
  refine t_net 6 4 (by kernel_rfl) rfl hF ?_
  refine net_cons rfl rfl (n_move rfl (ev rfl)) ?_
  refine net_cons rfl rfl (n_extract rfl (ev rfl) rfl) ?_
  refine net_cons rfl rfl (n_extract rfl (ev rfl) rfl) ?_
  refine net_cons rfl rfl (n_alloc rfl Try.zeroValue45 rfl) ?_
  refine net_nil fun a w1 hF hx => ?_
  obtain ⟨b14, h_, hw⟩ := hw.blk hx (hF.at_ 14 _ rfl)
  replace hF := hF.now h_
  replace hF := hF.keep (.cons (t := 2) rfl (.cons (t := 4) rfl (.cons (t := 5) rfl (.cons (t := 6) rfl (.cons (t := 8) rfl (.cons (t := 10) rfl (.cons (t := 11) rfl (.cons (t := 12) rfl (.cons (t := 13) rfl (.cons (t := 14) rfl (.cons (t := 35) rfl (.cons (t := 36) rfl .nil))))))))))))
  refine t_store (i := 7) rfl rfl rfl hF hw rfl (ev rfl) (ev rfl) rfl one_hcs Try.sizeOf45 (hcs_len _ _ _ _ _) (by first | decide | (rw [hcs_len]; decide)) (seg_whole (by rw [hcs_len] <;> rfl)) fun w1 hw => ?_
  refine t_net 11 1 (by kernel_rfl) rfl hF ?_
  refine net_cons rfl rfl (n_assign rfl (ev rfl)) ?_
  refine net_nil fun a w1 hF hx => ?_
  replace hw := hw.next hx
  replace hF := hF.keep (.cons (t := 2) rfl (.cons (t := 4) rfl (.cons (t := 5) rfl (.cons (t := 6) rfl (.cons (t := 8) rfl (.cons (t := 10) rfl (.cons (t := 11) rfl (.cons (t := 12) rfl (.cons (t := 13) rfl (.cons (t := 14) rfl (.cons (t := 15) rfl .nil)))))))))))
  refine wpList_nil ?_
  obtain ⟨_, _, hse_, _, hR25, _⟩ := hw.rd (i := 4) rfl
  injection hse_ with hA_ _ _
  subst hA_
  obtain ⟨_, _, hse_, _, hR34, _⟩ := hw.rd (i := 6) rfl
  injection hse_ with hA_ _ _
  subst hA_
  obtain ⟨_, _, hse_, _, hR18b, _⟩ := hw.rd (i := 3) rfl
  injection hse_ with hA_ _ _
  subst hA_
  refine wp_seq (reg_seq 14 (hF _ _) (by kernel_rfl) ?_)
  refine net_cons rfl rfl (n_load rfl (ev rfl) (ldN hw (i := 5) (vs := _) rfl Try.isAgg45 Try.sizeOf45 (hcs_len _ _ _ _ _) (cut_whole (hcs_len _ _ _ _ _)))) ?_
  refine net_cons rfl rfl (n_load rfl (ev rfl) (ldN hw (i := 7) (vs := _) rfl Try.isAgg45 Try.sizeOf45 (hcs_len _ _ _ _ _) (cut_whole (hcs_len _ _ _ _ _)))) ?_
  refine net_cons rfl rfl (n_ret rfl Try.call23 (.cons (ev rfl) (.cons (ev rfl) .nil)) (fun _ hx => (SameHeader0_c _ _ _ _ _ _ _ _ (sealR root kd dp dg p q g l session nonce).1.2.1 rfl (by omega) _ (hR25.ext hx) (hR34.ext hx)))) ?_
  refine net_cons rfl rfl (n_move rfl (ev rfl)) ?_
  refine net_if rfl rfl rfl rfl (fun hc => (n_move rfl (ev rfl))) ?_
  refine net_if rfl rfl rfl rfl (fun hc => (n_move rfl (ev rfl))) ?_
  refine net_if rfl rfl rfl rfl (fun hc => (n_bin rfl (evi rfl hc) (evi rfl hc) r_eql)) ?_
  refine net_cons rfl rfl (n_pick_and rfl (ev rfl) (fun h => (evi rfl h))) ?_
  refine net_cons rfl rfl (n_move rfl (ev rfl)) ?_
  refine net_if rfl rfl rfl rfl (fun hc => (n_move rfl (ev rfl))) ?_
  refine net_if rfl rfl rfl rfl (fun hc => (n_move rfl (ev rfl))) ?_
  refine net_if rfl rfl rfl rfl (fun hc => (n_ret rfl Try.call24 (.cons (evi rfl hc) (.cons (evi rfl hc) .nil)) (fun _ hx => (SameInts_c m c18 c A18 A l hl (by omega) _ (hR18b.ext hx) (hR.ext (hw.ext.trans hx)))))) ?_
  refine net_cons rfl rfl (n_pick_and rfl (ev rfl) (fun h => (evi rfl h))) ?_
  refine net_cons rfl rfl (n_assign rfl (ev rfl)) ?_
  refine net_nil fun a w1 hF hx => ?_
  replace hw := hw.next hx
  replace hF := hF.keep (.cons (t := 2) rfl (.cons (t := 4) rfl (.cons (t := 5) rfl (.cons (t := 6) rfl (.cons (t := 8) rfl (.cons (t := 10) rfl (.cons (t := 11) rfl (.cons (t := 12) rfl (.cons (t := 14) rfl .nil)))))))))
  refine wpList_nil ?_
  refine wp_ret (ret1 hF Try.results4 rfl ?_)
  exact ⟨_, rfl, hw.ext, (by show Value.bool _ = Value.bool true; simp)⟩
end Go.Proofs.Ythgpojlcbbgaoaa

