/- small helpers of the laws -/
import Derived.Test.YthgpojlcbbgaoaaPun2
import Derived.Test.YthgpojlcbbgaoaaVal

set_option autoImplicit false
set_option maxRecDepth 100000
set_option linter.unusedVariables false
namespace Go.Proofs.Ythgpojlcbbgaoaa
open Go.RowKit


theorem build_26_0_1_2 {p q g : Nat} (w : World) : (Instr.build 26 #[(0, U p), (1, U q), (2, U g)]).run Try.prog w = .ok (.agg [U p, U q, U g].toArray) w := by
  simp [Instr.build, Try.zeroValue26, Try.runUnderlying26, Array.mapM_eq_mapM_toList, List.mapM_cons, Try.sizeOf24, Instr.fill, Value.cells]
theorem build_28_0_1_2_3 {k : Nat} {d n : Int} {p q g : Nat} (w : World) : (Instr.build 28 #[(0, B8 k), (1, I d), (2, I n), (3, .agg [U p, U q, U g].toArray)]).run Try.prog w = .ok (SV k d n p q g) w := by
  simp only [Instr.build, Sem.run_bind, Try.zeroValue28, Try.runUnderlying28, Result.andThen_ok]
  simp [Array.mapM_eq_mapM_toList, List.mapM_cons, Try.sizeOf3, Try.sizeOf7, Try.sizeOf26, Value.cells, Instr.fill]
theorem one6 {k : Nat} {d n : Int} {p q g : Nat} : ∀ u ∈ [B8 k, I d, I n, U p, U q, U g], u.oneCell' = true := by
  intro u hu
  simp only [List.mem_cons, List.not_mem_nil, or_false] at hu
  rcases hu with rfl | rfl | rfl | rfl | rfl | rfl <;> rfl
theorem pc_at0 {pts : List (Nat × Nat)} {i : Nat} {z : Nat × Nat} (h : pts[i]? = some z) : (pc pts)[i * 2]? = some (U z.1) := by
  have h1 : ((pc pts).drop (i * 2)).take 2 = [U z.1, U z.2] := fm_at (f := fun p : Nat × Nat => [U p.1, U p.2]) (sz := 2) (fun _ => rfl) h
  have : (((pc pts).drop (i * 2)).take 2)[0]? = some (U z.1) := by rw [h1]; rfl
  rwa [List.getElem?_take, if_pos (by decide), List.getElem?_drop] at this
theorem pc_at1 {pts : List (Nat × Nat)} {i : Nat} {z : Nat × Nat} (h : pts[i]? = some z) : (pc pts)[i * 2 + 1]? = some (U z.2) := by
  have h1 : ((pc pts).drop (i * 2)).take 2 = [U z.1, U z.2] := fm_at (f := fun p : Nat × Nat => [U p.1, U p.2]) (sz := 2) (fun _ => rfl) h
  have : (((pc pts).drop (i * 2)).take 2)[1]? = some (U z.2) := by rw [h1]; rfl
  rwa [List.getElem?_take, if_pos (by decide), List.getElem?_drop] at this


theorem small_c  (w : World) : RetF Try.prog 54 [].toArray w (.is (SV 4 2 2 23 11 2)) := by
  refine enter Try.func54 rfl Try.ntmps54 rfl fun a hF => ?_
  have hw := Own.start w
  refine wp_seq (wp_region_lit ?_)
  refine t_net 0 1 (by kernel_rfl) rfl hF ?_
  refine net_cons rfl rfl (n_alloc rfl Try.zeroValue28 rfl) ?_
  refine net_nil fun a w1 hF hx => ?_
  obtain ⟨b0, h_, hw⟩ := hw.blk hx (hF.at_ 0 _ rfl)
  replace hF := hF.now h_
  replace hF := hF.keep (.cons (t := 0) rfl .nil)
  refine wpList_nil ?_
  refine wp_seq (wp_region_lit ?_)
  refine t_net 0 2 (by kernel_rfl) rfl hF ?_
  refine net_cons rfl rfl (n_build rfl (.cons evc (.cons evc (.cons evc .nil))) build_26_0_1_2) ?_
  refine net_cons rfl rfl (n_build rfl (.cons evc (.cons evc (.cons evc (.cons (ev rfl) .nil)))) build_28_0_1_2_3) ?_
  refine net_nil fun a w1 hF hx => ?_
  replace hw := hw.next hx
  replace hF := hF.keep (.cons (t := 0) rfl (.cons (t := 2) rfl .nil))
  refine t_store (i := 0) rfl rfl rfl hF hw rfl (ev rfl) (ev rfl) rfl one6 Try.sizeOf28 rfl (Nat.le_of_ble_eq_true rfl) rfl fun w1 hw => ?_
  refine wpList_nil ?_
  refine wp_ret (retc hF Try.results54 rfl (ldN hw (i := 0) (vs := _) rfl Try.isAgg28 Try.sizeOf28 rfl rfl _ (Ext.refl _)) ?_)
  exact ⟨_, rfl, hw.ext, rfl⟩

theorem SameW_c (n c c2 : Nat) (A A2 : Option Addr) (l : List Nat) (hl : l.length = n) (hn : n ≤ 9223372036854775800) (w : World) (hR : Rd w A (l.map U)) (hR2 : Rd w A2 (l.map U)) : RetF Try.prog 39 [.slice A n c, .slice A2 n c2].toArray w (.is (.bool true)) := by
  refine enter Try.func39 rfl Try.ntmps39 rfl fun a hF => ?_
  have hw := Own.start w
  refine wp_seq (reg_seq 1 (hF _ _) (by kernel_rfl) ?_)
  refine net_cons rfl rfl (n_assign rfl evc) ?_
  refine net_nil fun a w1 hF hx => ?_
  replace hw := hw.next hx
  replace hF := hF.keep (.cons (t := 0) rfl (.cons (t := 1) rfl (.cons (t := 4) rfl .nil)))
  refine wpList_nil ?_
  refine wp_seq ?_
  refine wp_seq (reg_seq 5 (hF _ _) (by kernel_rfl) ?_)
  refine net_cons rfl rfl (n_move rfl (ev rfl)) ?_
  refine net_cons rfl rfl (n_len rfl (ev rfl) Try.underlying63) ?_
  refine net_cons rfl rfl (n_move rfl (ev rfl)) ?_
  refine net_cons rfl rfl (n_len rfl (ev rfl) Try.underlying63) ?_
  refine net_cons rfl rfl (n_bin rfl (ev rfl) (ev rfl) r_neq) ?_
  refine net_nil fun a w1 hF hx => ?_
  replace hw := hw.next hx
  replace hF := hF.keep (.cons (t := 0) rfl (.cons (t := 1) rfl (.cons (t := 4) rfl (.cons (t := 10) rfl .nil))))
  refine wpList_nil ?_
  refine wp_cond_false ((hF.ev (ev rfl)).trans (congrArg Value.bool (by simp))) ?_
  refine wp_skip ?_
  refine wp_seq ?_
  refine wp_seq (reg_seq 1 (hF _ _) (by kernel_rfl) ?_)
  refine net_cons rfl rfl (n_assign rfl evc) ?_
  refine net_nil fun a w1 hF hx => ?_
  replace hw := hw.next hx
  replace hF := hF.keep (.cons (t := 0) rfl (.cons (t := 1) rfl (.cons (t := 4) rfl (.cons (t := 5) rfl (.cons (t := 10) rfl .nil)))))
  refine wpList_nil ?_
  refine wp_block ?_
  refine wp_loop_ix (α := Nat) (fun i a w1 => FrV 26 [] [(0, .is (.slice A n c)) , (1, .is (.slice A2 n c2)) , (5, .is (I (i : Int)))] a ∧ Own w w1 [] ∧ (i ≤ n)) (fun i => n - i) (0) ⟨hF.keep (.cons (t := 0) rfl (.cons (t := 1) rfl (.cons (t := 5) rfl (.nil)))), hw, by omega⟩ ?_
  rintro i a w1 ⟨hF, hw, hi0⟩
  refine wp_seq ?_
  refine wp_seq (reg_seq 4 (hF _ _) (by kernel_rfl) ?_)
  refine net_cons rfl rfl (n_move rfl (ev rfl)) ?_
  refine net_cons rfl rfl (n_move rfl (ev rfl)) ?_
  refine net_cons rfl rfl (n_len rfl (ev rfl) Try.underlying63) ?_
  refine net_cons rfl rfl (n_bin rfl (ev rfl) (ev rfl) r_lssN) ?_
  refine net_nil fun a w1 hF hx => ?_
  replace hw := hw.next hx
  replace hF := hF.keep (.cons (t := 0) rfl (.cons (t := 1) rfl (.cons (t := 5) rfl (.cons (t := 14) rfl .nil))))
  refine wpList_nil ?_
  refine wp_cond_split (hF.ev (ev rfl)) (fun h14 => ?_) (fun h14 => ?_)
  · have hi : i < n := of_bool_t h14
    obtain ⟨z, hz0⟩ := some_at hl hi
    have hF_ := hF
    have hw_ := hw
    obtain ⟨bX, oX, rfl, hcX⟩ := hR.at_ (by rw [List.length_map]; omega)
    obtain ⟨bY, oY, rfl, hcY⟩ := hR2.at_ (by rw [List.length_map]; omega)
    have hF := hF_
    have hw := hw_
    refine wp_skip ?_
    refine wp_seq (wp_block ?_)
    refine wp_seq (reg_draw 9 mixed (by kernel_rfl) (hF _ _) ?_)
    refine net_cons rfl rfl (n_move rfl (ev rfl)) ?_
    refine net_cons rfl rfl (n_move rfl (ev rfl)) ?_
    refine net_cons rfl rfl (n_indexS (off' := oX + (i)) rfl (ev rfl) (ev rfl) Try.underlying63 Try.sizeOf24 (by omega) (by omega)) ?_
    refine net_cons rfl rfl (n_load rfl (ev rfl) (fun w2 hx2 => ld1R hcX (map_at hz0) Try.isAgg24 (by omega) w2 (hw.ext.trans hx2))) ?_
    refine net_cons rfl rfl (n_move rfl (ev rfl)) ?_
    refine net_cons rfl rfl (n_move rfl (ev rfl)) ?_
    refine net_cons rfl rfl (n_indexS (off' := oY + (i)) rfl (ev rfl) (ev rfl) Try.underlying63 Try.sizeOf24 (by omega) (by omega)) ?_
    refine net_cons rfl rfl (n_load rfl (ev rfl) (fun w2 hx2 => ld1R hcY (map_at hz0) Try.isAgg24 (by omega) w2 (hw.ext.trans hx2))) ?_
    refine net_cons rfl rfl (n_bin rfl (ev rfl) (ev rfl) r_neqN) ?_
    refine net_nil fun a w1 hF hx => ?_
    replace hw := hw.next hx
    replace hF := hF.keep (.cons (t := 0) rfl (.cons (t := 1) rfl (.cons (t := 5) rfl (.cons (t := 14) rfl (.cons (t := 25) rfl .nil)))))
    refine wpList_nil ?_
    refine wp_cond_false ((hF.ev (ev rfl)).trans (congrArg Value.bool (by simp))) ?_
    refine wp_skip ?_
    refine reg_seq 3 (hF _ _) (by kernel_rfl) ?_
    refine net_cons rfl rfl (n_move rfl (ev rfl)) ?_
    refine net_cons rfl rfl (n_bin rfl (ev rfl) evc (r_inc (by omega))) ?_
    refine net_cons rfl rfl (n_assign rfl (ev rfl)) ?_
    refine net_nil fun a w1 hF hx => ?_
    replace hw := hw.next hx
    replace hF := hF.keep (.cons (t := 0) rfl (.cons (t := 1) rfl (.cons (t := 5) rfl (.cons (t := 14) rfl (.cons (t := 25) rfl .nil)))))
    refine wpList_nil ?_
    exact ⟨i + 1, ⟨hF.keep (.cons (t := 0) rfl (.cons (t := 1) rfl (.cons (t := 5) rfl (.nil)))), hw, by omega⟩, by omega⟩
  · refine wp_exit (go_then_e (go_then_e (go_exit ?_)))
    refine wp_seq (reg_seq 1 (hF _ _) (by kernel_rfl) ?_)
    refine net_cons rfl rfl (n_assign rfl evc) ?_
    refine net_nil fun a w1 hF hx => ?_
    replace hw := hw.next hx
    replace hF := hF.keep (.cons (t := 0) rfl (.cons (t := 1) rfl (.cons (t := 4) rfl (.cons (t := 5) rfl (.cons (t := 14) rfl .nil)))))
    refine wpList_nil ?_
    refine wp_ret (ret1 hF Try.results39 rfl ?_)
    exact ⟨_, rfl, hw.ext, rfl⟩

theorem wordsEq_c (n c k cb : Nat) (A B : Option Addr) (l want : List Nat) (e : Int) (he : e = 0) (hlw : l = want) (hl : l.length = n) (hk : want.length = k) (hn : n ≤ 9223372036854775800) (w : World) (hR : Rd w A (l.map U)) (hRb : Rd w B (want.map U)) : RetF Try.prog 59 [.slice A n c, I e, .slice B k cb].toArray w (.is (.bool true)) := by
  subst he
  subst hlw
  obtain rfl : n = k := by omega
  refine enter Try.func59 rfl Try.ntmps59 rfl fun a hF => ?_
  have hw := Own.start w
  refine wp_seq (reg_seq 1 (hF _ _) (by kernel_rfl) ?_)
  refine net_cons rfl rfl (n_assign rfl evc) ?_
  refine net_nil fun a w1 hF hx => ?_
  replace hw := hw.next hx
  replace hF := hF.keep (.cons (t := 0) rfl (.cons (t := 1) rfl (.cons (t := 2) rfl (.cons (t := 6) rfl .nil))))
  refine wpList_nil ?_
  refine wp_seq (reg_seq 8 (hF _ _) (by kernel_rfl) ?_)
  refine net_cons rfl rfl (n_move rfl (ev rfl)) ?_
  refine net_cons rfl rfl (n_bin rfl (ev rfl) evc (r_eql (b := 0))) ?_
  refine net_cons rfl rfl (n_move rfl (ev rfl)) ?_
  refine net_if rfl rfl rfl rfl (fun hc => (n_move rfl (ev rfl))) ?_
  refine net_if rfl rfl rfl rfl (fun hc => (n_move rfl (ev rfl))) ?_
  refine net_if rfl rfl rfl rfl (fun hc => (n_ret rfl Try.call39 (.cons (evi rfl hc) (.cons (evi rfl hc) .nil)) (fun _ hx => (SameW_c n c cb A B l hl hn _ (hR.ext (hw.ext.trans hx)) (hRb.ext (hw.ext.trans hx)))))) ?_
  refine net_cons rfl rfl (n_pick_and rfl (ev rfl) (fun h => (evi rfl h))) ?_
  refine net_cons rfl rfl (n_assign rfl (ev rfl)) ?_
  refine net_nil fun a w1 hF hx => ?_
  replace hw := hw.next hx
  replace hF := hF.keep (.cons (t := 6) rfl .nil)
  refine wpList_nil ?_
  refine wp_ret (ret1 hF Try.results59 rfl ?_)
  exact ⟨_, rfl, hw.ext, (by show Value.bool _ = Value.bool true; simp)⟩

theorem points_c (items : Value) (base n c k cb : Nat) (A B : Option Addr) (pts : List (Nat × Nat)) (box chk : Key) (want : List Nat) (e : Int) (he : e = 0) (hwt : pts.map Prod.fst = want) (hl : pts.length = n) (hk : want.length = k) (hn : n ≤ 9223372036854775800) (w : World) (hR : Rd w A (pc pts)) (hRb : Rd w B (want.map U)) : RetF Try.prog 55 [HV items base (.slice A n c) box chk, I e, .slice B k cb].toArray w (.is (.bool true)) := by
  subst he
  subst hwt
  obtain rfl : n = k := by rw [List.length_map] at hk; omega
  refine enter Try.func55 rfl Try.ntmps55 rfl fun a hF => ?_
  have hw := Own.start w
  refine wp_seq (wp_region_lit ?_)
  refine t_net 0 1 (by kernel_rfl) rfl hF ?_
  refine net_cons rfl rfl (n_box rfl (ev rfl) rfl) ?_
  refine net_nil fun a w1 hF hx => ?_
  obtain ⟨b3, h_, hw⟩ := hw.blk hx (hF.at_ 3 _ rfl)
  replace hF := hF.now h_
  replace hF := hF.keep (.cons (t := 1) rfl (.cons (t := 2) rfl (.cons (t := 3) rfl .nil)))
  refine t_net 1 1 (by kernel_rfl) rfl hF ?_
  refine net_cons rfl rfl (n_assign rfl evc) ?_
  refine net_nil fun a w1 hF hx => ?_
  replace hw := hw.next hx
  replace hF := hF.keep (.cons (t := 1) rfl (.cons (t := 2) rfl (.cons (t := 3) rfl (.cons (t := 6) rfl .nil))))
  refine wpList_nil ?_
  refine wp_seq ?_
  refine wp_seq (reg_seq 10 (hF _ _) (by kernel_rfl) ?_)
  refine net_cons rfl rfl (n_move rfl (ev rfl)) ?_
  refine net_cons rfl rfl (n_bin rfl (ev rfl) evc (r_neq (b := 0))) ?_
  refine net_cons rfl rfl (n_move rfl (ev rfl)) ?_
  refine net_if rfl rfl rfl rfl (fun hc => (n_fieldAddrO (off' := 2) rfl (ev rfl) Try.runUnderlying45 rfl Try.sizeOf43 rfl)) ?_
  refine net_if rfl rfl rfl rfl (fun hc => (n_load rfl (evi rfl hc) (ld1 hw (i := 0) rfl Try.isAgg43 rfl))) ?_
  refine net_if rfl rfl rfl rfl (fun hc => (n_len rfl (evi rfl hc) Try.underlying43)) ?_
  refine net_if rfl rfl rfl rfl (fun hc => (n_move rfl (ev rfl))) ?_
  refine net_if rfl rfl rfl rfl (fun hc => (n_len rfl (evi rfl hc) Try.underlying63)) ?_
  refine net_if rfl rfl rfl rfl (fun hc => (n_bin rfl (evi rfl hc) (evi rfl hc) r_neq)) ?_
  refine net_cons rfl rfl (n_pick_or rfl (ev rfl) (fun h => (evi rfl h))) ?_
  refine net_nil fun a w1 hF hx => ?_
  replace hw := hw.next hx
  replace hF := hF.keep (.cons (t := 2) rfl (.cons (t := 3) rfl (.cons (t := 6) rfl (.cons (t := 17) rfl .nil))))
  refine wpList_nil ?_
  refine wp_cond_false ((hF.ev (ev rfl)).trans (congrArg Value.bool (by simp))) ?_
  refine wp_skip ?_
  refine wp_seq ?_
  refine wp_seq (reg_seq 1 (hF _ _) (by kernel_rfl) ?_)
  refine net_cons rfl rfl (n_assign rfl evc) ?_
  refine net_nil fun a w1 hF hx => ?_
  replace hw := hw.next hx
  replace hF := hF.keep (.cons (t := 2) rfl (.cons (t := 3) rfl (.cons (t := 6) rfl (.cons (t := 7) rfl (.cons (t := 17) rfl .nil)))))
  refine wpList_nil ?_
  refine wp_block ?_
  refine wp_loop_ix (α := Nat) (fun i a w1 => FrV 35 [] [(2, .is (.slice B n cb)) , (3, .is (ptr0 b3)) , (7, .is (I (i : Int)))] a ∧ Own w w1 [.blk b3 45 (hcs items base (.slice A n c) box chk)] ∧ (i ≤ n)) (fun i => n - i) (0) ⟨hF.keep (.cons (t := 2) rfl (.cons (t := 3) rfl (.cons (t := 7) rfl (.nil)))), hw, by omega⟩ ?_
  rintro i a w1 ⟨hF, hw, hi0⟩
  refine wp_seq ?_
  refine wp_seq (reg_seq 4 (hF _ _) (by kernel_rfl) ?_)
  refine net_cons rfl rfl (n_move rfl (ev rfl)) ?_
  refine net_cons rfl rfl (n_move rfl (ev rfl)) ?_
  refine net_cons rfl rfl (n_len rfl (ev rfl) Try.underlying63) ?_
  refine net_cons rfl rfl (n_bin rfl (ev rfl) (ev rfl) r_lssN) ?_
  refine net_nil fun a w1 hF hx => ?_
  replace hw := hw.next hx
  replace hF := hF.keep (.cons (t := 2) rfl (.cons (t := 3) rfl (.cons (t := 7) rfl (.cons (t := 21) rfl .nil))))
  refine wpList_nil ?_
  refine wp_cond_split (hF.ev (ev rfl)) (fun h21 => ?_) (fun h21 => ?_)
  · have hi : i < n := of_bool_t h21
    obtain ⟨z, hz0⟩ := some_at hl hi
    have hfl := pc_len pts
    have hF_ := hF
    have hw_ := hw
    obtain ⟨bX, oX, rfl, hcX⟩ := hR.at_ (by omega)
    obtain ⟨bY, oY, rfl, hcY⟩ := hRb.at_ (by rw [List.length_map, List.length_map]; omega)
    have hF := hF_
    have hw := hw_
    refine wp_skip ?_
    refine wp_seq (wp_block ?_)
    refine wp_seq (reg_draw 11 mixed (by kernel_rfl) (hF _ _) ?_)
    refine net_cons rfl rfl (n_fieldAddrO (off' := 2) rfl (ev rfl) Try.runUnderlying45 rfl Try.sizeOf43 rfl) ?_
    refine net_cons rfl rfl (n_load rfl (ev rfl) (ld1 hw (i := 0) rfl Try.isAgg43 rfl)) ?_
    refine net_cons rfl rfl (n_move rfl (ev rfl)) ?_
    refine net_cons rfl rfl (n_indexS (off' := oX + (i) * 2) rfl (ev rfl) (ev rfl) Try.underlying43 Try.sizeOf31 (by omega) rfl) ?_
    refine net_cons rfl rfl (n_fieldAddrO (off' := oX + (i) * 2 + 0) rfl (ev rfl) Try.runUnderlying31 rfl Try.sizeOf24 rfl) ?_
    refine net_cons rfl rfl (n_load rfl (ev rfl) (fun w2 hx2 => ld1R hcX (pc_at0 hz0) Try.isAgg24 (by omega) w2 (hw.ext.trans hx2))) ?_
    refine net_cons rfl rfl (n_move rfl (ev rfl)) ?_
    refine net_cons rfl rfl (n_move rfl (ev rfl)) ?_
    refine net_cons rfl rfl (n_indexS (off' := oY + (i)) rfl (ev rfl) (ev rfl) Try.underlying63 Try.sizeOf24 (by omega) (by omega)) ?_
    refine net_cons rfl rfl (n_load rfl (ev rfl) (fun w2 hx2 => ld1R hcY (map_at (f := U) (map_at (f := Prod.fst) hz0)) Try.isAgg24 (by omega) w2 (hw.ext.trans hx2))) ?_
    refine net_cons rfl rfl (n_bin rfl (ev rfl) (ev rfl) r_neqN) ?_
    refine net_nil fun a w1 hF hx => ?_
    replace hw := hw.next hx
    replace hF := hF.keep (.cons (t := 2) rfl (.cons (t := 3) rfl (.cons (t := 7) rfl (.cons (t := 21) rfl (.cons (t := 34) rfl .nil)))))
    refine wpList_nil ?_
    refine wp_cond_false ((hF.ev (ev rfl)).trans (congrArg Value.bool (by simp))) ?_
    refine wp_skip ?_
    refine reg_seq 3 (hF _ _) (by kernel_rfl) ?_
    refine net_cons rfl rfl (n_move rfl (ev rfl)) ?_
    refine net_cons rfl rfl (n_bin rfl (ev rfl) evc (r_inc (by omega))) ?_
    refine net_cons rfl rfl (n_assign rfl (ev rfl)) ?_
    refine net_nil fun a w1 hF hx => ?_
    replace hw := hw.next hx
    replace hF := hF.keep (.cons (t := 2) rfl (.cons (t := 3) rfl (.cons (t := 7) rfl (.cons (t := 21) rfl (.cons (t := 34) rfl .nil)))))
    refine wpList_nil ?_
    exact ⟨i + 1, ⟨hF.keep (.cons (t := 2) rfl (.cons (t := 3) rfl (.cons (t := 7) rfl (.nil)))), hw, by omega⟩, by omega⟩
  · refine wp_exit (go_then_e (go_then_e (go_exit ?_)))
    refine wp_seq (reg_seq 1 (hF _ _) (by kernel_rfl) ?_)
    refine net_cons rfl rfl (n_assign rfl evc) ?_
    refine net_nil fun a w1 hF hx => ?_
    replace hw := hw.next hx
    replace hF := hF.keep (.cons (t := 2) rfl (.cons (t := 3) rfl (.cons (t := 6) rfl (.cons (t := 7) rfl (.cons (t := 21) rfl .nil)))))
    refine wpList_nil ?_
    refine wp_ret (ret1 hF Try.results55 rfl ?_)
    exact ⟨_, rfl, hw.ext, rfl⟩

theorem nodes_c (d : Int) (n c k cb : Nat) (A B : Option Addr) (L : List Lab) (want : List Int) (e : Int) (he : e = 0) (hwt : L.map Prod.fst = want) (hl : L.length = n) (hk : want.length = k) (hn : n ≤ 9223372036854775800) (w : World) (hR : Rd w A (L.flatMap lc)) (hRb : Rd w B (want.map I)) : RetF Try.prog 56 [PuV d (.slice A n c), I e, .slice B k cb].toArray w (.is (.bool true)) := by
  subst he
  subst hwt
  obtain rfl : n = k := by rw [List.length_map] at hk; omega
  refine enter Try.func56 rfl Try.ntmps56 rfl fun a hF => ?_
  have hw := Own.start w
  refine wp_seq (wp_region_lit ?_)
  refine t_net 0 1 (by kernel_rfl) rfl hF ?_
  refine net_cons rfl rfl (n_box rfl (ev rfl) rfl) ?_
  refine net_nil fun a w1 hF hx => ?_
  obtain ⟨b3, h_, hw⟩ := hw.blk hx (hF.at_ 3 _ rfl)
  replace hF := hF.now h_
  replace hF := hF.keep (.cons (t := 1) rfl (.cons (t := 2) rfl (.cons (t := 3) rfl .nil)))
  refine t_net 1 1 (by kernel_rfl) rfl hF ?_
  refine net_cons rfl rfl (n_assign rfl evc) ?_
  refine net_nil fun a w1 hF hx => ?_
  replace hw := hw.next hx
  replace hF := hF.keep (.cons (t := 1) rfl (.cons (t := 2) rfl (.cons (t := 3) rfl (.cons (t := 6) rfl .nil))))
  refine wpList_nil ?_
  refine wp_seq ?_
  refine wp_seq (reg_seq 10 (hF _ _) (by kernel_rfl) ?_)
  refine net_cons rfl rfl (n_move rfl (ev rfl)) ?_
  refine net_cons rfl rfl (n_bin rfl (ev rfl) evc (r_neq (b := 0))) ?_
  refine net_cons rfl rfl (n_move rfl (ev rfl)) ?_
  refine net_if rfl rfl rfl rfl (fun hc => (n_fieldAddrO (off' := 1) rfl (ev rfl) Try.runUnderlying83 rfl Try.sizeOf29 rfl)) ?_
  refine net_if rfl rfl rfl rfl (fun hc => (n_load rfl (evi rfl hc) (ld1 hw (i := 0) rfl Try.isAgg29 rfl))) ?_
  refine net_if rfl rfl rfl rfl (fun hc => (n_len rfl (evi rfl hc) Try.underlying29)) ?_
  refine net_if rfl rfl rfl rfl (fun hc => (n_move rfl (ev rfl))) ?_
  refine net_if rfl rfl rfl rfl (fun hc => (n_len rfl (evi rfl hc) Try.underlying41)) ?_
  refine net_if rfl rfl rfl rfl (fun hc => (n_bin rfl (evi rfl hc) (evi rfl hc) r_neq)) ?_
  refine net_cons rfl rfl (n_pick_or rfl (ev rfl) (fun h => (evi rfl h))) ?_
  refine net_nil fun a w1 hF hx => ?_
  replace hw := hw.next hx
  replace hF := hF.keep (.cons (t := 2) rfl (.cons (t := 3) rfl (.cons (t := 6) rfl (.cons (t := 17) rfl .nil))))
  refine wpList_nil ?_
  refine wp_cond_false ((hF.ev (ev rfl)).trans (congrArg Value.bool (by simp))) ?_
  refine wp_skip ?_
  refine wp_seq ?_
  refine wp_seq (reg_seq 1 (hF _ _) (by kernel_rfl) ?_)
  refine net_cons rfl rfl (n_assign rfl evc) ?_
  refine net_nil fun a w1 hF hx => ?_
  replace hw := hw.next hx
  replace hF := hF.keep (.cons (t := 2) rfl (.cons (t := 3) rfl (.cons (t := 6) rfl (.cons (t := 7) rfl (.cons (t := 17) rfl .nil)))))
  refine wpList_nil ?_
  refine wp_block ?_
  refine wp_loop_ix (α := Nat) (fun i a w1 => FrV 35 [] [(2, .is (.slice B n cb)) , (3, .is (ptr0 b3)) , (7, .is (I (i : Int)))] a ∧ Own w w1 [.blk b3 83 [I d, .slice A n c]] ∧ (i ≤ n)) (fun i => n - i) (0) ⟨hF.keep (.cons (t := 2) rfl (.cons (t := 3) rfl (.cons (t := 7) rfl (.nil)))), hw, by omega⟩ ?_
  rintro i a w1 ⟨hF, hw, hi0⟩
  refine wp_seq ?_
  refine wp_seq (reg_seq 4 (hF _ _) (by kernel_rfl) ?_)
  refine net_cons rfl rfl (n_move rfl (ev rfl)) ?_
  refine net_cons rfl rfl (n_move rfl (ev rfl)) ?_
  refine net_cons rfl rfl (n_len rfl (ev rfl) Try.underlying41) ?_
  refine net_cons rfl rfl (n_bin rfl (ev rfl) (ev rfl) r_lssN) ?_
  refine net_nil fun a w1 hF hx => ?_
  replace hw := hw.next hx
  replace hF := hF.keep (.cons (t := 2) rfl (.cons (t := 3) rfl (.cons (t := 7) rfl (.cons (t := 21) rfl .nil))))
  refine wpList_nil ?_
  refine wp_cond_split (hF.ev (ev rfl)) (fun h21 => ?_) (fun h21 => ?_)
  · have hi : i < n := of_bool_t h21
    obtain ⟨z, hz0⟩ := some_at hl hi
    have hfl := fm_len lc_len L
    have hF_ := hF
    have hw_ := hw
    obtain ⟨bX, oX, rfl, hcX⟩ := hR.at_ (by omega)
    obtain ⟨bY, oY, rfl, hcY⟩ := hRb.at_ (by rw [List.length_map, List.length_map]; omega)
    have hF := hF_
    have hw := hw_
    refine wp_skip ?_
    refine wp_seq (wp_block ?_)
    refine wp_seq (reg_draw 11 mixed (by kernel_rfl) (hF _ _) ?_)
    refine net_cons rfl rfl (n_fieldAddrO (off' := 1) rfl (ev rfl) Try.runUnderlying83 rfl Try.sizeOf29 rfl) ?_
    refine net_cons rfl rfl (n_load rfl (ev rfl) (ld1 hw (i := 0) rfl Try.isAgg29 rfl)) ?_
    refine net_cons rfl rfl (n_move rfl (ev rfl)) ?_
    refine net_cons rfl rfl (n_indexS (off' := oX + (i) * 18) rfl (ev rfl) (ev rfl) Try.underlying29 Try.sizeOf95 (by omega) rfl) ?_
    refine net_cons rfl rfl (n_fieldAddrO (off' := oX + (i) * 18 + 0) rfl (ev rfl) Try.runUnderlying95 rfl Try.sizeOf3 rfl) ?_
    refine net_cons rfl rfl (n_load rfl (ev rfl) (fun w2 hx2 => ld1R hcX (lc_at0 hz0) Try.isAgg3 (by omega) w2 (hw.ext.trans hx2))) ?_
    refine net_cons rfl rfl (n_move rfl (ev rfl)) ?_
    refine net_cons rfl rfl (n_move rfl (ev rfl)) ?_
    refine net_cons rfl rfl (n_indexS (off' := oY + (i)) rfl (ev rfl) (ev rfl) Try.underlying41 Try.sizeOf3 (by omega) (by omega)) ?_
    refine net_cons rfl rfl (n_load rfl (ev rfl) (fun w2 hx2 => ld1R hcY (map_at (f := I) (map_at (f := Prod.fst) hz0)) Try.isAgg3 (by omega) w2 (hw.ext.trans hx2))) ?_
    refine net_cons rfl rfl (n_bin rfl (ev rfl) (ev rfl) r_neq) ?_
    refine net_nil fun a w1 hF hx => ?_
    replace hw := hw.next hx
    replace hF := hF.keep (.cons (t := 2) rfl (.cons (t := 3) rfl (.cons (t := 7) rfl (.cons (t := 21) rfl (.cons (t := 34) rfl .nil)))))
    refine wpList_nil ?_
    refine wp_cond_false ((hF.ev (ev rfl)).trans (congrArg Value.bool (by simp))) ?_
    refine wp_skip ?_
    refine reg_seq 3 (hF _ _) (by kernel_rfl) ?_
    refine net_cons rfl rfl (n_move rfl (ev rfl)) ?_
    refine net_cons rfl rfl (n_bin rfl (ev rfl) evc (r_inc (by omega))) ?_
    refine net_cons rfl rfl (n_assign rfl (ev rfl)) ?_
    refine net_nil fun a w1 hF hx => ?_
    replace hw := hw.next hx
    replace hF := hF.keep (.cons (t := 2) rfl (.cons (t := 3) rfl (.cons (t := 7) rfl (.cons (t := 21) rfl (.cons (t := 34) rfl .nil)))))
    refine wpList_nil ?_
    exact ⟨i + 1, ⟨hF.keep (.cons (t := 2) rfl (.cons (t := 3) rfl (.cons (t := 7) rfl (.nil)))), hw, by omega⟩, by omega⟩
  · refine wp_exit (go_then_e (go_then_e (go_exit ?_)))
    refine wp_seq (reg_seq 1 (hF _ _) (by kernel_rfl) ?_)
    refine net_cons rfl rfl (n_assign rfl evc) ?_
    refine net_nil fun a w1 hF hx => ?_
    replace hw := hw.next hx
    replace hF := hF.keep (.cons (t := 2) rfl (.cons (t := 3) rfl (.cons (t := 6) rfl (.cons (t := 7) rfl (.cons (t := 21) rfl .nil)))))
    refine wpList_nil ?_
    refine wp_ret (ret1 hF Try.results56 rfl ?_)
    exact ⟨_, rfl, hw.ext, rfl⟩
end Go.Proofs.Ythgpojlcbbgaoaa

