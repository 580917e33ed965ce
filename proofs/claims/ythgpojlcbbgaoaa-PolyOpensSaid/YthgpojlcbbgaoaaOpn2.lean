/- opening: headers are the same; the law of Open -/
import Derived.Test.YthgpojlcbbgaoaaOpn

set_option autoImplicit false
set_option maxRecDepth 100000
set_option linter.unusedVariables false
namespace Go.Proofs.Ythgpojlcbbgaoaa
open Go.RowKit


/-! ### equality of items -/
theorem guard131 : Try.prog.eqGuardType Try.prog.depth 131 = false := by kernel_rfl
theorem fields131 : Try.prog.underlying 131 = some (.struct (Try.prog.fieldsOf 131)) := by unfold Program.fieldsOf; rw [Try.underlying131]
theorem held131 : Try.prog.stoodInHeld 131 = false := by kernel_rfl
theorem fields129 : Try.prog.underlying 129 = some (.struct (Try.prog.fieldsOf 129)) := by unfold Program.fieldsOf; rw [Try.underlying129]
theorem held129 : Try.prog.stoodInHeld 129 = false := by kernel_rfl
theorem fieldsOf131 : Try.prog.fieldsOf 131 = #[⟨"Subset", 129, 0, false, "", "", 0⟩, ⟨"Box", 23, 2, false, "", "", 16⟩] := by unfold Program.fieldsOf; rw [Try.underlying131]
theorem fieldsOf129 : Try.prog.fieldsOf 129 = #[⟨"Node", 3, 0, false, "", "", 0⟩, ⟨"Minus", 3, 1, false, "", "", 8⟩] := by unfold Program.fieldsOf; rw [Try.underlying129]
theorem eqSub (w : World) (d : Nat) (a b a2 b2 : Int) : (Op.equalIn (d + 2) 129 (.agg [I a, I b].toArray) (.agg [I a2, I b2].toArray)).run Try.prog w = .ok (decide (a = a2) && decide (b = b2)) w := by
  rw [run_equalIn_struct w (d + 1) 129 _ _ fields129 held129, fieldsOf129]
  have p1 : ∀ (a b : Int) w, (part 3 [I a, I b].toArray 0).run Try.prog w = .ok (I a) w := fun a b => part1 Try.isAgg3 rfl
  have p2 : ∀ (a b : Int) w, (part 3 [I a, I b].toArray 1).run Try.prog w = .ok (I b) w := fun a b => part1 Try.isAgg3 rfl
  have e : ∀ (a b : Int) w, (Op.equalIn (d + 1) 3 (I a) (I b)).run Try.prog w = .ok (decide (a = b)) w := fun a b w => by
    rw [run_equalIn_int w d 3 .i64 .i64 _ _ Try.underlying3]
    congr 1
  rw [show (#[⟨"Node", 3, 0, false, "", "", 0⟩, ⟨"Minus", 3, 1, false, "", "", 8⟩] : Array Field).toList = [⟨"Node", 3, 0, false, "", "", 0⟩, ⟨"Minus", 3, 1, false, "", "", 8⟩] from rfl]
  by_cases h1 : a = a2 <;> by_cases h2 : b = b2 <;> simp [Op.eqFields, p1, p2, e, h1, h2]
theorem eqItem (w : World) (d : Nat) (p q : Int × Int × Key) : (Op.equalIn (d + 3) 131 (LabV p) (LabV q)).run Try.prog w = .ok (decide (p = q)) w := by
  rw [run_equalIn_struct w (d + 2) 131 _ _ fields131 held131, fieldsOf131]
  have p1 : ∀ p w, (part 129 (lc p).toArray 0).run Try.prog w = .ok (.agg [I p.1, I p.2.1].toArray) w := fun p => partN (n := 2) Try.isAgg129 Try.sizeOf129 rfl
  have p3 : ∀ p w, (part 23 (lc p).toArray 2).run Try.prog w = .ok (K p.2.2) w := fun p => partN Try.isAgg23 Try.sizeOf23 (by simp only [lc, List.cons_append, List.nil_append, List.drop_succ_cons, List.drop_zero]; exact take_len (kc_len _))
  rw [show (#[⟨"Subset", 129, 0, false, "", "", 0⟩, ⟨"Box", 23, 2, false, "", "", 16⟩] : Array Field).toList = [⟨"Subset", 129, 0, false, "", "", 0⟩, ⟨"Box", 23, 2, false, "", "", 16⟩] from rfl]
  by_cases h1 : p.1 = q.1 <;> by_cases h2 : p.2.1 = q.2.1 <;> by_cases h3 : p.2.2 = q.2.2 <;> simp [Op.eqFields, p1, p3, eqSub, eqKey, h1, h2, h3, Prod.ext_iff]
theorem r_neItem {p q : Int × Int × Key} : R2 Try.prog .neq 131 (LabV p) (LabV q) (.bool (!decide (p = q))) := (r_agg guard131 fun w => eqItem w 9997 p q).2


theorem SameHeader_c (base n c c2 ni ci ci2 : Nat) (A A2 Ai Ai2 : Option Addr) (box chk : Key) (its : List (Int × Int × Key)) (l : List (Nat × Nat)) (hil : its.length = ni) (hl : l.length = n) (hn : n ≤ 9223372036854775800) (hin : ni ≤ 9223372036854775800) (w : World) (hRi : Rd w Ai (its.flatMap lc)) (hRi2 : Rd w Ai2 (its.flatMap lc)) (hR : Rd w A (pc l)) (hR2 : Rd w A2 (pc l)) : RetF Try.prog 23 [HV (.slice Ai ni ci) base (.slice A n c) box chk, HV (.slice Ai2 ni ci2) base (.slice A2 n c2) box chk].toArray w (.is (.bool true)) := by
  refine enter Try.func23 rfl Try.ntmps23 rfl fun a hF => ?_
  have hw := Own.start w
  refine wp_seq (wp_region_lit ?_)
  refine t_net 0 1 (by kernel_rfl) rfl hF ?_
  refine net_cons rfl rfl (n_box rfl (ev rfl) rfl) ?_
  refine net_nil fun a w1 hF hx => ?_
  obtain ⟨b2, h_, hw⟩ := hw.blk hx (hF.at_ 2 _ rfl)
  replace hF := hF.now h_
  replace hF := hF.keep (.cons (t := 1) rfl (.cons (t := 2) rfl .nil))
  refine t_net 1 1 (by kernel_rfl) rfl hF ?_
  refine net_cons rfl rfl (n_box rfl (ev rfl) rfl) ?_
  refine net_nil fun a w1 hF hx => ?_
  obtain ⟨b3, h_, hw⟩ := hw.blk hx (hF.at_ 3 _ rfl)
  replace hF := hF.now h_
  replace hF := hF.keep (.cons (t := 2) rfl (.cons (t := 3) rfl .nil))
  refine t_net 2 1 (by kernel_rfl) rfl hF ?_
  refine net_cons rfl rfl (n_assign rfl evc) ?_
  refine net_nil fun a w1 hF hx => ?_
  replace hw := hw.next hx
  replace hF := hF.keep (.cons (t := 2) rfl (.cons (t := 3) rfl (.cons (t := 4) rfl .nil)))
  refine wpList_nil ?_
  refine wp_seq ?_
  refine wp_seq (reg_seq 37 (hF _ _) (by kernel_rfl) ?_)
  refine net_cons rfl rfl (n_fieldAddrO (off' := 0) rfl (ev rfl) Try.runUnderlying45 rfl Try.sizeOf42 rfl) ?_
  refine net_cons rfl rfl (n_load rfl (ev rfl) (ld1 hw (i := 0) rfl Try.isAgg42 rfl)) ?_
  refine net_cons rfl rfl (n_len rfl (ev rfl) Try.underlying42) ?_
  refine net_cons rfl rfl (n_fieldAddrO (off' := 0) rfl (ev rfl) Try.runUnderlying45 rfl Try.sizeOf42 rfl) ?_
  refine net_cons rfl rfl (n_load rfl (ev rfl) (ld1 hw (i := 1) rfl Try.isAgg42 rfl)) ?_
  refine net_cons rfl rfl (n_len rfl (ev rfl) Try.underlying42) ?_
  refine net_cons rfl rfl (n_bin rfl (ev rfl) (ev rfl) r_neq) ?_
  refine net_cons rfl rfl (n_move rfl (ev rfl)) ?_
  refine net_if rfl rfl rfl rfl (fun hc => (n_fieldAddrO (off' := 2) rfl (ev rfl) Try.runUnderlying45 rfl Try.sizeOf43 rfl)) ?_
  refine net_if rfl rfl rfl rfl (fun hc => (n_load rfl (evi rfl hc) (ld1 hw (i := 0) rfl Try.isAgg43 rfl))) ?_
  refine net_if rfl rfl rfl rfl (fun hc => (n_len rfl (evi rfl hc) Try.underlying43)) ?_
  refine net_if rfl rfl rfl rfl (fun hc => (n_fieldAddrO (off' := 2) rfl (ev rfl) Try.runUnderlying45 rfl Try.sizeOf43 rfl)) ?_
  refine net_if rfl rfl rfl rfl (fun hc => (n_load rfl (evi rfl hc) (ld1 hw (i := 1) rfl Try.isAgg43 rfl))) ?_
  refine net_if rfl rfl rfl rfl (fun hc => (n_len rfl (evi rfl hc) Try.underlying43)) ?_
  refine net_if rfl rfl rfl rfl (fun hc => (n_bin rfl (evi rfl hc) (evi rfl hc) r_neq)) ?_
  refine net_cons rfl rfl (n_pick_or rfl (ev rfl) (fun h => (evi rfl h))) ?_
  refine net_cons rfl rfl (n_move rfl (ev rfl)) ?_
  refine net_if rfl rfl rfl rfl (fun hc => (n_fieldAddrO (off' := 1) rfl (ev rfl) Try.runUnderlying45 rfl Try.sizeOf24 rfl)) ?_
  refine net_if rfl rfl rfl rfl (fun hc => (n_load rfl (evi rfl hc) (ld1 hw (i := 0) rfl Try.isAgg24 rfl))) ?_
  refine net_if rfl rfl rfl rfl (fun hc => (n_fieldAddrO (off' := 1) rfl (ev rfl) Try.runUnderlying45 rfl Try.sizeOf24 rfl)) ?_
  refine net_if rfl rfl rfl rfl (fun hc => (n_load rfl (evi rfl hc) (ld1 hw (i := 1) rfl Try.isAgg24 rfl))) ?_
  refine net_if rfl rfl rfl rfl (fun hc => (n_bin rfl (evi rfl hc) (evi rfl hc) (r_neqN))) ?_
  refine net_cons rfl rfl (n_pick_or rfl (ev rfl) (fun h => (evi rfl h))) ?_
  refine net_cons rfl rfl (n_move rfl (ev rfl)) ?_
  refine net_if rfl rfl rfl rfl (fun hc => (n_fieldAddrO (off' := 3) rfl (ev rfl) Try.runUnderlying45 rfl Try.sizeOf23 rfl)) ?_
  refine net_if rfl rfl rfl rfl (fun hc => (n_load rfl (evi rfl hc) (ldN hw (i := 0) (vs := _) rfl Try.isAgg23 Try.sizeOf23 (kc_len _) (hcs_box_at _ _ _ _ _)))) ?_
  refine net_if rfl rfl rfl rfl (fun hc => (n_fieldAddrO (off' := 3) rfl (ev rfl) Try.runUnderlying45 rfl Try.sizeOf23 rfl)) ?_
  refine net_if rfl rfl rfl rfl (fun hc => (n_load rfl (evi rfl hc) (ldN hw (i := 1) (vs := _) rfl Try.isAgg23 Try.sizeOf23 (kc_len _) (hcs_box_at _ _ _ _ _)))) ?_
  refine net_if rfl rfl rfl rfl (fun hc => (n_bin rfl (evi rfl hc) (evi rfl hc) r_neKey)) ?_
  refine net_cons rfl rfl (n_pick_or rfl (ev rfl) (fun h => (evi rfl h))) ?_
  refine net_cons rfl rfl (n_move rfl (ev rfl)) ?_
  refine net_if rfl rfl rfl rfl (fun hc => (n_fieldAddrO (off' := 19) rfl (ev rfl) Try.runUnderlying45 rfl Try.sizeOf23 rfl)) ?_
  refine net_if rfl rfl rfl rfl (fun hc => (n_load rfl (evi rfl hc) (ldN hw (i := 0) (vs := _) rfl Try.isAgg23 Try.sizeOf23 (kc_len _) (hcs_chk_at _ _ _ _ _)))) ?_
  refine net_if rfl rfl rfl rfl (fun hc => (n_fieldAddrO (off' := 19) rfl (ev rfl) Try.runUnderlying45 rfl Try.sizeOf23 rfl)) ?_
  refine net_if rfl rfl rfl rfl (fun hc => (n_load rfl (evi rfl hc) (ldN hw (i := 1) (vs := _) rfl Try.isAgg23 Try.sizeOf23 (kc_len _) (hcs_chk_at _ _ _ _ _)))) ?_
  refine net_if rfl rfl rfl rfl (fun hc => (n_bin rfl (evi rfl hc) (evi rfl hc) r_neKey)) ?_
  refine net_cons rfl rfl (n_pick_or rfl (ev rfl) (fun h => (evi rfl h))) ?_
  refine net_nil fun a w1 hF hx => ?_
  replace hw := hw.next hx
  replace hF := hF.keep (.cons (t := 2) rfl (.cons (t := 3) rfl (.cons (t := 4) rfl (.cons (t := 43) rfl .nil))))
  refine wpList_nil ?_
  refine wp_cond_false ((hF.ev (ev rfl)).trans (congrArg Value.bool (by simp))) ?_
  refine wp_skip ?_
  refine wp_seq ?_
  refine wp_seq (reg_seq 1 (hF _ _) (by kernel_rfl) ?_)
  refine net_cons rfl rfl (n_assign rfl evc) ?_
  refine net_nil fun a w1 hF hx => ?_
  replace hw := hw.next hx
  replace hF := hF.keep (.cons (t := 2) rfl (.cons (t := 3) rfl (.cons (t := 4) rfl (.cons (t := 5) rfl (.cons (t := 43) rfl .nil)))))
  refine wpList_nil ?_
  refine wp_block ?_
  refine wp_loop_ix (α := Nat) (fun i a w1 => FrV 80 [] [(2, .is (.pointer (some ⟨b2, 0, none⟩))) , (3, .is (.pointer (some ⟨b3, 0, none⟩))) , (5, .is (I (i : Int)))] a ∧ Own w w1 [.blk b2 45 (hcs (.slice Ai ni ci) base (.slice A n c) box chk), .blk b3 45 (hcs (.slice Ai2 ni ci2) base (.slice A2 n c2) box chk)] ∧ (i ≤ ni)) (fun i => ni - i) (0) ⟨hF.keep (.cons (t := 2) rfl (.cons (t := 3) rfl (.cons (t := 5) rfl (.nil)))), hw, by omega⟩ ?_
  rintro i a w1 ⟨hF, hw, hi0⟩
  refine wp_seq ?_
  refine wp_seq (reg_seq 5 (hF _ _) (by kernel_rfl) ?_)
  refine net_cons rfl rfl (n_move rfl (ev rfl)) ?_
  refine net_cons rfl rfl (n_fieldAddrO (off' := 0) rfl (ev rfl) Try.runUnderlying45 rfl Try.sizeOf42 rfl) ?_
  refine net_cons rfl rfl (n_load rfl (ev rfl) (ld1 hw (i := 0) rfl Try.isAgg42 rfl)) ?_
  refine net_cons rfl rfl (n_len rfl (ev rfl) Try.underlying42) ?_
  refine net_cons rfl rfl (n_bin rfl (ev rfl) (ev rfl) r_lssN) ?_
  refine net_nil fun a w1 hF hx => ?_
  replace hw := hw.next hx
  replace hF := hF.keep (.cons (t := 2) rfl (.cons (t := 3) rfl (.cons (t := 5) rfl (.cons (t := 48) rfl .nil))))
  refine wpList_nil ?_
  refine wp_cond_split (hF.ev (ev rfl)) (fun h48 => ?_) (fun h48 => ?_)
  · have hi : i < ni := of_bool_t h48
    obtain ⟨z, hz0⟩ := some_at hil hi
    have hfl := fm_len lc_len its
    have hF_ := hF
    have hw_ := hw
    obtain ⟨bX, oX, rfl, hcX⟩ := hRi.at_ (by omega)
    obtain ⟨bY, oY, rfl, hcY⟩ := hRi2.at_ (by omega)
    have hF := hF_
    have hw := hw_
    refine wp_skip ?_
    refine wp_seq (wp_block ?_)
    refine wp_seq (reg_draw 11 mixed (by kernel_rfl) (hF _ _) ?_)
    refine net_cons rfl rfl (n_fieldAddrO (off' := 0) rfl (ev rfl) Try.runUnderlying45 rfl Try.sizeOf42 rfl) ?_
    refine net_cons rfl rfl (n_load rfl (ev rfl) (ld1 hw (i := 0) rfl Try.isAgg42 rfl)) ?_
    refine net_cons rfl rfl (n_move rfl (ev rfl)) ?_
    refine net_cons rfl rfl (n_indexS (off' := oX + (i) * 18) rfl (ev rfl) (ev rfl) Try.underlying42 Try.sizeOf131 (by omega) rfl) ?_
    refine net_cons rfl rfl (n_load rfl (ev rfl) (fun w2 hx2 => ldNR hcX (fm_at lc_len hz0) (lc_len _) Try.isAgg131 Try.sizeOf131 (by omega) w2 (hw.ext.trans hx2))) ?_
    refine net_cons rfl rfl (n_fieldAddrO (off' := 0) rfl (ev rfl) Try.runUnderlying45 rfl Try.sizeOf42 rfl) ?_
    refine net_cons rfl rfl (n_load rfl (ev rfl) (ld1 hw (i := 1) rfl Try.isAgg42 rfl)) ?_
    refine net_cons rfl rfl (n_move rfl (ev rfl)) ?_
    refine net_cons rfl rfl (n_indexS (off' := oY + (i) * 18) rfl (ev rfl) (ev rfl) Try.underlying42 Try.sizeOf131 (by omega) rfl) ?_
    refine net_cons rfl rfl (n_load rfl (ev rfl) (fun w2 hx2 => ldNR hcY (fm_at lc_len hz0) (lc_len _) Try.isAgg131 Try.sizeOf131 (by omega) w2 (hw.ext.trans hx2))) ?_
    refine net_cons rfl rfl (n_bin rfl (ev rfl) (ev rfl) (r_neItem (p := z) (q := z))) ?_
    refine net_nil fun a w1 hF hx => ?_
    replace hw := hw.next hx
    replace hF := hF.keep (.cons (t := 2) rfl (.cons (t := 3) rfl (.cons (t := 5) rfl (.cons (t := 48) rfl (.cons (t := 61) rfl .nil)))))
    refine wpList_nil ?_
    refine wp_cond_false ((hF.ev (ev rfl)).trans (congrArg Value.bool (by simp))) ?_
    refine wp_skip ?_
    refine reg_seq 3 (hF _ _) (by kernel_rfl) ?_
    refine net_cons rfl rfl (n_move rfl (ev rfl)) ?_
    refine net_cons rfl rfl (n_bin rfl (ev rfl) evc (r_inc (by omega))) ?_
    refine net_cons rfl rfl (n_assign rfl (ev rfl)) ?_
    refine net_nil fun a w1 hF hx => ?_
    replace hw := hw.next hx
    replace hF := hF.keep (.cons (t := 2) rfl (.cons (t := 3) rfl (.cons (t := 5) rfl (.cons (t := 48) rfl (.cons (t := 61) rfl .nil)))))
    refine wpList_nil ?_
    exact ⟨i + 1, ⟨hF.keep (.cons (t := 2) rfl (.cons (t := 3) rfl (.cons (t := 5) rfl (.nil)))), hw, by omega⟩, by omega⟩
  · refine wp_exit (go_then_e (go_then_e (go_exit ?_)))
    refine wp_seq ?_
    refine wp_seq (reg_seq 1 (hF _ _) (by kernel_rfl) ?_)
    refine net_cons rfl rfl (n_assign rfl evc) ?_
    refine net_nil fun a w1 hF hx => ?_
    replace hw := hw.next hx
    replace hF := hF.keep (.cons (t := 2) rfl (.cons (t := 3) rfl (.cons (t := 5) rfl (.cons (t := 6) rfl (.cons (t := 48) rfl .nil)))))
    refine wpList_nil ?_
    refine wp_block ?_
    refine wp_loop_ix (α := Nat) (fun i a w1 => FrV 80 [] [(2, .is (.pointer (some ⟨b2, 0, none⟩))) , (3, .is (.pointer (some ⟨b3, 0, none⟩))) , (6, .is (I (i : Int)))] a ∧ Own w w1 [.blk b2 45 (hcs (.slice Ai ni ci) base (.slice A n c) box chk), .blk b3 45 (hcs (.slice Ai2 ni ci2) base (.slice A2 n c2) box chk)] ∧ (i ≤ n)) (fun i => n - i) (0) ⟨hF.keep (.cons (t := 2) rfl (.cons (t := 3) rfl (.cons (t := 6) rfl (.nil)))), hw, by omega⟩ ?_
    rintro i a w1 ⟨hF, hw, hi0⟩
    refine wp_seq ?_
    refine wp_seq (reg_seq 5 (hF _ _) (by kernel_rfl) ?_)
    refine net_cons rfl rfl (n_move rfl (ev rfl)) ?_
    refine net_cons rfl rfl (n_fieldAddrO (off' := 2) rfl (ev rfl) Try.runUnderlying45 rfl Try.sizeOf43 rfl) ?_
    refine net_cons rfl rfl (n_load rfl (ev rfl) (ld1 hw (i := 0) rfl Try.isAgg43 rfl)) ?_
    refine net_cons rfl rfl (n_len rfl (ev rfl) Try.underlying43) ?_
    refine net_cons rfl rfl (n_bin rfl (ev rfl) (ev rfl) r_lssN) ?_
    refine net_nil fun a w1 hF hx => ?_
    replace hw := hw.next hx
    replace hF := hF.keep (.cons (t := 2) rfl (.cons (t := 3) rfl (.cons (t := 6) rfl (.cons (t := 66) rfl .nil))))
    refine wpList_nil ?_
    refine wp_cond_split (hF.ev (ev rfl)) (fun h66 => ?_) (fun h66 => ?_)
    · have hi : i < n := of_bool_t h66
      obtain ⟨z, hz0⟩ := some_at hl hi
      have hfl := pc_len l
      have hF_ := hF
      have hw_ := hw
      obtain ⟨bX, oX, rfl, hcX⟩ := hR.at_ (by omega)
      obtain ⟨bY, oY, rfl, hcY⟩ := hR2.at_ (by omega)
      have hF := hF_
      have hw := hw_
      refine wp_skip ?_
      refine wp_seq (wp_block ?_)
      refine wp_seq (reg_draw 11 mixed (by kernel_rfl) (hF _ _) ?_)
      refine net_cons rfl rfl (n_fieldAddrO (off' := 2) rfl (ev rfl) Try.runUnderlying45 rfl Try.sizeOf43 rfl) ?_
      refine net_cons rfl rfl (n_load rfl (ev rfl) (ld1 hw (i := 0) rfl Try.isAgg43 rfl)) ?_
      refine net_cons rfl rfl (n_move rfl (ev rfl)) ?_
      refine net_cons rfl rfl (n_indexS (off' := oX + (i) * 2) rfl (ev rfl) (ev rfl) Try.underlying43 Try.sizeOf31 (by omega) rfl) ?_
      refine net_cons rfl rfl (n_load rfl (ev rfl) (fun w2 hx2 => ldNR hcX (fm_at (f := fun p : Nat × Nat => [U p.1, U p.2]) (sz := 2) (fun _ => rfl) hz0) rfl Try.isAgg31 Try.sizeOf31 (by omega) w2 (hw.ext.trans hx2))) ?_
      refine net_cons rfl rfl (n_fieldAddrO (off' := 2) rfl (ev rfl) Try.runUnderlying45 rfl Try.sizeOf43 rfl) ?_
      refine net_cons rfl rfl (n_load rfl (ev rfl) (ld1 hw (i := 1) rfl Try.isAgg43 rfl)) ?_
      refine net_cons rfl rfl (n_move rfl (ev rfl)) ?_
      refine net_cons rfl rfl (n_indexS (off' := oY + (i) * 2) rfl (ev rfl) (ev rfl) Try.underlying43 Try.sizeOf31 (by omega) rfl) ?_
      refine net_cons rfl rfl (n_load rfl (ev rfl) (fun w2 hx2 => ldNR hcY (fm_at (f := fun p : Nat × Nat => [U p.1, U p.2]) (sz := 2) (fun _ => rfl) hz0) rfl Try.isAgg31 Try.sizeOf31 (by omega) w2 (hw.ext.trans hx2))) ?_
      refine net_cons rfl rfl (n_bin rfl (ev rfl) (ev rfl) (r_nePt (p := z) (q := z))) ?_
      refine net_nil fun a w1 hF hx => ?_
      replace hw := hw.next hx
      replace hF := hF.keep (.cons (t := 2) rfl (.cons (t := 3) rfl (.cons (t := 6) rfl (.cons (t := 66) rfl (.cons (t := 79) rfl .nil)))))
      refine wpList_nil ?_
      refine wp_cond_false ((hF.ev (ev rfl)).trans (congrArg Value.bool (by simp))) ?_
      refine wp_skip ?_
      refine reg_seq 3 (hF _ _) (by kernel_rfl) ?_
      refine net_cons rfl rfl (n_move rfl (ev rfl)) ?_
      refine net_cons rfl rfl (n_bin rfl (ev rfl) evc (r_inc (by omega))) ?_
      refine net_cons rfl rfl (n_assign rfl (ev rfl)) ?_
      refine net_nil fun a w1 hF hx => ?_
      replace hw := hw.next hx
      replace hF := hF.keep (.cons (t := 2) rfl (.cons (t := 3) rfl (.cons (t := 6) rfl (.cons (t := 66) rfl (.cons (t := 79) rfl .nil)))))
      refine wpList_nil ?_
      exact ⟨i + 1, ⟨hF.keep (.cons (t := 2) rfl (.cons (t := 3) rfl (.cons (t := 6) rfl (.nil)))), hw, by omega⟩, by omega⟩
    · refine wp_exit (go_then_e (go_then_e (go_exit ?_)))
      refine wp_seq (reg_seq 1 (hF _ _) (by kernel_rfl) ?_)
      refine net_cons rfl rfl (n_assign rfl evc) ?_
      refine net_nil fun a w1 hF hx => ?_
      replace hw := hw.next hx
      replace hF := hF.keep (.cons (t := 2) rfl (.cons (t := 3) rfl (.cons (t := 4) rfl (.cons (t := 6) rfl (.cons (t := 66) rfl .nil)))))
      refine wpList_nil ?_
      refine wp_ret (ret1 hF Try.results23 rfl ?_)
      exact ⟨_, rfl, hw.ext, rfl⟩

theorem PolyOpens_c (kd : Nat) (dp dg : Int) (p q g : Nat) (r : Int) (sx sy m cl : Nat) (Al : Option Addr) (labs : List (Int × Int × Key)) (ni ci base n c : Nat) (Ai A : Option Addr) (its : List (Int × Int × Key)) (pts : List (Nat × Nat)) (box chk : Key) (hp : p < 18446744073709551616) (hq : q < 18446744073709551616) (hg : g < 18446744073709551616) (hll : labs.length = m) (hm : m ≤ 4398046511000) (hil : its.length = ni) (hin : ni ≤ 4398046511000) (hl : pts.length = n) (hn : n ≤ 8796093021952) (w : World) (hRl : Rd w Al (labs.flatMap lc)) (hRi : Rd w Ai (its.flatMap lc)) (hR : Rd w A (pc pts)) : RetF Try.prog 5 [SV kd dp dg p q g, SecV r (.slice Al m cl) sx sy, HV (.slice Ai ni ci) base (.slice A n c) box chk].toArray w (.is (.bool true)) := by
  refine enter Try.func5 rfl Try.ntmps5 rfl fun a hF => ?_
  have hw := Own.start w
  refine wp_seq (wp_region_lit ?_)
  refine t_net 0 1 (by kernel_rfl) rfl hF ?_
  refine net_cons rfl rfl (n_box rfl (ev rfl) rfl) ?_
  refine net_nil fun a w1 hF hx => ?_
  obtain ⟨b3, h_, hw⟩ := hw.blk hx (hF.at_ 3 _ rfl)
  replace hF := hF.now h_
  replace hF := hF.keep (.cons (t := 1) rfl (.cons (t := 2) rfl (.cons (t := 3) rfl .nil)))
  refine t_net 1 1 (by kernel_rfl) rfl hF ?_
  refine net_cons rfl rfl (n_box rfl (ev rfl) rfl) ?_
  refine net_nil fun a w1 hF hx => ?_
  obtain ⟨b4, h_, hw⟩ := hw.blk hx (hF.at_ 4 _ rfl)
  replace hF := hF.now h_
  replace hF := hF.keep (.cons (t := 2) rfl (.cons (t := 3) rfl (.cons (t := 4) rfl .nil)))
  refine t_net 2 1 (by kernel_rfl) rfl hF ?_
  refine net_cons rfl rfl (n_box rfl (ev rfl) rfl) ?_
  refine net_nil fun a w1 hF hx => ?_
  obtain ⟨b5, h_, hw⟩ := hw.blk hx (hF.at_ 5 _ rfl)
  replace hF := hF.now h_
  replace hF := hF.keep (.cons (t := 3) rfl (.cons (t := 4) rfl (.cons (t := 5) rfl .nil)))
  refine t_net 3 1 (by kernel_rfl) rfl hF ?_
  refine net_cons rfl rfl (n_assign rfl evc) ?_
  refine net_nil fun a w1 hF hx => ?_
  replace hw := hw.next hx
  replace hF := hF.keep (.cons (t := 3) rfl (.cons (t := 4) rfl (.cons (t := 5) rfl (.cons (t := 6) rfl .nil))))
  refine wpList_nil ?_
  refine wp_seq (reg_draw 6 mixed (by kernel_rfl) (hF _ _) ?_)
  refine net_cons rfl rfl (n_load rfl (ev rfl) (ldN hw (i := 1) (vs := _) rfl Try.isAgg33 Try.sizeOf33 rfl rfl)) ?_
  refine net_cons rfl rfl (n_ret rfl Try.call25 (.cons (ev rfl) .nil) (fun _ hx => (TwinSecret_c r sx sy m cl Al labs hll hm _ (hRl.ext (hw.ext.trans hx))))) ?_
  refine net_cons rfl rfl (n_load rfl (ev rfl) (ldN hw (i := 2) (vs := _) rfl Try.isAgg45 Try.sizeOf45 (hcs_len _ _ _ _ _) (cut_whole (hcs_len _ _ _ _ _)))) ?_
  refine net_cons rfl rfl (n_ret rfl Try.call26 (.cons (ev rfl) .nil) (fun _ hx => (TwinHeader_c ni ci base n c Ai A its pts box chk hil hl hin (by omega) _ (hRi.ext (hw.ext.trans hx)) (hR.ext (hw.ext.trans hx))))) ?_
  refine net_cons rfl rfl (n_alloc rfl Try.zeroValue33 rfl) ?_
  refine net_cons rfl rfl (n_alloc rfl Try.zeroValue45 rfl) ?_
  refine net_nil fun a w1 hF hx => ?_
  obtain ⟨s14, h14_, e14_⟩ := hF.at_ 14 _ rfl
  obtain ⟨s16, u16, h16_, l16_, e16_⟩ := hF.at_ 16 _ rfl
  obtain ⟨b7, e7_, l7_, h7_⟩ := hF.at_ 7 _ rfl
  obtain ⟨b8, e8_, l8_, h8_⟩ := hF.at_ 8 _ rfl
  replace hw := hw.addAll hx (nrow h14_ (nrow h16_ (nrow l16_ (nblk l7_ h7_ (nblk l8_ h8_ .nil rfl) rfl) rfl) rfl) rfl)
  replace hF := ((((hF.now e14_).now e16_).now e7_).now e8_)
  replace hF := hF.keep (.cons (t := 3) rfl (.cons (t := 4) rfl (.cons (t := 5) rfl (.cons (t := 6) rfl (.cons (t := 7) rfl (.cons (t := 8) rfl (.cons (t := 14) rfl (.cons (t := 16) rfl .nil))))))))
  obtain ⟨As, cs, rfl, _, _, _⟩ := hw.rd (i := 3) rfl
  obtain ⟨Au, cu, rfl, _, _, _⟩ := hw.rd (i := 4) rfl
  obtain ⟨Av, cv, rfl, hlev, _, _⟩ := hw.rd (i := 5) rfl
  refine t_store (i := 6) rfl rfl rfl hF hw rfl (ev rfl) (ev rfl) rfl one4 Try.sizeOf33 rfl (Nat.le_of_ble_eq_true rfl) rfl fun w1 hw => ?_
  refine t_store (i := 7) rfl rfl rfl hF hw rfl (ev rfl) (ev rfl) rfl one_hcs Try.sizeOf45 (hcs_len _ _ _ _ _) (by first | decide | (rw [hcs_len]; decide)) (seg_whole (by rw [hcs_len] <;> rfl)) fun w1 hw => ?_
  refine wpList_nil ?_
  obtain ⟨_, _, hse_, _, hRv, _⟩ := hw.rd (i := 5) rfl
  injection hse_ with hA_ _ _
  subst hA_
  refine wp_seq (wp_region_lit ?_)
  refine t_net 0 8 (by kernel_rfl) rfl hF ?_
  refine net_cons rfl rfl (n_load rfl (ev rfl) (ldN hw (i := 0) (vs := _) rfl Try.isAgg28 Try.sizeOf28 rfl rfl)) ?_
  refine net_cons rfl rfl (n_load rfl (ev rfl) (ldN hw (i := 6) (vs := _) rfl Try.isAgg33 Try.sizeOf33 rfl rfl)) ?_
  refine net_cons rfl rfl (n_load rfl (ev rfl) (ldN hw (i := 7) (vs := _) rfl Try.isAgg45 Try.sizeOf45 (hcs_len _ _ _ _ _) (cut_whole (hcs_len _ _ _ _ _)))) ?_
  refine net_cons rfl rfl (n_ret rfl Try.call27 (.cons (ev rfl) (.cons (ev rfl) (.cons (ev rfl) .nil))) (fun _ hx => (Open_c kd dp dg p q g ni cu base n cv Au Av pts box chk r (.slice As m cs) sx sy hp hq hg hl hlev hn _ (hRv.ext hx)))) ?_
  refine net_cons rfl rfl (n_move rfl (ev rfl)) ?_
  refine net_cons rfl rfl (n_extract rfl (ev rfl) rfl) ?_
  refine net_cons rfl rfl (n_extract rfl (ev rfl) rfl) ?_
  refine net_cons rfl rfl (n_alloc rfl Try.zeroValue23 rfl) ?_
  refine net_nil fun a w1 hF hx => ?_
  obtain ⟨b9, h_, hw⟩ := hw.blk hx (hF.at_ 9 _ rfl)
  replace hF := hF.now h_
  replace hF := hF.keep (.cons (t := 3) rfl (.cons (t := 4) rfl (.cons (t := 5) rfl (.cons (t := 6) rfl (.cons (t := 7) rfl (.cons (t := 8) rfl (.cons (t := 9) rfl (.cons (t := 14) rfl (.cons (t := 16) rfl (.cons (t := 22) rfl (.cons (t := 23) rfl .nil)))))))))))
  refine t_store (i := 8) rfl rfl rfl hF hw rfl (ev rfl) (ev rfl) rfl (kc_one _) Try.sizeOf23 (kc_len _) (by first | decide | (rw [kc_len]; decide)) (seg_whole (by rw [kc_len]; rfl)) fun w1 hw => ?_
  refine t_net 9 1 (by kernel_rfl) rfl hF ?_
  refine net_cons rfl rfl (n_assign rfl (ev rfl)) ?_
  refine net_nil fun a w1 hF hx => ?_
  replace hw := hw.next hx
  replace hF := hF.keep (.cons (t := 3) rfl (.cons (t := 4) rfl (.cons (t := 5) rfl (.cons (t := 6) rfl (.cons (t := 7) rfl (.cons (t := 8) rfl (.cons (t := 9) rfl (.cons (t := 10) rfl (.cons (t := 14) rfl (.cons (t := 16) rfl .nil))))))))))
  refine wpList_nil ?_
  refine wp_seq (wp_region_lit ?_)
  refine t_net 0 8 (by kernel_rfl) rfl hF ?_
  refine net_cons rfl rfl (n_load rfl (ev rfl) (ldN hw (i := 0) (vs := _) rfl Try.isAgg28 Try.sizeOf28 rfl rfl)) ?_
  refine net_cons rfl rfl (n_load rfl (ev rfl) (ldN hw (i := 1) (vs := _) rfl Try.isAgg33 Try.sizeOf33 rfl rfl)) ?_
  refine net_cons rfl rfl (n_load rfl (ev rfl) (ldN hw (i := 2) (vs := _) rfl Try.isAgg45 Try.sizeOf45 (hcs_len _ _ _ _ _) (cut_whole (hcs_len _ _ _ _ _)))) ?_
  refine net_cons rfl rfl (n_ret rfl Try.call28 (.cons (ev rfl) (.cons (ev rfl) (.cons (ev rfl) .nil))) (fun _ hx => (rOpen_c kd dp dg p q g ni ci base n c Ai A pts box chk r (.slice Al m cl) sx sy hp hq hg hl hn _ (hR.ext (hw.ext.trans hx))))) ?_
  refine net_cons rfl rfl (n_move rfl (ev rfl)) ?_
  refine net_cons rfl rfl (n_extract rfl (ev rfl) rfl) ?_
  refine net_cons rfl rfl (n_extract rfl (ev rfl) rfl) ?_
  refine net_cons rfl rfl (n_alloc rfl Try.zeroValue23 rfl) ?_
  refine net_nil fun a w1 hF hx => ?_
  obtain ⟨b11, h_, hw⟩ := hw.blk hx (hF.at_ 11 _ rfl)
  replace hF := hF.now h_
  replace hF := hF.keep (.cons (t := 3) rfl (.cons (t := 4) rfl (.cons (t := 5) rfl (.cons (t := 6) rfl (.cons (t := 7) rfl (.cons (t := 8) rfl (.cons (t := 9) rfl (.cons (t := 10) rfl (.cons (t := 11) rfl (.cons (t := 14) rfl (.cons (t := 16) rfl (.cons (t := 29) rfl (.cons (t := 30) rfl .nil)))))))))))))
  refine t_store (i := 9) rfl rfl rfl hF hw rfl (ev rfl) (ev rfl) rfl (kc_one _) Try.sizeOf23 (kc_len _) (by first | decide | (rw [kc_len]; decide)) (seg_whole (by rw [kc_len]; rfl)) fun w1 hw => ?_
  refine t_net 9 1 (by kernel_rfl) rfl hF ?_
  refine net_cons rfl rfl (n_assign rfl (ev rfl)) ?_
  refine net_nil fun a w1 hF hx => ?_
  replace hw := hw.next hx
  replace hF := hF.keep (.cons (t := 3) rfl (.cons (t := 4) rfl (.cons (t := 5) rfl (.cons (t := 6) rfl (.cons (t := 7) rfl (.cons (t := 8) rfl (.cons (t := 9) rfl (.cons (t := 10) rfl (.cons (t := 11) rfl (.cons (t := 12) rfl (.cons (t := 14) rfl (.cons (t := 16) rfl .nil))))))))))))
  refine wpList_nil ?_
  obtain ⟨_, _, hse_, _, hRs, _⟩ := hw.rd (i := 3) rfl
  injection hse_ with hA_ _ _
  subst hA_
  obtain ⟨_, _, hse_, _, hRu, _⟩ := hw.rd (i := 4) rfl
  injection hse_ with hA_ _ _
  subst hA_
  obtain ⟨_, _, hse_, _, hRv, _⟩ := hw.rd (i := 5) rfl
  injection hse_ with hA_ _ _
  subst hA_
  refine wp_seq (reg_seq 19 (hF _ _) (by kernel_rfl) ?_)
  refine net_cons rfl rfl (n_load rfl (ev rfl) (ldN hw (i := 8) (vs := _) rfl Try.isAgg23 Try.sizeOf23 (kc_len _) (cut_whole (kc_len _)))) ?_
  refine net_cons rfl rfl (n_load rfl (ev rfl) (ldN hw (i := 9) (vs := _) rfl Try.isAgg23 Try.sizeOf23 (kc_len _) (cut_whole (kc_len _)))) ?_
  refine net_cons rfl rfl (n_bin rfl (ev rfl) (ev rfl) r_eqKey) ?_
  refine net_cons rfl rfl (n_move rfl (ev rfl)) ?_
  refine net_if rfl rfl rfl rfl (fun hc => (n_move rfl (ev rfl))) ?_
  refine net_if rfl rfl rfl rfl (fun hc => (n_move rfl (ev rfl))) ?_
  refine net_if rfl rfl rfl rfl (fun hc => (n_bin rfl (evi rfl hc) (evi rfl hc) r_eql)) ?_
  refine net_cons rfl rfl (n_pick_and rfl (ev rfl) (fun h => (evi rfl h))) ?_
  refine net_cons rfl rfl (n_move rfl (ev rfl)) ?_
  refine net_if rfl rfl rfl rfl (fun hc => (n_load rfl (ev rfl) (ldN hw (i := 6) (vs := _) rfl Try.isAgg33 Try.sizeOf33 rfl rfl))) ?_
  refine net_if rfl rfl rfl rfl (fun hc => (n_load rfl (ev rfl) (ldN hw (i := 1) (vs := _) rfl Try.isAgg33 Try.sizeOf33 rfl rfl))) ?_
  refine net_if rfl rfl rfl rfl (fun hc => (n_ret rfl Try.call20 (.cons (evi rfl hc) (.cons (evi rfl hc) .nil)) (fun _ hx => (SameSecret_c r sx sy m cs cl As Al labs hll (by omega) _ (hRs.ext hx) (hRl.ext (hw.ext.trans hx)))))) ?_
  refine net_cons rfl rfl (n_pick_and rfl (ev rfl) (fun h => (evi rfl h))) ?_
  refine net_cons rfl rfl (n_move rfl (ev rfl)) ?_
  refine net_if rfl rfl rfl rfl (fun hc => (n_load rfl (ev rfl) (ldN hw (i := 7) (vs := _) rfl Try.isAgg45 Try.sizeOf45 (hcs_len _ _ _ _ _) (cut_whole (hcs_len _ _ _ _ _))))) ?_
  refine net_if rfl rfl rfl rfl (fun hc => (n_load rfl (ev rfl) (ldN hw (i := 2) (vs := _) rfl Try.isAgg45 Try.sizeOf45 (hcs_len _ _ _ _ _) (cut_whole (hcs_len _ _ _ _ _))))) ?_
  refine net_if rfl rfl rfl rfl (fun hc => (n_ret rfl Try.call23 (.cons (evi rfl hc) (.cons (evi rfl hc) .nil)) (fun _ hx => (SameHeader_c base n cv c ni cu ci Av A Au Ai box chk its pts hil hl (by omega) (by omega) _ (hRu.ext hx) (hRi.ext (hw.ext.trans hx)) (hRv.ext hx) (hR.ext (hw.ext.trans hx)))))) ?_
  refine net_cons rfl rfl (n_pick_and rfl (ev rfl) (fun h => (evi rfl h))) ?_
  refine net_cons rfl rfl (n_assign rfl (ev rfl)) ?_
  refine net_nil fun a w1 hF hx => ?_
  replace hw := hw.next hx
  replace hF := hF.keep (.cons (t := 3) rfl (.cons (t := 4) rfl (.cons (t := 5) rfl (.cons (t := 6) rfl (.cons (t := 7) rfl (.cons (t := 8) rfl (.cons (t := 9) rfl (.cons (t := 11) rfl (.cons (t := 14) rfl (.cons (t := 16) rfl .nil))))))))))
  refine wpList_nil ?_
  refine wp_ret (ret1 hF Try.results5 rfl ?_)
  exact ⟨_, rfl, hw.ext, (by show Value.bool _ = Value.bool true; simp)⟩
end Go.Proofs.Ythgpojlcbbgaoaa

