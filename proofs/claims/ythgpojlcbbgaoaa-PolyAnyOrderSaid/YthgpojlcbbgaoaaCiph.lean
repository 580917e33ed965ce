/- the cipher of the program -/
import Derived.Test.YthgpojlcbbgaoaaProg
import Derived.Test.YthgpojlcbbgaoaaKey

set_option autoImplicit false
set_option maxRecDepth 100000
set_option linter.unusedVariables false
namespace Go.Proofs.Ythgpojlcbbgaoaa
open Go.RowKit

theorem mixed : Try.prog.follows .mixedOrders = true := by kernel_rfl
def rotl (x : BitVec 64) (s : Nat) : BitVec 64 := (x <<< s) ||| (x >>> (64 - s))
def rotn (k : Int) : Nat := (BitVec.ofInt 64 k &&& 63#64).toNat
theorem rotn_lt (k : Int) : rotn k < 64 := by
  unfold rotn
  rw [BitVec.toNat_and]
  exact Nat.lt_of_le_of_lt Nat.and_le_right (by decide)
theorem wrap_ofInt (k : Int) : IntKind.u64.wrap k = ((BitVec.ofInt 64 k).toNat : Int) := by
  rw [IntKind.wrap_u64, BitVec.toNat_ofInt]
  omega
theorem build_pair {x y : BitVec 64} (w : World) : (Instr.build 148 #[(0, W x), (1, W y)]).run Try.prog w = .ok (.agg [W x, W y].toArray) w := by
  simp [Instr.build, Try.zeroValue148, Try.runUnderlying148, Array.mapM_eq_mapM_toList, List.mapM_cons, Try.sizeOf24, Instr.fill, Value.cells]
/-- The words of a block. -/
abbrev PV (p : BitVec 64 × BitVec 64) : Value := .agg [W p.1, W p.2].toArray
def rnd (p : BitVec 64 × BitVec 64) (k : BitVec 64) : BitVec 64 × BitVec 64 := ((rotl p.1 (rotn (-8)) + p.2) ^^^ k, rotl p.2 (rotn 3) ^^^ ((rotl p.1 (rotn (-8)) + p.2) ^^^ k))
def bck (p : BitVec 64 × BitVec 64) (k : BitVec 64) : BitVec 64 × BitVec 64 := (rotl ((p.1 ^^^ k) - rotl (p.1 ^^^ p.2) (rotn (-3))) (rotn 8), rotl (p.1 ^^^ p.2) (rotn (-3)))
theorem one2 {u v : Value} (h1 : u.oneCell' = true) (h2 : v.oneCell' = true) : ∀ x ∈ [u, v], x.oneCell' = true := by
  intro x hx
  simp only [List.mem_cons, List.not_mem_nil, or_false] at hx
  rcases hx with rfl | rfl
  · exact h1
  · exact h2
theorem isE {E : Env} (h : (E.all fun p => match p.2 with | .is _ => true | _ => false) = true) : ∀ t f, look E t = some f → ∃ v, f = .is v := by
  induction E with
  | nil => intro t f h; cases h
  | cons p E ih =>
    obtain ⟨d, g⟩ := p
    intro t f hf
    rw [List.all_cons, Bool.and_eq_true] at h
    rw [look_cons] at hf
    by_cases e : d = t
    · rw [if_pos e] at hf
      injection hf with hf
      subst hf
      cases g with
      | is v => exact ⟨v, rfl⟩
      | _ => simp at h
    · rw [if_neg e] at hf
      exact ih h.2 t f hf
theorem r_addI8 {P : Program} {t : TypeId} {n : Nat} (h : n < 9223372036854775000) : R2 P .add t (I 8) (I (n : Int)) (I ((8 + n : Nat) : Int)) := by
  have := r_addI (P := P) (t := t) (a := 8) (b := n) (by omega) (by omega)
  rwa [show (8 + (n : Int)) = ((8 + n : Nat) : Int) by omega] at this

theorem rot_c (x : BitVec 64) (k : Int) (w : World) : RetF Try.prog 137 [W x, I k].toArray w (.is (W (rotl x (rotn k)))) := by
  have hk := rotn_lt k
  refine enter Try.func137 rfl Try.ntmps137 rfl fun a hF => ?_
  have hw := Own.start w
  refine wp_seq (reg_seq 1 (hF _ _) (by kernel_rfl) ?_)
  refine net_cons rfl rfl (n_assign rfl evc) ?_
  refine net_nil fun a w1 hF hx => ?_
  replace hw := hw.next hx
  replace hF := hF.keep (.cons (t := 0) rfl (.cons (t := 1) rfl (.cons (t := 4) rfl .nil)))
  refine wpList_nil ?_
  refine wp_seq (reg_seq 4 (hF _ _) (by kernel_rfl) ?_)
  refine net_cons rfl rfl (n_move rfl (ev rfl)) ?_
  refine net_cons rfl rfl (n_convT rfl (ev rfl) Try.underlying3 Try.underlying172 (wrap_ofInt k)) ?_
  refine net_cons rfl rfl (n_bin rfl (ev rfl) evc (r_andC 63 rfl)) ?_
  refine net_cons rfl rfl (n_assign rfl (ev rfl)) ?_
  refine net_nil fun a w1 hF hx => ?_
  replace hw := hw.next hx
  replace hF := hF.keep (.cons (t := 0) rfl (.cons (t := 4) rfl (.cons (t := 5) rfl .nil)))
  refine wpList_nil ?_
  refine wp_seq (reg_seq 9 (hF _ _) (by kernel_rfl) ?_)
  refine net_cons rfl rfl (n_move rfl (ev rfl)) ?_
  refine net_cons rfl rfl (n_move rfl (ev rfl)) ?_
  refine net_cons rfl rfl (n_bin rfl (ev rfl) (ev rfl) (r_shlB (n := rotn k) (Nat.le_of_lt hk))) ?_
  refine net_cons rfl rfl (n_move rfl (ev rfl)) ?_
  refine net_cons rfl rfl (n_move rfl (ev rfl)) ?_
  refine net_cons rfl rfl (n_bin rfl evc (ev rfl) (r_subN (a := 64) (b := rotn k) (Nat.le_of_lt hk) (by decide))) ?_
  refine net_cons rfl rfl (n_bin rfl (ev rfl) (ev rfl) (r_shrB (by omega))) ?_
  refine net_cons rfl rfl (n_bin rfl (ev rfl) (ev rfl) r_orB) ?_
  refine net_cons rfl rfl (n_assign rfl (ev rfl)) ?_
  refine net_nil fun a w1 hF hx => ?_
  replace hw := hw.next hx
  replace hF := hF.keep (.cons (t := 4) rfl .nil)
  refine wpList_nil ?_
  refine wp_ret (ret1 hF Try.results137 rfl ?_)
  exact ⟨_, rfl, hw.ext, rfl⟩

theorem round_c (x y k : BitVec 64) (w : World) : RetF Try.prog 95 [PV ⟨x, y⟩, W k].toArray w (.is (PV (rnd ⟨x, y⟩ k))) := by
  refine enter Try.func95 rfl Try.ntmps95 rfl fun a hF => ?_
  have hw := Own.start w
  refine wp_seq (wp_region_lit ?_)
  refine t_net 0 1 (by kernel_rfl) rfl hF ?_
  refine net_cons rfl rfl (n_box rfl (ev rfl) rfl) ?_
  refine net_nil fun a w1 hF hx => ?_
  obtain ⟨b2, h_, hw⟩ := hw.blk hx (hF.at_ 2 _ rfl)
  replace hF := hF.now h_
  replace hF := hF.keep (.cons (t := 1) rfl (.cons (t := 2) rfl .nil))
  refine t_net 1 1 (by kernel_rfl) rfl hF ?_
  refine net_cons rfl rfl (n_alloc rfl Try.zeroValue148 rfl) ?_
  refine net_nil fun a w1 hF hx => ?_
  obtain ⟨b4, h_, hw⟩ := hw.blk hx (hF.at_ 4 _ rfl)
  replace hF := hF.now h_
  replace hF := hF.keep (.cons (t := 1) rfl (.cons (t := 2) rfl (.cons (t := 4) rfl .nil)))
  refine wpList_nil ?_
  refine wp_seq (reg_draw 9 mixed (by kernel_rfl) (hF _ _) ?_)
  refine net_cons rfl rfl (n_fieldAddrO (off' := 0) rfl (ev rfl) Try.runUnderlying148 rfl Try.sizeOf24 rfl) ?_
  refine net_cons rfl rfl (n_load rfl (ev rfl) (ld1 hw (i := 0) rfl Try.isAgg24 rfl)) ?_
  refine net_cons rfl rfl (n_ret rfl Try.call137 (.cons (ev rfl) (.cons evc .nil)) (fun _ hx => rot_c _ _ _)) ?_
  refine net_cons rfl rfl (n_fieldAddrO (off' := 1) rfl (ev rfl) Try.runUnderlying148 rfl Try.sizeOf24 rfl) ?_
  refine net_cons rfl rfl (n_load rfl (ev rfl) (ld1 hw (i := 0) rfl Try.isAgg24 rfl)) ?_
  refine net_cons rfl rfl (n_bin rfl (ev rfl) (ev rfl) r_addB) ?_
  refine net_cons rfl rfl (n_move rfl (ev rfl)) ?_
  refine net_cons rfl rfl (n_bin rfl (ev rfl) (ev rfl) r_xorB) ?_
  refine net_cons rfl rfl (n_assign rfl (ev rfl)) ?_
  refine net_nil fun a w1 hF hx => ?_
  replace hw := hw.next hx
  replace hF := hF.keep (.cons (t := 2) rfl (.cons (t := 4) rfl (.cons (t := 5) rfl .nil)))
  refine wpList_nil ?_
  refine wp_seq (wp_region_lit ?_)
  refine t_net 0 7 (by kernel_rfl) rfl hF ?_
  refine net_cons rfl rfl (n_move rfl (ev rfl)) ?_
  refine net_cons rfl rfl (n_fieldAddrO (off' := 1) rfl (ev rfl) Try.runUnderlying148 rfl Try.sizeOf24 rfl) ?_
  refine net_cons rfl rfl (n_load rfl (ev rfl) (ld1 hw (i := 0) rfl Try.isAgg24 rfl)) ?_
  refine net_cons rfl rfl (n_ret rfl Try.call137 (.cons (ev rfl) (.cons evc .nil)) (fun _ hx => rot_c _ _ _)) ?_
  refine net_cons rfl rfl (n_move rfl (ev rfl)) ?_
  refine net_cons rfl rfl (n_bin rfl (ev rfl) (ev rfl) r_xorB) ?_
  refine net_cons rfl rfl (n_build rfl (.cons (ev rfl) (.cons (ev rfl) .nil)) build_pair) ?_
  refine net_nil fun a w1 hF hx => ?_
  replace hw := hw.next hx
  replace hF := hF.keep (.cons (t := 2) rfl (.cons (t := 4) rfl (.cons (t := 20) rfl .nil)))
  refine t_store (i := 1) rfl rfl rfl hF hw rfl (ev rfl) (ev rfl) rfl (one2 rfl rfl) Try.sizeOf148 rfl (Nat.le_of_ble_eq_true rfl) rfl fun w1 hw => ?_
  refine wpList_nil ?_
  refine wp_ret (retc hF Try.results95 rfl (ldN hw (i := 1) (vs := _) rfl Try.isAgg148 Try.sizeOf148 rfl rfl _ (Ext.refl _)) ?_)
  exact ⟨_, rfl, hw.ext, rfl⟩

theorem back_c (x y k : BitVec 64) (w : World) : RetF Try.prog 124 [PV ⟨x, y⟩, W k].toArray w (.is (PV (bck ⟨x, y⟩ k))) := by
  refine enter Try.func124 rfl Try.ntmps124 rfl fun a hF => ?_
  have hw := Own.start w
  refine wp_seq (wp_region_lit ?_)
  refine t_net 0 1 (by kernel_rfl) rfl hF ?_
  refine net_cons rfl rfl (n_box rfl (ev rfl) rfl) ?_
  refine net_nil fun a w1 hF hx => ?_
  obtain ⟨b2, h_, hw⟩ := hw.blk hx (hF.at_ 2 _ rfl)
  replace hF := hF.now h_
  replace hF := hF.keep (.cons (t := 1) rfl (.cons (t := 2) rfl .nil))
  refine t_net 1 1 (by kernel_rfl) rfl hF ?_
  refine net_cons rfl rfl (n_alloc rfl Try.zeroValue148 rfl) ?_
  refine net_nil fun a w1 hF hx => ?_
  obtain ⟨b4, h_, hw⟩ := hw.blk hx (hF.at_ 4 _ rfl)
  replace hF := hF.now h_
  replace hF := hF.keep (.cons (t := 1) rfl (.cons (t := 2) rfl (.cons (t := 4) rfl .nil)))
  refine wpList_nil ?_
  refine wp_seq (reg_seq 7 (hF _ _) (by kernel_rfl) ?_)
  refine net_cons rfl rfl (n_fieldAddrO (off' := 0) rfl (ev rfl) Try.runUnderlying148 rfl Try.sizeOf24 rfl) ?_
  refine net_cons rfl rfl (n_load rfl (ev rfl) (ld1 hw (i := 0) rfl Try.isAgg24 rfl)) ?_
  refine net_cons rfl rfl (n_fieldAddrO (off' := 1) rfl (ev rfl) Try.runUnderlying148 rfl Try.sizeOf24 rfl) ?_
  refine net_cons rfl rfl (n_load rfl (ev rfl) (ld1 hw (i := 0) rfl Try.isAgg24 rfl)) ?_
  refine net_cons rfl rfl (n_bin rfl (ev rfl) (ev rfl) r_xorB) ?_
  refine net_cons rfl rfl (n_ret rfl Try.call137 (.cons (ev rfl) (.cons evc .nil)) (fun _ hx => rot_c _ _ _)) ?_
  refine net_cons rfl rfl (n_assign rfl (ev rfl)) ?_
  refine net_nil fun a w1 hF hx => ?_
  replace hw := hw.next hx
  replace hF := hF.keep (.cons (t := 1) rfl (.cons (t := 2) rfl (.cons (t := 4) rfl (.cons (t := 5) rfl .nil))))
  refine wpList_nil ?_
  refine wp_seq (wp_region_lit ?_)
  refine t_net 0 9 (by kernel_rfl) rfl hF ?_
  refine net_cons rfl rfl (n_fieldAddrO (off' := 0) rfl (ev rfl) Try.runUnderlying148 rfl Try.sizeOf24 rfl) ?_
  refine net_cons rfl rfl (n_load rfl (ev rfl) (ld1 hw (i := 0) rfl Try.isAgg24 rfl)) ?_
  refine net_cons rfl rfl (n_move rfl (ev rfl)) ?_
  refine net_cons rfl rfl (n_bin rfl (ev rfl) (ev rfl) r_xorB) ?_
  refine net_cons rfl rfl (n_move rfl (ev rfl)) ?_
  refine net_cons rfl rfl (n_bin rfl (ev rfl) (ev rfl) r_subB) ?_
  refine net_cons rfl rfl (n_ret rfl Try.call137 (.cons (ev rfl) (.cons evc .nil)) (fun _ hx => rot_c _ _ _)) ?_
  refine net_cons rfl rfl (n_move rfl (ev rfl)) ?_
  refine net_cons rfl rfl (n_build rfl (.cons (ev rfl) (.cons (ev rfl) .nil)) build_pair) ?_
  refine net_nil fun a w1 hF hx => ?_
  replace hw := hw.next hx
  replace hF := hF.keep (.cons (t := 2) rfl (.cons (t := 4) rfl (.cons (t := 20) rfl .nil)))
  refine t_store (i := 1) rfl rfl rfl hF hw rfl (ev rfl) (ev rfl) rfl (one2 rfl rfl) Try.sizeOf148 rfl (Nat.le_of_ble_eq_true rfl) rfl fun w1 hw => ?_
  refine wpList_nil ?_
  refine wp_ret (retc hF Try.results124 rfl (ldN hw (i := 1) (vs := _) rfl Try.isAgg148 Try.sizeOf148 rfl rfl _ (Ext.refl _)) ?_)
  exact ⟨_, rfl, hw.ext, rfl⟩

theorem wordsOf_c (k : Key) (w : World) : RetF Try.prog 93 [K k].toArray w (.is (PV ⟨k.x, k.y⟩)) := by
  refine enter Try.func93 rfl Try.ntmps93 rfl fun a hF => ?_
  have hw := Own.start w
  refine wp_seq (wp_region_lit ?_)
  refine t_net 0 1 (by kernel_rfl) rfl hF ?_
  refine net_cons rfl rfl (n_box rfl (ev rfl) rfl) ?_
  refine net_nil fun a w1 hF hx => ?_
  obtain ⟨b1, h_, hw⟩ := hw.blk hx (hF.at_ 1 _ rfl)
  replace hF := hF.now h_
  replace hF := hF.keep (.cons (t := 1) rfl .nil)
  refine t_net 1 1 (by kernel_rfl) rfl hF ?_
  refine net_cons rfl rfl (n_alloc rfl Try.zeroValue148 rfl) ?_
  refine net_nil fun a w1 hF hx => ?_
  obtain ⟨b2, h_, hw⟩ := hw.blk hx (hF.at_ 2 _ rfl)
  replace hF := hF.now h_
  replace hF := hF.keep (.cons (t := 1) rfl (.cons (t := 2) rfl .nil))
  refine wpList_nil ?_
  refine wp_seq (wp_region_lit ?_)
  refine t_net 0 1 (by kernel_rfl) rfl hF ?_
  refine net_cons rfl rfl (n_alloc rfl Try.zeroValue148 rfl) ?_
  refine net_nil fun a w1 hF hx => ?_
  obtain ⟨b3, h_, hw⟩ := hw.blk hx (hF.at_ 3 _ rfl)
  replace hF := hF.now h_
  replace hF := hF.keep (.cons (t := 1) rfl (.cons (t := 2) rfl (.cons (t := 3) rfl .nil)))
  refine wpList_nil ?_
  refine wp_seq ?_
  refine wp_seq (reg_seq 1 (hF _ _) (by kernel_rfl) ?_)
  refine net_cons rfl rfl (n_move rfl evc) ?_
  refine net_nil fun a w1 hF hx => ?_
  replace hw := hw.next hx
  replace hF := hF.keep (.cons (t := 1) rfl (.cons (t := 2) rfl (.cons (t := 3) rfl (.cons (t := 5) rfl .nil))))
  refine wpList_nil ?_
  refine wp_block ?_
  refine wp_loop_ix (α := Nat) (fun i a w1 => FrV 29 [] [(1, .is (.pointer (some ⟨b1, 0, none⟩))) , (2, .is (.pointer (some ⟨b2, 0, none⟩))) , (3, .is (.pointer (some ⟨b3, 0, none⟩))) , (5, .is (I (i : Int)))] a ∧ Own w w1 [.blk b1 23 (kc k), .blk b2 148 [U 0, U 0], .blk b3 148 [W (pre k.x i), W (pre k.y i)]] ∧ (i ≤ 8)) (fun i => 8 - i) (0) ⟨hF.keep (.cons (t := 1) rfl (.cons (t := 2) rfl (.cons (t := 3) rfl (.cons (t := 5) rfl (.nil))))), (by rw [pre_zero, pre_zero]; exact hw), by omega⟩ ?_
  rintro i a w1 ⟨hF, hw, hi8⟩
  refine wp_seq (reg_seq 1 (hF _ _) (by kernel_rfl) ?_)
  refine net_cons rfl rfl (n_bin rfl (ev rfl) evc (r_lssN (b := 8))) ?_
  refine net_nil fun a w1 hF hx => ?_
  replace hw := hw.next hx
  replace hF := hF.keep (.cons (t := 1) rfl (.cons (t := 2) rfl (.cons (t := 3) rfl (.cons (t := 5) rfl (.cons (t := 6) rfl .nil)))))
  refine wpList_nil ?_
  refine wp_seq ?_
  refine wp_cond_split (hF.ev (ev rfl)) (fun h6 => ?_) (fun h6 => ?_)
  · have hi : i < 8 := of_bool_t h6
    refine wp_skip ?_
    refine wp_seq (wp_block ?_)
    refine wp_seq (reg_seq 2 (hF _ _) (by kernel_rfl) ?_)
    refine net_cons rfl rfl (n_move rfl (ev rfl)) ?_
    refine net_cons rfl rfl (n_assign rfl (ev rfl)) ?_
    refine net_nil fun a w1 hF hx => ?_
    replace hw := hw.next hx
    replace hF := hF.keep (.cons (t := 1) rfl (.cons (t := 2) rfl (.cons (t := 3) rfl (.cons (t := 4) rfl (.cons (t := 5) rfl (.cons (t := 6) rfl .nil))))))
    refine wpList_nil ?_
    refine reg_phase [18, 20] [(0,2),(0,0),(0,2),(0,2),(0,2),(0,2),(0,2),(0,2),(0,2),(0,0),(0,2),(0,2),(0,2),(0,2),(0,2),(0,2),(0,2),(0,2),(0,0),(0,2),(0,0)] (fun m w1 => Own w w1 [.blk b1 23 (kc k), .blk b2 148 [U 0, U 0], .blk b3 148 (match m with | 0 => [W (pre k.x i), W (pre k.y i)] | 1 => [W (pre k.x (i + 1)), W (pre k.y i)] | _ => [W (pre k.x (i + 1)), W (pre k.y (i + 1))])]) mixed (by kernel_rfl) (by decide) (fun m w1 w2 h hx => h.next hx) hF hw ?_ (isE rfl)
    refine netP_cons rfl rfl (pstep_any fun w1 => (n_fieldAddrO (off' := 0) rfl (ev rfl) Try.runUnderlying148 rfl Try.sizeOf24 rfl)) ?_
    refine netP_cons rfl rfl (pstep_at 0 rfl rfl fun w1 hw => (n_load rfl (ev rfl) (ld1 hw (i := 2) rfl Try.isAgg24 rfl))) ?_
    refine netP_cons rfl rfl (pstep_any fun w1 => (n_bin rfl (ev rfl) evc (r_shlB (n := 8) (by decide)))) ?_
    refine netP_cons rfl rfl (pstep_any fun w1 => (n_move rfl (ev rfl))) ?_
    refine netP_cons rfl rfl (pstep_any fun w1 => (n_indexA (off' := i) rfl (ev rfl) (ev rfl) Try.runUnderlying23 Try.sizeOf5 (by omega) (by omega))) ?_
    refine netP_cons rfl rfl (fun m _ _ w1 hw => (n_load rfl (ev rfl) (ld1 hw (i := 0) rfl Try.isAgg5 (kc_x k i hi)))) ?_
    refine netP_cons rfl rfl (pstep_any fun w1 => (n_convT rfl (ev rfl) Try.underlying5 Try.underlying24 (conv_byte (byteN_lt _ _)))) ?_
    refine netP_cons rfl rfl (pstep_any fun w1 => (n_bin rfl (ev rfl) (ev rfl) r_orB)) ?_
    refine netP_cons rfl rfl (pstep_any fun w1 => (n_fieldAddrO (off' := 1) rfl (ev rfl) Try.runUnderlying148 rfl Try.sizeOf24 rfl)) ?_
    refine netP_cons rfl rfl (pstep_at 0 rfl rfl fun w1 hw => (n_load rfl (ev rfl) (ld1 hw (i := 2) rfl Try.isAgg24 rfl))) ?_
    refine netP_cons rfl rfl (pstep_any fun w1 => (n_bin rfl (ev rfl) evc (r_shlB (n := 8) (by decide)))) ?_
    refine netP_cons rfl rfl (pstep_any fun w1 => (n_move rfl (ev rfl))) ?_
    refine netP_cons rfl rfl (pstep_any fun w1 => (n_bin rfl evc (ev rfl) (r_addI8 (by omega)))) ?_
    refine netP_cons rfl rfl (pstep_any fun w1 => (n_indexA (off' := 8 + i) rfl (ev rfl) (ev rfl) Try.runUnderlying23 Try.sizeOf5 (by omega) (by omega))) ?_
    refine netP_cons rfl rfl (fun m _ _ w1 hw => (n_load rfl (ev rfl) (ld1 hw (i := 0) rfl Try.isAgg5 (kc_y k i hi)))) ?_
    refine netP_cons rfl rfl (pstep_any fun w1 => (n_convT rfl (ev rfl) Try.underlying5 Try.underlying24 (conv_byte (byteN_lt _ _)))) ?_
    refine netP_cons rfl rfl (pstep_any fun w1 => (n_bin rfl (ev rfl) (ev rfl) r_orB)) ?_
    refine netP_cons rfl rfl (pstep_any fun w1 => (n_fieldAddrO (off' := 0) rfl (ev rfl) Try.runUnderlying148 rfl Try.sizeOf24 rfl)) ?_
    refine netP_store (m := 0) rfl rfl (ts_store (i := 2) rfl (fun _ h => h) rfl rfl rfl rfl one1 Try.sizeOf24 rfl (Nat.le_of_ble_eq_true rfl) (by rw [pre_step k.x i hi]; rfl) fun _ h => h) ?_
    refine netP_cons rfl rfl (pstep_any fun w1 => (n_fieldAddrO (off' := 1) rfl (ev rfl) Try.runUnderlying148 rfl Try.sizeOf24 rfl)) ?_
    refine netP_store (m := 1) rfl rfl (ts_store (i := 2) rfl (fun _ h => h) rfl rfl rfl rfl one1 Try.sizeOf24 rfl (Nat.le_of_ble_eq_true rfl) (by rw [pre_step k.y i hi]; rfl) fun _ h => h) ?_
    refine netP_nil fun a w1 hF hw => ?_
    replace hF := hF.keep (.cons (t := 1) rfl (.cons (t := 2) rfl (.cons (t := 3) rfl (.cons (t := 5) rfl .nil))))
    refine reg_seq 2 (hF _ _) (by kernel_rfl) ?_
    refine net_cons rfl rfl (n_bin rfl (ev rfl) evc (r_inc (by omega))) ?_
    refine net_cons rfl rfl (n_move rfl (ev rfl)) ?_
    refine net_nil fun a w1 hF hx => ?_
    replace hw := hw.next hx
    replace hF := hF.keep (.cons (t := 1) rfl (.cons (t := 2) rfl (.cons (t := 3) rfl (.cons (t := 5) rfl .nil))))
    refine wpList_nil ?_
    exact ⟨i + 1, ⟨hF.keep (.cons (t := 1) rfl (.cons (t := 2) rfl (.cons (t := 3) rfl (.cons (t := 5) rfl (.nil))))), hw, by omega⟩, by omega⟩
  · obtain rfl : i = 8 := by have := of_bool_f h6; omega
    rw [pre_full, pre_full] at hw
    refine wp_exit (go_then_e (go_then_e (go_exit ?_)))
    refine wp_seq (wp_region_lit ?_)
    refine t_net 0 1 (by kernel_rfl) rfl hF ?_
    refine net_cons rfl rfl (n_load rfl (ev rfl) (ldN hw (i := 2) (vs := _) rfl Try.isAgg148 Try.sizeOf148 rfl rfl)) ?_
    refine net_nil fun a w1 hF hx => ?_
    replace hw := hw.next hx
    replace hF := hF.keep (.cons (t := 1) rfl (.cons (t := 2) rfl (.cons (t := 3) rfl (.cons (t := 5) rfl (.cons (t := 6) rfl (.cons (t := 28) rfl .nil))))))
    refine t_store (i := 1) rfl rfl rfl hF hw rfl (ev rfl) (ev rfl) rfl (one2 rfl rfl) Try.sizeOf148 rfl (Nat.le_of_ble_eq_true rfl) rfl fun w1 hw => ?_
    refine wpList_nil ?_
    refine wp_ret (retc hF Try.results93 rfl (ldN hw (i := 1) (vs := _) rfl Try.isAgg148 Try.sizeOf148 rfl rfl _ (Ext.refl _)) ?_)
    exact ⟨_, rfl, hw.ext, rfl⟩
end Go.Proofs.Ythgpojlcbbgaoaa

