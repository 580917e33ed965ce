/- the cipher of the program: keys, blocks, what is derived -/
import Derived.Test.YthgpojlcbbgaoaaCiph
import Derived.Test.YthgpojlcbbgaoaaRange

set_option autoImplicit false
set_option maxRecDepth 100000
set_option linter.unusedVariables false
namespace Go.Proofs.Ythgpojlcbbgaoaa
open Go.RowKit

theorem keys_c (k : Key) (w : World) : RetF Try.prog 94 [K k].toArray w (.cap 23 (kc k) (fun p => .func (.func 136) #[] #[p])) := by
  refine enter Try.func94 rfl Try.ntmps94 rfl fun a hF => ?_
  have hw := Own.start w
  refine wp_seq (wp_region_lit ?_)
  refine t_net 0 1 (by kernel_rfl) rfl hF ?_
  refine net_cons rfl rfl (n_box rfl (ev rfl) rfl) ?_
  refine net_nil fun a w1 hF hx => ?_
  obtain ⟨b1, h_, hw⟩ := hw.blk hx (hF.at_ 1 _ rfl)
  replace hF := hF.now h_
  replace hF := hF.keep (.cons (t := 1) rfl .nil)
  refine t_net 1 1 (by kernel_rfl) rfl hF ?_
  refine net_cons rfl rfl (n_assign rfl evc) ?_
  refine net_nil fun a w1 hF hx => ?_
  replace hw := hw.next hx
  replace hF := hF.keep (.cons (t := 1) rfl (.cons (t := 2) rfl .nil))
  refine wpList_nil ?_
  refine wp_seq (reg_seq 2 (hF _ _) (by kernel_rfl) ?_)
  refine net_cons rfl rfl (n_makeFunc rfl (vs := #[.pointer (some ⟨b1, 0, none⟩)]) (.cons (ev rfl) .nil)) ?_
  refine net_cons rfl rfl (n_assign rfl (ev rfl)) ?_
  refine net_nil fun a w1 hF hx => ?_
  replace hw := hw.next hx
  replace hF := hF.keep (.cons (t := 2) rfl .nil)
  refine wpList_nil ?_
  refine wp_ret (ret1 hF Try.results94 rfl ?_)
  have hb := hw.ok _ List.mem_cons_self
  exact ⟨_, rfl, hw.ext, b1, rfl, hb.1, hb.2⟩


/-- What the iterator has at its step i: what makes the next round key, and the round key. -/
def ks (k : Key) : Nat → BitVec 64 × BitVec 64
  | 0 => ⟨k.x, k.y⟩
  | i + 1 => rnd (ks k i) (BitVec.ofInt 64 i)
theorem keys_iter (k : Key) (b1 : Nat) (w0 : World) : Iter Try.prog 136 #[.pointer (some ⟨b1, 0, none⟩)] (fun i => [I (i : Int), W (ks k i).2]) 32 w0 [.blk b1 23 (kc k)] (fun _ => True) := by
  intro l C w R hw _ hy hR
  refine enterI Try.func136 rfl Try.ntmps136 rfl (vs := [.func (.yield l) #[] #[], .pointer (some ⟨b1, 0, none⟩)]) fun a hF => ?_
  replace hw : Own w0 w (.blk b1 23 (kc k) :: C 0) := hw.perm List.perm_append_comm
  refine wpIn_seq (wpIn_region_lit ?_)
  refine t_netIn fw_wide 0 2 (by kernel_rfl) rfl hF ?_
  refine net_cons rfl rfl (n_load rfl (ev rfl) (ldN hw (i := 0) (vs := _) rfl Try.isAgg23 Try.sizeOf23 (kc_len _) (cut_whole (kc_len _)))) ?_
  refine net_cons rfl rfl (n_ret rfl Try.call93 (.cons (ev rfl) .nil) (fun _ hx => wordsOf_c _ _)) ?_
  refine net_nil fun a w1 hF hx => ?_
  replace hw := hw.next hx
  replace hF := hF.keep (.cons (t := 0) rfl (.cons (t := 6) rfl .nil))
  refine t_netIn fw_wide 2 1 (by kernel_rfl) rfl hF ?_
  refine net_cons rfl rfl (n_alloc rfl Try.zeroValue148 rfl) ?_
  refine net_nil fun a w1 hF hx => ?_
  obtain ⟨b3, h_, hw⟩ := hw.blk hx (hF.at_ 3 _ rfl)
  replace hF := hF.now h_
  replace hF := hF.keep (.cons (t := 0) rfl (.cons (t := 3) rfl (.cons (t := 6) rfl .nil)))
  replace hw : Own w0 _ (.blk b3 148 [U 0, U 0] :: .blk b1 23 (kc k) :: C 0) := hw.perm List.perm_append_comm
  refine t_storeIn fw_wide (i := 0) rfl rfl rfl hF hw rfl (ev rfl) (ev rfl) rfl (one2 rfl rfl) Try.sizeOf148 rfl (Nat.le_of_ble_eq_true rfl) rfl fun w1 hw => ?_
  refine wpListIn_nil ?_
  refine wpIn_seq (reg_seqIn fw_wide 1 (hF _ _) (by kernel_rfl) ?_)
  refine net_cons rfl rfl (n_move rfl evc) ?_
  refine net_nil fun a w1 hF hx => ?_
  replace hw := hw.next hx
  refine wpListIn_nil ?_
  refine wpIn_block ?_
  refine wpIn_loop_ix (α := Nat) (fun i a w1 => FrV 21 [] [(0, .is (.func (.yield l) #[] #[])), (3, .is (.pointer (some ⟨b3, 0, none⟩))), (7, .is (I (i : Int)))] a ∧ Own w0 w1 (.blk b3 148 [W (ks k i).1, W (ks k i).2] :: .blk b1 23 (kc k) :: C i) ∧ i ≤ 32) (fun i => 32 - i) 0
    ⟨hF.keep (.cons (t := 0) rfl (.cons (t := 3) rfl (.cons (t := 7) rfl .nil))), hw, by omega⟩ ?_
  rintro i a w1 ⟨hF, hw, hi⟩
  refine wpIn_seq (reg_seqIn fw_wide 1 (hF _ _) (by kernel_rfl) ?_)
  refine net_cons rfl rfl (n_bin rfl (ev rfl) evc (r_lssN (b := 32))) ?_
  refine net_nil fun a w1 hF hx => ?_
  replace hw := hw.next hx
  replace hF := hF.keep (.cons (t := 0) rfl (.cons (t := 3) rfl (.cons (t := 7) rfl (.cons (t := 8) rfl .nil))))
  refine wpListIn_nil ?_
  refine wpIn_seq ?_
  refine wpIn_cond_split (hF.ev (ev rfl)) (fun h8 => ?_) (fun h8 => ?_)
  rotate_left
  · have h32 := of_bool_f h8
    obtain rfl : i = 32 := by omega
    refine wpIn_exit ?_
    refine go_then_e ?_
    refine go_then_e ?_
    refine go_exit ?_
    refine end0 hF Try.results136 ?_
    refine hR _ ?_
    exact (hw.drop (List.sublist_cons_self _ _)).perm (List.perm_append_comm (l₁ := [Ent.blk b1 23 (kc k)]))
  have hlt : i < 32 := of_bool_t h8
  refine wpIn_skip ?_
  refine wpIn_seq (wpIn_block ?_)
  refine wpIn_seq (reg_seqIn fw_wide 2 (hF _ _) (by kernel_rfl) ?_)
  refine net_cons rfl rfl (n_move rfl (ev rfl)) ?_
  refine net_cons rfl rfl (n_assign rfl (ev rfl)) ?_
  refine net_nil fun a w1 hF hx => ?_
  replace hw := hw.next hx
  replace hF := hF.keep (.cons (t := 0) rfl (.cons (t := 3) rfl (.cons (t := 4) rfl (.cons (t := 7) rfl .nil))))
  refine wpListIn_nil ?_
  refine wpIn_seq (wpIn_seq (wpIn_region_lit ?_))
  refine t_netIn fw_wide 0 4 (by kernel_rfl) rfl hF ?_
  refine net_cons rfl rfl (n_move rfl (ev rfl)) ?_
  refine net_cons rfl rfl (n_move rfl (ev rfl)) ?_
  refine net_cons rfl rfl (n_fieldAddrO (off' := 1) rfl (ev rfl) Try.runUnderlying148 rfl Try.sizeOf24 rfl) ?_
  refine net_cons rfl rfl (n_load rfl (ev rfl) (ld1 hw (i := 0) rfl Try.isAgg24 rfl)) ?_
  refine net_nil fun a w1 hF hx => ?_
  replace hw := hw.next hx
  replace hF := hF.keep (.cons (t := 0) rfl (.cons (t := 3) rfl (.cons (t := 4) rfl (.cons (t := 7) rfl (.cons (t := 10) rfl (.cons (t := 11) rfl (.cons (t := 13) rfl .nil)))))))
  refine t_yield (d := 14) (vs := [I (i : Int), W (ks k i).2]) rfl rfl rfl (by decide) hF (ev rfl) (.cons (ev rfl) (.cons (ev rfl) .nil)) (hy i _ (.blk b3 148 [W (ks k i).1, W (ks k i).2] :: .blk b1 23 (kc k) :: []) hlt (hw.perm (List.perm_append_comm (l₁ := [Ent.blk b3 148 [W (ks k i).1, W (ks k i).2], Ent.blk b1 23 (kc k)])))) fun a w1 hF hw => ?_
  replace hw : Own w0 w1 (.blk b3 148 [W (ks k i).1, W (ks k i).2] :: .blk b1 23 (kc k) :: C (i + 1)) := hw.perm List.perm_append_comm
  refine t_netIn fw_wide 5 1 (by kernel_rfl) rfl hF ?_
  refine net_cons rfl rfl (n_not rfl (ev rfl)) ?_
  refine net_nil fun a w1 hF hx => ?_
  replace hw := hw.next hx
  replace hF := hF.keep (.cons (t := 0) rfl (.cons (t := 3) rfl (.cons (t := 4) rfl (.cons (t := 7) rfl (.cons (t := 15) rfl .nil)))))
  refine wpListIn_nil ?_
  refine wpIn_cond_false (hF.ev (ev rfl)) ?_
  refine wpIn_skip ?_
  refine wpIn_region_lit ?_
  refine t_netIn fw_wide 0 4 (by kernel_rfl) rfl hF ?_
  refine net_cons rfl rfl (n_load rfl (ev rfl) (ldN hw (i := 0) (vs := _) rfl Try.isAgg148 Try.sizeOf148 rfl rfl)) ?_
  refine net_cons rfl rfl (n_move rfl (ev rfl)) ?_
  refine net_cons rfl rfl (n_convT rfl (ev rfl) Try.underlying3 Try.underlying24 (wrap_ofInt (i : Int))) ?_
  refine net_cons rfl rfl (n_ret rfl Try.call95 (.cons (ev rfl) (.cons (ev rfl) .nil)) (fun _ hx => round_c _ _ _ _)) ?_
  refine net_nil fun a w1 hF hx => ?_
  replace hw := hw.next hx
  replace hF := hF.keep (.cons (t := 0) rfl (.cons (t := 3) rfl (.cons (t := 4) rfl (.cons (t := 7) rfl (.cons (t := 19) rfl .nil)))))
  refine t_storeIn fw_wide (i := 0) rfl rfl rfl hF hw rfl (ev rfl) (ev rfl) rfl (one2 rfl rfl) Try.sizeOf148 rfl (Nat.le_of_ble_eq_true rfl) rfl fun w1 hw => ?_
  refine wpListIn_nil ?_
  refine reg_seqIn fw_wide 2 (hF _ _) (by kernel_rfl) ?_
  refine net_cons rfl rfl (n_bin rfl (ev rfl) evc (r_inc (by omega))) ?_
  refine net_cons rfl rfl (n_move rfl (ev rfl)) ?_
  refine net_nil fun a w1 hF hx => ?_
  replace hw := hw.next hx
  refine wpListIn_nil ?_
  exact ⟨i + 1, ⟨hF.keep (.cons (t := 0) rfl (.cons (t := 3) rfl (.cons (t := 7) rfl .nil))), hw, by omega⟩, by omega⟩



def esK (k b : Key) : Nat → BitVec 64 × BitVec 64
  | 0 => ⟨b.x, b.y⟩
  | i + 1 => rnd (esK k b i) (ks k i).2
def encK (k b : Key) : Key := ⟨(esK k b 32).1, (esK k b 32).2⟩
/-- The first i bytes of x, and the first j of y. -/
def part8 (x y : BitVec 64) (i j : Nat) : List Value := (List.range 8).map (fun n => if n < i then B8 (byteN x n) else B8 0) ++ (List.range 8).map (fun n => if n < j then B8 (byteN y n) else B8 0)
theorem part8_full (x y : BitVec 64) : part8 x y 8 8 = kc ⟨x, y⟩ := by
  unfold part8 kc kb
  rw [List.map_append, List.map_map, List.map_map]
  congr 1
theorem part8_len (x y : BitVec 64) (i j : Nat) : (part8 x y i j).length = 16 := by simp [part8]
theorem part8_zero (x y : BitVec 64) : part8 x y 0 0 = List.replicate 16 (B8 0) := by rfl
theorem seg_one {cs : List Value} {off : Nat} {v : Value} (h : off < cs.length) : seg cs off [v] = cs.set off v := by
  unfold seg
  rw [List.set_eq_take_append_cons_drop, if_pos h]
  simp
theorem part8_x (x y : BitVec 64) (i : Nat) (h : i < 8) : seg (part8 x y i i) i [B8 (byteN x i)] = part8 x y (i + 1) i := by
  rw [seg_one (by rw [part8_len]; omega)]
  apply List.ext_getElem?
  intro n
  simp only [part8, List.getElem?_set, List.getElem?_append, List.length_map, List.length_range, List.getElem?_map, List.length_append]
  by_cases h1 : i = n
  · subst h1
    rw [if_pos rfl, if_pos (by omega), if_pos h, List.getElem?_range h]
    simp
  · rw [if_neg h1]
    by_cases h2 : n < 8
    · rw [if_pos h2, if_pos h2, List.getElem?_range h2]
      simp only [Option.map_some]
      congr 1
      by_cases h3 : n < i
      · rw [if_pos h3, if_pos (by omega)]
      · rw [if_neg h3, if_neg (by omega)]
    · rw [if_neg h2, if_neg h2]
theorem part8_y (x y : BitVec 64) (i : Nat) (h : i < 8) : seg (part8 x y (i + 1) i) (8 + i) [B8 (byteN y i)] = part8 x y (i + 1) (i + 1) := by
  rw [seg_one (by rw [part8_len]; omega)]
  apply List.ext_getElem?
  intro n
  simp only [part8, List.getElem?_set, List.getElem?_append, List.length_map, List.length_range, List.getElem?_map, List.length_append]
  by_cases h1 : 8 + i = n
  · subst h1
    rw [if_pos rfl, if_pos (by omega), if_neg (by omega), List.getElem?_range (by omega)]
    simp
  · rw [if_neg h1]
    by_cases h2 : n < 8
    · rw [if_pos h2, if_pos h2]
    · rw [if_neg h2, if_neg h2]
      rcases Nat.lt_or_ge (n - 8) 8 with h4 | h4
      · rw [List.getElem?_range h4]
        simp only [Option.map_some]
        congr 1
        by_cases h3 : n - 8 < i
        · rw [if_pos h3, if_pos (by omega)]
        · rw [if_neg h3, if_neg (by omega)]
      · rw [List.getElem?_eq_none (by simpa using h4)]
        rfl
theorem shr_byte {P : Program} {t : TypeId} {x : BitVec 64} {i : Nat} (h : i < 8) : R2 P .shr t (W x) (I ((56 - 8 * i : Nat) : Int)) (W (x >>> (56 - 8 * i))) := by
  have := r_shrB (P := P) (t := t) (k := .i64) (x := x) (n := 56 - 8 * i) (by omega)
  exact this
theorem conv_low (x : BitVec 64) (i : Nat) : IntKind.u8.wrap ((x >>> (56 - 8 * i)).toNat : Int) = (byteN x i : Int) := by
  unfold byteN
  simp only [IntKind.wrap_u8]
  omega
theorem r_mul8 {P : Program} {t : TypeId} {i : Nat} (h : i < 8) : R2 P .mul t (I 8) (I (i : Int)) (I ((8 * i : Nat) : Int)) := by
  have := r_mulI (P := P) (t := t) (a := 8) (b := i) (by omega) (by omega)
  rwa [show (8 * (i : Int)) = ((8 * i : Nat) : Int) by omega] at this
theorem r_sub56 {P : Program} {t : TypeId} {i : Nat} (h : i < 8) : R2 P .sub t (I 56) (I ((8 * i : Nat) : Int)) (I ((56 - 8 * i : Nat) : Int)) := by
  have := r_subI (P := P) (t := t) (a := 56) (b := ((8 * i : Nat) : Int)) (by omega) (by omega)
  rwa [show (56 - ((8 * i : Nat) : Int)) = ((56 - 8 * i : Nat) : Int) by omega] at this


theorem block_c (x y : BitVec 64) (w : World) : RetF Try.prog 96 [PV ⟨x, y⟩].toArray w (.is (K ⟨x, y⟩)) := by
  refine enter Try.func96 rfl Try.ntmps96 rfl fun a hF => ?_
  have hw := Own.start w
  refine wp_seq (wp_region_lit ?_)
  refine t_net 0 1 (by kernel_rfl) rfl hF ?_
  refine net_cons rfl rfl (n_box rfl (ev rfl) rfl) ?_
  refine net_nil fun a w1 hF hx => ?_
  obtain ⟨b1, h_, hw⟩ := hw.blk hx (hF.at_ 1 _ rfl)
  replace hF := hF.now h_
  replace hF := hF.keep (.cons (t := 1) rfl .nil)
  refine t_net 1 1 (by kernel_rfl) rfl hF ?_
  refine net_cons rfl rfl (n_alloc rfl Try.zeroValue23 rfl) ?_
  refine net_nil fun a w1 hF hx => ?_
  obtain ⟨b2, h_, hw⟩ := hw.blk hx (hF.at_ 2 _ rfl)
  replace hF := hF.now h_
  replace hF := hF.keep (.cons (t := 1) rfl (.cons (t := 2) rfl .nil))
  refine wpList_nil ?_
  refine wp_seq (wp_region_lit ?_)
  refine t_net 0 1 (by kernel_rfl) rfl hF ?_
  refine net_cons rfl rfl (n_alloc rfl Try.zeroValue23 rfl) ?_
  refine net_nil fun a w1 hF hx => ?_
  obtain ⟨b3, h_, hw⟩ := hw.blk hx (hF.at_ 3 _ rfl)
  replace hF := hF.now h_
  replace hF := hF.keep (.cons (t := 1) rfl (.cons (t := 2) rfl (.cons (t := 3) rfl .nil)))
  refine wpList_nil ?_
  refine wp_seq ?_
  refine wp_seq (reg_seq 1 (hF _ _) (by kernel_rfl) ?_)
  refine net_cons rfl rfl (n_move rfl evc) ?_
  refine net_nil fun a w1 hF hx => ?_
  replace hw := hw.next hx
  replace hF := hF.keep (.cons (t := 1) rfl (.cons (t := 2) rfl (.cons (t := 3) rfl (.cons (t := 5) rfl .nil))))
  refine wpList_nil ?_
  refine wp_block ?_
  refine wp_loop_ix (α := Nat) (fun i a w1 => FrV 29 [] [(1, .is (.pointer (some ⟨b1, 0, none⟩))) , (2, .is (.pointer (some ⟨b2, 0, none⟩))) , (3, .is (.pointer (some ⟨b3, 0, none⟩))) , (5, .is (I (i : Int)))] a ∧ Own w w1 [.blk b1 148 [W x, W y], .blk b2 23 (List.replicate 16 (B8 0)), .blk b3 23 (part8 x y i i)] ∧ (i ≤ 8)) (fun i => 8 - i) (0) ⟨hF.keep (.cons (t := 1) rfl (.cons (t := 2) rfl (.cons (t := 3) rfl (.cons (t := 5) rfl (.nil))))), hw, by omega⟩ ?_
  rintro i a w1 ⟨hF, hw, hi8⟩
  refine wp_seq (reg_seq 1 (hF _ _) (by kernel_rfl) ?_)
  refine net_cons rfl rfl (n_bin rfl (ev rfl) evc (r_lssN (b := 8))) ?_
  refine net_nil fun a w1 hF hx => ?_
  replace hw := hw.next hx
  replace hF := hF.keep (.cons (t := 1) rfl (.cons (t := 2) rfl (.cons (t := 3) rfl (.cons (t := 5) rfl (.cons (t := 6) rfl .nil)))))
  refine wpList_nil ?_
  refine wp_seq ?_
  refine wp_cond_split (hF.ev (ev rfl)) (fun h6 => ?_) (fun h6 => ?_)
  · have hi : i < 8 := of_bool_t h6
    refine wp_skip ?_
    refine wp_seq (wp_block ?_)
    refine wp_seq (reg_seq 2 (hF _ _) (by kernel_rfl) ?_)
    refine net_cons rfl rfl (n_move rfl (ev rfl)) ?_
    refine net_cons rfl rfl (n_assign rfl (ev rfl)) ?_
    refine net_nil fun a w1 hF hx => ?_
    replace hw := hw.next hx
    replace hF := hF.keep (.cons (t := 1) rfl (.cons (t := 2) rfl (.cons (t := 3) rfl (.cons (t := 4) rfl (.cons (t := 5) rfl (.cons (t := 6) rfl .nil))))))
    refine wpList_nil ?_
    refine reg_phase [18, 20] [(0,2),(0,2),(0,2),(0,2),(0,2),(0,2),(0,2),(0,2),(0,2),(0,2),(0,2),(0,2),(0,2),(0,2),(0,2),(0,2),(0,2),(0,2),(0,0),(0,2),(0,0)] (fun m w1 => Own w w1 [.blk b1 148 [W x, W y], .blk b2 23 (List.replicate 16 (B8 0)), .blk b3 23 (match m with | 0 => part8 x y i i | 1 => part8 x y (i + 1) i | _ => part8 x y (i + 1) (i + 1))]) mixed (by kernel_rfl) (by decide) (fun m w1 w2 h hx => h.next hx) hF hw ?_ (isE rfl)
    refine netP_cons rfl rfl (pstep_any fun w1 => (n_move rfl (ev rfl))) ?_
    refine netP_cons rfl rfl (pstep_any fun w1 => (n_move rfl (ev rfl))) ?_
    refine netP_cons rfl rfl (pstep_any fun w1 => (n_bin rfl evc (ev rfl) (r_addI8 (by omega)))) ?_
    refine netP_cons rfl rfl (pstep_any fun w1 => (n_fieldAddrO (off' := 0) rfl (ev rfl) Try.runUnderlying148 rfl Try.sizeOf24 rfl)) ?_
    refine netP_cons rfl rfl (fun m _ _ w1 hw => (n_load rfl (ev rfl) (ld1 hw (i := 0) rfl Try.isAgg24 rfl))) ?_
    refine netP_cons rfl rfl (pstep_any fun w1 => (n_move rfl (ev rfl))) ?_
    refine netP_cons rfl rfl (pstep_any fun w1 => (n_bin rfl evc (ev rfl) (r_mul8 hi))) ?_
    refine netP_cons rfl rfl (pstep_any fun w1 => (n_bin rfl evc (ev rfl) (r_sub56 hi))) ?_
    refine netP_cons rfl rfl (pstep_any fun w1 => (n_bin rfl (ev rfl) (ev rfl) (shr_byte hi))) ?_
    refine netP_cons rfl rfl (pstep_any fun w1 => (n_convT rfl (ev rfl) Try.underlying24 Try.underlying5 (conv_low _ i))) ?_
    refine netP_cons rfl rfl (pstep_any fun w1 => (n_fieldAddrO (off' := 1) rfl (ev rfl) Try.runUnderlying148 rfl Try.sizeOf24 rfl)) ?_
    refine netP_cons rfl rfl (fun m _ _ w1 hw => (n_load rfl (ev rfl) (ld1 hw (i := 0) rfl Try.isAgg24 rfl))) ?_
    refine netP_cons rfl rfl (pstep_any fun w1 => (n_move rfl (ev rfl))) ?_
    refine netP_cons rfl rfl (pstep_any fun w1 => (n_bin rfl evc (ev rfl) (r_mul8 hi))) ?_
    refine netP_cons rfl rfl (pstep_any fun w1 => (n_bin rfl evc (ev rfl) (r_sub56 hi))) ?_
    refine netP_cons rfl rfl (pstep_any fun w1 => (n_bin rfl (ev rfl) (ev rfl) (shr_byte hi))) ?_
    refine netP_cons rfl rfl (pstep_any fun w1 => (n_convT rfl (ev rfl) Try.underlying24 Try.underlying5 (conv_low _ i))) ?_
    refine netP_cons rfl rfl (pstep_any fun w1 => (n_indexA (off' := i) rfl (ev rfl) (ev rfl) Try.runUnderlying23 Try.sizeOf5 (by omega) (by omega))) ?_
    refine netP_store (m := 0) rfl rfl (ts_store (i := 2) rfl (fun _ h => h) rfl rfl rfl rfl one1 Try.sizeOf5 rfl (by show _ ≤ (part8 _ _ _ _).length; rw [part8_len]; omega) (part8_x x y i hi) fun _ h => h) ?_
    refine netP_cons rfl rfl (pstep_any fun w1 => (n_indexA (off' := 8 + i) rfl (ev rfl) (ev rfl) Try.runUnderlying23 Try.sizeOf5 (by omega) (by omega))) ?_
    refine netP_store (m := 1) rfl rfl (ts_store (i := 2) rfl (fun _ h => h) rfl rfl rfl rfl one1 Try.sizeOf5 rfl (by show _ ≤ (part8 _ _ _ _).length; rw [part8_len]; omega) (part8_y x y i hi) fun _ h => h) ?_
    refine netP_nil fun a w1 hF hw => ?_
    replace hF := hF.keep (.cons (t := 1) rfl (.cons (t := 2) rfl (.cons (t := 3) rfl (.cons (t := 5) rfl .nil))))
    refine reg_seq 2 (hF _ _) (by kernel_rfl) ?_
    refine net_cons rfl rfl (n_bin rfl (ev rfl) evc (r_inc (by omega))) ?_
    refine net_cons rfl rfl (n_move rfl (ev rfl)) ?_
    refine net_nil fun a w1 hF hx => ?_
    replace hw := hw.next hx
    replace hF := hF.keep (.cons (t := 1) rfl (.cons (t := 2) rfl (.cons (t := 3) rfl (.cons (t := 5) rfl .nil))))
    refine wpList_nil ?_
    exact ⟨i + 1, ⟨hF.keep (.cons (t := 1) rfl (.cons (t := 2) rfl (.cons (t := 3) rfl (.cons (t := 5) rfl (.nil))))), hw, by omega⟩, by omega⟩
  · obtain rfl : i = 8 := by have := of_bool_f h6; omega
    rw [part8_full] at hw
    refine wp_exit (go_then_e (go_then_e (go_exit ?_)))
    refine wp_seq (wp_region_lit ?_)
    refine t_net 0 1 (by kernel_rfl) rfl hF ?_
    refine net_cons rfl rfl (n_load rfl (ev rfl) (ldN hw (i := 2) (vs := _) rfl Try.isAgg23 Try.sizeOf23 (kc_len _) (cut_whole (kc_len _)))) ?_
    refine net_nil fun a w1 hF hx => ?_
    replace hw := hw.next hx
    replace hF := hF.keep (.cons (t := 1) rfl (.cons (t := 2) rfl (.cons (t := 3) rfl (.cons (t := 5) rfl (.cons (t := 6) rfl (.cons (t := 28) rfl .nil))))))
    refine t_store (i := 1) rfl rfl rfl hF hw rfl (ev rfl) (ev rfl) rfl (kc_one _) Try.sizeOf23 (kc_len _) (by decide) (seg_whole (by rw [kc_len]; rfl)) fun w1 hw => ?_
    refine wpList_nil ?_
    refine wp_ret (retc hF Try.results96 rfl (ldN hw (i := 1) (vs := _) rfl Try.isAgg23 Try.sizeOf23 (kc_len _) (cut_whole (kc_len _)) _ (Ext.refl _)) ?_)
    exact ⟨_, rfl, hw.ext, rfl⟩

theorem Encrypt_c (k b : Key) (w : World) : RetF Try.prog 36 [K k, K b].toArray w (.is (K (encK k b))) := by
  refine enterM Try.func36 rfl Try.ntmps36 rfl fun a hF => ?_
  have hw := Own.start w
  refine wp_seq (wp_region_lit ?_)
  refine t_net 0 1 (by kernel_rfl) rfl hF ?_
  refine net_cons rfl rfl (n_box rfl (ev rfl) rfl) ?_
  refine net_nil fun a w1 hF hx => ?_
  obtain ⟨b2, h_, hw⟩ := hw.blk hx (hF.at_ 2 _ rfl)
  replace hF := hF.now h_
  replace hF := hF.keep (.cons (t := 1) rfl (.cons (t := 2) rfl .nil))
  refine t_net 1 1 (by kernel_rfl) rfl hF ?_
  refine net_cons rfl rfl (n_box rfl (ev rfl) rfl) ?_
  refine net_nil fun a w1 hF hx => ?_
  obtain ⟨b3, h_, hw⟩ := hw.blk hx (hF.at_ 3 _ rfl)
  replace hF := hF.now h_
  replace hF := hF.keep (.cons (t := 2) rfl (.cons (t := 3) rfl .nil))
  refine t_net 2 1 (by kernel_rfl) rfl hF ?_
  refine net_cons rfl rfl (n_alloc rfl Try.zeroValue23 rfl) ?_
  refine net_nil fun a w1 hF hx => ?_
  obtain ⟨b4, h_, hw⟩ := hw.blk hx (hF.at_ 4 _ rfl)
  replace hF := hF.now h_
  replace hF := hF.keep (.cons (t := 2) rfl (.cons (t := 3) rfl (.cons (t := 4) rfl .nil)))
  refine wpList_nil ?_
  refine wp_seq (wp_region_lit ?_)
  refine t_net 0 3 (by kernel_rfl) rfl hF ?_
  refine net_cons rfl rfl (n_load rfl (ev rfl) (ldN hw (i := 1) (vs := _) rfl Try.isAgg23 Try.sizeOf23 (kc_len _) (cut_whole (kc_len _)))) ?_
  refine net_cons rfl rfl (n_ret rfl Try.call93 (.cons (ev rfl) .nil) (fun _ hx => wordsOf_c _ _)) ?_
  refine net_cons rfl rfl (n_alloc rfl Try.zeroValue148 rfl) ?_
  refine net_nil fun a w1 hF hx => ?_
  obtain ⟨b5, h_, hw⟩ := hw.blk hx (hF.at_ 5 _ rfl)
  replace hF := hF.now h_
  replace hF := hF.keep (.cons (t := 2) rfl (.cons (t := 4) rfl (.cons (t := 5) rfl (.cons (t := 9) rfl .nil))))
  refine t_store (i := 3) rfl rfl rfl hF hw rfl (ev rfl) (ev rfl) rfl (one2 rfl rfl) Try.sizeOf148 rfl (Nat.le_of_ble_eq_true rfl) rfl fun w1 hw => ?_
  refine wpList_nil ?_
  refine wp_seq ?_
  refine wp_seq (reg_seq 2 (hF _ _) (by kernel_rfl) ?_)
  refine net_cons rfl rfl (n_load rfl (ev rfl) (ldN hw (i := 0) (vs := _) rfl Try.isAgg23 Try.sizeOf23 (kc_len _) (cut_whole (kc_len _)))) ?_
  refine net_cons rfl rfl (n_ret rfl Try.call94 (.cons (ev rfl) .nil) (fun _ hx => keys_c _ _)) ?_
  refine net_nil fun a w1 hF hx => ?_
  obtain ⟨b11, h_, hw⟩ := hw.cap hx (hF.at_ 11 _ rfl)
  replace hF := hF.now h_
  replace hF := hF.keep (.cons (t := 4) rfl (.cons (t := 5) rfl (.cons (t := 9) rfl (.cons (t := 11) rfl .nil))))
  refine wpList_nil ?_
  refine wp_block ?_
  refine wp_range (fun (i : Nat) => ([.blk b2 23 (kc k), .blk b3 23 (kc b), .blk b4 23 (List.replicate 16 (B8 0)), .blk b5 148 [W (esK k b i).1, W (esK k b i).2]] : List Ent)) (fun (i : Nat) => ([(5, .is (.pointer (some ⟨b5, 0, none⟩))), (7, .is (W (ks k i).2))] : Env)) (fun i => I (i : Int)) (fun i => W (ks k i).2) (by decide) (by decide) hw (ev rfl) Try.call136 (keys_iter k b11 w) (fun _ _ _ _ => trivial) (hF.keep (.cons (t := 4) rfl (.cons (t := 5) rfl (.cons (t := 11) rfl (.nil))))) (fun _ => rfl) (fun l i a w1 K_ hF hK => ?_) (fun l Z i a w1 hk hF hw => ?_) (fun r a w1 hF hw => ?_)
  · have hw := Own.start w1
    refine reg_seqIn (fw_round l) 1 (hF _ _) (by kernel_rfl) ?_
    refine net_cons rfl rfl (n_assign rfl (ev rfl)) ?_
    refine net_nil fun a w1 hF hx => ?_
    replace hw := hw.next hx
    replace hF := hF.keep (.cons (t := 4) rfl (.cons (t := 5) rfl (.cons (t := 7) rfl (.cons (t := 11) rfl (.cons (t := 13) rfl .nil)))))
    refine wpListIn_nil ?_
    exact hK _ _ (hF.keep (.cons (t := 5) rfl (.cons (t := 7) rfl (.nil)))) hw.ext
  · have hk0 := hk
    refine wpIn_block ?_
    refine wpIn_region_lit ?_
    refine t_netIn (fw_round l) 0 3 (by kernel_rfl) rfl hF ?_
    refine net_cons rfl rfl (n_load rfl (ev rfl) (ldN hw (i := 3) (vs := _) rfl Try.isAgg148 Try.sizeOf148 rfl rfl)) ?_
    refine net_cons rfl rfl (n_move rfl (ev rfl)) ?_
    refine net_cons rfl rfl (n_ret rfl Try.call95 (.cons (ev rfl) (.cons (ev rfl) .nil)) (fun _ hx => round_c _ _ _ _)) ?_
    refine net_nil fun a w1 hF hx => ?_
    replace hw := hw.next hx
    replace hF := hF.keep (.cons (t := 5) rfl (.cons (t := 7) rfl (.cons (t := 16) rfl .nil)))
    refine t_storeIn (fw_round l) (i := 3) rfl rfl rfl hF hw rfl (ev rfl) (ev rfl) rfl (one2 rfl rfl) Try.sizeOf148 rfl (Nat.le_of_ble_eq_true rfl) rfl fun w1 hw => ?_
    refine wpListIn_nil ?_
    exact ⟨rfl, hw⟩
  · have h_ := hw.ext
    refine wp_seq (wp_region_lit ?_)
    refine t_net 0 2 (by kernel_rfl) rfl hF ?_
    refine net_cons rfl rfl (n_load rfl (ev rfl) (ldN hw (i := 4) (vs := _) rfl Try.isAgg148 Try.sizeOf148 rfl rfl)) ?_
    refine net_cons rfl rfl (n_ret rfl Try.call96 (.cons (ev rfl) .nil) (fun _ hx => block_c _ _ _)) ?_
    refine net_nil fun a w1 hF hx => ?_
    replace hw := hw.next hx
    replace hF := hF.keep (.cons (t := 4) rfl (.cons (t := 5) rfl (.cons (t := 11) rfl (.cons (t := 18) rfl .nil))))
    refine t_store (i := 3) rfl rfl rfl hF hw rfl (ev rfl) (ev rfl) rfl (kc_one _) Try.sizeOf23 (kc_len _) (by first | decide | (rw [kc_len]; decide)) (seg_whole (by rw [kc_len]; rfl)) fun w1 hw => ?_
    refine wpList_nil ?_
    refine wp_ret (retMc hF hw Try.results36 rfl (fun _ hw_ => (ldN hw_ (i := 2) (vs := _) rfl Try.isAgg23 Try.sizeOf23 (kc_len _) (cut_whole (kc_len _)) _ (Ext.refl _))) fun w1 hw => ?_)
    exact ⟨_, rfl, hw.ext, rfl⟩


theorem n_to {P : Program} {wr : World} {E : Env} {o : Oper} {v v' : Value} (h : nstep P wr E o (.is v)) (e : v = v') : nstep P wr E o (.is v') := e ▸ h
theorem bv_of {n : Nat} (h : n < 18446744073709551616) : ∃ b : BitVec 64, n = b.toNat := ⟨BitVec.ofNat 64 n, by rw [BitVec.toNat_ofNat, Nat.mod_eq_of_lt (by omega)]⟩
def blkK (t : Nat) (c n : BitVec 64) : Key := ⟨(BitVec.ofNat 64 t <<< 56) ||| c, n⟩


theorem blockOf_c (t : Nat) (c n : BitVec 64) (ht : t < 256) (w : World) : RetF Try.prog 97 [B8 t, W c, W n].toArray w (.is (K (blkK t c n))) := by
  refine enter Try.func97 rfl Try.ntmps97 rfl fun a hF => ?_
  have hw := Own.start w
  refine wp_seq (wp_region_lit ?_)
  refine t_net 0 1 (by kernel_rfl) rfl hF ?_
  refine net_cons rfl rfl (n_alloc rfl Try.zeroValue23 rfl) ?_
  refine net_nil fun a w1 hF hx => ?_
  obtain ⟨b6, h_, hw⟩ := hw.blk hx (hF.at_ 6 _ rfl)
  replace hF := hF.now h_
  replace hF := hF.keep (.cons (t := 0) rfl (.cons (t := 1) rfl (.cons (t := 2) rfl (.cons (t := 6) rfl .nil))))
  refine wpList_nil ?_
  refine wp_seq (wp_region_lit ?_)
  refine t_net 0 8 (by kernel_rfl) rfl hF ?_
  refine net_cons rfl rfl (n_move rfl (ev rfl)) ?_
  refine net_cons rfl rfl (n_convT rfl (ev rfl) Try.underlying5 Try.underlying24 (conv_byte ht)) ?_
  refine net_cons rfl rfl (n_bin rfl (ev rfl) evc (r_shlB (n := 56) (by decide))) ?_
  refine net_cons rfl rfl (n_move rfl (ev rfl)) ?_
  refine net_cons rfl rfl (n_bin rfl (ev rfl) (ev rfl) r_orB) ?_
  refine net_cons rfl rfl (n_move rfl (ev rfl)) ?_
  refine net_cons rfl rfl (n_build rfl (.cons (ev rfl) (.cons (ev rfl) .nil)) build_pair) ?_
  refine net_cons rfl rfl (n_ret rfl Try.call96 (.cons (ev rfl) .nil) (fun _ hx => block_c _ _ _)) ?_
  refine net_nil fun a w1 hF hx => ?_
  replace hw := hw.next hx
  replace hF := hF.keep (.cons (t := 6) rfl (.cons (t := 14) rfl .nil))
  refine t_store (i := 0) rfl rfl rfl hF hw rfl (ev rfl) (ev rfl) rfl (kc_one _) Try.sizeOf23 (kc_len _) (by first | decide | (rw [kc_len]; decide)) (seg_whole (by rw [kc_len]; rfl)) fun w1 hw => ?_
  refine wpList_nil ?_
  refine wp_ret (retc hF Try.results97 rfl (ldN hw (i := 0) (vs := _) rfl Try.isAgg23 Try.sizeOf23 (kc_len _) (cut_whole (kc_len _)) _ (Ext.refl _)) ?_)
  exact ⟨_, rfl, hw.ext, rfl⟩


/-- What is derived from a key by a tag and a number. -/
def derK (k : Key) (t n : Nat) : Key := encK k (blkK t 0#64 (BitVec.ofNat 64 n))


theorem Derive_c (k : Key) (t n : Nat) (ht : t < 256) (hn : n < 18446744073709551616) (w : World) : RetF Try.prog 37 [K k, B8 t, U n].toArray w (.is (K (derK k t n))) := by
  obtain ⟨n, rfl⟩ := bv_of hn
  refine enter Try.func37 rfl Try.ntmps37 rfl fun a hF => ?_
  have hw := Own.start w
  refine wp_seq (wp_region_lit ?_)
  refine t_net 0 1 (by kernel_rfl) rfl hF ?_
  refine net_cons rfl rfl (n_box rfl (ev rfl) rfl) ?_
  refine net_nil fun a w1 hF hx => ?_
  obtain ⟨b3, h_, hw⟩ := hw.blk hx (hF.at_ 3 _ rfl)
  replace hF := hF.now h_
  replace hF := hF.keep (.cons (t := 1) rfl (.cons (t := 2) rfl (.cons (t := 3) rfl .nil)))
  refine t_net 1 1 (by kernel_rfl) rfl hF ?_
  refine net_cons rfl rfl (n_alloc rfl Try.zeroValue23 rfl) ?_
  refine net_nil fun a w1 hF hx => ?_
  obtain ⟨b6, h_, hw⟩ := hw.blk hx (hF.at_ 6 _ rfl)
  replace hF := hF.now h_
  replace hF := hF.keep (.cons (t := 1) rfl (.cons (t := 2) rfl (.cons (t := 3) rfl (.cons (t := 6) rfl .nil))))
  refine wpList_nil ?_
  refine wp_seq (reg_draw 5 mixed (by kernel_rfl) (hF _ _) ?_)
  refine net_cons rfl rfl (n_load rfl (ev rfl) (ldN hw (i := 0) (vs := _) rfl Try.isAgg23 Try.sizeOf23 (kc_len _) (cut_whole (kc_len _)))) ?_
  refine net_cons rfl rfl (n_move rfl (ev rfl)) ?_
  refine net_cons rfl rfl (n_move rfl (ev rfl)) ?_
  refine net_cons rfl rfl (n_ret rfl Try.call97 (.cons (ev rfl) (.cons evc (.cons (ev rfl) .nil))) (fun _ hx => blockOf_c _ 0#64 _ ht _)) ?_
  refine net_cons rfl rfl (n_ret rfl Try.call36 (.cons (ev rfl) (.cons (ev rfl) .nil)) (fun _ hx => Encrypt_c _ _ _)) ?_
  refine net_nil fun a w1 hF hx => ?_
  replace hw := hw.next hx
  replace hF := hF.keep (.cons (t := 6) rfl (.cons (t := 11) rfl .nil))
  refine t_store (i := 1) rfl rfl rfl hF hw rfl (ev rfl) (ev rfl) rfl (kc_one _) Try.sizeOf23 (kc_len _) (by first | decide | (rw [kc_len]; decide)) (seg_whole (by rw [kc_len]; rfl)) fun w1 hw => ?_
  refine wpList_nil ?_
  refine wp_ret (retc hF Try.results37 rfl (ldN hw (i := 1) (vs := _) rfl Try.isAgg23 Try.sizeOf23 (kc_len _) (cut_whole (kc_len _)) _ (Ext.refl _)) ?_)
  exact ⟨_, rfl, hw.ext, (by rw [show derK k t n.toNat = encK k (blkK t 0#64 n) by unfold derK; rw [BitVec.ofNat_toNat, BitVec.setWidth_eq]]; rfl)⟩


/-- A number below m. -/
def numK (k : Key) (n m : Nat) : Nat := if m = 0 then 0 else (derK k 3 n).x.toNat % m


theorem Number_c (k : Key) (n m : Nat) (hn : n < 18446744073709551616) (hm : m < 18446744073709551616) (w : World) : RetF Try.prog 68 [K k, U n, U m].toArray w (.is (U (numK k n m))) := by
  refine enter Try.func68 rfl Try.ntmps68 rfl fun a hF => ?_
  have hw := Own.start w
  refine wp_seq (wp_region_lit ?_)
  refine t_net 0 1 (by kernel_rfl) rfl hF ?_
  refine net_cons rfl rfl (n_box rfl (ev rfl) rfl) ?_
  refine net_nil fun a w1 hF hx => ?_
  obtain ⟨b3, h_, hw⟩ := hw.blk hx (hF.at_ 3 _ rfl)
  replace hF := hF.now h_
  replace hF := hF.keep (.cons (t := 1) rfl (.cons (t := 2) rfl (.cons (t := 3) rfl .nil)))
  refine t_net 1 1 (by kernel_rfl) rfl hF ?_
  refine net_cons rfl rfl (n_assign rfl evc) ?_
  refine net_nil fun a w1 hF hx => ?_
  replace hw := hw.next hx
  replace hF := hF.keep (.cons (t := 1) rfl (.cons (t := 2) rfl (.cons (t := 3) rfl (.cons (t := 6) rfl .nil))))
  refine wpList_nil ?_
  refine wp_seq ?_
  refine wp_seq (reg_seq 2 (hF _ _) (by kernel_rfl) ?_)
  refine net_cons rfl rfl (n_move rfl (ev rfl)) ?_
  refine net_cons rfl rfl (n_bin rfl (ev rfl) evc (r_eqlN (b := 0))) ?_
  refine net_nil fun a w1 hF hx => ?_
  replace hw := hw.next hx
  replace hF := hF.keep (.cons (t := 1) rfl (.cons (t := 2) rfl (.cons (t := 3) rfl (.cons (t := 6) rfl (.cons (t := 8) rfl .nil)))))
  refine wpList_nil ?_
  refine wp_cond_split (hF.ev (ev rfl)) (fun h8 => ?_) (fun h8 => ?_)
  · replace h8 := of_bool_t h8
    refine wp_seq (reg_seq 1 (hF _ _) (by kernel_rfl) ?_)
    refine net_cons rfl rfl (n_assign rfl evc) ?_
    refine net_nil fun a w1 hF hx => ?_
    replace hw := hw.next hx
    replace hF := hF.keep (.cons (t := 1) rfl (.cons (t := 2) rfl (.cons (t := 3) rfl (.cons (t := 6) rfl (.cons (t := 8) rfl .nil)))))
    refine wpList_nil ?_
    refine wp_ret (go_then_r (ret1 hF Try.results68 rfl ?_))
    exact ⟨_, rfl, hw.ext, (by rw [show numK k n m = 0 by unfold numK; rw [if_pos h8]]; rfl)⟩
  · replace h8 := of_bool_f h8
    refine wp_skip ?_
    refine wp_seq (reg_seq 8 (hF _ _) (by kernel_rfl) ?_)
    refine net_cons rfl rfl (n_load rfl (ev rfl) (ldN hw (i := 0) (vs := _) rfl Try.isAgg23 Try.sizeOf23 (kc_len _) (cut_whole (kc_len _)))) ?_
    refine net_cons rfl rfl (n_move rfl (ev rfl)) ?_
    refine net_cons rfl rfl (n_ret rfl Try.call37 (.cons (ev rfl) (.cons evc (.cons (ev rfl) .nil))) (fun _ hx => Derive_c _ 3 _ (by decide) hn _)) ?_
    refine net_cons rfl rfl (n_ret rfl Try.call93 (.cons (ev rfl) .nil) (fun _ hx => wordsOf_c _ _)) ?_
    refine net_cons rfl rfl (n_field rfl (ev rfl) Try.runUnderlying148 rfl (part1 Try.isAgg24 rfl)) ?_
    refine net_cons rfl rfl (n_move rfl (ev rfl)) ?_
    refine net_cons rfl rfl (n_bin rfl (ev rfl) (ev rfl) (r_remN (by omega))) ?_
    refine net_cons rfl rfl (n_assign rfl (ev rfl)) ?_
    refine net_nil fun a w1 hF hx => ?_
    replace hw := hw.next hx
    replace hF := hF.keep (.cons (t := 2) rfl (.cons (t := 6) rfl (.cons (t := 8) rfl .nil)))
    refine wpList_nil ?_
    refine wp_ret (ret1 hF Try.results68 rfl ?_)
    exact ⟨_, rfl, hw.ext, (by rw [show numK k n m = (derK k 3 n).x.toNat % m by unfold numK; rw [if_neg h8]]; rfl)⟩


def dsK (k b : Key) : Nat → BitVec 64 × BitVec 64
  | 0 => ⟨b.x, b.y⟩
  | i + 1 => bck (dsK k b i) (ks k (31 - i)).2
def decK (k b : Key) : Key := ⟨(dsK k b 32).1, (dsK k b 32).2⟩
def allK (k : Key) (i : Nat) : List Value := (List.range 32).map fun n => if n < i then W (ks k n).2 else U 0
theorem allK_len (k : Key) (i : Nat) : (allK k i).length = 32 := by simp [allK]
theorem allK_at (k : Key) (n : Nat) (h : n < 32) : (allK k 32)[n]? = some (W (ks k n).2) := by
  simp only [allK, List.getElem?_map, List.getElem?_range h, Option.map_some, if_pos h]
theorem allK_step (k : Key) (i : Nat) (h : i < 32) : seg (allK k i) i [W (ks k i).2] = allK k (i + 1) := by
  rw [seg_one (by rw [allK_len]; exact h)]
  apply List.ext_getElem?
  intro n
  simp only [allK, List.getElem?_set, List.getElem?_map, List.length_map, List.length_range]
  by_cases h1 : i = n
  · subst h1
    rw [if_pos rfl, if_pos h, List.getElem?_range h]
    simp
  · rw [if_neg h1]
    by_cases h2 : n < 32
    · rw [List.getElem?_range h2]
      simp only [Option.map_some]
      congr 1
      by_cases h3 : n < i
      · rw [if_pos h3, if_pos (by omega)]
      · rw [if_neg h3, if_neg (by omega)]
    · rw [List.getElem?_eq_none (by simpa using h2)]
      rfl


theorem Decrypt_c (k b : Key) (w : World) : RetF Try.prog 79 [K k, K b].toArray w (.is (K (decK k b))) := by
  refine enterM Try.func79 rfl Try.ntmps79 rfl fun a hF => ?_
  have hw := Own.start w
  refine wp_seq (wp_region_lit ?_)
  refine t_net 0 1 (by kernel_rfl) rfl hF ?_
  refine net_cons rfl rfl (n_box rfl (ev rfl) rfl) ?_
  refine net_nil fun a w1 hF hx => ?_
  obtain ⟨b2, h_, hw⟩ := hw.blk hx (hF.at_ 2 _ rfl)
  replace hF := hF.now h_
  replace hF := hF.keep (.cons (t := 1) rfl (.cons (t := 2) rfl .nil))
  refine t_net 1 1 (by kernel_rfl) rfl hF ?_
  refine net_cons rfl rfl (n_box rfl (ev rfl) rfl) ?_
  refine net_nil fun a w1 hF hx => ?_
  obtain ⟨b3, h_, hw⟩ := hw.blk hx (hF.at_ 3 _ rfl)
  replace hF := hF.now h_
  replace hF := hF.keep (.cons (t := 2) rfl (.cons (t := 3) rfl .nil))
  refine t_net 2 1 (by kernel_rfl) rfl hF ?_
  refine net_cons rfl rfl (n_alloc rfl Try.zeroValue23 rfl) ?_
  refine net_nil fun a w1 hF hx => ?_
  obtain ⟨b4, h_, hw⟩ := hw.blk hx (hF.at_ 4 _ rfl)
  replace hF := hF.now h_
  replace hF := hF.keep (.cons (t := 2) rfl (.cons (t := 3) rfl (.cons (t := 4) rfl .nil)))
  refine wpList_nil ?_
  refine wp_seq (wp_region_lit ?_)
  refine t_net 0 1 (by kernel_rfl) rfl hF ?_
  refine net_cons rfl rfl (n_alloc rfl Try.zeroValue177 rfl) ?_
  refine net_nil fun a w1 hF hx => ?_
  obtain ⟨b5, h_, hw⟩ := hw.blk hx (hF.at_ 5 _ rfl)
  replace hF := hF.now h_
  replace hF := hF.keep (.cons (t := 2) rfl (.cons (t := 3) rfl (.cons (t := 4) rfl (.cons (t := 5) rfl .nil))))
  refine wpList_nil ?_
  refine wp_seq ?_
  refine wp_seq (reg_seq 2 (hF _ _) (by kernel_rfl) ?_)
  refine net_cons rfl rfl (n_load rfl (ev rfl) (ldN hw (i := 0) (vs := _) rfl Try.isAgg23 Try.sizeOf23 (kc_len _) (cut_whole (kc_len _)))) ?_
  refine net_cons rfl rfl (n_ret rfl Try.call94 (.cons (ev rfl) .nil) (fun _ hx => keys_c _ _)) ?_
  refine net_nil fun a w1 hF hx => ?_
  obtain ⟨b11, h_, hw⟩ := hw.cap hx (hF.at_ 11 _ rfl)
  replace hF := hF.now h_
  replace hF := hF.keep (.cons (t := 3) rfl (.cons (t := 4) rfl (.cons (t := 5) rfl (.cons (t := 11) rfl .nil))))
  refine wpList_nil ?_
  refine wp_block ?_
  refine wp_range (fun (i : Nat) => ([.blk b2 23 (kc k), .blk b3 23 (kc b), .blk b4 23 (List.replicate 16 (B8 0)), .blk b5 177 (allK k i)] : List Ent)) (fun (i : Nat) => ([(5, .is (.pointer (some ⟨b5, 0, none⟩))), (6, .is (I (i : Int))), (7, .is (W (ks k i).2))] : Env)) (fun i => I (i : Int)) (fun i => W (ks k i).2) (by decide) (by decide) hw (ev rfl) Try.call136 (keys_iter k b11 w) (fun _ _ _ _ => trivial) (hF.keep (.cons (t := 3) rfl (.cons (t := 4) rfl (.cons (t := 5) rfl (.cons (t := 11) rfl (.nil)))))) (fun _ => rfl) (fun l i a w1 K_ hF hK => ?_) (fun l Z i a w1 hk hF hw => ?_) (fun r a w1 hF hw => ?_)
  · have hw := Own.start w1
    refine wpIn_seq (reg_seqIn (fw_round l) 1 (hF _ _) (by kernel_rfl) ?_)
    refine net_cons rfl rfl (n_assign rfl (ev rfl)) ?_
    refine net_nil fun a w1 hF hx => ?_
    replace hw := hw.next hx
    replace hF := hF.keep (.cons (t := 3) rfl (.cons (t := 4) rfl (.cons (t := 5) rfl (.cons (t := 6) rfl (.cons (t := 11) rfl (.cons (t := 12) rfl (.cons (t := 13) rfl .nil)))))))
    refine wpListIn_nil ?_
    refine reg_seqIn (fw_round l) 1 (hF _ _) (by kernel_rfl) ?_
    refine net_cons rfl rfl (n_assign rfl (ev rfl)) ?_
    refine net_nil fun a w1 hF hx => ?_
    replace hw := hw.next hx
    replace hF := hF.keep (.cons (t := 3) rfl (.cons (t := 4) rfl (.cons (t := 5) rfl (.cons (t := 6) rfl (.cons (t := 7) rfl (.cons (t := 11) rfl (.cons (t := 12) rfl (.cons (t := 13) rfl .nil))))))))
    refine wpListIn_nil ?_
    exact hK _ _ (hF.keep (.cons (t := 5) rfl (.cons (t := 6) rfl (.cons (t := 7) rfl (.nil))))) hw.ext
  · have hk0 := hk
    refine wpIn_block ?_
    refine wpIn_region_lit ?_
    refine t_netIn (fw_round l) 0 3 (by kernel_rfl) rfl hF ?_
    refine net_cons rfl rfl (n_move rfl (ev rfl)) ?_
    refine net_cons rfl rfl (n_move rfl (ev rfl)) ?_
    refine net_cons rfl rfl (n_indexA (off' := i) rfl (ev rfl) (ev rfl) Try.runUnderlying177 Try.sizeOf24 hk0 (by omega)) ?_
    refine net_nil fun a w1 hF hx => ?_
    replace hw := hw.next hx
    replace hF := hF.keep (.cons (t := 15) rfl (.cons (t := 16) rfl .nil))
    refine t_storeIn (fw_round l) (i := 3) rfl rfl rfl hF hw rfl (ev rfl) (ev rfl) rfl one1 Try.sizeOf24 rfl (by rw [allK_len]; omega) (allK_step k i hk0) fun w1 hw => ?_
    refine wpListIn_nil ?_
    exact ⟨rfl, hw⟩
  · have h_ := hw.ext
    refine wp_seq (wp_region_lit ?_)
    refine t_net 0 3 (by kernel_rfl) rfl hF ?_
    refine net_cons rfl rfl (n_load rfl (ev rfl) (ldN hw (i := 2) (vs := _) rfl Try.isAgg23 Try.sizeOf23 (kc_len _) (cut_whole (kc_len _)))) ?_
    refine net_cons rfl rfl (n_ret rfl Try.call93 (.cons (ev rfl) .nil) (fun _ hx => wordsOf_c _ _)) ?_
    refine net_cons rfl rfl (n_alloc rfl Try.zeroValue148 rfl) ?_
    refine net_nil fun a w1 hF hx => ?_
    obtain ⟨b8, h_, hw⟩ := hw.blk hx (hF.at_ 8 _ rfl)
    replace hF := hF.now h_
    replace hF := hF.keep (.cons (t := 4) rfl (.cons (t := 5) rfl (.cons (t := 8) rfl (.cons (t := 11) rfl (.cons (t := 18) rfl .nil)))))
    refine t_store (i := 6) rfl rfl rfl hF hw rfl (ev rfl) (ev rfl) rfl (one2 rfl rfl) Try.sizeOf148 rfl (Nat.le_of_ble_eq_true rfl) rfl fun w1 hw => ?_
    refine wpList_nil ?_
    refine wp_seq ?_
    refine wp_seq (reg_seq 1 (hF _ _) (by kernel_rfl) ?_)
    refine net_cons rfl rfl (n_assign rfl evc) ?_
    refine net_nil fun a w1 hF hx => ?_
    replace hw := hw.next hx
    replace hF := hF.keep (.cons (t := 4) rfl (.cons (t := 5) rfl (.cons (t := 8) rfl (.cons (t := 9) rfl (.cons (t := 11) rfl (.cons (t := 18) rfl .nil))))))
    refine wpList_nil ?_
    refine wp_block ?_
    refine wp_loop_ix (α := Nat) (fun m a w1 => FrV 30 [markD r] [(4, .is (.pointer (some ⟨b4, 0, none⟩))) , (5, .is (.pointer (some ⟨b5, 0, none⟩))) , (8, .is (.pointer (some ⟨b8, 0, none⟩))) , (9, .is (I ((m : Int) - 1)))] a ∧ Own w w1 [.obj r (.deferred (some [])), .blk b2 23 (kc k), .blk b3 23 (kc b), .blk b4 23 (List.replicate 16 (B8 0)), .blk b5 177 (allK k 32), .blk b11 23 (kc k), .blk b8 148 [W (dsK k b (32 - m)).1, W (dsK k b (32 - m)).2]] ∧ (m ≤ 32)) (fun m => m) (32) ⟨hF.keep (.cons (t := 4) rfl (.cons (t := 5) rfl (.cons (t := 8) rfl (.cons (t := 9) rfl (.nil))))), (by rw [show (32 - 32 : Nat) = 0 from rfl]; exact hw), by omega⟩ ?_
    rintro m a w1 ⟨hF, hw, hm⟩
    refine wp_seq ?_
    refine wp_seq (reg_seq 2 (hF _ _) (by kernel_rfl) ?_)
    refine net_cons rfl rfl (n_move rfl (ev rfl)) ?_
    refine net_cons rfl rfl (n_bin rfl (ev rfl) evc r_geq) ?_
    refine net_nil fun a w1 hF hx => ?_
    replace hw := hw.next hx
    replace hF := hF.keep (.cons (t := 4) rfl (.cons (t := 5) rfl (.cons (t := 8) rfl (.cons (t := 9) rfl (.cons (t := 20) rfl .nil)))))
    refine wpList_nil ?_
    refine wp_cond_split (hF.ev (ev rfl)) (fun h20 => ?_) (fun h20 => ?_)
    · have h0 := of_bool_t h20
      obtain ⟨m, rfl⟩ : ∃ n, m = n + 1 := ⟨m - 1, by omega⟩
      rw [show 32 - (m + 1) = 31 - m by omega] at hw
      refine wp_skip ?_
      refine wp_seq (wp_block ?_)
      refine reg_draw 5 mixed (by kernel_rfl) (hF _ _) ?_
      refine net_cons rfl rfl (n_load rfl (ev rfl) (ldN hw (i := 6) (vs := _) rfl Try.isAgg148 Try.sizeOf148 rfl rfl)) ?_
      refine net_cons rfl rfl (n_to (v' := I (m : Int)) (n_move rfl (ev rfl)) (congrArg (Value.int .i64) (by omega))) ?_
      refine net_cons rfl rfl (n_indexA (off' := m) rfl (ev rfl) (ev rfl) Try.runUnderlying177 Try.sizeOf24 (by omega) (by omega)) ?_
      refine net_cons rfl rfl (n_load rfl (ev rfl) (ld1 hw (i := 4) rfl Try.isAgg24 (allK_at k m (by omega)))) ?_
      refine net_cons rfl rfl (n_ret rfl Try.call124 (.cons (ev rfl) (.cons (ev rfl) .nil)) (fun _ hx => back_c _ _ _ _)) ?_
      refine net_nil fun a w1 hF hx => ?_
      replace hw := hw.next hx
      replace hF := hF.keep (.cons (t := 4) rfl (.cons (t := 5) rfl (.cons (t := 8) rfl (.cons (t := 9) rfl (.cons (t := 20) rfl (.cons (t := 27) rfl .nil))))))
      refine t_store (i := 6) rfl rfl rfl hF hw rfl (ev rfl) (ev rfl) rfl (one2 rfl rfl) Try.sizeOf148 rfl (Nat.le_of_ble_eq_true rfl) rfl fun w1 hw => ?_
      refine wpList_nil ?_
      refine reg_seq 3 (hF _ _) (by kernel_rfl) ?_
      refine net_cons rfl rfl (n_move rfl (ev rfl)) ?_
      refine net_cons rfl rfl (n_to (v' := I ((m : Int) - 1)) (n_bin rfl (ev rfl) evc (r_subI (by omega) (by omega))) (congrArg (Value.int .i64) (by omega))) ?_
      refine net_cons rfl rfl (n_assign rfl (ev rfl)) ?_
      refine net_nil fun a w1 hF hx => ?_
      replace hw := hw.next hx
      replace hF := hF.keep (.cons (t := 4) rfl (.cons (t := 5) rfl (.cons (t := 8) rfl (.cons (t := 9) rfl (.cons (t := 20) rfl (.cons (t := 27) rfl .nil))))))
      refine wpList_nil ?_
      have e1 : dsK k b (32 - m) = bck (dsK k b (31 - m)) (ks k m).2 := by rw [show 32 - m = (31 - m) + 1 by omega]; show bck _ (ks k (31 - (31 - m))).2 = _; rw [show 31 - (31 - m) = m by omega]
      exact ⟨m, ⟨hF.keep (.cons (t := 4) rfl (.cons (t := 5) rfl (.cons (t := 8) rfl (.cons (t := 9) rfl (.nil))))), (by rw [e1]; exact hw), by omega⟩, by omega⟩
    · obtain rfl : m = 0 := by have := of_bool_f h20; omega
      refine wp_exit (go_then_e (go_then_e (go_exit ?_)))
      refine wp_seq (wp_region_lit ?_)
      refine t_net 0 2 (by kernel_rfl) rfl hF ?_
      refine net_cons rfl rfl (n_load rfl (ev rfl) (ldN hw (i := 6) (vs := _) rfl Try.isAgg148 Try.sizeOf148 rfl rfl)) ?_
      refine net_cons rfl rfl (n_ret rfl Try.call96 (.cons (ev rfl) .nil) (fun _ hx => block_c _ _ _)) ?_
      refine net_nil fun a w1 hF hx => ?_
      replace hw := hw.next hx
      replace hF := hF.keep (.cons (t := 4) rfl (.cons (t := 5) rfl (.cons (t := 8) rfl (.cons (t := 9) rfl (.cons (t := 20) rfl (.cons (t := 29) rfl .nil))))))
      refine t_store (i := 3) rfl rfl rfl hF hw rfl (ev rfl) (ev rfl) rfl (kc_one _) Try.sizeOf23 (kc_len _) (by first | decide | (rw [kc_len]; decide)) (seg_whole (by rw [kc_len]; rfl)) fun w1 hw => ?_
      refine wpList_nil ?_
      refine wp_ret (retMc hF hw Try.results79 rfl (fun _ hw_ => (ldN hw_ (i := 2) (vs := _) rfl Try.isAgg23 Try.sizeOf23 (kc_len _) (cut_whole (kc_len _)) _ (Ext.refl _))) fun w1 hw => ?_)
      exact ⟨_, rfl, hw.ext, rfl⟩
end Go.Proofs.Ythgpojlcbbgaoaa

