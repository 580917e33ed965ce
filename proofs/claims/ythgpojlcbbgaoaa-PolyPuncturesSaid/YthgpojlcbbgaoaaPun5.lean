/- punctured keys: Puncture and Evaluate of the reference -/
import Derived.Test.YthgpojlcbbgaoaaPun4

set_option autoImplicit false
set_option maxRecDepth 100000
set_option linter.unusedVariables false
namespace Go.Proofs.Ythgpojlcbbgaoaa
open Go.RowKit


theorem build_83_0 {d : Int} (w : World) : (Instr.build 83 #[(0, I d)]).run Try.prog w = .ok (PuV d (.slice none 0 0)) w := by
  simp [Instr.build, Try.zeroValue83, Try.runUnderlying83, Array.mapM_eq_mapM_toList, List.mapM_cons, Try.sizeOf3, Try.sizeOf29, Instr.fill, Value.cells]
theorem NodeKey_i (k : Key) (l : Nat) (x : Int) (hl : l < 128) (hx : 1 ≤ x) (hb : bel l x = true) (w : World) : RetF Try.prog 114 [K k, I x, I (l : Int)].toArray w (.is (K (walkK l (stT l x) k))) := by
  obtain ⟨v, rfl⟩ := Int.eq_ofNat_of_zero_le (show 0 ≤ x by omega)
  rw [bel_nat] at hb
  obtain ⟨h1, h2⟩ := st_spec hl (by omega) hb
  exact NodeKey_c k l _ v hl (by omega) h1 (by omega) w
theorem Path_i (l : Nat) (x : Int) (hl : l < 128) (hx : 1 ≤ x) (hb : bel l x = true) (w : World) : RetF Try.prog 113 [I x, I (l : Int)].toArray w (.ex 3 1 (stT l x + 1) ((downL l (stT l x + 1)).map iv) (fun v => v)) := by
  obtain ⟨v, rfl⟩ := Int.eq_ofNat_of_zero_le (show 0 ≤ x by omega)
  rw [bel_nat] at hb
  obtain ⟨h1, h2⟩ := st_spec hl (by omega) hb
  exact Path_c l _ v hl (by omega) h1 (by omega) w
theorem walkK_snoc (u : Nat) : ∀ (s : Nat) (k : Key), walkK u (s + 1) k = chK (walkK (u / 2) s k) u
  | 0, k => by simp [walkK]
  | s + 1, k => by
    rw [walkK, walkK_snoc u s, walkK, Nat.pow_succ, Nat.mul_comm, ← Nat.div_div_eq_div_mul]
theorem walkS_at (l : Nat) (hl : l < 128) : ∀ (T j : Nat) (k : Key), j < T → (walkS l T k)[j]? = some (((l / 2 ^ (T - 1 - j) ^^^ 1 : Nat) : Int), 0, walkK (l / 2 ^ (T - 1 - j) ^^^ 1) (j + 1) k)
  | 0, j, k, h => absurd h (Nat.not_lt_zero _)
  | T + 1, 0, k, h => by
    simp [walkS, walkK]
  | T + 1, j + 1, k, h => by
    rw [walkS, List.getElem?_cons_succ, walkS_at l hl T j _ (by omega), show T + 1 - 1 - (j + 1) = T - 1 - j by omega]
    have hu : l / 2 ^ (T - 1 - j) < 128 := Nat.lt_of_le_of_lt (Nat.div_le_self _ _) hl
    have hx := xor1 hu
    have e : (l / 2 ^ (T - 1 - j) ^^^ 1) / 2 ^ (j + 1) = l / 2 ^ T := by
      rw [Nat.pow_succ, Nat.mul_comm, ← Nat.div_div_eq_div_mul, show (l / 2 ^ (T - 1 - j) ^^^ 1) / 2 = l / 2 ^ (T - 1 - j) / 2 by omega, Nat.div_div_eq_div_mul, Nat.div_div_eq_div_mul, show 2 * 2 ^ j = 2 ^ (j + 1) by rw [Nat.pow_succ, Nat.mul_comm], ← Nat.pow_add,
        show T - 1 - j + (j + 1) = T by omega]
    conv => rhs; rw [walkK, e]
theorem NodeKey_w (k : Key) (l j : Nat) (x : Int) (hl : l < 128) (hx : 1 ≤ x) (hb : bel l x = true) (hj : j < stT l x) (w : World) :
    RetF Try.prog 114 [K k, I x, I ((l / 2 ^ (stT l x - 1 - j) ^^^ 1 : Nat) : Int)].toArray w (.is (K (walkK (l / 2 ^ (stT l x - 1 - j) ^^^ 1) (j + 1) k))) := by
  obtain ⟨v, rfl⟩ := Int.eq_ofNat_of_zero_le (show 0 ≤ x by omega)
  rw [bel_nat] at hb
  obtain ⟨h1, h2⟩ := st_spec hl (by omega) hb
  generalize stT l (v : Int) = T at *
  have hu : l / 2 ^ (T - 1 - j) < 128 := Nat.lt_of_le_of_lt (Nat.div_le_self _ _) hl
  have hxx := xor1 hu
  refine NodeKey_c k _ (j + 1) v (xor1_lt hu) (by omega) ?_ (by omega) w
  rw [Nat.pow_succ, Nat.mul_comm, ← Nat.div_div_eq_div_mul, show (l / 2 ^ (T - 1 - j) ^^^ 1) / 2 = l / 2 ^ (T - 1 - j) / 2 by omega, Nat.div_div_eq_div_mul, Nat.div_div_eq_div_mul, show 2 * 2 ^ j = 2 ^ (j + 1) by rw [Nat.pow_succ, Nat.mul_comm], ← Nat.pow_add,
        show T - 1 - j + (j + 1) = T by omega, h1]
def accR (l : Nat) (L : List Lab) (i : Nat) : List Lab := insAll [] (punM l (L.take i))
theorem insAll_app (a m : List Lab) (x : Lab) : insAll a (m ++ [x]) = insL (insAll a m) x := by simp [insAll, List.foldl_append]
theorem insAll_app2 (a m m2 : List Lab) : insAll a (m ++ m2) = insAll (insAll a m) m2 := by simp [insAll, List.foldl_append]
theorem punM_app (l : Nat) (a b : List Lab) : punM l (a ++ b) = punM l a ++ punM l b := by simp [punM]
theorem acc_no {l i : Nat} {L : List Lab} {x : Lab} (hx : L[i]? = some x) (h : bel l x.1 = false) : accR l L (i + 1) = insL (accR l L i) x := by
  unfold accR
  rw [List.take_add_one, hx, Option.toList_some, punM_app, show punM l [x] = [x] by simp [punM, h], insAll_app]
theorem acc_yes {l i : Nat} {L : List Lab} {x : Lab} (hx : L[i]? = some x) (h : bel l x.1 = true) : accR l L (i + 1) = insAll (accR l L i) (walkS l (stT l x.1) x.2.2) := by
  unfold accR
  rw [List.take_add_one, hx, Option.toList_some, punM_app, show punM l [x] = walkS l (stT l x.1) x.2.2 by simp [punM, h], insAll_app2]
theorem insAll_len (a m : List Lab) : (insAll a m).length = m.length + a.length := by
  have := (insAll_perm m a).length_eq
  rwa [List.length_append] at this
theorem punM_len {l : Nat} (hl : l < 128) (L : List Lab) : (punM l L).length ≤ 8 * L.length := by
  induction L with
  | nil => simp [punM]
  | cons x L ih =>
    have e : punM l (x :: L) = (if bel l x.1 then walkS l (stT l x.1) x.2.2 else [x]) ++ punM l L := by simp [punM]
    rw [e, List.length_append, List.length_cons]
    have : (if bel l x.1 then walkS l (stT l x.1) x.2.2 else [x]).length ≤ 8 := by
      split
      · rw [walkS_len]; have := lenT_le (x := l) (by omega); unfold stT; omega
      · simp
    omega
theorem accR_len {l : Nat} (hl : l < 128) (L : List Lab) (i : Nat) : (accR l L i).length ≤ 8 * L.length := by
  unfold accR
  rw [insAll_len, List.length_nil, Nat.add_zero]
  have := punM_len hl (L.take i)
  rw [List.length_take] at this
  omega
theorem accR_all {l n : Nat} {L : List Lab} (hl : L.length = n) : accR l L n = punL l L := by
  unfold accR punL
  rw [List.take_of_length_le (by omega)]
theorem acc_step {l j T : Nat} {k : Key} {acc : List Lab} (hl : l < 128) (hj : j < T) : insAll acc ((walkS l T k).take (j + 1)) = insL (insAll acc ((walkS l T k).take j)) (((l / 2 ^ (T - 1 - j) ^^^ 1 : Nat) : Int), 0, walkK (l / 2 ^ (T - 1 - j) ^^^ 1) (j + 1) k) := by
  rw [List.take_add_one, walkS_at l hl T j k hj, Option.toList_some, insAll_app]


theorem rEvaluate_c (d : Int) (n c : Nat) (A : Option Addr) (L : List Lab) (hl : L.length = n) (hcp : n ≤ c) (hn : n ≤ 4398046511000) (m : Int) (hm0 : -9223372036854775808 ≤ m) (hm1 : m < 9223372036854775808) (w : World) (hR : Rd w A (L.flatMap lc)) : RetF Try.prog 53 [PuV d (.slice A n c), I m].toArray w (.is (.tuple #[K (evR d L m).1, I (evR d L m).2])) := by
  obtain ⟨bX, oX, hcX, hA⟩ := hR.some?
  refine enter Try.func53 rfl Try.ntmps53 rfl fun a hF => ?_
  have hw := Own.start w
  refine wp_seq (wp_region_lit ?_)
  refine t_net 0 1 (by kernel_rfl) rfl hF ?_
  refine net_cons rfl rfl (n_box rfl (ev rfl) rfl) ?_
  refine net_nil fun a w1 hF hx => ?_
  obtain ⟨b2, h_, hw⟩ := hw.blk hx (hF.at_ 2 _ rfl)
  replace hF := hF.now h_
  replace hF := hF.keep (.cons (t := 1) rfl (.cons (t := 2) rfl .nil))
  refine t_net 1 1 (by kernel_rfl) rfl hF ?_
  refine net_cons rfl rfl (n_alloc rfl Try.zeroValue23 rfl) ?_
  refine net_nil fun a w1 hF hx => ?_
  obtain ⟨b4, h_, hw⟩ := hw.blk hx (hF.at_ 4 _ rfl)
  replace hF := hF.now h_
  replace hF := hF.keep (.cons (t := 1) rfl (.cons (t := 2) rfl (.cons (t := 4) rfl .nil)))
  refine t_net 2 1 (by kernel_rfl) rfl hF ?_
  refine net_cons rfl rfl (n_assign rfl evc) ?_
  refine net_nil fun a w1 hF hx => ?_
  replace hw := hw.next hx
  replace hF := hF.keep (.cons (t := 1) rfl (.cons (t := 2) rfl (.cons (t := 4) rfl (.cons (t := 5) rfl .nil))))
  refine wpList_nil ?_
  refine wp_seq ?_
  refine wp_seq (reg_seq 4 (hF _ _) (by kernel_rfl) ?_)
  refine net_cons rfl rfl (n_load rfl (ev rfl) (ldN hw (i := 0) (vs := _) rfl Try.isAgg83 Try.sizeOf83 rfl rfl)) ?_
  refine net_cons rfl rfl (n_move rfl (ev rfl)) ?_
  refine net_cons rfl rfl (n_ret rfl Try.call110 (.cons (ev rfl) (.cons (ev rfl) .nil)) (fun _ hx => (asked_c d n c A L hl hcp (by omega) m hm0 hm1 _ (hR.ext (hw.ext.trans hx))))) ?_
  refine net_cons rfl rfl (n_assign rfl (ev rfl)) ?_
  refine net_nil fun a w1 hF hx => ?_
  replace hw := hw.next hx
  replace hF := hF.keep (.cons (t := 1) rfl (.cons (t := 2) rfl (.cons (t := 4) rfl (.cons (t := 5) rfl (.cons (t := 6) rfl .nil)))))
  refine wpList_nil ?_
  refine wp_seq (reg_seq 2 (hF _ _) (by kernel_rfl) ?_)
  refine net_cons rfl rfl (n_move rfl (ev rfl)) ?_
  refine net_cons rfl rfl (n_bin rfl (ev rfl) evc (r_neq (b := 0))) ?_
  refine net_nil fun a w1 hF hx => ?_
  replace hw := hw.next hx
  replace hF := hF.keep (.cons (t := 1) rfl (.cons (t := 2) rfl (.cons (t := 4) rfl (.cons (t := 5) rfl (.cons (t := 6) rfl (.cons (t := 14) rfl .nil))))))
  refine wpList_nil ?_
  refine wp_cond_split (hF.ev (ev rfl)) (fun h14 => ?_) (fun h14 => ?_)
  · have hz := ev_err h14
    refine wp_seq (wp_region_lit ?_)
    refine t_net 0 2 (by kernel_rfl) rfl hF ?_
    refine net_cons rfl rfl (n_build rfl .nil build_23_) ?_
    refine net_cons rfl rfl (n_move rfl (ev rfl)) ?_
    refine net_nil fun a w1 hF hx => ?_
    replace hw := hw.next hx
    replace hF := hF.keep (.cons (t := 1) rfl (.cons (t := 2) rfl (.cons (t := 4) rfl (.cons (t := 5) rfl (.cons (t := 6) rfl (.cons (t := 14) rfl (.cons (t := 15) rfl (.cons (t := 16) rfl .nil))))))))
    refine t_store (i := 1) rfl rfl rfl hF hw rfl (ev rfl) (ev rfl) rfl (kc_one _) Try.sizeOf23 (kc_len _) (by first | decide | (rw [kc_len]; decide)) (seg_whole (by first | (rw [kc_len]; rfl) | rw [kc_len])) fun w1 hw => ?_
    refine t_net 3 1 (by kernel_rfl) rfl hF ?_
    refine net_cons rfl rfl (n_assign rfl (ev rfl)) ?_
    refine net_nil fun a w1 hF hx => ?_
    replace hw := hw.next hx
    replace hF := hF.keep (.cons (t := 1) rfl (.cons (t := 2) rfl (.cons (t := 4) rfl (.cons (t := 5) rfl (.cons (t := 6) rfl (.cons (t := 14) rfl .nil))))))
    refine wpList_nil ?_
    refine wp_ret (go_then_r (retc2 hF Try.results53 rfl (ldN hw (i := 1) (vs := _) rfl Try.isAgg23 Try.sizeOf23 (kc_len _) (cut_whole (kc_len _)) _ (Ext.refl _)) rfl ?_))
    exact ⟨_, rfl, hw.ext, (by rw [hz]; rfl)⟩
  · obtain ⟨hok, hmr⟩ := find_yes h14
    obtain ⟨hd0, hd6⟩ := okPN_depth hok
    obtain ⟨dn, rfl⟩ := Int.eq_ofNat_of_zero_le hd0
    simp only [Int.toNat_natCast] at hmr
    have hfr := findR_ok hok hmr
    obtain ⟨hm2, hm3⟩ := or_f hmr
    have hpw := pow_le64 (d := dn) (by omega)
    have hpw0 := Int.natCast_nonneg (2 ^ dn)
    obtain ⟨l, hle⟩ := Int.eq_ofNat_of_zero_le (show 0 ≤ ((2 ^ dn : Nat) : Int) + m by omega)
    rw [hle] at hfr
    have har := all_range (d := dn) (by omega) hok
    have hcnt := count_le (d := dn) (by omega) hok
    have hl128 : l < 128 := by omega
    refine wp_skip ?_
    refine wp_seq (reg_seq 6 (hF _ _) (by kernel_rfl) ?_)
    refine net_cons rfl rfl (n_fieldAddrO (off' := 0) rfl (ev rfl) Try.runUnderlying83 rfl Try.sizeOf3 rfl) ?_
    refine net_cons rfl rfl (n_load rfl (ev rfl) (ld1 hw (i := 0) rfl Try.isAgg3 rfl)) ?_
    refine net_cons rfl rfl (n_ret rfl Try.call66 (.cons (ev rfl) .nil) (fun _ hx => (Receivers_c (dn : Int) (by omega) (by omega) _))) ?_
    refine net_cons rfl rfl (n_move rfl (ev rfl)) ?_
    refine net_cons rfl rfl (n_to (v' := I (l : Int)) (n_bin rfl (ev rfl) (ev rfl) (r_addI (by simp only [Int.toNat_natCast]; omega) (by simp only [Int.toNat_natCast]; omega))) (congrArg (Value.int .i64) (by simp only [Int.toNat_natCast]; omega))) ?_
    refine net_cons rfl rfl (n_assign rfl (ev rfl)) ?_
    refine net_nil fun a w1 hF hx => ?_
    replace hw := hw.next hx
    replace hF := hF.keep (.cons (t := 1) rfl (.cons (t := 2) rfl (.cons (t := 4) rfl (.cons (t := 5) rfl (.cons (t := 6) rfl (.cons (t := 7) rfl (.cons (t := 14) rfl .nil)))))))
    refine wpList_nil ?_
    refine wp_seq ?_
    refine wp_seq (reg_seq 1 (hF _ _) (by kernel_rfl) ?_)
    refine net_cons rfl rfl (n_assign rfl evc) ?_
    refine net_nil fun a w1 hF hx => ?_
    replace hw := hw.next hx
    replace hF := hF.keep (.cons (t := 1) rfl (.cons (t := 2) rfl (.cons (t := 4) rfl (.cons (t := 5) rfl (.cons (t := 6) rfl (.cons (t := 7) rfl (.cons (t := 8) rfl (.cons (t := 14) rfl .nil))))))))
    refine wpList_nil ?_
    refine wp_block ?_
    refine wp_loop_ix (α := Nat) (fun i a w1 => FrV 46 [] [(2, .is (ptr0 b2)) , (4, .is (ptr0 b4)) , (7, .is (I (l : Int))) , (8, .is (I (i : Int)))] a ∧ Own w w1 [.blk b2 83 [I (dn : Int), .slice A n c], .blk b4 23 (kc key0)] ∧ (i ≤ n) ∧ (∀ j y, j < i → L[j]? = some y → bel l y.1 = false)) (fun i => n - i) (0) ⟨hF.keep (.cons (t := 2) rfl (.cons (t := 4) rfl (.cons (t := 7) rfl (.cons (t := 8) rfl (.nil))))), hw, Nat.zero_le _, fun j y h => by omega⟩ ?_
    rintro i a w1 ⟨hF, hw, hi0, hb⟩
    refine wp_seq ?_
    refine wp_seq (reg_seq 5 (hF _ _) (by kernel_rfl) ?_)
    refine net_cons rfl rfl (n_move rfl (ev rfl)) ?_
    refine net_cons rfl rfl (n_fieldAddrO (off' := 1) rfl (ev rfl) Try.runUnderlying83 rfl Try.sizeOf29 rfl) ?_
    refine net_cons rfl rfl (n_load rfl (ev rfl) (ld1 hw (i := 0) rfl Try.isAgg29 rfl)) ?_
    refine net_cons rfl rfl (n_len rfl (ev rfl) Try.underlying29) ?_
    refine net_cons rfl rfl (n_bin rfl (ev rfl) (ev rfl) r_lssN) ?_
    refine net_nil fun a w1 hF hx => ?_
    replace hw := hw.next hx
    replace hF := hF.keep (.cons (t := 2) rfl (.cons (t := 4) rfl (.cons (t := 7) rfl (.cons (t := 8) rfl (.cons (t := 26) rfl .nil)))))
    refine wpList_nil ?_
    refine wp_cond_split (hF.ev (ev rfl)) (fun h26 => ?_) (fun h26 => ?_)
    · have hi : i < n := of_bool_t h26
      obtain ⟨x, hx0⟩ := some_at hl hi
      have hxr := har x (List.mem_of_getElem? hx0)
      have hF_ := hF
      have hw_ := hw
      obtain rfl := hA (by rw [fm_len lc_len]; omega)
      have hF := hF_
      have hw := hw_
      refine wp_skip ?_
      refine wp_seq (wp_block ?_)
      refine wp_seq (wp_region_lit ?_)
      refine t_net 0 6 (by kernel_rfl) rfl hF ?_
      refine net_cons rfl rfl (n_fieldAddrO (off' := 1) rfl (ev rfl) Try.runUnderlying83 rfl Try.sizeOf29 rfl) ?_
      refine net_cons rfl rfl (n_load rfl (ev rfl) (ld1 hw (i := 0) rfl Try.isAgg29 rfl)) ?_
      refine net_cons rfl rfl (n_move rfl (ev rfl)) ?_
      refine net_cons rfl rfl (n_indexS (off' := oX + (i) * 18) rfl (ev rfl) (ev rfl) Try.underlying29 Try.sizeOf95 (by omega) rfl) ?_
      refine net_cons rfl rfl (n_load rfl (ev rfl) (fun w2 hx2 => ldNR hcX (fm_at lc_len hx0) (lc_len _) Try.isAgg95 Try.sizeOf95 (by omega) w2 (hw.ext.trans hx2))) ?_
      refine net_cons rfl rfl (n_alloc rfl Try.zeroValue95 rfl) ?_
      refine net_nil fun a w1 hF hx => ?_
      obtain ⟨b9, h_, hw⟩ := hw.blk hx (hF.at_ 9 _ rfl)
      replace hF := hF.now h_
      replace hF := hF.keep (.cons (t := 2) rfl (.cons (t := 4) rfl (.cons (t := 7) rfl (.cons (t := 8) rfl (.cons (t := 9) rfl (.cons (t := 26) rfl (.cons (t := 33) rfl .nil)))))))
      refine t_store (i := 2) rfl rfl rfl hF hw rfl (ev rfl) (ev rfl) rfl (one_lab _) Try.sizeOf95 (lc_len _) (by first | decide | (rw [lc_len]; decide)) (seg_whole (by rw [lc_len] <;> rfl)) fun w1 hw => ?_
      refine wpList_nil ?_
      refine wp_seq (reg_seq 4 (hF _ _) (by kernel_rfl) ?_)
      refine net_cons rfl rfl (n_move rfl (ev rfl)) ?_
      refine net_cons rfl rfl (n_fieldAddrO (off' := 0) rfl (ev rfl) Try.runUnderlying95 rfl Try.sizeOf3 rfl) ?_
      refine net_cons rfl rfl (n_load rfl (ev rfl) (ld1 hw (i := 2) rfl Try.isAgg3 rfl)) ?_
      refine net_cons rfl rfl (n_ret rfl Try.call111 (.cons (ev rfl) (.cons (ev rfl) .nil)) (fun _ hx => (Below_c (l : Int) x.1 (by omega) (by omega) hxr.1 (by omega) _))) ?_
      refine net_nil fun a w1 hF hx => ?_
      replace hw := hw.next hx
      replace hF := hF.keep (.cons (t := 2) rfl (.cons (t := 4) rfl (.cons (t := 7) rfl (.cons (t := 8) rfl (.cons (t := 9) rfl (.cons (t := 26) rfl (.cons (t := 33) rfl (.cons (t := 37) rfl .nil))))))))
      refine wpList_nil ?_
      refine wp_cond_split (hF.ev (ev rfl)) (fun h37 => ?_) (fun h37 => ?_)
      · refine wp_seq (wp_region_lit ?_)
        refine t_net 0 7 (by kernel_rfl) rfl hF ?_
        refine net_cons rfl rfl (n_fieldAddrO (off' := 2) rfl (ev rfl) Try.runUnderlying95 rfl Try.sizeOf23 rfl) ?_
        refine net_cons rfl rfl (n_load rfl (ev rfl) (ldN hw (i := 2) (vs := _) rfl Try.isAgg23 Try.sizeOf23 (kc_len _) rfl)) ?_
        refine net_cons rfl rfl (n_fieldAddrO (off' := 0) rfl (ev rfl) Try.runUnderlying95 rfl Try.sizeOf3 rfl) ?_
        refine net_cons rfl rfl (n_load rfl (ev rfl) (ld1 hw (i := 2) rfl Try.isAgg3 rfl)) ?_
        refine net_cons rfl rfl (n_move rfl (ev rfl)) ?_
        refine net_cons rfl rfl (n_ret rfl Try.call114 (.cons (ev rfl) (.cons (ev rfl) (.cons (ev rfl) .nil))) (fun _ hx => (NodeKey_i x.2.2 l x.1 hl128 hxr.1 h37 _))) ?_
        refine net_cons rfl rfl (n_ret rfl Try.call85 (.cons (ev rfl) (.cons evc (.cons evc .nil))) (fun _ hx => (rDerive_c _ 33 0 (by decide) (by decide) _))) ?_
        refine net_nil fun a w1 hF hx => ?_
        replace hw := hw.next hx
        replace hF := hF.keep (.cons (t := 2) rfl (.cons (t := 4) rfl (.cons (t := 7) rfl (.cons (t := 8) rfl (.cons (t := 9) rfl (.cons (t := 26) rfl (.cons (t := 33) rfl (.cons (t := 37) rfl (.cons (t := 44) rfl .nil)))))))))
        refine t_store (i := 1) rfl rfl rfl hF hw rfl (ev rfl) (ev rfl) rfl (kc_one _) Try.sizeOf23 (kc_len _) (by first | decide | (rw [kc_len]; decide)) (seg_whole (by first | (rw [kc_len]; rfl) | rw [kc_len])) fun w1 hw => ?_
        refine t_net 8 1 (by kernel_rfl) rfl hF ?_
        refine net_cons rfl rfl (n_assign rfl evc) ?_
        refine net_nil fun a w1 hF hx => ?_
        replace hw := hw.next hx
        replace hF := hF.keep (.cons (t := 2) rfl (.cons (t := 4) rfl (.cons (t := 5) rfl (.cons (t := 7) rfl (.cons (t := 8) rfl (.cons (t := 9) rfl (.cons (t := 26) rfl (.cons (t := 33) rfl (.cons (t := 37) rfl .nil)))))))))
        refine wpList_nil ?_
        refine wp_ret (go_block_r (go_then_r (go_then_r (go_block_r (go_then_r (retc2 hF Try.results53 rfl (ldN hw (i := 1) (vs := _) rfl Try.isAgg23 Try.sizeOf23 (kc_len _) (cut_whole (kc_len _)) _ (Ext.refl _)) rfl ?_))))))
        exact ⟨_, rfl, hw.ext, (by rw [evR_some (k := dn) (by omega) hok hmr hle hx0 h37]; rfl)⟩
      · refine wp_skip ?_
        refine reg_seq 3 (hF _ _) (by kernel_rfl) ?_
        refine net_cons rfl rfl (n_move rfl (ev rfl)) ?_
        refine net_cons rfl rfl (n_bin rfl (ev rfl) evc (r_inc (by omega))) ?_
        refine net_cons rfl rfl (n_assign rfl (ev rfl)) ?_
        refine net_nil fun a w1 hF hx => ?_
        replace hw := hw.next hx
        replace hF := hF.keep (.cons (t := 2) rfl (.cons (t := 4) rfl (.cons (t := 7) rfl (.cons (t := 8) rfl (.cons (t := 9) rfl (.cons (t := 26) rfl (.cons (t := 33) rfl (.cons (t := 37) rfl .nil))))))))
        refine wpList_nil ?_
        exact ⟨i + 1, ⟨hF.keep (.cons (t := 2) rfl (.cons (t := 4) rfl (.cons (t := 7) rfl (.cons (t := 8) rfl (.nil))))), (hw.drop (.cons_cons _ (.cons_cons _ (.cons _ .slnil)))), by omega, up_at hb hx0 h37⟩, by omega⟩
    · obtain rfl : n = i := by have := of_bool_f h26; omega
      have hno : ∀ x ∈ L, bel l x.1 = false := by { intro y hy; obtain ⟨j, hj, rfl⟩ := List.mem_iff_getElem.1 hy; exact hb j _ (by omega) (List.getElem?_eq_getElem hj) }
      refine wp_exit (go_then_e (go_then_e (go_exit ?_)))
      refine wp_seq (wp_region_lit ?_)
      refine t_net 0 1 (by kernel_rfl) rfl hF ?_
      refine net_cons rfl rfl (n_build rfl .nil build_23_) ?_
      refine net_nil fun a w1 hF hx => ?_
      replace hw := hw.next hx
      replace hF := hF.keep (.cons (t := 2) rfl (.cons (t := 4) rfl (.cons (t := 7) rfl (.cons (t := 8) rfl (.cons (t := 26) rfl (.cons (t := 45) rfl .nil))))))
      refine t_store (i := 1) rfl rfl rfl hF hw rfl (ev rfl) (ev rfl) rfl (kc_one _) Try.sizeOf23 (kc_len _) (by first | decide | (rw [kc_len]; decide)) (seg_whole (by first | (rw [kc_len]; rfl) | rw [kc_len])) fun w1 hw => ?_
      refine t_net 2 1 (by kernel_rfl) rfl hF ?_
      refine net_cons rfl rfl (n_assign rfl evc) ?_
      refine net_nil fun a w1 hF hx => ?_
      replace hw := hw.next hx
      replace hF := hF.keep (.cons (t := 2) rfl (.cons (t := 4) rfl (.cons (t := 5) rfl (.cons (t := 7) rfl (.cons (t := 8) rfl (.cons (t := 26) rfl .nil))))))
      refine wpList_nil ?_
      refine wp_ret (retc2 hF Try.results53 rfl (ldN hw (i := 1) (vs := _) rfl Try.isAgg23 Try.sizeOf23 (kc_len _) (cut_whole (kc_len _)) _ (Ext.refl _)) rfl ?_)
      exact ⟨_, rfl, hw.ext, (by rw [evR_none hok hmr hle hno]; rfl)⟩

theorem rPuncture_c (d : Int) (n c : Nat) (A : Option Addr) (L : List Lab) (hl : L.length = n) (hcp : n ≤ c) (hn : n ≤ 4398046511000) (m : Int) (hm0 : -9223372036854775808 ≤ m) (hm1 : m < 9223372036854775808) (w : World) (hR : Rd w A (L.flatMap lc)) : RetF Try.prog 51 [PuV d (.slice A n c), I m].toArray w (.ex 95 18 (punR d L m).2.1.length ((punR d L m).2.1.flatMap lc) (fun v => .tuple #[PuV (punR d L m).1 v, I (punR d L m).2.2])) := by
  obtain ⟨bX, oX, hcX, hA⟩ := hR.some?
  refine enter Try.func51 rfl Try.ntmps51 rfl fun a hF => ?_
  have hw := Own.start w
  refine wp_seq (wp_region_lit ?_)
  refine t_net 0 1 (by kernel_rfl) rfl hF ?_
  refine net_cons rfl rfl (n_box rfl (ev rfl) rfl) ?_
  refine net_nil fun a w1 hF hx => ?_
  obtain ⟨b2, h_, hw⟩ := hw.blk hx (hF.at_ 2 _ rfl)
  replace hF := hF.now h_
  replace hF := hF.keep (.cons (t := 1) rfl (.cons (t := 2) rfl .nil))
  refine t_net 1 1 (by kernel_rfl) rfl hF ?_
  refine net_cons rfl rfl (n_alloc rfl Try.zeroValue83 rfl) ?_
  refine net_nil fun a w1 hF hx => ?_
  obtain ⟨b4, h_, hw⟩ := hw.blk hx (hF.at_ 4 _ rfl)
  replace hF := hF.now h_
  replace hF := hF.keep (.cons (t := 1) rfl (.cons (t := 2) rfl (.cons (t := 4) rfl .nil)))
  refine t_net 2 1 (by kernel_rfl) rfl hF ?_
  refine net_cons rfl rfl (n_assign rfl evc) ?_
  refine net_nil fun a w1 hF hx => ?_
  replace hw := hw.next hx
  replace hF := hF.keep (.cons (t := 1) rfl (.cons (t := 2) rfl (.cons (t := 4) rfl (.cons (t := 5) rfl .nil))))
  refine wpList_nil ?_
  refine wp_seq ?_
  refine wp_seq (reg_seq 4 (hF _ _) (by kernel_rfl) ?_)
  refine net_cons rfl rfl (n_load rfl (ev rfl) (ldN hw (i := 0) (vs := _) rfl Try.isAgg83 Try.sizeOf83 rfl rfl)) ?_
  refine net_cons rfl rfl (n_move rfl (ev rfl)) ?_
  refine net_cons rfl rfl (n_ret rfl Try.call110 (.cons (ev rfl) (.cons (ev rfl) .nil)) (fun _ hx => (asked_c d n c A L hl hcp (by omega) m hm0 hm1 _ (hR.ext (hw.ext.trans hx))))) ?_
  refine net_cons rfl rfl (n_assign rfl (ev rfl)) ?_
  refine net_nil fun a w1 hF hx => ?_
  replace hw := hw.next hx
  replace hF := hF.keep (.cons (t := 1) rfl (.cons (t := 2) rfl (.cons (t := 4) rfl (.cons (t := 5) rfl (.cons (t := 6) rfl .nil)))))
  refine wpList_nil ?_
  refine wp_seq (reg_seq 2 (hF _ _) (by kernel_rfl) ?_)
  refine net_cons rfl rfl (n_move rfl (ev rfl)) ?_
  refine net_cons rfl rfl (n_bin rfl (ev rfl) evc (r_neq (b := 0))) ?_
  refine net_nil fun a w1 hF hx => ?_
  replace hw := hw.next hx
  replace hF := hF.keep (.cons (t := 1) rfl (.cons (t := 2) rfl (.cons (t := 4) rfl (.cons (t := 5) rfl (.cons (t := 6) rfl (.cons (t := 18) rfl .nil))))))
  refine wpList_nil ?_
  refine wp_cond_split (hF.ev (ev rfl)) (fun h18 => ?_) (fun h18 => ?_)
  · have hz := find_err h18
    refine wp_seq (wp_region_lit ?_)
    refine t_net 0 2 (by kernel_rfl) rfl hF ?_
    refine net_cons rfl rfl (n_build rfl .nil build_83_) ?_
    refine net_cons rfl rfl (n_move rfl (ev rfl)) ?_
    refine net_nil fun a w1 hF hx => ?_
    replace hw := hw.next hx
    replace hF := hF.keep (.cons (t := 1) rfl (.cons (t := 2) rfl (.cons (t := 4) rfl (.cons (t := 5) rfl (.cons (t := 6) rfl (.cons (t := 18) rfl (.cons (t := 19) rfl (.cons (t := 20) rfl .nil))))))))
    refine t_store (i := 1) rfl rfl rfl hF hw rfl (ev rfl) (ev rfl) rfl one_pu Try.sizeOf83 rfl (Nat.le_of_ble_eq_true rfl) rfl fun w1 hw => ?_
    refine t_net 3 1 (by kernel_rfl) rfl hF ?_
    refine net_cons rfl rfl (n_assign rfl (ev rfl)) ?_
    refine net_nil fun a w1 hF hx => ?_
    replace hw := hw.next hx
    replace hF := hF.keep (.cons (t := 1) rfl (.cons (t := 2) rfl (.cons (t := 4) rfl (.cons (t := 5) rfl (.cons (t := 6) rfl (.cons (t := 18) rfl .nil))))))
    refine wpList_nil ?_
    refine wp_ret (go_then_r (retc2 hF Try.results51 rfl (ldN hw (i := 1) (vs := _) rfl Try.isAgg83 Try.sizeOf83 rfl rfl _ (Ext.refl _)) rfl ?_))
    exact ⟨_, rfl, hw.ext, (puF_none hz)⟩
  · obtain ⟨hok, hmr⟩ := find_yes h18
    obtain ⟨hd0, hd6⟩ := okPN_depth hok
    obtain ⟨dn, rfl⟩ := Int.eq_ofNat_of_zero_le hd0
    simp only [Int.toNat_natCast] at hmr
    have hfr := findR_ok hok hmr
    obtain ⟨hm2, hm3⟩ := or_f hmr
    have hpw := pow_le64 (d := dn) (by omega)
    have hpw0 := Int.natCast_nonneg (2 ^ dn)
    obtain ⟨l, hle⟩ := Int.eq_ofNat_of_zero_le (show 0 ≤ ((2 ^ dn : Nat) : Int) + m by omega)
    rw [hle] at hfr
    have har := all_range (d := dn) (by omega) hok
    have hcnt := count_le (d := dn) (by omega) hok
    have hl128 : l < 128 := by omega
    refine wp_skip ?_
    refine wp_seq (reg_seq 6 (hF _ _) (by kernel_rfl) ?_)
    refine net_cons rfl rfl (n_fieldAddrO (off' := 0) rfl (ev rfl) Try.runUnderlying83 rfl Try.sizeOf3 rfl) ?_
    refine net_cons rfl rfl (n_load rfl (ev rfl) (ld1 hw (i := 0) rfl Try.isAgg3 rfl)) ?_
    refine net_cons rfl rfl (n_ret rfl Try.call66 (.cons (ev rfl) .nil) (fun _ hx => (Receivers_c (dn : Int) (by omega) (by omega) _))) ?_
    refine net_cons rfl rfl (n_move rfl (ev rfl)) ?_
    refine net_cons rfl rfl (n_to (v' := I (l : Int)) (n_bin rfl (ev rfl) (ev rfl) (r_addI (by simp only [Int.toNat_natCast]; omega) (by simp only [Int.toNat_natCast]; omega))) (congrArg (Value.int .i64) (by simp only [Int.toNat_natCast]; omega))) ?_
    refine net_cons rfl rfl (n_assign rfl (ev rfl)) ?_
    refine net_nil fun a w1 hF hx => ?_
    replace hw := hw.next hx
    replace hF := hF.keep (.cons (t := 1) rfl (.cons (t := 2) rfl (.cons (t := 4) rfl (.cons (t := 5) rfl (.cons (t := 6) rfl (.cons (t := 7) rfl (.cons (t := 18) rfl .nil)))))))
    refine wpList_nil ?_
    refine wp_seq (wp_region_lit ?_)
    refine t_net 0 4 (by kernel_rfl) rfl hF ?_
    refine net_cons rfl rfl (n_fieldAddrO (off' := 0) rfl (ev rfl) Try.runUnderlying83 rfl Try.sizeOf3 rfl) ?_
    refine net_cons rfl rfl (n_load rfl (ev rfl) (ld1 hw (i := 0) rfl Try.isAgg3 rfl)) ?_
    refine net_cons rfl rfl (n_build rfl (.cons (ev rfl) .nil) build_83_0) ?_
    refine net_cons rfl rfl (n_alloc rfl Try.zeroValue83 rfl) ?_
    refine net_nil fun a w1 hF hx => ?_
    obtain ⟨b8, h_, hw⟩ := hw.blk hx (hF.at_ 8 _ rfl)
    replace hF := hF.now h_
    replace hF := hF.keep (.cons (t := 1) rfl (.cons (t := 2) rfl (.cons (t := 4) rfl (.cons (t := 5) rfl (.cons (t := 6) rfl (.cons (t := 7) rfl (.cons (t := 8) rfl (.cons (t := 18) rfl (.cons (t := 28) rfl .nil)))))))))
    refine t_store (i := 2) rfl rfl rfl hF hw rfl (ev rfl) (ev rfl) rfl one_pu Try.sizeOf83 rfl (Nat.le_of_ble_eq_true rfl) rfl fun w1 hw => ?_
    refine wpList_nil ?_
    refine wp_seq ?_
    refine wp_seq (reg_seq 1 (hF _ _) (by kernel_rfl) ?_)
    refine net_cons rfl rfl (n_assign rfl evc) ?_
    refine net_nil fun a w1 hF hx => ?_
    replace hw := hw.next hx
    replace hF := hF.keep (.cons (t := 1) rfl (.cons (t := 2) rfl (.cons (t := 4) rfl (.cons (t := 5) rfl (.cons (t := 6) rfl (.cons (t := 7) rfl (.cons (t := 8) rfl (.cons (t := 9) rfl (.cons (t := 18) rfl (.cons (t := 28) rfl .nil))))))))))
    refine wpList_nil ?_
    refine wp_block ?_
    replace hw := (hw.addNil 95 18).front 3 rfl
    refine wp_loop_ix (α := Nat × Value) (fun ⟨i, v⟩ a w1 => FrV 79 [] [(2, .is (ptr0 b2)) , (4, .is (ptr0 b4)) , (7, .is (I (l : Int))) , (8, .is (ptr0 b8)) , (9, .is (I (i : Int)))] a ∧ Own w w1 [.row v 95 18 (accR l L i).length ((accR l L i).flatMap lc), .blk b2 83 [I (dn : Int), .slice A n c], .blk b4 83 [I 0, .slice none 0 0], .blk b8 83 [I (dn : Int), v]] ∧ (i ≤ n)) (fun ⟨i, v⟩ => n - i) ((0, .slice none 0 0)) ⟨hF.keep (.cons (t := 2) rfl (.cons (t := 4) rfl (.cons (t := 7) rfl (.cons (t := 8) rfl (.cons (t := 9) rfl (.nil)))))), hw, Nat.zero_le _⟩ ?_
    rintro ⟨i, v⟩ a w1 ⟨hF, hw, hi0⟩
    refine wp_seq ?_
    refine wp_seq (reg_seq 5 (hF _ _) (by kernel_rfl) ?_)
    refine net_cons rfl rfl (n_move rfl (ev rfl)) ?_
    refine net_cons rfl rfl (n_fieldAddrO (off' := 1) rfl (ev rfl) Try.runUnderlying83 rfl Try.sizeOf29 rfl) ?_
    refine net_cons rfl rfl (n_load rfl (ev rfl) (ld1 hw (i := 1) rfl Try.isAgg29 rfl)) ?_
    refine net_cons rfl rfl (n_len rfl (ev rfl) Try.underlying29) ?_
    refine net_cons rfl rfl (n_bin rfl (ev rfl) (ev rfl) r_lssN) ?_
    refine net_nil fun a w1 hF hx => ?_
    replace hw := hw.next hx
    replace hF := hF.keep (.cons (t := 2) rfl (.cons (t := 4) rfl (.cons (t := 7) rfl (.cons (t := 8) rfl (.cons (t := 9) rfl (.cons (t := 33) rfl .nil))))))
    refine wpList_nil ?_
    refine wp_cond_split (hF.ev (ev rfl)) (fun h33 => ?_) (fun h33 => ?_)
    · have hi : i < n := of_bool_t h33
      obtain ⟨x, hx0⟩ := some_at hl hi
      have hxr := har x (List.mem_of_getElem? hx0)
      have hF_ := hF
      have hw_ := hw
      obtain rfl := hA (by rw [fm_len lc_len]; omega)
      have hF := hF_
      have hw := hw_
      refine wp_skip ?_
      refine wp_seq (wp_block ?_)
      refine wp_seq (wp_region_lit ?_)
      refine t_net 0 6 (by kernel_rfl) rfl hF ?_
      refine net_cons rfl rfl (n_fieldAddrO (off' := 1) rfl (ev rfl) Try.runUnderlying83 rfl Try.sizeOf29 rfl) ?_
      refine net_cons rfl rfl (n_load rfl (ev rfl) (ld1 hw (i := 1) rfl Try.isAgg29 rfl)) ?_
      refine net_cons rfl rfl (n_move rfl (ev rfl)) ?_
      refine net_cons rfl rfl (n_indexS (off' := oX + (i) * 18) rfl (ev rfl) (ev rfl) Try.underlying29 Try.sizeOf95 (by omega) rfl) ?_
      refine net_cons rfl rfl (n_load rfl (ev rfl) (fun w2 hx2 => ldNR hcX (fm_at lc_len hx0) (lc_len _) Try.isAgg95 Try.sizeOf95 (by omega) w2 (hw.ext.trans hx2))) ?_
      refine net_cons rfl rfl (n_alloc rfl Try.zeroValue95 rfl) ?_
      refine net_nil fun a w1 hF hx => ?_
      obtain ⟨b10, h_, hw⟩ := hw.blk hx (hF.at_ 10 _ rfl)
      replace hF := hF.now h_
      replace hF := hF.keep (.cons (t := 2) rfl (.cons (t := 4) rfl (.cons (t := 7) rfl (.cons (t := 8) rfl (.cons (t := 9) rfl (.cons (t := 10) rfl (.cons (t := 33) rfl (.cons (t := 40) rfl .nil))))))))
      refine t_store (i := 4) rfl rfl rfl hF hw rfl (ev rfl) (ev rfl) rfl (one_lab _) Try.sizeOf95 (lc_len _) (by first | decide | (rw [lc_len]; decide)) (seg_whole (by rw [lc_len] <;> rfl)) fun w1 hw => ?_
      refine wpList_nil ?_
      refine wp_seq ?_
      refine wp_seq (reg_seq 5 (hF _ _) (by kernel_rfl) ?_)
      refine net_cons rfl rfl (n_move rfl (ev rfl)) ?_
      refine net_cons rfl rfl (n_fieldAddrO (off' := 0) rfl (ev rfl) Try.runUnderlying95 rfl Try.sizeOf3 rfl) ?_
      refine net_cons rfl rfl (n_load rfl (ev rfl) (ld1 hw (i := 4) rfl Try.isAgg3 rfl)) ?_
      refine net_cons rfl rfl (n_ret rfl Try.call111 (.cons (ev rfl) (.cons (ev rfl) .nil)) (fun _ hx => (Below_c (l : Int) x.1 (by omega) (by omega) hxr.1 (by omega) _))) ?_
      refine net_cons rfl rfl (n_not rfl (ev rfl)) ?_
      refine net_nil fun a w1 hF hx => ?_
      replace hw := hw.next hx
      replace hF := hF.keep (.cons (t := 2) rfl (.cons (t := 4) rfl (.cons (t := 7) rfl (.cons (t := 8) rfl (.cons (t := 9) rfl (.cons (t := 10) rfl (.cons (t := 33) rfl (.cons (t := 40) rfl (.cons (t := 45) rfl .nil)))))))))
      refine wpList_nil ?_
      refine wp_cond_split (hF.ev (ev rfl)) (fun h45 => ?_) (fun h45 => ?_)
      · have hb : bel l x.1 = false := by simpa using h45
        have hacc := acc_no hx0 hb
        have hF_ := hF
        have hw_ := hw
        obtain ⟨Av, cv, rfl, hcv, hRv, hlv⟩ := hw.rd (i := 0) rfl
        have hF := hF_
        have hw := hw_
        refine wp_seq (wp_region_lit ?_)
        refine t_net 0 4 (by kernel_rfl) rfl hF ?_
        refine net_cons rfl rfl (n_fieldAddrO (off' := 1) rfl (ev rfl) Try.runUnderlying83 rfl Try.sizeOf29 rfl) ?_
        refine net_cons rfl rfl (n_load rfl (ev rfl) (ld1 hw (i := 3) rfl Try.isAgg29 rfl)) ?_
        refine net_cons rfl rfl (n_load rfl (ev rfl) (ldN hw (i := 4) (vs := _) rfl Try.isAgg95 Try.sizeOf95 (lc_len _) (cut_whole (lc_len _)))) ?_
        refine net_cons rfl rfl (n_ret rfl Try.call112 (.cons (ev rfl) (.cons (ev rfl) .nil)) (fun _ hx => (place_c _ cv Av (accR l L i) x rfl hcv (by have := accR_len hl128 L i; omega) _ (hRv.ext hx)))) ?_
        refine net_nil fun a w1 hF hx => ?_
        obtain ⟨s49, h_, hw⟩ := hw.ex hx (hF.at_ 49 _ rfl)
        replace hF := hF.now h_
        replace hF := hF.keep (.cons (t := 2) rfl (.cons (t := 4) rfl (.cons (t := 7) rfl (.cons (t := 8) rfl (.cons (t := 9) rfl (.cons (t := 10) rfl (.cons (t := 33) rfl (.cons (t := 40) rfl (.cons (t := 45) rfl (.cons (t := 49) rfl .nil))))))))))
        obtain ⟨A49, c49, rfl, _, _, _⟩ := hw.rd (i := 5) rfl
        refine t_net 4 1 (by kernel_rfl) rfl hF ?_
        refine net_cons rfl rfl (n_fieldAddrO (off' := 1) rfl (ev rfl) Try.runUnderlying83 rfl Try.sizeOf29 rfl) ?_
        refine net_nil fun a w1 hF hx => ?_
        replace hw := hw.next hx
        replace hF := hF.keep (.cons (t := 2) rfl (.cons (t := 4) rfl (.cons (t := 7) rfl (.cons (t := 8) rfl (.cons (t := 9) rfl (.cons (t := 10) rfl (.cons (t := 33) rfl (.cons (t := 40) rfl (.cons (t := 45) rfl (.cons (t := 49) rfl (.cons (t := 50) rfl .nil)))))))))))
        refine t_store (i := 3) rfl rfl rfl hF hw rfl (ev rfl) (ev rfl) rfl one1 Try.sizeOf29 rfl (Nat.le_of_ble_eq_true rfl) rfl fun w1 hw => ?_
        refine wpList_nil ?_
        replace hw := (hw.front 5 rfl).drop (.cons_cons _ (.cons _ (.cons_cons _ (.cons_cons _ (.cons_cons _ (.cons _ .slnil))))))
        rw [← insL_len, ← hacc] at hw
        refine wp_exit (go_then_e (go_exit ?_))
        refine reg_seq 3 (hF _ _) (by kernel_rfl) ?_
        refine net_cons rfl rfl (n_move rfl (ev rfl)) ?_
        refine net_cons rfl rfl (n_bin rfl (ev rfl) evc (r_inc (by omega))) ?_
        refine net_cons rfl rfl (n_assign rfl (ev rfl)) ?_
        refine net_nil fun a w1 hF hx => ?_
        replace hw := hw.next hx
        replace hF := hF.keep (.cons (t := 2) rfl (.cons (t := 4) rfl (.cons (t := 7) rfl (.cons (t := 8) rfl (.cons (t := 9) rfl (.cons (t := 10) rfl (.cons (t := 33) rfl (.cons (t := 40) rfl (.cons (t := 45) rfl (.cons (t := 49) rfl (.cons (t := 50) rfl .nil)))))))))))
        refine wpList_nil ?_
        exact ⟨(i + 1, _), ⟨hF.keep (.cons (t := 2) rfl (.cons (t := 4) rfl (.cons (t := 7) rfl (.cons (t := 8) rfl (.cons (t := 9) rfl (.nil)))))), hw, by omega⟩, (by show n - (i + 1) < n - i; omega)⟩
      · have hb : bel l x.1 = true := by simpa using h45
        have hacc := acc_yes hx0 hb
        refine wp_skip ?_
        refine wp_seq (reg_seq 5 (hF _ _) (by kernel_rfl) ?_)
        refine net_cons rfl rfl (n_fieldAddrO (off' := 0) rfl (ev rfl) Try.runUnderlying95 rfl Try.sizeOf3 rfl) ?_
        refine net_cons rfl rfl (n_load rfl (ev rfl) (ld1 hw (i := 4) rfl Try.isAgg3 rfl)) ?_
        refine net_cons rfl rfl (n_move rfl (ev rfl)) ?_
        refine net_cons rfl rfl (n_ret rfl Try.call113 (.cons (ev rfl) (.cons (ev rfl) .nil)) (fun _ hx => (Path_i l x.1 hl128 hxr.1 hb _))) ?_
        refine net_cons rfl rfl (n_assignF rfl rfl) ?_
        refine net_nil fun a w1 hF hx => ?_
        obtain ⟨s11, h_, hw⟩ := hw.ex hx (hF.at_ 11 _ rfl)
        replace hF := hF.now h_
        replace hF := hF.keep (.cons (t := 2) rfl (.cons (t := 4) rfl (.cons (t := 7) rfl (.cons (t := 8) rfl (.cons (t := 9) rfl (.cons (t := 10) rfl (.cons (t := 11) rfl (.cons (t := 33) rfl (.cons (t := 40) rfl (.cons (t := 45) rfl .nil))))))))))
        obtain ⟨A11, c11, rfl, _, _, _⟩ := hw.rd (i := 5) rfl
        refine wpList_nil ?_
        refine wp_seq (reg_seq 1 (hF _ _) (by kernel_rfl) ?_)
        refine net_cons rfl rfl (n_assign rfl evc) ?_
        refine net_nil fun a w1 hF hx => ?_
        replace hw := hw.next hx
        replace hF := hF.keep (.cons (t := 2) rfl (.cons (t := 4) rfl (.cons (t := 7) rfl (.cons (t := 8) rfl (.cons (t := 9) rfl (.cons (t := 10) rfl (.cons (t := 11) rfl (.cons (t := 12) rfl (.cons (t := 33) rfl (.cons (t := 40) rfl (.cons (t := 45) rfl .nil)))))))))))
        refine wpList_nil ?_
        refine wp_block ?_
        refine wp_loop_ix (α := Nat × Value) (fun ⟨j, v⟩ a w1 => FrV 79 [] [(2, .is (ptr0 b2)) , (4, .is (ptr0 b4)) , (7, .is (I (l : Int))) , (8, .is (ptr0 b8)) , (9, .is (I (i : Int))) , (10, .is (ptr0 b10)) , (11, .is (.slice A11 (stT l x.1 + 1) c11)) , (12, .is (I ((j + 1 : Nat) : Int)))] a ∧ Own w w1 [.row v 95 18 (insAll (accR l L i) ((walkS l (stT l x.1) x.2.2).take j)).length ((insAll (accR l L i) ((walkS l (stT l x.1) x.2.2).take j)).flatMap lc), .blk b2 83 [I (dn : Int), .slice (some ⟨bX, oX, none⟩) n c], .blk b4 83 [I 0, .slice none 0 0], .blk b8 83 [I (dn : Int), v], .blk b10 95 (lc x), .row (.slice A11 (stT l x.1 + 1) c11) 3 1 (stT l x.1 + 1) ((downL l (stT l x.1 + 1)).map iv)] ∧ (j ≤ stT l x.1)) (fun ⟨j, v⟩ => stT l x.1 - j) ((0, v)) ⟨hF.keep (.cons (t := 2) rfl (.cons (t := 4) rfl (.cons (t := 7) rfl (.cons (t := 8) rfl (.cons (t := 9) rfl (.cons (t := 10) rfl (.cons (t := 11) rfl (.cons (t := 12) rfl (.nil))))))))), hw, Nat.zero_le _⟩ ?_
        rintro ⟨j, v⟩ a w1 ⟨hF, hw, hj0⟩
        refine wp_seq ?_
        refine wp_seq (reg_seq 4 (hF _ _) (by kernel_rfl) ?_)
        refine net_cons rfl rfl (n_move rfl (ev rfl)) ?_
        refine net_cons rfl rfl (n_move rfl (ev rfl)) ?_
        refine net_cons rfl rfl (n_len rfl (ev rfl) Try.underlying41) ?_
        refine net_cons rfl rfl (n_bin rfl (ev rfl) (ev rfl) r_lssN) ?_
        refine net_nil fun a w1 hF hx => ?_
        replace hw := hw.next hx
        replace hF := hF.keep (.cons (t := 2) rfl (.cons (t := 4) rfl (.cons (t := 7) rfl (.cons (t := 8) rfl (.cons (t := 9) rfl (.cons (t := 10) rfl (.cons (t := 11) rfl (.cons (t := 12) rfl (.cons (t := 58) rfl .nil)))))))))
        refine wpList_nil ?_
        refine wp_cond_split (hF.ev (ev rfl)) (fun h58 => ?_) (fun h58 => ?_)
        · have hj : j < stT l x.1 := by have := of_bool_t h58; omega
          have hy0 := downL_at l (stT l x.1 + 1) (j + 1) (by omega)
          rw [show stT l x.1 + 1 - 1 - (j + 1) = stT l x.1 - 1 - j by omega] at hy0
          have hF_ := hF
          have hw_ := hw
          obtain ⟨A_, c_, hA_, _, hR_, _⟩ := hw.rd (i := 5) rfl
          obtain ⟨bY, oY, hAY, hcY⟩ := hR_.at_ (by rw [List.length_map, downL_len]; omega)
          injection hA_ with hA_ _ _
          subst hAY
          subst hA_
          have hF := hF_
          have hw := hw_
          refine wp_skip ?_
          refine wp_seq (wp_block ?_)
          refine wp_seq (reg_seq 6 (hF _ _) (by kernel_rfl) ?_)
          refine net_cons rfl rfl (n_move rfl (ev rfl)) ?_
          refine net_cons rfl rfl (n_move rfl (ev rfl)) ?_
          refine net_cons rfl rfl (n_indexS (off' := oY + (j + 1)) rfl (ev rfl) (ev rfl) Try.underlying41 Try.sizeOf3 (by omega) (by omega)) ?_
          refine net_cons rfl rfl (n_load rfl (ev rfl) (fun w2 hx2 => ld1R hcY (map_at (f := iv) hy0) Try.isAgg3 (by omega) w2 hx2)) ?_
          refine net_cons rfl rfl (n_bin rfl (ev rfl) evc (r_xor1I (by have := Nat.div_le_self l (2 ^ (stT l x.1 - 1 - j)); omega))) ?_
          refine net_cons rfl rfl (n_assign rfl (ev rfl)) ?_
          refine net_nil fun a w1 hF hx => ?_
          replace hw := hw.next hx
          replace hF := hF.keep (.cons (t := 2) rfl (.cons (t := 4) rfl (.cons (t := 7) rfl (.cons (t := 8) rfl (.cons (t := 9) rfl (.cons (t := 10) rfl (.cons (t := 11) rfl (.cons (t := 12) rfl (.cons (t := 13) rfl (.cons (t := 58) rfl .nil))))))))))
          refine wpList_nil ?_
          have hF_ := hF
          have hw_ := hw
          obtain ⟨Av, cv, rfl, hcv, hRv, hlv⟩ := hw.rd (i := 0) rfl
          have hF := hF_
          have hw := hw_
          refine reg_draw 12 mixed (by kernel_rfl) (hF _ _) ?_
          refine net_cons rfl rfl (n_fieldAddrO (off' := 1) rfl (ev rfl) Try.runUnderlying83 rfl Try.sizeOf29 rfl) ?_
          refine net_cons rfl rfl (n_load rfl (ev rfl) (ld1 hw (i := 3) rfl Try.isAgg29 rfl)) ?_
          refine net_cons rfl rfl (n_move rfl (ev rfl)) ?_
          refine net_cons rfl rfl (n_fieldAddrO (off' := 2) rfl (ev rfl) Try.runUnderlying95 rfl Try.sizeOf23 rfl) ?_
          refine net_cons rfl rfl (n_load rfl (ev rfl) (ldN hw (i := 4) (vs := _) rfl Try.isAgg23 Try.sizeOf23 (kc_len _) rfl)) ?_
          refine net_cons rfl rfl (n_fieldAddrO (off' := 0) rfl (ev rfl) Try.runUnderlying95 rfl Try.sizeOf3 rfl) ?_
          refine net_cons rfl rfl (n_load rfl (ev rfl) (ld1 hw (i := 4) rfl Try.isAgg3 rfl)) ?_
          refine net_cons rfl rfl (n_move rfl (ev rfl)) ?_
          refine net_cons rfl rfl (n_ret rfl Try.call114 (.cons (ev rfl) (.cons (ev rfl) (.cons (ev rfl) .nil))) (fun _ hx => (NodeKey_w x.2.2 l j x.1 hl128 hxr.1 hb hj _))) ?_
          refine net_cons rfl rfl (n_build rfl (.cons (ev rfl) (.cons (ev rfl) .nil)) build_95_0_2) ?_
          refine net_cons rfl rfl (n_ret rfl Try.call112 (.cons (ev rfl) (.cons (ev rfl) .nil)) (fun _ hx => (place_c _ cv Av (insAll (accR l L i) ((walkS l (stT l x.1) x.2.2).take j)) _ rfl hcv (by rw [insAll_len, List.length_take, walkS_len]; have := accR_len hl128 L i; have := lenT_le (x := l) (by omega); unfold stT; omega) _ (hRv.ext hx)))) ?_
          refine net_cons rfl rfl (n_fieldAddrO (off' := 1) rfl (ev rfl) Try.runUnderlying83 rfl Try.sizeOf29 rfl) ?_
          refine net_nil fun a w1 hF hx => ?_
          obtain ⟨s76, h_, hw⟩ := hw.ex hx (hF.at_ 76 _ rfl)
          replace hF := hF.now h_
          replace hF := hF.keep (.cons (t := 2) rfl (.cons (t := 4) rfl (.cons (t := 7) rfl (.cons (t := 8) rfl (.cons (t := 9) rfl (.cons (t := 10) rfl (.cons (t := 11) rfl (.cons (t := 12) rfl (.cons (t := 13) rfl (.cons (t := 58) rfl (.cons (t := 76) rfl (.cons (t := 77) rfl .nil))))))))))))
          obtain ⟨A76, c76, rfl, _, _, _⟩ := hw.rd (i := 6) rfl
          refine t_store (i := 3) rfl rfl rfl hF hw rfl (ev rfl) (ev rfl) rfl one1 Try.sizeOf29 rfl (Nat.le_of_ble_eq_true rfl) rfl fun w1 hw => ?_
          refine wpList_nil ?_
          refine reg_seq 3 (hF _ _) (by kernel_rfl) ?_
          refine net_cons rfl rfl (n_move rfl (ev rfl)) ?_
          refine net_cons rfl rfl (n_bin rfl (ev rfl) evc (r_inc (by have := lenT_le (x := l) (by omega); unfold stT at hj; omega))) ?_
          refine net_cons rfl rfl (n_assign rfl (ev rfl)) ?_
          refine net_nil fun a w1 hF hx => ?_
          replace hw := hw.next hx
          replace hF := hF.keep (.cons (t := 2) rfl (.cons (t := 4) rfl (.cons (t := 7) rfl (.cons (t := 8) rfl (.cons (t := 9) rfl (.cons (t := 10) rfl (.cons (t := 11) rfl (.cons (t := 12) rfl (.cons (t := 13) rfl (.cons (t := 58) rfl (.cons (t := 76) rfl (.cons (t := 77) rfl .nil))))))))))))
          refine wpList_nil ?_
          exact ⟨(j + 1, _), ⟨hF.keep (.cons (t := 2) rfl (.cons (t := 4) rfl (.cons (t := 7) rfl (.cons (t := 8) rfl (.cons (t := 9) rfl (.cons (t := 10) rfl (.cons (t := 11) rfl (.cons (t := 12) rfl (.nil))))))))), (by rw [acc_step hl128 hj, insL_len]; exact (hw.front 6 rfl).drop (.cons_cons _ (.cons _ (.cons_cons _ (.cons_cons _ (.cons_cons _ (.cons_cons _ (.cons_cons _ .slnil)))))))), by omega⟩, (by show stT l x.1 - (j + 1) < stT l x.1 - j; omega)⟩
        · obtain rfl : j = stT l x.1 := by have := of_bool_f h58; omega
          rw [List.take_of_length_le (by rw [walkS_len]; omega), ← hacc] at hw
          replace hw := hw.drop (.cons_cons _ (.cons_cons _ (.cons_cons _ (.cons_cons _ (.cons _ (.cons _ .slnil))))))
          refine wp_exit (go_then_e (go_then_e (go_exit ?_)))
          refine reg_seq 3 (hF _ _) (by kernel_rfl) ?_
          refine net_cons rfl rfl (n_move rfl (ev rfl)) ?_
          refine net_cons rfl rfl (n_bin rfl (ev rfl) evc (r_inc (by omega))) ?_
          refine net_cons rfl rfl (n_assign rfl (ev rfl)) ?_
          refine net_nil fun a w1 hF hx => ?_
          replace hw := hw.next hx
          replace hF := hF.keep (.cons (t := 2) rfl (.cons (t := 4) rfl (.cons (t := 7) rfl (.cons (t := 8) rfl (.cons (t := 9) rfl (.cons (t := 10) rfl (.cons (t := 11) rfl (.cons (t := 12) rfl (.cons (t := 58) rfl .nil)))))))))
          refine wpList_nil ?_
          exact ⟨(i + 1, _), ⟨hF.keep (.cons (t := 2) rfl (.cons (t := 4) rfl (.cons (t := 7) rfl (.cons (t := 8) rfl (.cons (t := 9) rfl (.nil)))))), hw, by omega⟩, (by show n - (i + 1) < n - i; omega)⟩
    · obtain rfl : n = i := by have := of_bool_f h33; omega
      rw [accR_all hl] at hw
      have hF_ := hF
      have hw_ := hw
      obtain ⟨Av, cv, rfl, hcv, hRv, hlv⟩ := hw.rd (i := 0) rfl
      have hF := hF_
      have hw := hw_
      refine wp_exit (go_then_e (go_then_e (go_exit ?_)))
      refine wp_seq (wp_region_lit ?_)
      refine t_net 0 1 (by kernel_rfl) rfl hF ?_
      refine net_cons rfl rfl (n_load rfl (ev rfl) (ldN hw (i := 3) (vs := _) rfl Try.isAgg83 Try.sizeOf83 rfl rfl)) ?_
      refine net_nil fun a w1 hF hx => ?_
      replace hw := hw.next hx
      replace hF := hF.keep (.cons (t := 2) rfl (.cons (t := 4) rfl (.cons (t := 7) rfl (.cons (t := 8) rfl (.cons (t := 9) rfl (.cons (t := 33) rfl (.cons (t := 78) rfl .nil)))))))
      refine t_store (i := 2) rfl rfl rfl hF hw rfl (ev rfl) (ev rfl) rfl one_pu Try.sizeOf83 rfl (Nat.le_of_ble_eq_true rfl) rfl fun w1 hw => ?_
      refine t_net 2 1 (by kernel_rfl) rfl hF ?_
      refine net_cons rfl rfl (n_assign rfl evc) ?_
      refine net_nil fun a w1 hF hx => ?_
      replace hw := hw.next hx
      replace hF := hF.keep (.cons (t := 2) rfl (.cons (t := 4) rfl (.cons (t := 5) rfl (.cons (t := 7) rfl (.cons (t := 8) rfl (.cons (t := 9) rfl (.cons (t := 33) rfl .nil)))))))
      refine wpList_nil ?_
      refine wp_ret (retc2 hF Try.results51 rfl (ldN hw (i := 2) (vs := _) rfl Try.isAgg83 Try.sizeOf83 rfl rfl _ (Ext.refl _)) rfl ?_)
      exact ⟨_, rfl, hw.ext, puF_ok (i := 0) (punR_ok hok hmr hle) rfl hw rfl⟩
end Go.Proofs.Ythgpojlcbbgaoaa

