/- punctured keys: Puncture and Evaluate -/
import Derived.Test.YthgpojlcbbgaoaaPunC

set_option autoImplicit false
set_option maxRecDepth 100000
set_option linter.unusedVariables false
namespace Go.Proofs.Ythgpojlcbbgaoaa
open Go.RowKit

theorem Delete_c (n i : Nat) (v : Value) (L : List Lab) (Z : List Ent) (w0 w : World) (hl : L.length = n) (hi : i < n) (hn : n ≤ 1000000) (hw : Own w0 w (.row v 95 18 n (L.flatMap lc) :: Z)) : Calls Try.prog 106 [v, I (i : Int), I ((i + 1 : Nat) : Int)].toArray w fun e w' => ∃ v', e = .returned v' ∧ Own w0 w' (.row v' 95 18 (n - 1) ((L.eraseIdx i).flatMap lc) :: Z) := by
  obtain ⟨g, cap, rfl, hcap⟩ := hw.rowForm (i := 0) rfl (by omega)
  obtain ⟨cur, hcl, hct, _, hcm, hw⟩ := hw.rowBlk (i := 0) rfl
  replace hw : Own w0 w (.blk g 95 cur :: Z) := hw
  have hnl : ((L.drop (i + 1)).flatMap lc).length = (n - (i + 1)) * 18 := by rw [fm_len lc_len, List.length_drop, hl]
  have h18 : n * 18 ≤ cap * 18 := Nat.mul_le_mul_right _ hcap
  refine enter Try.func106 rfl Try.ntmps106 rfl fun a hF => ?_
  refine wp_seq (reg_seq 1 (hF _ _) (by kernel_rfl) ?_)
  refine net_cons rfl rfl (n_assign rfl evc) ?_
  refine net_nil fun a w1 hF hx => ?_
  replace hw := hw.next hx
  replace hF := hF.keep (.cons (t := 0) rfl (.cons (t := 1) rfl (.cons (t := 2) rfl (.cons (t := 6) rfl .nil))))
  refine wpList_nil ?_
  refine wp_seq (reg_seq 6 (hF _ _) (by kernel_rfl) ?_)
  refine net_cons rfl rfl (n_move rfl (ev rfl)) ?_
  refine net_cons rfl rfl (n_move rfl (ev rfl)) ?_
  refine net_cons rfl rfl (n_move rfl (ev rfl)) ?_
  refine net_cons rfl rfl (n_move rfl (ev rfl)) ?_
  refine net_cons rfl rfl (n_len rfl (ev rfl) Try.underlying29) ?_
  refine net_cons rfl rfl (n_sl3 rfl (ev rfl) (ev rfl) (ev rfl) (ev rfl) Try.underlying29 Try.sizeOf95 (by omega) (by omega) (by omega)) ?_
  refine net_nil fun a w1 hF hx => ?_
  replace hw := hw.next hx
  replace hF := hF.keep (.cons (t := 0) rfl (.cons (t := 1) rfl (.cons (t := 2) rfl (.cons (t := 6) rfl .nil))))
  refine wpList_nil ?_
  refine wp_seq ?_
  refine wp_seq (reg_seq 3 (hF _ _) (by kernel_rfl) ?_)
  refine net_cons rfl rfl (n_move rfl (ev rfl)) ?_
  refine net_cons rfl rfl (n_move rfl (ev rfl)) ?_
  refine net_cons rfl rfl (n_bin rfl (ev rfl) (ev rfl) r_eql) ?_
  refine net_nil fun a w1 hF hx => ?_
  replace hw := hw.next hx
  replace hF := hF.keep (.cons (t := 0) rfl (.cons (t := 1) rfl (.cons (t := 2) rfl (.cons (t := 6) rfl (.cons (t := 16) rfl .nil)))))
  refine wpList_nil ?_
  refine wp_cond_false ((hF.ev (ev rfl)).trans (congrArg Value.bool (decide_eq_false (by omega)))) ?_
  refine wp_skip ?_
  refine wp_seq (reg_seq 3 (hF _ _) (by kernel_rfl) ?_)
  refine net_cons rfl rfl (n_move rfl (ev rfl)) ?_
  refine net_cons rfl rfl (n_len rfl (ev rfl) Try.underlying29) ?_
  refine net_cons rfl rfl (n_assign rfl (ev rfl)) ?_
  refine net_nil fun a w1 hF hx => ?_
  replace hw := hw.next hx
  replace hF := hF.keep (.cons (t := 0) rfl (.cons (t := 1) rfl (.cons (t := 2) rfl (.cons (t := 6) rfl (.cons (t := 7) rfl (.cons (t := 16) rfl .nil))))))
  refine wpList_nil ?_
  refine wp_seq (reg_draw 6 mixed (by kernel_rfl) (hF _ _) ?_)
  refine net_cons rfl rfl (n_move rfl (ev rfl)) ?_
  refine net_cons rfl rfl (n_move rfl (ev rfl)) ?_
  refine net_cons rfl rfl (n_slTake (k := i) rfl (ev rfl) (ev rfl) Try.underlying29 Try.sizeOf95 (by omega)) ?_
  refine net_cons rfl rfl (n_move rfl (ev rfl)) ?_
  refine net_cons rfl rfl (n_move rfl (ev rfl)) ?_
  refine net_cons rfl rfl (n_to (n_slDrop (k := i + 1) rfl (ev rfl) (ev rfl) Try.underlying29 Try.sizeOf95 (by omega)) del_slice) ?_
  refine net_nil fun a w1 hF hx => ?_
  replace hw := hw.next hx
  replace hF := hF.keep (.cons (t := 0) rfl (.cons (t := 1) rfl (.cons (t := 2) rfl (.cons (t := 6) rfl (.cons (t := 7) rfl (.cons (t := 16) rfl (.cons (t := 22) rfl (.cons (t := 25) rfl .nil))))))))
  refine t_appendB (i := 0) (k := i) (m := n - (i + 1)) sl29 rfl rfl rfl (by decide) hF hw rfl (ev rfl) (ev rfl) (del_read hw hl hi hcap hct) hnl (one_lc _) (by omega) hcl rfl fun a w1 hF hw => ?_
  replace hF := hF.keep (.cons (t := 0) rfl (.cons (t := 1) rfl (.cons (t := 2) rfl (.cons (t := 6) rfl (.cons (t := 7) rfl (.cons (t := 16) rfl (.cons (t := 26) rfl .nil)))))))
  refine t_net 7 1 (by kernel_rfl) rfl hF ?_
  refine net_cons rfl rfl (n_assign rfl (ev rfl)) ?_
  refine net_nil fun a w1 hF hx => ?_
  replace hw := hw.next hx
  replace hF := hF.keep (.cons (t := 0) rfl (.cons (t := 1) rfl (.cons (t := 2) rfl (.cons (t := 6) rfl (.cons (t := 7) rfl (.cons (t := 16) rfl .nil))))))
  refine wpList_nil ?_
  refine wp_seq (wp_region_lit ?_)
  refine t_net 0 5 (by kernel_rfl) rfl hF ?_
  refine net_cons rfl rfl (n_move rfl (ev rfl)) ?_
  refine net_cons rfl rfl (n_move rfl (ev rfl)) ?_
  refine net_cons rfl rfl (n_len rfl (ev rfl) Try.underlying29) ?_
  refine net_cons rfl rfl (n_move rfl (ev rfl)) ?_
  refine net_cons rfl rfl (n_to (n_slMid (k := i + (n - (i + 1))) (h := n) rfl (ev rfl) (ev rfl) (ev rfl) Try.underlying29 Try.sizeOf95 (by omega) (by omega)) (del_tail hi hcap)) ?_
  refine net_nil fun a w1 hF hx => ?_
  replace hw := hw.next hx
  replace hF := hF.keep (.cons (t := 0) rfl (.cons (t := 1) rfl (.cons (t := 2) rfl (.cons (t := 6) rfl (.cons (t := 16) rfl (.cons (t := 31) rfl .nil))))))
  refine t_clearB (i := 0) (n := 0) (zs := lc (0, 0, key0)) sl29 rfl rfl rfl hF hw rfl (ev rfl) Try.zeroValue95 (by kernel_rfl) (one_lab _) (by rw [lc_len, seg_len (by rw [hnl, hcl]; omega), hcl]; omega) rfl fun w1 hw => ?_
  refine wpList_nil ?_
  refine wp_seq (reg_seq 2 (hF _ _) (by kernel_rfl) ?_)
  refine net_cons rfl rfl (n_move rfl (ev rfl)) ?_
  refine net_cons rfl rfl (n_assign rfl (ev rfl)) ?_
  refine net_nil fun a w1 hF hx => ?_
  replace hw := hw.next hx
  replace hF := hF.keep (.cons (t := 0) rfl (.cons (t := 1) rfl (.cons (t := 2) rfl (.cons (t := 6) rfl (.cons (t := 16) rfl (.cons (t := 31) rfl .nil))))))
  refine wpList_nil ?_
  refine wp_ret (ret1 hF Try.results106 rfl ?_)
  exact ⟨_, rfl, del_row hl hi hcap hcm hcl hct hw⟩


theorem findE {d : Int} {L : List Lab} {m : Int} : (findR d L m).2 = (punR d L m).2.2 := by
  unfold findR punR
  split
  · split <;> rfl
  · rfl
theorem find_err {d : Int} {L : List Lab} {m : Int} (h : (!decide ((findR d L m).2 = 0)) = true) : punR d L m = (0, [], (findR d L m).2) := by
  cases h1 : okPN d L with
  | false => rw [punR_bad h1, findR_bad h1]
  | true =>
    cases h2 : (decide (m < 0) || decide (((2 ^ d.toNat : Nat) : Int) ≤ m)) with
    | true => rw [punR_arg h1 h2, findR_arg h1 h2]
    | false =>
      have : (findR d L m).2 = 0 := by simp only [findR, h1, h2]; rfl
      rw [this] at h
      cases h
theorem find_yes {d : Int} {L : List Lab} {m : Int} (h : (!decide ((findR d L m).2 = 0)) = false) : okPN d L = true ∧ (decide (m < 0) || decide (((2 ^ d.toNat : Nat) : Int) ≤ m)) = false := by
  unfold findR at h
  split at h
  · rename_i h1
    split at h
    · simp at h
    · rename_i h2
      exact ⟨h1, by simpa using h2⟩
  · simp at h
theorem count_le {d : Nat} {L : List Lab} (hd : d ≤ 6) (h : okPN d L = true) : L.length ≤ 128 := by
  have key : ∀ i, (hi : i < L.length) → (i : Int) < (L[i]).1 := by
    intro i
    induction i with
    | zero => intro hi; have := ok_range hd h (List.getElem?_eq_getElem hi); omega
    | succ i ih =>
      intro hi
      have h1 := ih (by omega)
      have h2 := (ok_free h (List.getElem?_eq_getElem (show i < L.length by omega)) (List.getElem?_eq_getElem hi) (by omega)).2
      omega
  rcases Nat.eq_zero_or_pos L.length with h0 | h0
  · omega
  · have h1 := key (L.length - 1) (by omega)
    have h2 := ok_range hd h (List.getElem?_eq_getElem (show L.length - 1 < L.length by omega))
    omega
theorem walk_next {l T : Nat} {k : Key} {acc S0 : List Lab} (h : acc ++ walkS l (T + 1) k = S0) : (acc ++ [(((l / 2 ^ T ^^^ 1 : Nat) : Int), 0, chK k (l / 2 ^ T ^^^ 1))]) ++ walkS l T (chK k (l / 2 ^ T)) = S0 := by
  rw [← h, walkS]
  simp
theorem ne_decI {a b : Nat} (h : (!decide ((a : Int) = (b : Int))) = true) : ¬ a = b := fun e => by subst e; simp at h
theorem eq_decI {a b : Nat} (h : (!decide ((a : Int) = (b : Int))) = false) : a = b := by simpa [Int.ofNat_inj] using h
theorem n_buildPu {wr : World} {E : Env} {o : Oper} {d : Int} {n t u : Nat} {xs : List Value} (ho : o.op = .build 83 #[(0, .tmp t), (1, .tmp u)]) (ht : look E t = some (.is (I d))) (hu : look E u = some (.ex 95 18 n xs (fun v => v))) : nstep Try.prog wr E o (.ex 95 18 n xs (fun v => PuV d v)) :=
  n_run fun a w hw hop => by
    obtain ⟨s, hs, hv⟩ := hop u (by simp [ho, Op.operands]) _ hu
    have h1 : a.tmps.getD t undef = I d := hop t (by simp [ho, Op.operands]) _ ht
    obtain ⟨A, c, rfl, _, _, _⟩ := Rd.row hs
    simp only [Array.getD_eq_getD_getElem?] at h1 hv
    refine ⟨PuV d (.slice A n c), w, ?_, Ext.refl w, _, hs, rfl⟩
    unfold execOp; rw [ho]
    simp [Act.eval, h1, hv, build_83_0_1]
theorem pun_range {l T : Nat} {k : Key} {L acc : List Lab} {i : Nat} {v : Int} {k0 : Key} (hl : l < 128) (har : ∀ y ∈ L, 1 ≤ y.1 ∧ y.1 < 128 ∧ y.2.1 = 0) (h : acc ++ walkS l T k = walkS l (stT l v) k0) : ∀ x ∈ L.eraseIdx i ++ acc, 0 ≤ x.1 ∧ x.1 < 1000 := by
  intro x hx
  rcases List.mem_append.1 hx with hx | hx
  · have := har x ((List.eraseIdx_sublist L i).subset hx)
    omega
  · obtain ⟨u, h1, _, _, h4⟩ := walkS_ge hl _ _ x (by rw [← h]; exact List.mem_append_left _ hx)
    omega
theorem snoc_lc {L acc : List Lab} {x : Lab} : (L ++ acc).flatMap lc ++ lc x = (L ++ (acc ++ [x])).flatMap lc := by simp


theorem Puncture_c (d : Int) (n c : Nat) (A : Option Addr) (L : List Lab) (hl : L.length = n) (hcp : n ≤ c) (hn : n ≤ 4398046511000) (m : Int) (hm0 : -9223372036854775808 ≤ m) (hm1 : m < 9223372036854775808) (w : World) (hR : Rd w A (L.flatMap lc)) : RetF Try.prog 50 [PuV d (.slice A n c), I m].toArray w (.ex 95 18 (punR d L m).2.1.length ((punR d L m).2.1.flatMap lc) (fun v => .tuple #[PuV (punR d L m).1 v, I (punR d L m).2.2])) := by
  refine enter Try.func50 rfl Try.ntmps50 rfl fun a hF => ?_
  have hw := Own.start w
  refine wp_seq (wp_region_lit ?_)
  refine t_net 0 1 (by kernel_rfl) rfl hF ?_
  refine net_cons rfl rfl (n_box rfl (ev rfl) rfl) ?_
  refine net_nil fun a w1 hF hx => ?_
  obtain ⟨b2, h_, hw⟩ := hw.blk hx (hF.at_ 2 _ rfl)
  replace hF := hF.now h_
  replace hF := hF.keep (.cons (t := 1) rfl (.cons (t := 2) rfl .nil))
  refine t_net 1 1 (by kernel_rfl) rfl hF ?_
  refine net_cons rfl rfl (n_alloc rfl Try.zeroValue83 rfl) ?_
  refine net_nil fun a w1 hF hx => ?_
  obtain ⟨b4, h_, hw⟩ := hw.blk hx (hF.at_ 4 _ rfl)
  replace hF := hF.now h_
  replace hF := hF.keep (.cons (t := 1) rfl (.cons (t := 2) rfl (.cons (t := 4) rfl .nil)))
  refine t_net 2 1 (by kernel_rfl) rfl hF ?_
  refine net_cons rfl rfl (n_assign rfl evc) ?_
  refine net_nil fun a w1 hF hx => ?_
  replace hw := hw.next hx
  replace hF := hF.keep (.cons (t := 1) rfl (.cons (t := 2) rfl (.cons (t := 4) rfl (.cons (t := 5) rfl .nil))))
  refine wpList_nil ?_
  refine wp_seq (reg_seq 10 (hF _ _) (by kernel_rfl) ?_)
  refine net_cons rfl rfl (n_load rfl (ev rfl) (ldN hw (i := 0) (vs := _) rfl Try.isAgg83 Try.sizeOf83 rfl rfl)) ?_
  refine net_cons rfl rfl (n_move rfl (ev rfl)) ?_
  refine net_cons rfl rfl (n_ret rfl Try.call104 (.cons (ev rfl) (.cons (ev rfl) .nil)) (fun _ hx => (find_c d n c A L hl hcp (by omega) m hm0 hm1 _ (hR.ext (hw.ext.trans hx))))) ?_
  refine net_cons rfl rfl (n_move rfl (ev rfl)) ?_
  refine net_cons rfl rfl (n_extract rfl (ev rfl) rfl) ?_
  refine net_cons rfl rfl (n_extract rfl (ev rfl) rfl) ?_
  refine net_cons rfl rfl (n_extract rfl (ev rfl) rfl) ?_
  refine net_cons rfl rfl (n_assign rfl (ev rfl)) ?_
  refine net_cons rfl rfl (n_assign rfl (ev rfl)) ?_
  refine net_cons rfl rfl (n_assign rfl (ev rfl)) ?_
  refine net_nil fun a w1 hF hx => ?_
  replace hw := hw.next hx
  replace hF := hF.keep (.cons (t := 2) rfl (.cons (t := 4) rfl (.cons (t := 5) rfl (.cons (t := 6) rfl (.cons (t := 7) rfl (.cons (t := 8) rfl .nil))))))
  refine wpList_nil ?_
  refine wp_seq ?_
  refine wp_seq (reg_seq 2 (hF _ _) (by kernel_rfl) ?_)
  refine net_cons rfl rfl (n_move rfl (ev rfl)) ?_
  refine net_cons rfl rfl (n_bin rfl (ev rfl) evc (r_neq (b := 0))) ?_
  refine net_nil fun a w1 hF hx => ?_
  replace hw := hw.next hx
  replace hF := hF.keep (.cons (t := 2) rfl (.cons (t := 4) rfl (.cons (t := 5) rfl (.cons (t := 6) rfl (.cons (t := 7) rfl (.cons (t := 8) rfl (.cons (t := 20) rfl .nil)))))))
  refine wpList_nil ?_
  refine wp_cond_split (hF.ev (ev rfl)) (fun h20 => ?_) (fun h20 => ?_)
  · have hz := find_err h20
    refine wp_seq (wp_region_lit ?_)
    refine t_net 0 2 (by kernel_rfl) rfl hF ?_
    refine net_cons rfl rfl (n_build rfl .nil build_83_) ?_
    refine net_cons rfl rfl (n_move rfl (ev rfl)) ?_
    refine net_nil fun a w1 hF hx => ?_
    replace hw := hw.next hx
    replace hF := hF.keep (.cons (t := 2) rfl (.cons (t := 4) rfl (.cons (t := 5) rfl (.cons (t := 6) rfl (.cons (t := 7) rfl (.cons (t := 8) rfl (.cons (t := 20) rfl (.cons (t := 21) rfl (.cons (t := 22) rfl .nil)))))))))
    refine t_store (i := 1) rfl rfl rfl hF hw rfl (ev rfl) (ev rfl) rfl one_pu Try.sizeOf83 rfl (Nat.le_of_ble_eq_true rfl) rfl fun w1 hw => ?_
    refine t_net 3 1 (by kernel_rfl) rfl hF ?_
    refine net_cons rfl rfl (n_assign rfl (ev rfl)) ?_
    refine net_nil fun a w1 hF hx => ?_
    replace hw := hw.next hx
    replace hF := hF.keep (.cons (t := 2) rfl (.cons (t := 4) rfl (.cons (t := 5) rfl (.cons (t := 6) rfl (.cons (t := 7) rfl (.cons (t := 8) rfl (.cons (t := 20) rfl .nil)))))))
    refine wpList_nil ?_
    refine wp_ret (go_then_r (retc2 hF Try.results50 rfl (ldN hw (i := 1) (vs := _) rfl Try.isAgg83 Try.sizeOf83 rfl rfl _ (Ext.refl _)) rfl ?_))
    exact ⟨_, rfl, hw.ext, (puF_none hz)⟩
  · obtain ⟨hok, hmr⟩ := find_yes h20
    obtain ⟨hd0, hd6⟩ := okPN_depth hok
    obtain ⟨dn, rfl⟩ := Int.eq_ofNat_of_zero_le hd0
    simp only [Int.toNat_natCast] at hmr
    have hfr := findR_ok hok hmr
    obtain ⟨hm2, hm3⟩ := or_f hmr
    have hpw := pow_le64 (d := dn) (by omega)
    have hpw0 := Int.natCast_nonneg (2 ^ dn)
    obtain ⟨l, hle⟩ := Int.eq_ofNat_of_zero_le (show 0 ≤ ((2 ^ dn : Nat) : Int) + m by omega)
    rw [hle] at hfr
    have har := all_range (d := dn) (by omega) hok
    have hcnt := count_le (d := dn) (by omega) hok
    have hl128 : l < 128 := by omega
    rw [hfr] at hF
    refine wp_skip ?_
    refine wp_seq (reg_draw 7 mixed (by kernel_rfl) (hF _ _) ?_)
    refine net_cons rfl rfl (n_fieldAddrO (off' := 0) rfl (ev rfl) Try.runUnderlying83 rfl Try.sizeOf3 rfl) ?_
    refine net_cons rfl rfl (n_load rfl (ev rfl) (ld1 hw (i := 0) rfl Try.isAgg3 rfl)) ?_
    refine net_cons rfl rfl (n_fieldAddrO (off' := 1) rfl (ev rfl) Try.runUnderlying83 rfl Try.sizeOf29 rfl) ?_
    refine net_cons rfl rfl (n_load rfl (ev rfl) (ld1 hw (i := 0) rfl Try.isAgg29 rfl)) ?_
    refine net_cons rfl rfl (n_ret rfl Try.call105 (.cons (ev rfl) .nil) (fun _ hx => (CloneL_c n c A L hl hn _ (hR.ext (hw.ext.trans hx))))) ?_
    refine net_cons rfl rfl (n_buildPu rfl rfl rfl) ?_
    refine net_cons rfl rfl (n_alloc rfl Try.zeroValue83 rfl) ?_
    refine net_nil fun a w1 hF hx => ?_
    obtain ⟨s28, h28_, e28_⟩ := hF.at_ 28 _ rfl
    obtain ⟨b9, e9_, l9_, h9_⟩ := hF.at_ 9 _ rfl
    replace hw := hw.addAll hx (nrow h28_ (nblk l9_ h9_ .nil rfl) rfl)
    replace hF := ((hF.now e28_).now e9_)
    replace hF := hF.keep (.cons (t := 2) rfl (.cons (t := 4) rfl (.cons (t := 5) rfl (.cons (t := 6) rfl (.cons (t := 7) rfl (.cons (t := 8) rfl (.cons (t := 9) rfl (.cons (t := 20) rfl (.cons (t := 28) rfl .nil)))))))))
    obtain ⟨A27, c27, rfl, _, _, _⟩ := hw.rd (i := 2) rfl
    refine t_store (i := 3) rfl rfl rfl hF hw rfl (ev rfl) (ev rfl) rfl one_pu Try.sizeOf83 rfl (Nat.le_of_ble_eq_true rfl) rfl fun w1 hw => ?_
    refine wpList_nil ?_
    refine wp_seq ?_
    refine wp_seq (reg_seq 2 (hF _ _) (by kernel_rfl) ?_)
    refine net_cons rfl rfl (n_move rfl (ev rfl)) ?_
    refine net_cons rfl rfl (n_bin rfl (ev rfl) evc (r_lss (b := 0))) ?_
    refine net_nil fun a w1 hF hx => ?_
    replace hw := hw.next hx
    replace hF := hF.keep (.cons (t := 2) rfl (.cons (t := 4) rfl (.cons (t := 5) rfl (.cons (t := 6) rfl (.cons (t := 7) rfl (.cons (t := 8) rfl (.cons (t := 9) rfl (.cons (t := 20) rfl (.cons (t := 28) rfl (.cons (t := 30) rfl .nil))))))))))
    refine wpList_nil ?_
    refine wp_cond_split (hF.ev (ev rfl)) (fun h30 => ?_) (fun h30 => ?_)
    · have hno := idxF_neg (of_decide_eq_true h30)
      refine wp_seq (wp_region_lit ?_)
      refine t_net 0 1 (by kernel_rfl) rfl hF ?_
      refine net_cons rfl rfl (n_load rfl (ev rfl) (ldN hw (i := 3) (vs := _) rfl Try.isAgg83 Try.sizeOf83 rfl rfl)) ?_
      refine net_nil fun a w1 hF hx => ?_
      replace hw := hw.next hx
      replace hF := hF.keep (.cons (t := 2) rfl (.cons (t := 4) rfl (.cons (t := 5) rfl (.cons (t := 6) rfl (.cons (t := 7) rfl (.cons (t := 8) rfl (.cons (t := 9) rfl (.cons (t := 20) rfl (.cons (t := 28) rfl (.cons (t := 30) rfl (.cons (t := 31) rfl .nil)))))))))))
      refine t_store (i := 1) rfl rfl rfl hF hw rfl (ev rfl) (ev rfl) rfl one_pu Try.sizeOf83 rfl (Nat.le_of_ble_eq_true rfl) rfl fun w1 hw => ?_
      refine t_net 2 1 (by kernel_rfl) rfl hF ?_
      refine net_cons rfl rfl (n_assign rfl evc) ?_
      refine net_nil fun a w1 hF hx => ?_
      replace hw := hw.next hx
      replace hF := hF.keep (.cons (t := 2) rfl (.cons (t := 4) rfl (.cons (t := 5) rfl (.cons (t := 6) rfl (.cons (t := 7) rfl (.cons (t := 8) rfl (.cons (t := 9) rfl (.cons (t := 20) rfl (.cons (t := 28) rfl (.cons (t := 30) rfl .nil))))))))))
      refine wpList_nil ?_
      refine wp_ret (go_then_r (retc2 hF Try.results50 rfl (ldN hw (i := 1) (vs := _) rfl Try.isAgg83 Try.sizeOf83 rfl rfl _ (Ext.refl _)) rfl ?_))
      exact ⟨_, rfl, hw.ext, (puF_ok (i := 2) ((punR_ok hok hmr hle).trans (by rw [punL_none hok hno])) hl hw rfl)⟩
    · obtain ⟨i, x, hix, hx0, hbx⟩ := idxF_some (of_bool_f h30)
      have hi : i < n := by rw [← hl]; exact (List.getElem?_eq_some_iff.1 hx0).1
      have hxr := har x (List.mem_of_getElem? hx0)
      obtain ⟨xn, hxn⟩ := Int.eq_ofNat_of_zero_le (show 0 ≤ x.1 by omega)
      have hbn := hbx
      rw [hxn, bel_nat] at hbn
      have hst := st_spec hl128 (by omega) hbn
      rw [← hxn] at hst
      obtain ⟨hst1, hst2⟩ := hst
      have hxe : x = ((xn : Int), 0, x.2.2) := by rw [← hxn, ← hxr.2.2]
      obtain ⟨_, _, hse_, _, hR27, _⟩ := hw.rd (i := 2) rfl
      injection hse_ with hA_ _ _
      subst hA_
      have hF_ := hF
      have hw_ := hw
      obtain ⟨bX, oX, rfl, hcX⟩ := hR27.at_ (by rw [fm_len lc_len]; omega)
      have hF := hF_
      have hw := hw_
      refine wp_skip ?_
      refine wp_seq (wp_region_lit ?_)
      refine t_net 0 6 (by kernel_rfl) rfl hF ?_
      refine net_cons rfl rfl (n_fieldAddrO (off' := 1) rfl (ev rfl) Try.runUnderlying83 rfl Try.sizeOf29 rfl) ?_
      refine net_cons rfl rfl (n_load rfl (ev rfl) (ld1 hw (i := 3) rfl Try.isAgg29 rfl)) ?_
      refine net_cons rfl rfl (n_to (v' := I (i : Int)) (n_move rfl (ev rfl)) (congrArg (Value.int .i64) hix)) ?_
      refine net_cons rfl rfl (n_indexS (off' := oX + (i) * 18) rfl (ev rfl) (ev rfl) Try.underlying29 Try.sizeOf95 (by omega) rfl) ?_
      refine net_cons rfl rfl (n_load rfl (ev rfl) (fun w2 hx2 => ldNR hcX (fm_at lc_len hx0) (lc_len _) Try.isAgg95 Try.sizeOf95 (by omega) w2 hx2)) ?_
      refine net_cons rfl rfl (n_alloc rfl Try.zeroValue95 rfl) ?_
      refine net_nil fun a w1 hF hx => ?_
      obtain ⟨b10, h_, hw⟩ := hw.blk hx (hF.at_ 10 _ rfl)
      replace hF := hF.now h_
      replace hF := hF.keep (.cons (t := 2) rfl (.cons (t := 4) rfl (.cons (t := 5) rfl (.cons (t := 6) rfl (.cons (t := 7) rfl (.cons (t := 8) rfl (.cons (t := 9) rfl (.cons (t := 10) rfl (.cons (t := 20) rfl (.cons (t := 28) rfl (.cons (t := 30) rfl (.cons (t := 36) rfl .nil))))))))))))
      refine t_store (i := 4) rfl rfl rfl hF hw rfl (ev rfl) (ev rfl) rfl (one_lab _) Try.sizeOf95 (lc_len _) (by first | decide | (rw [lc_len]; decide)) (seg_whole (by rw [lc_len] <;> rfl)) fun w1 hw => ?_
      refine wpList_nil ?_
      refine wp_seq (wp_region_lit ?_)
      refine t_net 0 5 (by kernel_rfl) rfl hF ?_
      refine net_cons rfl rfl (n_fieldAddrO (off' := 1) rfl (ev rfl) Try.runUnderlying83 rfl Try.sizeOf29 rfl) ?_
      refine net_cons rfl rfl (n_load rfl (ev rfl) (ld1 hw (i := 3) rfl Try.isAgg29 rfl)) ?_
      refine net_cons rfl rfl (n_to (v' := I (i : Int)) (n_move rfl (ev rfl)) (congrArg (Value.int .i64) hix)) ?_
      refine net_cons rfl rfl (n_to (v' := I (i : Int)) (n_move rfl (ev rfl)) (congrArg (Value.int .i64) hix)) ?_
      refine net_cons rfl rfl (n_bin rfl (ev rfl) evc (r_inc (by omega))) ?_
      refine net_nil fun a w1 hF hx => ?_
      replace hw := hw.next hx
      replace hF := hF.keep (.cons (t := 2) rfl (.cons (t := 4) rfl (.cons (t := 5) rfl (.cons (t := 6) rfl (.cons (t := 7) rfl (.cons (t := 8) rfl (.cons (t := 9) rfl (.cons (t := 10) rfl (.cons (t := 20) rfl (.cons (t := 28) rfl (.cons (t := 30) rfl (.cons (t := 36) rfl (.cons (t := 38) rfl (.cons (t := 39) rfl (.cons (t := 41) rfl .nil)))))))))))))))
      replace hw := hw.front 2 rfl
      refine t_callF rfl rfl hF Try.call106 (.cons (ev rfl) (.cons (ev rfl) (.cons (ev rfl) .nil))) (fun d_ e_ => by injection e_ with e_; subst e_; decide) (Delete_c n i _ L _ _ _ hl hi (by omega) hw) fun v42 a w1 hF hw => ?_
      obtain ⟨A42, c42, rfl, _, _, _⟩ := hw.rd (i := 0) rfl
      replace hF := hF.keep (.cons (t := 2) rfl (.cons (t := 4) rfl (.cons (t := 5) rfl (.cons (t := 6) rfl (.cons (t := 7) rfl (.cons (t := 8) rfl (.cons (t := 9) rfl (.cons (t := 10) rfl (.cons (t := 20) rfl (.cons (t := 28) rfl (.cons (t := 30) rfl (.cons (t := 36) rfl (.cons (t := 42) rfl .nil)))))))))))))
      refine t_net 6 1 (by kernel_rfl) rfl hF ?_
      refine net_cons rfl rfl (n_fieldAddrO (off' := 1) rfl (ev rfl) Try.runUnderlying83 rfl Try.sizeOf29 rfl) ?_
      refine net_nil fun a w1 hF hx => ?_
      replace hw := hw.next hx
      replace hF := hF.keep (.cons (t := 2) rfl (.cons (t := 4) rfl (.cons (t := 5) rfl (.cons (t := 6) rfl (.cons (t := 7) rfl (.cons (t := 8) rfl (.cons (t := 9) rfl (.cons (t := 10) rfl (.cons (t := 20) rfl (.cons (t := 28) rfl (.cons (t := 30) rfl (.cons (t := 36) rfl (.cons (t := 42) rfl (.cons (t := 43) rfl .nil))))))))))))))
      refine t_store (i := 3) rfl rfl rfl hF hw rfl (ev rfl) (ev rfl) rfl one1 Try.sizeOf29 rfl (Nat.le_of_ble_eq_true rfl) rfl fun w1 hw => ?_
      refine wpList_nil ?_
      refine wp_seq (wp_block ?_)
      refine wp_loop_ix (α := Nat × Key × Value × List Lab) (fun ⟨T, k, v, acc⟩ a w1 => FrV 80 [] [(4, .is (ptr0 b4)) , (6, .is (I (l : Int))) , (9, .is (ptr0 b9)) , (10, .is (ptr0 b10))] a ∧ Own w w1 [.row v 95 18 (n - 1 + acc.length) ((L.eraseIdx i ++ acc).flatMap lc), .blk b2 83 [I (dn : Int), .slice A n c], .blk b4 83 [I 0, .slice none 0 0], .blk b9 83 [I (dn : Int), v], .blk b10 95 (lc (((l / 2 ^ T : Nat) : Int), 0, k))] ∧ (T ≤ 6) ∧ (1 ≤ l / 2 ^ T) ∧ (acc ++ walkS l T k = walkS l (stT l x.1) x.2.2) ∧ (acc.length ≤ 6 - T)) (fun ⟨T, k, v, acc⟩ => T) ((stT l x.1, x.2.2, .slice A42 (n - 1) c42, [])) ⟨hF.keep (.cons (t := 4) rfl (.cons (t := 6) rfl (.cons (t := 9) rfl (.cons (t := 10) rfl (.nil))))), (by rw [List.append_nil, hst1, ← hxe]; exact hw), hst2, by omega, rfl, by simp only [List.length_nil]; omega⟩ ?_
      rintro ⟨T, k, v, acc⟩ a w1 ⟨hF, hw, hT, hT1, hacc, hal⟩
      refine wp_seq ?_
      refine wp_seq (reg_seq 4 (hF _ _) (by kernel_rfl) ?_)
      refine net_cons rfl rfl (n_fieldAddrO (off' := 0) rfl (ev rfl) Try.runUnderlying95 rfl Try.sizeOf3 rfl) ?_
      refine net_cons rfl rfl (n_load rfl (ev rfl) (ld1 hw (i := 4) rfl Try.isAgg3 rfl)) ?_
      refine net_cons rfl rfl (n_move rfl (ev rfl)) ?_
      refine net_cons rfl rfl (n_bin rfl (ev rfl) (ev rfl) r_neq) ?_
      refine net_nil fun a w1 hF hx => ?_
      replace hw := hw.next hx
      replace hF := hF.keep (.cons (t := 4) rfl (.cons (t := 6) rfl (.cons (t := 9) rfl (.cons (t := 10) rfl (.cons (t := 47) rfl .nil)))))
      refine wpList_nil ?_
      refine wp_cond_split (hF.ev (ev rfl)) (fun h47 => ?_) (fun h47 => ?_)
      · have hTn := ne_decI h47
        obtain ⟨T, rfl⟩ : ∃ k, T = k + 1 := ⟨T - 1, by { rcases Nat.eq_zero_or_pos T with h | h; subst h; simp at hTn; omega }⟩
        have hp1 := anc_pos hT1
        have hlt := Nat.lt_of_le_of_lt (Nat.div_le_self l (2 ^ T)) hl128
        have hlt2 := anc_half l T
        have hxl := xor1_lt hlt
        refine wp_skip ?_
        refine wp_block ?_
        refine wp_seq (reg_seq 4 (hF _ _) (by kernel_rfl) ?_)
        refine net_cons rfl rfl (n_fieldAddrO (off' := 0) rfl (ev rfl) Try.runUnderlying95 rfl Try.sizeOf3 rfl) ?_
        refine net_cons rfl rfl (n_load rfl (ev rfl) (ld1 hw (i := 4) rfl Try.isAgg3 rfl)) ?_
        refine net_cons rfl rfl (n_to (v' := I ((2 * (l / 2 ^ (T + 1)) : Nat) : Int)) (n_bin rfl evc (ev rfl) (r_mulI (by omega) (by omega))) (congrArg (Value.int .i64) (by omega))) ?_
        refine net_cons rfl rfl (n_assign rfl (ev rfl)) ?_
        refine net_nil fun a w1 hF hx => ?_
        replace hw := hw.next hx
        replace hF := hF.keep (.cons (t := 4) rfl (.cons (t := 6) rfl (.cons (t := 9) rfl (.cons (t := 10) rfl (.cons (t := 11) rfl (.cons (t := 47) rfl .nil))))))
        refine wpList_nil ?_
        refine wp_seq ?_
        refine wp_seq (reg_seq 4 (hF _ _) (by kernel_rfl) ?_)
        refine net_cons rfl rfl (n_move rfl (ev rfl)) ?_
        refine net_cons rfl rfl (n_move rfl (ev rfl)) ?_
        refine net_cons rfl rfl (n_ret rfl Try.call103 (.cons (ev rfl) (.cons (ev rfl) .nil)) (fun _ hx => (below_c _ _ (by omega) (by omega) (by omega) (by omega) _))) ?_
        refine net_cons rfl rfl (n_not rfl (ev rfl)) ?_
        refine net_nil fun a w1 hF hx => ?_
        replace hw := hw.next hx
        replace hF := hF.keep (.cons (t := 4) rfl (.cons (t := 6) rfl (.cons (t := 9) rfl (.cons (t := 10) rfl (.cons (t := 11) rfl (.cons (t := 47) rfl (.cons (t := 54) rfl .nil)))))))
        refine wpList_nil ?_
        refine wp_cond_split (hF.ev (ev rfl)) (fun h54 => ?_) (fun h54 => ?_)
        · have hbl : bel (l : Int) ((2 * (l / 2 ^ (T + 1)) : Nat) : Int) = false := by simpa using h54
          rw [bel_nat] at hbl
          have hhf := half_no hl128 (by omega) hT1 hbl
          refine reg_seq 3 (hF _ _) (by kernel_rfl) ?_
          refine net_cons rfl rfl (n_move rfl (ev rfl)) ?_
          refine net_cons rfl rfl (n_to (v' := I ((l / 2 ^ T : Nat) : Int)) (n_bin rfl (ev rfl) evc (r_addI (by omega) (by omega))) (congrArg (Value.int .i64) (by omega))) ?_
          refine net_cons rfl rfl (n_assign rfl (ev rfl)) ?_
          refine net_nil fun a w1 hF hx => ?_
          replace hw := hw.next hx
          replace hF := hF.keep (.cons (t := 4) rfl (.cons (t := 6) rfl (.cons (t := 9) rfl (.cons (t := 10) rfl (.cons (t := 11) rfl (.cons (t := 47) rfl (.cons (t := 54) rfl .nil)))))))
          refine wpList_nil ?_
          refine wp_seq (reg_draw 11 mixed (by kernel_rfl) (hF _ _) ?_)
          refine net_cons rfl rfl (n_fieldAddrO (off' := 1) rfl (ev rfl) Try.runUnderlying83 rfl Try.sizeOf29 rfl) ?_
          refine net_cons rfl rfl (n_load rfl (ev rfl) (ld1 hw (i := 3) rfl Try.isAgg29 rfl)) ?_
          refine net_cons rfl rfl (n_move rfl (ev rfl)) ?_
          refine net_cons rfl rfl (n_bin rfl (ev rfl) evc (r_xor1I (by omega))) ?_
          refine net_cons rfl rfl (n_fieldAddrO (off' := 2) rfl (ev rfl) Try.runUnderlying95 rfl Try.sizeOf23 rfl) ?_
          refine net_cons rfl rfl (n_load rfl (ev rfl) (ldN hw (i := 4) (vs := _) rfl Try.isAgg23 Try.sizeOf23 (kc_len _) rfl)) ?_
          refine net_cons rfl rfl (n_move rfl (ev rfl)) ?_
          refine net_cons rfl rfl (n_bin rfl (ev rfl) evc (r_xor1I (by omega))) ?_
          refine net_cons rfl rfl (n_ret rfl Try.call107 (.cons (ev rfl) (.cons (ev rfl) .nil)) (fun _ hx => (next_c k (l / 2 ^ T ^^^ 1) hxl _))) ?_
          refine net_cons rfl rfl (n_build rfl (.cons (ev rfl) (.cons (ev rfl) .nil)) build_95_0_2) ?_
          refine net_cons rfl rfl (n_bsl sl29 rfl (.cons (ev rfl) .nil) (.cons rfl (lc_len _) .nil) rfl (by decide) (by decide)) ?_
          refine net_nil fun a w1 hF hx => ?_
          obtain ⟨b67, e67_, l67_, h67_⟩ := hF.at_ 67 _ rfl
          have hR67 := Rd.heap h67_
          replace hF := hF.now (v := .slice (some ⟨b67, 0, none⟩) (1) (1)) e67_
          replace hw := hw.next hx
          replace hF := hF.keep (.cons (t := 4) rfl (.cons (t := 6) rfl (.cons (t := 9) rfl (.cons (t := 10) rfl (.cons (t := 11) rfl (.cons (t := 47) rfl (.cons (t := 54) rfl (.cons (t := 58) rfl (.cons (t := 67) rfl .nil)))))))))
          refine t_append (i := 0) sl29 rfl rfl rfl (by decide) hF hw rfl (ev rfl) (ev rfl) hR67 (lc_len _) (one_lab _) (by simp only [maxLen]; omega) (by omega) fun v68 a w1 hF hw => ?_
          replace hF := hF.keep (.cons (t := 4) rfl (.cons (t := 6) rfl (.cons (t := 9) rfl (.cons (t := 10) rfl (.cons (t := 11) rfl (.cons (t := 47) rfl (.cons (t := 54) rfl (.cons (t := 68) rfl .nil))))))))
          obtain ⟨A68, c68, rfl, _, _, _⟩ := hw.rd (i := 0) rfl
          refine t_net 12 1 (by kernel_rfl) rfl hF ?_
          refine net_cons rfl rfl (n_fieldAddrO (off' := 1) rfl (ev rfl) Try.runUnderlying83 rfl Try.sizeOf29 rfl) ?_
          refine net_nil fun a w1 hF hx => ?_
          replace hw := hw.next hx
          replace hF := hF.keep (.cons (t := 4) rfl (.cons (t := 6) rfl (.cons (t := 9) rfl (.cons (t := 10) rfl (.cons (t := 11) rfl (.cons (t := 47) rfl (.cons (t := 54) rfl (.cons (t := 68) rfl (.cons (t := 69) rfl .nil)))))))))
          refine t_store (i := 3) rfl rfl rfl hF hw rfl (ev rfl) (ev rfl) rfl one1 Try.sizeOf29 rfl (Nat.le_of_ble_eq_true rfl) rfl fun w1 hw => ?_
          refine wpList_nil ?_
          refine wp_region_lit ?_
          refine t_net 0 6 (by kernel_rfl) rfl hF ?_
          refine net_cons rfl rfl (n_move rfl (ev rfl)) ?_
          refine net_cons rfl rfl (n_fieldAddrO (off' := 2) rfl (ev rfl) Try.runUnderlying95 rfl Try.sizeOf23 rfl) ?_
          refine net_cons rfl rfl (n_load rfl (ev rfl) (ldN hw (i := 4) (vs := _) rfl Try.isAgg23 Try.sizeOf23 (kc_len _) rfl)) ?_
          refine net_cons rfl rfl (n_move rfl (ev rfl)) ?_
          refine net_cons rfl rfl (n_ret rfl Try.call107 (.cons (ev rfl) (.cons (ev rfl) .nil)) (fun _ hx => (next_c k (l / 2 ^ T) (by omega) _))) ?_
          refine net_cons rfl rfl (n_build rfl (.cons (ev rfl) (.cons (ev rfl) .nil)) build_95_0_2) ?_
          refine net_nil fun a w1 hF hx => ?_
          replace hw := hw.next hx
          replace hF := hF.keep (.cons (t := 4) rfl (.cons (t := 6) rfl (.cons (t := 9) rfl (.cons (t := 10) rfl (.cons (t := 11) rfl (.cons (t := 47) rfl (.cons (t := 54) rfl (.cons (t := 68) rfl (.cons (t := 69) rfl (.cons (t := 75) rfl .nil))))))))))
          refine t_store (i := 4) rfl rfl rfl hF hw rfl (ev rfl) (ev rfl) rfl (one_lab _) Try.sizeOf95 (lc_len _) (by first | decide | (rw [lc_len]; decide)) (seg_whole (by rw [lc_len] <;> rfl)) fun w1 hw => ?_
          refine wpList_nil ?_
          exact ⟨(T, chK k (l / 2 ^ T), _, acc ++ [(((l / 2 ^ T ^^^ 1 : Nat) : Int), 0, chK k (l / 2 ^ T ^^^ 1))]), ⟨hF.keep (.cons (t := 4) rfl (.cons (t := 6) rfl (.cons (t := 9) rfl (.cons (t := 10) rfl (.nil))))), (by rw [← snoc_lc, List.length_append]; exact hw), by omega, hp1, walk_next hacc, by simp only [List.length_append, List.length_cons, List.length_nil]; omega⟩, (by show T < T + 1; omega)⟩
        · have hbl : bel (l : Int) ((2 * (l / 2 ^ (T + 1)) : Nat) : Int) = true := by simpa using h54
          rw [bel_nat] at hbl
          have hhf := half_yes hl128 (by omega) hT1 hbl
          rw [hhf] at hF
          refine wp_skip ?_
          refine wp_seq (reg_draw 11 mixed (by kernel_rfl) (hF _ _) ?_)
          refine net_cons rfl rfl (n_fieldAddrO (off' := 1) rfl (ev rfl) Try.runUnderlying83 rfl Try.sizeOf29 rfl) ?_
          refine net_cons rfl rfl (n_load rfl (ev rfl) (ld1 hw (i := 3) rfl Try.isAgg29 rfl)) ?_
          refine net_cons rfl rfl (n_move rfl (ev rfl)) ?_
          refine net_cons rfl rfl (n_bin rfl (ev rfl) evc (r_xor1I (by omega))) ?_
          refine net_cons rfl rfl (n_fieldAddrO (off' := 2) rfl (ev rfl) Try.runUnderlying95 rfl Try.sizeOf23 rfl) ?_
          refine net_cons rfl rfl (n_load rfl (ev rfl) (ldN hw (i := 4) (vs := _) rfl Try.isAgg23 Try.sizeOf23 (kc_len _) rfl)) ?_
          refine net_cons rfl rfl (n_move rfl (ev rfl)) ?_
          refine net_cons rfl rfl (n_bin rfl (ev rfl) evc (r_xor1I (by omega))) ?_
          refine net_cons rfl rfl (n_ret rfl Try.call107 (.cons (ev rfl) (.cons (ev rfl) .nil)) (fun _ hx => (next_c k (l / 2 ^ T ^^^ 1) hxl _))) ?_
          refine net_cons rfl rfl (n_build rfl (.cons (ev rfl) (.cons (ev rfl) .nil)) build_95_0_2) ?_
          refine net_cons rfl rfl (n_bsl sl29 rfl (.cons (ev rfl) .nil) (.cons rfl (lc_len _) .nil) rfl (by decide) (by decide)) ?_
          refine net_nil fun a w1 hF hx => ?_
          obtain ⟨b67, e67_, l67_, h67_⟩ := hF.at_ 67 _ rfl
          have hR67 := Rd.heap h67_
          replace hF := hF.now (v := .slice (some ⟨b67, 0, none⟩) (1) (1)) e67_
          replace hw := hw.next hx
          replace hF := hF.keep (.cons (t := 4) rfl (.cons (t := 6) rfl (.cons (t := 9) rfl (.cons (t := 10) rfl (.cons (t := 11) rfl (.cons (t := 47) rfl (.cons (t := 54) rfl (.cons (t := 58) rfl (.cons (t := 67) rfl .nil)))))))))
          refine t_append (i := 0) sl29 rfl rfl rfl (by decide) hF hw rfl (ev rfl) (ev rfl) hR67 (lc_len _) (one_lab _) (by simp only [maxLen]; omega) (by omega) fun v68 a w1 hF hw => ?_
          replace hF := hF.keep (.cons (t := 4) rfl (.cons (t := 6) rfl (.cons (t := 9) rfl (.cons (t := 10) rfl (.cons (t := 11) rfl (.cons (t := 47) rfl (.cons (t := 54) rfl (.cons (t := 68) rfl .nil))))))))
          obtain ⟨A68, c68, rfl, _, _, _⟩ := hw.rd (i := 0) rfl
          refine t_net 12 1 (by kernel_rfl) rfl hF ?_
          refine net_cons rfl rfl (n_fieldAddrO (off' := 1) rfl (ev rfl) Try.runUnderlying83 rfl Try.sizeOf29 rfl) ?_
          refine net_nil fun a w1 hF hx => ?_
          replace hw := hw.next hx
          replace hF := hF.keep (.cons (t := 4) rfl (.cons (t := 6) rfl (.cons (t := 9) rfl (.cons (t := 10) rfl (.cons (t := 11) rfl (.cons (t := 47) rfl (.cons (t := 54) rfl (.cons (t := 68) rfl (.cons (t := 69) rfl .nil)))))))))
          refine t_store (i := 3) rfl rfl rfl hF hw rfl (ev rfl) (ev rfl) rfl one1 Try.sizeOf29 rfl (Nat.le_of_ble_eq_true rfl) rfl fun w1 hw => ?_
          refine wpList_nil ?_
          refine wp_region_lit ?_
          refine t_net 0 6 (by kernel_rfl) rfl hF ?_
          refine net_cons rfl rfl (n_move rfl (ev rfl)) ?_
          refine net_cons rfl rfl (n_fieldAddrO (off' := 2) rfl (ev rfl) Try.runUnderlying95 rfl Try.sizeOf23 rfl) ?_
          refine net_cons rfl rfl (n_load rfl (ev rfl) (ldN hw (i := 4) (vs := _) rfl Try.isAgg23 Try.sizeOf23 (kc_len _) rfl)) ?_
          refine net_cons rfl rfl (n_move rfl (ev rfl)) ?_
          refine net_cons rfl rfl (n_ret rfl Try.call107 (.cons (ev rfl) (.cons (ev rfl) .nil)) (fun _ hx => (next_c k (l / 2 ^ T) (by omega) _))) ?_
          refine net_cons rfl rfl (n_build rfl (.cons (ev rfl) (.cons (ev rfl) .nil)) build_95_0_2) ?_
          refine net_nil fun a w1 hF hx => ?_
          replace hw := hw.next hx
          replace hF := hF.keep (.cons (t := 4) rfl (.cons (t := 6) rfl (.cons (t := 9) rfl (.cons (t := 10) rfl (.cons (t := 11) rfl (.cons (t := 47) rfl (.cons (t := 54) rfl (.cons (t := 68) rfl (.cons (t := 69) rfl (.cons (t := 75) rfl .nil))))))))))
          refine t_store (i := 4) rfl rfl rfl hF hw rfl (ev rfl) (ev rfl) rfl (one_lab _) Try.sizeOf95 (lc_len _) (by first | decide | (rw [lc_len]; decide)) (seg_whole (by rw [lc_len] <;> rfl)) fun w1 hw => ?_
          refine wpList_nil ?_
          exact ⟨(T, chK k (l / 2 ^ T), _, acc ++ [(((l / 2 ^ T ^^^ 1 : Nat) : Int), 0, chK k (l / 2 ^ T ^^^ 1))]), ⟨hF.keep (.cons (t := 4) rfl (.cons (t := 6) rfl (.cons (t := 9) rfl (.cons (t := 10) rfl (.nil))))), (by rw [← snoc_lc, List.length_append]; exact hw), by omega, hp1, walk_next hacc, by simp only [List.length_append, List.length_cons, List.length_nil]; omega⟩, (by show T < T + 1; omega)⟩
      · have hT0 := anc_zero (l := l) (T := T) (by have := Nat.div_le_self l (2 ^ T); omega) (eq_decI h47)
        subst hT0
        rw [walkS, List.append_nil] at hacc
        obtain ⟨Av, cv, rfl, _, _, _⟩ := hw.rd (i := 0) rfl
        refine wp_exit (go_then_e (go_then_e (go_exit ?_)))
        refine wp_seq (wp_region_lit ?_)
        refine t_net 0 2 (by kernel_rfl) rfl hF ?_
        refine net_cons rfl rfl (n_fieldAddrO (off' := 1) rfl (ev rfl) Try.runUnderlying83 rfl Try.sizeOf29 rfl) ?_
        refine net_cons rfl rfl (n_load rfl (ev rfl) (ld1 hw (i := 3) rfl Try.isAgg29 rfl)) ?_
        refine net_nil fun a w1 hF hx => ?_
        replace hw := hw.next hx
        replace hF := hF.keep (.cons (t := 4) rfl (.cons (t := 6) rfl (.cons (t := 9) rfl (.cons (t := 10) rfl (.cons (t := 47) rfl (.cons (t := 77) rfl .nil))))))
        have hrg := pun_range (i := i) (T := 0) (k := k) (acc := acc) hl128 har (by rw [walkS, List.append_nil]; exact hacc)
        refine t_callF rfl rfl hF Try.call108 (.cons (ev rfl) (.cons rfl .nil)) (fun d_ e_ => by injection e_ with e_; subst e_; decide) (sort_own (L.eraseIdx i ++ acc) hrg (by rw [List.length_append, List.length_eraseIdx, if_pos (by omega), hl]) (by omega) hw) fun v_ a w1 hF hw => ?_
        obtain ⟨L', hLp, hLs, hw⟩ := hw
        replace hF := hF.keep (.cons (t := 4) rfl (.cons (t := 6) rfl (.cons (t := 9) rfl (.cons (t := 10) rfl (.cons (t := 47) rfl .nil)))))
        refine wpList_nil ?_
        refine wp_seq (wp_region_lit ?_)
        refine t_net 0 1 (by kernel_rfl) rfl hF ?_
        refine net_cons rfl rfl (n_load rfl (ev rfl) (ldN hw (i := 3) (vs := _) rfl Try.isAgg83 Try.sizeOf83 rfl rfl)) ?_
        refine net_nil fun a w1 hF hx => ?_
        replace hw := hw.next hx
        replace hF := hF.keep (.cons (t := 4) rfl (.cons (t := 6) rfl (.cons (t := 9) rfl (.cons (t := 10) rfl (.cons (t := 47) rfl (.cons (t := 79) rfl .nil))))))
        refine t_store (i := 2) rfl rfl rfl hF hw rfl (ev rfl) (ev rfl) rfl one_pu Try.sizeOf83 rfl (Nat.le_of_ble_eq_true rfl) rfl fun w1 hw => ?_
        refine t_net 2 1 (by kernel_rfl) rfl hF ?_
        refine net_cons rfl rfl (n_assign rfl evc) ?_
        refine net_nil fun a w1 hF hx => ?_
        replace hw := hw.next hx
        replace hF := hF.keep (.cons (t := 4) rfl (.cons (t := 5) rfl (.cons (t := 6) rfl (.cons (t := 9) rfl (.cons (t := 10) rfl (.cons (t := 47) rfl .nil))))))
        refine wpList_nil ?_
        refine wp_ret (retc2 hF Try.results50 rfl (ldN hw (i := 2) (vs := _) rfl Try.isAgg83 Try.sizeOf83 rfl rfl _ (Ext.refl _)) rfl ?_)
        rw [hacc] at hLp
        have hpl := punL_some (d := dn) (by omega) hl128 hok hx0 hbx hLp hLs
        rw [hpl] at hw
        exact ⟨_, rfl, hw.ext, puF_ok (i := 0) (punR_ok hok hmr hle) (by rw [← hpl, hLp.length_eq, ← hacc, List.length_append, List.length_eraseIdx, if_pos (by omega), hl]) hw rfl⟩


theorem ev_err {d : Int} {L : List Lab} {m : Int} (h : (!decide ((findR d L m).2 = 0)) = true) : evR d L m = (key0, (findR d L m).2) := by
  cases h1 : okPN d L with
  | false => rw [evR_bad h1, findR_bad h1]
  | true =>
    cases h2 : (decide (m < 0) || decide (((2 ^ d.toNat : Nat) : Int) ≤ m)) with
    | true => rw [evR_arg h1 h2, findR_arg h1 h2]
    | false =>
      have : (findR d L m).2 = 0 := by simp only [findR, h1, h2]; rfl
      rw [this] at h
      cases h


theorem Evaluate_c (d : Int) (n c : Nat) (A : Option Addr) (L : List Lab) (hl : L.length = n) (hcp : n ≤ c) (hn : n ≤ 4398046511000) (m : Int) (hm0 : -9223372036854775808 ≤ m) (hm1 : m < 9223372036854775808) (w : World) (hR : Rd w A (L.flatMap lc)) : RetF Try.prog 52 [PuV d (.slice A n c), I m].toArray w (.is (.tuple #[K (evR d L m).1, I (evR d L m).2])) := by
  refine enter Try.func52 rfl Try.ntmps52 rfl fun a hF => ?_
  have hw := Own.start w
  refine wp_seq (wp_region_lit ?_)
  refine t_net 0 1 (by kernel_rfl) rfl hF ?_
  refine net_cons rfl rfl (n_box rfl (ev rfl) rfl) ?_
  refine net_nil fun a w1 hF hx => ?_
  obtain ⟨b2, h_, hw⟩ := hw.blk hx (hF.at_ 2 _ rfl)
  replace hF := hF.now h_
  replace hF := hF.keep (.cons (t := 1) rfl (.cons (t := 2) rfl .nil))
  refine t_net 1 1 (by kernel_rfl) rfl hF ?_
  refine net_cons rfl rfl (n_alloc rfl Try.zeroValue23 rfl) ?_
  refine net_nil fun a w1 hF hx => ?_
  obtain ⟨b4, h_, hw⟩ := hw.blk hx (hF.at_ 4 _ rfl)
  replace hF := hF.now h_
  replace hF := hF.keep (.cons (t := 1) rfl (.cons (t := 2) rfl (.cons (t := 4) rfl .nil)))
  refine t_net 2 1 (by kernel_rfl) rfl hF ?_
  refine net_cons rfl rfl (n_assign rfl evc) ?_
  refine net_nil fun a w1 hF hx => ?_
  replace hw := hw.next hx
  replace hF := hF.keep (.cons (t := 1) rfl (.cons (t := 2) rfl (.cons (t := 4) rfl (.cons (t := 5) rfl .nil))))
  refine wpList_nil ?_
  refine wp_seq (reg_seq 10 (hF _ _) (by kernel_rfl) ?_)
  refine net_cons rfl rfl (n_load rfl (ev rfl) (ldN hw (i := 0) (vs := _) rfl Try.isAgg83 Try.sizeOf83 rfl rfl)) ?_
  refine net_cons rfl rfl (n_move rfl (ev rfl)) ?_
  refine net_cons rfl rfl (n_ret rfl Try.call104 (.cons (ev rfl) (.cons (ev rfl) .nil)) (fun _ hx => (find_c d n c A L hl hcp (by omega) m hm0 hm1 _ (hR.ext (hw.ext.trans hx))))) ?_
  refine net_cons rfl rfl (n_move rfl (ev rfl)) ?_
  refine net_cons rfl rfl (n_extract rfl (ev rfl) rfl) ?_
  refine net_cons rfl rfl (n_extract rfl (ev rfl) rfl) ?_
  refine net_cons rfl rfl (n_extract rfl (ev rfl) rfl) ?_
  refine net_cons rfl rfl (n_assign rfl (ev rfl)) ?_
  refine net_cons rfl rfl (n_assign rfl (ev rfl)) ?_
  refine net_cons rfl rfl (n_assign rfl (ev rfl)) ?_
  refine net_nil fun a w1 hF hx => ?_
  replace hw := hw.next hx
  replace hF := hF.keep (.cons (t := 2) rfl (.cons (t := 4) rfl (.cons (t := 5) rfl (.cons (t := 6) rfl (.cons (t := 7) rfl (.cons (t := 8) rfl .nil))))))
  refine wpList_nil ?_
  refine wp_seq (wp_block ?_)
  refine wp_seq (reg_seq 3 (hF _ _) (by kernel_rfl) ?_)
  refine net_cons rfl rfl (n_move rfl (ev rfl)) ?_
  refine net_cons rfl rfl (n_bin rfl (ev rfl) evc (r_neq (b := 0))) ?_
  refine net_cons rfl rfl (n_assign rfl (ev rfl)) ?_
  refine net_nil fun a w1 hF hx => ?_
  replace hw := hw.next hx
  replace hF := hF.keep (.cons (t := 2) rfl (.cons (t := 4) rfl (.cons (t := 5) rfl (.cons (t := 6) rfl (.cons (t := 7) rfl (.cons (t := 8) rfl (.cons (t := 18) rfl .nil)))))))
  refine wpList_nil ?_
  refine wp_cond_split (hF.ev (ev rfl)) (fun h18 => ?_) (fun h18 => ?_)
  · have hz := ev_err h18
    refine wp_seq (wp_region_lit ?_)
    refine t_net 0 2 (by kernel_rfl) rfl hF ?_
    refine net_cons rfl rfl (n_build rfl .nil build_23_) ?_
    refine net_cons rfl rfl (n_move rfl (ev rfl)) ?_
    refine net_nil fun a w1 hF hx => ?_
    replace hw := hw.next hx
    replace hF := hF.keep (.cons (t := 2) rfl (.cons (t := 4) rfl (.cons (t := 5) rfl (.cons (t := 6) rfl (.cons (t := 7) rfl (.cons (t := 8) rfl (.cons (t := 18) rfl (.cons (t := 21) rfl (.cons (t := 22) rfl .nil)))))))))
    refine t_store (i := 1) rfl rfl rfl hF hw rfl (ev rfl) (ev rfl) rfl (kc_one _) Try.sizeOf23 (kc_len _) (by first | decide | (rw [kc_len]; decide)) (seg_whole (by rw [kc_len]; rfl)) fun w1 hw => ?_
    refine t_net 3 1 (by kernel_rfl) rfl hF ?_
    refine net_cons rfl rfl (n_assign rfl (ev rfl)) ?_
    refine net_nil fun a w1 hF hx => ?_
    replace hw := hw.next hx
    replace hF := hF.keep (.cons (t := 2) rfl (.cons (t := 4) rfl (.cons (t := 5) rfl (.cons (t := 6) rfl (.cons (t := 7) rfl (.cons (t := 8) rfl (.cons (t := 18) rfl .nil)))))))
    refine wpList_nil ?_
    refine wp_ret (go_block_r (go_then_r (retc2 hF Try.results52 rfl (ldN hw (i := 1) (vs := _) rfl Try.isAgg23 Try.sizeOf23 (kc_len _) (cut_whole (kc_len _)) _ (Ext.refl _)) rfl ?_)))
    exact ⟨_, rfl, hw.ext, (by rw [hz]; rfl)⟩
  · obtain ⟨hok, hmr⟩ := find_yes h18
    obtain ⟨hd0, hd6⟩ := okPN_depth hok
    obtain ⟨dn, rfl⟩ := Int.eq_ofNat_of_zero_le hd0
    simp only [Int.toNat_natCast] at hmr
    have hfr := findR_ok hok hmr
    obtain ⟨hm2, hm3⟩ := or_f hmr
    have hpw := pow_le64 (d := dn) (by omega)
    have hpw0 := Int.natCast_nonneg (2 ^ dn)
    obtain ⟨l, hle⟩ := Int.eq_ofNat_of_zero_le (show 0 ≤ ((2 ^ dn : Nat) : Int) + m by omega)
    rw [hle] at hfr
    have har := all_range (d := dn) (by omega) hok
    have hcnt := count_le (d := dn) (by omega) hok
    have hl128 : l < 128 := by omega
    rw [hfr] at hF
    refine wp_seq (reg_seq 3 (hF _ _) (by kernel_rfl) ?_)
    refine net_cons rfl rfl (n_move rfl (ev rfl)) ?_
    refine net_cons rfl rfl (n_bin rfl (ev rfl) evc (r_lss (b := 0))) ?_
    refine net_cons rfl rfl (n_assign rfl (ev rfl)) ?_
    refine net_nil fun a w1 hF hx => ?_
    replace hw := hw.next hx
    replace hF := hF.keep (.cons (t := 2) rfl (.cons (t := 4) rfl (.cons (t := 5) rfl (.cons (t := 6) rfl (.cons (t := 7) rfl (.cons (t := 8) rfl (.cons (t := 18) rfl (.cons (t := 23) rfl .nil))))))))
    refine wpList_nil ?_
    refine wp_cond_split (hF.ev (ev rfl)) (fun h23 => ?_) (fun h23 => ?_)
    · have hno := idxF_neg (of_decide_eq_true h23)
      refine wp_seq (wp_region_lit ?_)
      refine t_net 0 1 (by kernel_rfl) rfl hF ?_
      refine net_cons rfl rfl (n_build rfl .nil build_23_) ?_
      refine net_nil fun a w1 hF hx => ?_
      replace hw := hw.next hx
      replace hF := hF.keep (.cons (t := 2) rfl (.cons (t := 4) rfl (.cons (t := 5) rfl (.cons (t := 6) rfl (.cons (t := 7) rfl (.cons (t := 8) rfl (.cons (t := 18) rfl (.cons (t := 23) rfl (.cons (t := 26) rfl .nil)))))))))
      refine t_store (i := 1) rfl rfl rfl hF hw rfl (ev rfl) (ev rfl) rfl (kc_one _) Try.sizeOf23 (kc_len _) (by first | decide | (rw [kc_len]; decide)) (seg_whole (by rw [kc_len]; rfl)) fun w1 hw => ?_
      refine t_net 2 1 (by kernel_rfl) rfl hF ?_
      refine net_cons rfl rfl (n_assign rfl evc) ?_
      refine net_nil fun a w1 hF hx => ?_
      replace hw := hw.next hx
      replace hF := hF.keep (.cons (t := 2) rfl (.cons (t := 4) rfl (.cons (t := 5) rfl (.cons (t := 6) rfl (.cons (t := 7) rfl (.cons (t := 8) rfl (.cons (t := 18) rfl (.cons (t := 23) rfl .nil))))))))
      refine wpList_nil ?_
      refine wp_ret (go_block_r (go_then_r (retc2 hF Try.results52 rfl (ldN hw (i := 1) (vs := _) rfl Try.isAgg23 Try.sizeOf23 (kc_len _) (cut_whole (kc_len _)) _ (Ext.refl _)) rfl ?_)))
      exact ⟨_, rfl, hw.ext, (by rw [evR_none hok hmr hle hno]; rfl)⟩
    · obtain ⟨i, x, hix, hx0, hbx⟩ := idxF_some (of_bool_f h23)
      have hi : i < n := by rw [← hl]; exact (List.getElem?_eq_some_iff.1 hx0).1
      have hxr := har x (List.mem_of_getElem? hx0)
      obtain ⟨xn, hxn⟩ := Int.eq_ofNat_of_zero_le (show 0 ≤ x.1 by omega)
      have hbn := hbx
      rw [hxn, bel_nat] at hbn
      have hst := st_spec hl128 (by omega) hbn
      rw [← hxn] at hst
      obtain ⟨hst1, hst2⟩ := hst
      have hxe : x = ((xn : Int), 0, x.2.2) := by rw [← hxn, ← hxr.2.2]
      have hF_ := hF
      have hw_ := hw
      obtain ⟨bX, oX, rfl, hcX⟩ := hR.at_ (by rw [fm_len lc_len]; omega)
      have hF := hF_
      have hw := hw_
      refine wp_skip ?_
      refine wp_seq (wp_region_lit ?_)
      refine t_net 0 6 (by kernel_rfl) rfl hF ?_
      refine net_cons rfl rfl (n_fieldAddrO (off' := 1) rfl (ev rfl) Try.runUnderlying83 rfl Try.sizeOf29 rfl) ?_
      refine net_cons rfl rfl (n_load rfl (ev rfl) (ld1 hw (i := 0) rfl Try.isAgg29 rfl)) ?_
      refine net_cons rfl rfl (n_to (v' := I (i : Int)) (n_move rfl (ev rfl)) (congrArg (Value.int .i64) hix)) ?_
      refine net_cons rfl rfl (n_indexS (off' := oX + (i) * 18) rfl (ev rfl) (ev rfl) Try.underlying29 Try.sizeOf95 (by omega) rfl) ?_
      refine net_cons rfl rfl (n_load rfl (ev rfl) (fun w2 hx2 => ldNR hcX (fm_at lc_len hx0) (lc_len _) Try.isAgg95 Try.sizeOf95 (by omega) w2 (hw.ext.trans hx2))) ?_
      refine net_cons rfl rfl (n_alloc rfl Try.zeroValue95 rfl) ?_
      refine net_nil fun a w1 hF hx => ?_
      obtain ⟨b9, h_, hw⟩ := hw.blk hx (hF.at_ 9 _ rfl)
      replace hF := hF.now h_
      replace hF := hF.keep (.cons (t := 2) rfl (.cons (t := 4) rfl (.cons (t := 5) rfl (.cons (t := 6) rfl (.cons (t := 7) rfl (.cons (t := 8) rfl (.cons (t := 9) rfl (.cons (t := 18) rfl (.cons (t := 23) rfl (.cons (t := 31) rfl .nil))))))))))
      refine t_store (i := 2) rfl rfl rfl hF hw rfl (ev rfl) (ev rfl) rfl (one_lab _) Try.sizeOf95 (lc_len _) (by first | decide | (rw [lc_len]; decide)) (seg_whole (by rw [lc_len] <;> rfl)) fun w1 hw => ?_
      refine wpList_nil ?_
      refine wp_seq (wp_block ?_)
      refine wp_loop_ix (α := Nat × Key) (fun ⟨T, k⟩ a w1 => FrV 56 [] [(4, .is (ptr0 b4)) , (6, .is (I (l : Int))) , (9, .is (ptr0 b9))] a ∧ Own w w1 [.blk b2 83 [I (dn : Int), .slice (some ⟨bX, oX, none⟩) n c], .blk b4 23 (kc key0), .blk b9 95 (lc (((l / 2 ^ T : Nat) : Int), 0, k))] ∧ (T ≤ 6) ∧ (1 ≤ l / 2 ^ T) ∧ (walkK l T k = walkK l (stT l x.1) x.2.2)) (fun ⟨T, k⟩ => T) ((stT l x.1, x.2.2)) ⟨hF.keep (.cons (t := 4) rfl (.cons (t := 6) rfl (.cons (t := 9) rfl (.nil)))), (by rw [hst1, ← hxe]; exact hw), hst2, by omega, rfl⟩ ?_
      rintro ⟨T, k⟩ a w1 ⟨hF, hw, hT, hT1, hk⟩
      refine wp_seq ?_
      refine wp_seq (reg_seq 4 (hF _ _) (by kernel_rfl) ?_)
      refine net_cons rfl rfl (n_fieldAddrO (off' := 0) rfl (ev rfl) Try.runUnderlying95 rfl Try.sizeOf3 rfl) ?_
      refine net_cons rfl rfl (n_load rfl (ev rfl) (ld1 hw (i := 2) rfl Try.isAgg3 rfl)) ?_
      refine net_cons rfl rfl (n_move rfl (ev rfl)) ?_
      refine net_cons rfl rfl (n_bin rfl (ev rfl) (ev rfl) r_neq) ?_
      refine net_nil fun a w1 hF hx => ?_
      replace hw := hw.next hx
      replace hF := hF.keep (.cons (t := 4) rfl (.cons (t := 6) rfl (.cons (t := 9) rfl (.cons (t := 35) rfl .nil))))
      refine wpList_nil ?_
      refine wp_cond_split (hF.ev (ev rfl)) (fun h35 => ?_) (fun h35 => ?_)
      · have hTn := ne_decI h35
        obtain ⟨T, rfl⟩ : ∃ k, T = k + 1 := ⟨T - 1, by { rcases Nat.eq_zero_or_pos T with h | h; subst h; simp at hTn; omega }⟩
        have hp1 := anc_pos hT1
        have hlt := Nat.lt_of_le_of_lt (Nat.div_le_self l (2 ^ T)) hl128
        have hlt2 := Nat.lt_of_le_of_lt (Nat.div_le_self l (2 ^ (T + 1))) hl128
        have hlen := len_anc hl128 (by omega) hT1
        have hlb := lenT_le (x := l) (by omega)
        refine wp_skip ?_
        refine wp_block ?_
        refine wp_seq (reg_draw 12 mixed (by kernel_rfl) (hF _ _) ?_)
        refine net_cons rfl rfl (n_move rfl (ev rfl)) ?_
        refine net_cons rfl rfl (n_move rfl (ev rfl)) ?_
        refine net_cons rfl rfl (n_convT rfl (ev rfl) Try.underlying3 Try.underlying172 (wrap_u64_nat (by omega))) ?_
        refine net_cons rfl rfl (n_ret rfl Try.call115 (.cons (ev rfl) .nil) (fun _ hx => (Len_c l (by omega) _))) ?_
        refine net_cons rfl rfl (n_fieldAddrO (off' := 0) rfl (ev rfl) Try.runUnderlying95 rfl Try.sizeOf3 rfl) ?_
        refine net_cons rfl rfl (n_load rfl (ev rfl) (ld1 hw (i := 2) rfl Try.isAgg3 rfl)) ?_
        refine net_cons rfl rfl (n_convT rfl (ev rfl) Try.underlying3 Try.underlying172 (wrap_u64_nat (by omega))) ?_
        refine net_cons rfl rfl (n_ret rfl Try.call115 (.cons (ev rfl) .nil) (fun _ hx => (Len_c (l / 2 ^ (T + 1)) (by omega) _))) ?_
        refine net_cons rfl rfl (n_bin rfl (ev rfl) (ev rfl) (r_subI (by omega) (by omega))) ?_
        refine net_cons rfl rfl (n_to (v' := I (T : Int)) (n_bin rfl (ev rfl) evc (r_subI (by omega) (by omega))) (congrArg (Value.int .i64) (by rw [hlen]; omega))) ?_
        refine net_cons rfl rfl (n_to (v' := I ((l / 2 ^ T : Nat) : Int)) (n_bin rfl (ev rfl) (ev rfl) (r_shr (by omega) (by simp [IntKind.bits]; omega))) (congrArg (Value.int .i64) (by simp))) ?_
        refine net_cons rfl rfl (n_assign rfl (ev rfl)) ?_
        refine net_nil fun a w1 hF hx => ?_
        replace hw := hw.next hx
        replace hF := hF.keep (.cons (t := 4) rfl (.cons (t := 6) rfl (.cons (t := 9) rfl (.cons (t := 10) rfl (.cons (t := 35) rfl .nil)))))
        refine wpList_nil ?_
        refine wp_region_lit ?_
        refine t_net 0 6 (by kernel_rfl) rfl hF ?_
        refine net_cons rfl rfl (n_move rfl (ev rfl)) ?_
        refine net_cons rfl rfl (n_fieldAddrO (off' := 2) rfl (ev rfl) Try.runUnderlying95 rfl Try.sizeOf23 rfl) ?_
        refine net_cons rfl rfl (n_load rfl (ev rfl) (ldN hw (i := 2) (vs := _) rfl Try.isAgg23 Try.sizeOf23 (kc_len _) rfl)) ?_
        refine net_cons rfl rfl (n_move rfl (ev rfl)) ?_
        refine net_cons rfl rfl (n_ret rfl Try.call107 (.cons (ev rfl) (.cons (ev rfl) .nil)) (fun _ hx => (next_c k (l / 2 ^ T) (by omega) _))) ?_
        refine net_cons rfl rfl (n_build rfl (.cons (ev rfl) (.cons (ev rfl) .nil)) build_95_0_2) ?_
        refine net_nil fun a w1 hF hx => ?_
        replace hw := hw.next hx
        replace hF := hF.keep (.cons (t := 4) rfl (.cons (t := 6) rfl (.cons (t := 9) rfl (.cons (t := 10) rfl (.cons (t := 35) rfl (.cons (t := 52) rfl .nil))))))
        refine t_store (i := 2) rfl rfl rfl hF hw rfl (ev rfl) (ev rfl) rfl (one_lab _) Try.sizeOf95 (lc_len _) (by first | decide | (rw [lc_len]; decide)) (seg_whole (by rw [lc_len] <;> rfl)) fun w1 hw => ?_
        refine wpList_nil ?_
        exact ⟨(T, chK k (l / 2 ^ T)), ⟨hF.keep (.cons (t := 4) rfl (.cons (t := 6) rfl (.cons (t := 9) rfl (.nil)))), hw, by omega, hp1, hk⟩, (by show T < T + 1; omega)⟩
      · have hT0 := anc_zero (l := l) (T := T) (by have := Nat.div_le_self l (2 ^ T); omega) (eq_decI h35)
        subst hT0
        rw [walkK] at hk
        refine wp_exit (go_then_e (go_then_e (go_exit ?_)))
        refine wp_seq (wp_region_lit ?_)
        refine t_net 0 3 (by kernel_rfl) rfl hF ?_
        refine net_cons rfl rfl (n_fieldAddrO (off' := 2) rfl (ev rfl) Try.runUnderlying95 rfl Try.sizeOf23 rfl) ?_
        refine net_cons rfl rfl (n_load rfl (ev rfl) (ldN hw (i := 2) (vs := _) rfl Try.isAgg23 Try.sizeOf23 (kc_len _) rfl)) ?_
        refine net_cons rfl rfl (n_ret rfl Try.call37 (.cons (ev rfl) (.cons evc (.cons evc .nil))) (fun _ hx => (Derive_c k 33 0 (by omega) (by decide) _))) ?_
        refine net_nil fun a w1 hF hx => ?_
        replace hw := hw.next hx
        replace hF := hF.keep (.cons (t := 4) rfl (.cons (t := 6) rfl (.cons (t := 9) rfl (.cons (t := 35) rfl (.cons (t := 55) rfl .nil)))))
        refine t_store (i := 1) rfl rfl rfl hF hw rfl (ev rfl) (ev rfl) rfl (kc_one _) Try.sizeOf23 (kc_len _) (by first | decide | (rw [kc_len]; decide)) (seg_whole (by rw [kc_len]; rfl)) fun w1 hw => ?_
        refine t_net 4 1 (by kernel_rfl) rfl hF ?_
        refine net_cons rfl rfl (n_assign rfl evc) ?_
        refine net_nil fun a w1 hF hx => ?_
        replace hw := hw.next hx
        replace hF := hF.keep (.cons (t := 4) rfl (.cons (t := 5) rfl (.cons (t := 6) rfl (.cons (t := 9) rfl (.cons (t := 35) rfl .nil)))))
        refine wpList_nil ?_
        refine wp_ret (retc2 hF Try.results52 rfl (ldN hw (i := 1) (vs := _) rfl Try.isAgg23 Try.sizeOf23 (kc_len _) (cut_whole (kc_len _)) _ (Ext.refl _)) rfl ?_)
        exact ⟨_, rfl, hw.ext, (by rw [evR_some (k := dn) (by omega) hok hmr hle hx0 hbx, ← hk]; rfl)⟩
end Go.Proofs.Ythgpojlcbbgaoaa

