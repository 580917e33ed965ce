/- punctured keys: the reference (2) -/
import Derived.Test.YthgpojlcbbgaoaaPun3

set_option autoImplicit false
set_option maxRecDepth 100000
set_option linter.unusedVariables false
namespace Go.Proofs.Ythgpojlcbbgaoaa
open Go.RowKit


abbrev lab0 : Lab := (0, 0, key0)
theorem Rd.some? {w : World} {A : Option Addr} {xs : List Value} (h : Rd w A xs) : ∃ b off, (∀ j u, xs[j]? = some u → w.cell? ⟨b, off + j, none⟩ = some u) ∧ (0 < xs.length → A = some ⟨b, off, none⟩) := by
  rcases h with rfl | ⟨b, off, h1, h2⟩
  · exact ⟨0, 0, fun j u h => by simp at h, fun h => by simp at h⟩
  · exact ⟨b, off, h2, fun _ => h1⟩
theorem n_indexQ {P : Program} {wr : World} {E : Env} {o : Oper} {t e : TypeId} {x y : Operand} {A : Option Addr} {b off off' n c j sz : Nat} {k : IntKind} (hA : A = some ⟨b, off, none⟩) (ho : o.op = .indexAddr t x y) (hx : Ev E x (.slice A n c)) (hy : Ev E y (.int k (j : Int)))
    (ht : P.underlying t = some (.slice e)) (hz : ∀ w, (sizeOf e).run P w = .ok sz w) (hj : j < n) (ho' : off + j * sz = off') : nstep P wr E o (.is (.pointer (some ⟨b, off', none⟩))) := by
  subst hA
  exact n_indexS ho hx hy ht hz hj ho'
theorem Rd.dropSl {w : World} {A : Option Addr} {xs : List Value} {n c k sz : Nat} (h : Rd w A xs) (hl : xs.length = n * sz) (hc : n ≤ c) : Rd w (if c = k then A else A.map fun x => x.add (k * sz)) (xs.drop (k * sz)) := by
  by_cases hk : c = k
  · refine .inl (List.drop_of_length_le ?_)
    rw [hl, ← hk]
    exact Nat.mul_le_mul_right _ hc
  · rw [if_neg hk]
    rcases h with rfl | ⟨b, off, rfl, h2⟩
    · exact .inl (by simp)
    · refine .inr ⟨b, off + k * sz, by rw [Option.map_some, add_loc], fun j u hj => ?_⟩
      rw [List.getElem?_drop] at hj
      have := h2 _ u hj
      rwa [← Nat.add_assoc] at this
theorem insL_at {L : List Lab} {x : Lab} {i : Nat} (hi : i ≤ L.length) (h1 : ∀ j y, j < i → L[j]? = some y → y.1 < x.1) (h2 : (decide (i < L.length) && decide ((L.getD i lab0).1 < x.1)) = false) : insL L x = L.take i ++ ([x] ++ L.drop i) := by
  have ht : (L.take i).all (fun y => decide (y.1 < x.1)) = true := by
    rw [List.all_eq_true]
    intro y hy
    obtain ⟨j, hj, rfl⟩ := List.mem_iff_getElem.1 hy
    rw [List.length_take] at hj
    rw [List.getElem_take, decide_eq_true_eq]
    exact h1 j _ (by omega) (List.getElem?_eq_getElem (by omega))
  have hd : (L.drop i).takeWhile (fun y => decide (y.1 < x.1)) = [] ∧ (L.drop i).dropWhile (fun y => decide (y.1 < x.1)) = L.drop i := by
    rcases Nat.lt_or_ge i L.length with h | h
    · rw [List.drop_eq_getElem_cons h]
      rw [Bool.and_eq_false_iff] at h2
      have h3 : decide ((L.getD i lab0).1 < x.1) = false := by
        rcases h2 with h2 | h2
        · have := of_decide_eq_false h2; omega
        · exact h2
      rw [List.getD_eq_getElem?_getD, List.getElem?_eq_getElem h, Option.getD_some] at h3
      exact ⟨List.takeWhile_cons_of_neg (by simpa using h3), List.dropWhile_cons_of_neg (by simpa using h3)⟩
    · rw [List.drop_of_length_le h]
      exact ⟨rfl, rfl⟩
  unfold insL
  conv => lhs; rw [← List.take_append_drop i L]
  rw [List.takeWhile_append_of_pos (fun y hy => List.all_eq_true.1 ht y hy), List.dropWhile_append_of_pos (fun y hy => List.all_eq_true.1 ht y hy), hd.1, hd.2, List.append_nil]
  rfl
theorem insL_len (L : List Lab) (x : Lab) : (insL L x).length = L.length + 1 := by
  have := (insL_perm L x).length_eq
  simpa using this


theorem place_c (n c : Nat) (A : Option Addr) (L : List Lab) (x : Lab) (hl : L.length = n) (hcp : n ≤ c) (hn : n ≤ 1000000) (w : World) (hR : Rd w A (L.flatMap lc)) : RetF Try.prog 112 [.slice A n c, LabV x].toArray w (.ex 95 18 (n + 1) ((insL L x).flatMap lc) (fun v => v)) := by
  obtain ⟨bX, oX, hcX, hA⟩ := hR.some?
  refine enter Try.func112 rfl Try.ntmps112 rfl fun a hF => ?_
  have hw := Own.start w
  refine wp_seq (wp_region_lit ?_)
  refine t_net 0 1 (by kernel_rfl) rfl hF ?_
  refine net_cons rfl rfl (n_box rfl (ev rfl) rfl) ?_
  refine net_nil fun a w1 hF hx => ?_
  obtain ⟨b3, h_, hw⟩ := hw.blk hx (hF.at_ 3 _ rfl)
  replace hF := hF.now h_
  replace hF := hF.keep (.cons (t := 0) rfl (.cons (t := 3) rfl .nil))
  refine t_net 1 1 (by kernel_rfl) rfl hF ?_
  refine net_cons rfl rfl (n_assign rfl evc) ?_
  refine net_nil fun a w1 hF hx => ?_
  replace hw := hw.next hx
  replace hF := hF.keep (.cons (t := 0) rfl (.cons (t := 3) rfl (.cons (t := 4) rfl .nil)))
  refine wpList_nil ?_
  refine wp_seq (reg_seq 1 (hF _ _) (by kernel_rfl) ?_)
  refine net_cons rfl rfl (n_assign rfl evc) ?_
  refine net_nil fun a w1 hF hx => ?_
  replace hw := hw.next hx
  replace hF := hF.keep (.cons (t := 0) rfl (.cons (t := 3) rfl (.cons (t := 4) rfl (.cons (t := 5) rfl .nil))))
  refine wpList_nil ?_
  refine wp_seq (wp_block ?_)
  refine wp_loop_ix (α := Nat) (fun i a w1 => FrV 37 [] [(0, .is (.slice A n c)) , (3, .is (ptr0 b3)) , (5, .is (I (i : Int)))] a ∧ Own w w1 [.blk b3 95 (lc x)] ∧ (i ≤ n) ∧ (∀ j y, j < i → L[j]? = some y → y.1 < x.1)) (fun i => n - i) (0) ⟨hF.keep (.cons (t := 0) rfl (.cons (t := 3) rfl (.cons (t := 5) rfl (.nil)))), hw, Nat.zero_le _, fun j y h => by omega⟩ ?_
  rintro i a w1 ⟨hF, hw, hi0, hb⟩
  refine wp_seq ?_
  refine wp_seq (reg_draw 14 mixed (by kernel_rfl) (hF _ _) ?_)
  refine net_cons rfl rfl (n_move rfl (ev rfl)) ?_
  refine net_cons rfl rfl (n_move rfl (ev rfl)) ?_
  refine net_cons rfl rfl (n_len rfl (ev rfl) Try.underlying29) ?_
  refine net_cons rfl rfl (n_bin rfl (ev rfl) (ev rfl) r_lssN) ?_
  refine net_cons rfl rfl (n_move rfl (ev rfl)) ?_
  refine net_if rfl rfl rfl rfl (fun hc => (n_move rfl (ev rfl))) ?_
  refine net_if rfl rfl rfl rfl (fun hc => (n_move rfl (ev rfl))) ?_
  refine net_if rfl rfl rfl rfl (fun hc => (n_indexQ (j := i) (off' := oX + (i) * 18) (hA (by rw [fm_len lc_len]; have := of_decide_eq_true hc; omega)) rfl (evi rfl hc) (evi rfl hc) Try.underlying29 Try.sizeOf95 (by have := of_decide_eq_true hc; omega) rfl)) ?_
  refine net_if rfl rfl rfl rfl (fun hc => (n_fieldAddrO (off' := oX + (i) * 18 + 0) rfl (evi rfl hc) Try.runUnderlying95 rfl Try.sizeOf3 rfl)) ?_
  refine net_if rfl rfl rfl rfl (fun hc => (n_load rfl (evi rfl hc) (fun w2 hx2 => ld1R hcX (lc_at0 (getD_at (l := L) (i := i) (d := lab0) (by have := of_decide_eq_true hc; omega))) Try.isAgg3 (by omega) w2 (hw.ext.trans hx2)))) ?_
  refine net_if rfl rfl rfl rfl (fun hc => (n_fieldAddrO (off' := 0) rfl (ev rfl) Try.runUnderlying95 rfl Try.sizeOf3 rfl)) ?_
  refine net_if rfl rfl rfl rfl (fun hc => (n_load rfl (evi rfl hc) (ld1 hw (i := 0) rfl Try.isAgg3 rfl))) ?_
  refine net_if rfl rfl rfl rfl (fun hc => (n_bin rfl (evi rfl hc) (evi rfl hc) r_lss)) ?_
  refine net_cons rfl rfl (n_pick_and rfl (ev rfl) (fun h => (evi rfl h))) ?_
  refine net_nil fun a w1 hF hx => ?_
  replace hw := hw.next hx
  replace hF := hF.keep (.cons (t := 0) rfl (.cons (t := 3) rfl (.cons (t := 5) rfl (.cons (t := 20) rfl .nil))))
  refine wpList_nil ?_
  refine wp_cond_split (hF.ev (ev rfl)) (fun h20 => ?_) (fun h20 => ?_)
  · rw [Bool.and_eq_true, decide_eq_true_eq, decide_eq_true_eq] at h20
    obtain ⟨hi, hlt⟩ := h20
    replace hi : i < n := by omega
    refine wp_skip ?_
    refine wp_block ?_
    refine reg_seq 3 (hF _ _) (by kernel_rfl) ?_
    refine net_cons rfl rfl (n_move rfl (ev rfl)) ?_
    refine net_cons rfl rfl (n_bin rfl (ev rfl) evc (r_inc (by omega))) ?_
    refine net_cons rfl rfl (n_assign rfl (ev rfl)) ?_
    refine net_nil fun a w1 hF hx => ?_
    replace hw := hw.next hx
    replace hF := hF.keep (.cons (t := 0) rfl (.cons (t := 3) rfl (.cons (t := 5) rfl (.cons (t := 20) rfl .nil))))
    refine wpList_nil ?_
    exact ⟨i + 1, ⟨hF.keep (.cons (t := 0) rfl (.cons (t := 3) rfl (.cons (t := 5) rfl (.nil)))), hw, by omega, up_at hb (getD_at (d := lab0) (by omega)) hlt⟩, by omega⟩
  · have hins := insL_at (x := x) (by omega) hb (by rw [hl]; exact h20)
    have hRd := hR.dropSl (k := i) (sz := 18) (by rw [fm_len lc_len, hl]) hcp
    rw [← fm_drop lc_len] at hRd
    have hRt := hR.take (i * 18)
    rw [← fm_take lc_len] at hRt
    refine wp_exit (go_then_e (go_then_e (go_exit ?_)))
    refine wp_seq (wp_region_lit ?_)
    refine t_net 0 1 (by kernel_rfl) rfl hF ?_
    refine net_cons rfl rfl (n_bsl0 sl29 rfl) ?_
    refine net_nil fun a w1 hF hx => ?_
    obtain ⟨b23, h_, hw⟩ := hw.cap hx (hF.at_ 23 _ rfl)
    replace hF := hF.now (v := .slice (some ⟨b23, 0, none⟩) (0) (0)) h_
    replace hF := hF.keep (.cons (t := 0) rfl (.cons (t := 3) rfl (.cons (t := 5) rfl (.cons (t := 20) rfl (.cons (t := 23) rfl .nil)))))
    refine t_net 1 3 (by kernel_rfl) rfl hF ?_
    refine net_cons rfl rfl (n_move rfl (ev rfl)) ?_
    refine net_cons rfl rfl (n_move rfl (ev rfl)) ?_
    refine net_cons rfl rfl (n_slTake (k := i) rfl (ev rfl) (ev rfl) Try.underlying29 Try.sizeOf95 (by omega)) ?_
    refine net_nil fun a w1 hF hx => ?_
    replace hw := hw.next hx
    replace hF := hF.keep (.cons (t := 0) rfl (.cons (t := 3) rfl (.cons (t := 5) rfl (.cons (t := 20) rfl (.cons (t := 23) rfl (.cons (t := 26) rfl .nil))))))
    replace hw := hw.blkRow (i := 1) (sz := 18) (n := 0) (by rfl) (by rfl) (by decide)
    refine t_append (i := 1) sl29 rfl rfl rfl (by decide) hF hw rfl (ev rfl) (ev rfl) (hRt.ext hw.ext) (by rw [fm_len lc_len, List.length_take]; omega) (one_lc _) (by simp only [maxLen]; omega) (by omega) fun v27 a w1 hF hw => ?_
    replace hF := hF.keep (.cons (t := 0) rfl (.cons (t := 3) rfl (.cons (t := 5) rfl (.cons (t := 20) rfl (.cons (t := 27) rfl .nil)))))
    rw [Nat.zero_add, List.nil_append] at hw
    obtain ⟨A27, c27, rfl, _, _, _⟩ := hw.rd (i := 1) rfl
    refine t_net 5 1 (by kernel_rfl) rfl hF ?_
    refine net_cons rfl rfl (n_assign rfl (ev rfl)) ?_
    refine net_nil fun a w1 hF hx => ?_
    replace hw := hw.next hx
    replace hF := hF.keep (.cons (t := 0) rfl (.cons (t := 3) rfl (.cons (t := 5) rfl (.cons (t := 6) rfl (.cons (t := 20) rfl .nil)))))
    refine wpList_nil ?_
    refine wp_seq (wp_region_lit ?_)
    refine t_net 0 3 (by kernel_rfl) rfl hF ?_
    refine net_cons rfl rfl (n_move rfl (ev rfl)) ?_
    refine net_cons rfl rfl (n_load rfl (ev rfl) (ldN hw (i := 0) (vs := _) rfl Try.isAgg95 Try.sizeOf95 (lc_len _) (cut_whole (lc_len _)))) ?_
    refine net_cons rfl rfl (n_bsl sl29 rfl (.cons (ev rfl) .nil) (.cons rfl (lc_len _) .nil) rfl (by decide) (by decide)) ?_
    refine net_nil fun a w1 hF hx => ?_
    obtain ⟨b30, e30_, l30_, h30_⟩ := hF.at_ 30 _ rfl
    have hR30 := Rd.heap h30_
    replace hF := hF.now (v := .slice (some ⟨b30, 0, none⟩) (1) (1)) e30_
    replace hw := hw.next hx
    replace hF := hF.keep (.cons (t := 0) rfl (.cons (t := 3) rfl (.cons (t := 5) rfl (.cons (t := 6) rfl (.cons (t := 20) rfl (.cons (t := 28) rfl (.cons (t := 30) rfl .nil)))))))
    refine t_append (i := 1) sl29 rfl rfl rfl (by decide) hF hw rfl (ev rfl) (ev rfl) hR30 (lc_len _) (one_lab _) (by simp only [maxLen]; omega) (by omega) fun v31 a w1 hF hw => ?_
    replace hF := hF.keep (.cons (t := 0) rfl (.cons (t := 3) rfl (.cons (t := 5) rfl (.cons (t := 6) rfl (.cons (t := 20) rfl (.cons (t := 31) rfl .nil))))))
    obtain ⟨A31, c31, rfl, _, _, _⟩ := hw.rd (i := 1) rfl
    refine t_net 4 1 (by kernel_rfl) rfl hF ?_
    refine net_cons rfl rfl (n_assign rfl (ev rfl)) ?_
    refine net_nil fun a w1 hF hx => ?_
    replace hw := hw.next hx
    replace hF := hF.keep (.cons (t := 0) rfl (.cons (t := 3) rfl (.cons (t := 5) rfl (.cons (t := 6) rfl (.cons (t := 20) rfl .nil)))))
    refine wpList_nil ?_
    refine wp_seq (wp_region_lit ?_)
    refine t_net 0 4 (by kernel_rfl) rfl hF ?_
    refine net_cons rfl rfl (n_move rfl (ev rfl)) ?_
    refine net_cons rfl rfl (n_move rfl (ev rfl)) ?_
    refine net_cons rfl rfl (n_move rfl (ev rfl)) ?_
    refine net_cons rfl rfl (n_slDrop (k := i) rfl (ev rfl) (ev rfl) Try.underlying29 Try.sizeOf95 (by omega)) ?_
    refine net_nil fun a w1 hF hx => ?_
    replace hw := hw.next hx
    replace hF := hF.keep (.cons (t := 0) rfl (.cons (t := 3) rfl (.cons (t := 5) rfl (.cons (t := 6) rfl (.cons (t := 20) rfl (.cons (t := 32) rfl (.cons (t := 35) rfl .nil)))))))
    refine t_append (i := 1) sl29 rfl rfl rfl (by decide) hF hw rfl (ev rfl) (ev rfl) (hRd.ext hw.ext) (by rw [fm_len lc_len, List.length_drop, hl]) (one_lc _) (by simp only [maxLen]; omega) (by omega) fun v36 a w1 hF hw => ?_
    replace hF := hF.keep (.cons (t := 0) rfl (.cons (t := 3) rfl (.cons (t := 5) rfl (.cons (t := 6) rfl (.cons (t := 20) rfl (.cons (t := 36) rfl .nil))))))
    replace hw : Own w w1 [.blk b3 95 (lc x), .row v36 95 18 (n + 1) ((insL L x).flatMap lc)] := (by rw [hins]; have := hw; simpa [show i + 1 + (n - i) = n + 1 by omega] using this)
    refine t_net 5 1 (by kernel_rfl) rfl hF ?_
    refine net_cons rfl rfl (n_assign rfl (ev rfl)) ?_
    refine net_nil fun a w1 hF hx => ?_
    replace hw := hw.next hx
    replace hF := hF.keep (.cons (t := 0) rfl (.cons (t := 3) rfl (.cons (t := 4) rfl (.cons (t := 5) rfl (.cons (t := 6) rfl (.cons (t := 20) rfl .nil))))))
    refine wpList_nil ?_
    refine wp_ret (ret1 hF Try.results112 rfl ?_)
    exact ⟨_, rfl, hw.ext, v36, hw.row (i := 1) rfl, rfl⟩


theorem lc_at1 {L : List Lab} {i : Nat} {x : Lab} (h : L[i]? = some x) : (L.flatMap lc)[i * 18 + 1]? = some (I x.2.1) := by
  have h1 : ((L.flatMap lc).drop (i * 18)).take 18 = lc x := fm_at lc_len h
  have : (((L.flatMap lc).drop (i * 18)).take 18)[1]? = some (I x.2.1) := by rw [h1]; rfl
  rwa [List.getElem?_take, if_pos (by decide), List.getElem?_drop] at this
theorem node_not {d : Nat} {x : Lab} : ((!(decide (1 ≤ x.1) && decide (x.1 < ((2 ^ (d + 1) : Nat) : Int)))) || !decide (x.2.1 = 0)) = !nodeOk d x := by
  unfold nodeOk
  cases decide (x.2.1 = 0) <;> cases decide (1 ≤ x.1) <;> cases decide (x.1 < ((2 ^ (d + 1) : Nat) : Int)) <;> rfl
theorem gd_all {d i : Nat} {L : List Lab} {x : Lab} (hn : nodeOk d x = true) (hb : ∀ j y, j < i → L[j]? = some y → y.1 < x.1 ∧ bel x.1 y.1 = false) : gdL d L i x = true := by
  unfold gdL
  rw [hn, Bool.true_and, List.all_eq_true]
  intro y hy
  obtain ⟨j, hj, rfl⟩ := List.mem_iff_getElem.1 hy
  rw [List.length_take] at hj
  rw [List.getElem_take]
  obtain ⟨h1, h2⟩ := hb j _ (by omega) (List.getElem?_eq_getElem (by omega))
  rw [h2, decide_eq_true h1]
  rfl
theorem gd_not {d i j : Nat} {L : List Lab} {x y : Lab} (hj : j < i) (hy : L[j]? = some y) (h : (decide (x.1 ≤ y.1) || bel x.1 y.1) = true) : gdL d L i x = false := by
  unfold gdL
  rw [show ((L.take i).all fun y => decide (y.1 < x.1) && !bel x.1 y.1) = false from List.all_eq_false.2 ⟨y, List.mem_of_getElem? (i := j) (by rw [List.getElem?_take, if_pos hj]; exact hy), by
    rw [Bool.or_eq_true] at h
    rcases h with h | h
    · have := of_decide_eq_true h
      rw [decide_eq_false (show ¬ y.1 < x.1 by omega)]; simp
    · rw [h]; simp⟩, Bool.and_false]
theorem gd_yes2 {x y : Lab} (h : (decide (x.1 ≤ y.1) || bel x.1 y.1) = false) : y.1 < x.1 ∧ bel x.1 y.1 = false := by
  rw [Bool.or_eq_false_iff] at h
  exact ⟨by have := of_decide_eq_false h.1; omega, h.2⟩


theorem ValidPunctured_c (d : Int) (n c : Nat) (A : Option Addr) (L : List Lab) (hl : L.length = n) (hcp : n ≤ c) (hn : n ≤ 9223372036854775800) (w : World) (hR : Rd w A (L.flatMap lc)) : RetF Try.prog 62 [PuV d (.slice A n c)].toArray w (.is (.bool (okPN d L))) := by
  obtain ⟨bX, oX, hcX, hA⟩ := hR.some?
  refine enter Try.func62 rfl Try.ntmps62 rfl fun a hF => ?_
  have hw := Own.start w
  refine wp_seq (wp_region_lit ?_)
  refine t_net 0 1 (by kernel_rfl) rfl hF ?_
  refine net_cons rfl rfl (n_box rfl (ev rfl) rfl) ?_
  refine net_nil fun a w1 hF hx => ?_
  obtain ⟨b1, h_, hw⟩ := hw.blk hx (hF.at_ 1 _ rfl)
  replace hF := hF.now h_
  replace hF := hF.keep (.cons (t := 1) rfl .nil)
  refine t_net 1 1 (by kernel_rfl) rfl hF ?_
  refine net_cons rfl rfl (n_assign rfl evc) ?_
  refine net_nil fun a w1 hF hx => ?_
  replace hw := hw.next hx
  replace hF := hF.keep (.cons (t := 1) rfl (.cons (t := 2) rfl .nil))
  refine wpList_nil ?_
  refine wp_seq ?_
  refine wp_seq (reg_seq 8 (hF _ _) (by kernel_rfl) ?_)
  refine net_cons rfl rfl (n_fieldAddrO (off' := 0) rfl (ev rfl) Try.runUnderlying83 rfl Try.sizeOf3 rfl) ?_
  refine net_cons rfl rfl (n_load rfl (ev rfl) (ld1 hw (i := 0) rfl Try.isAgg3 rfl)) ?_
  refine net_cons rfl rfl (n_bin rfl (ev rfl) evc (r_lss (b := 0))) ?_
  refine net_cons rfl rfl (n_move rfl (ev rfl)) ?_
  refine net_if rfl rfl rfl rfl (fun hc => (n_fieldAddrO (off' := 0) rfl (ev rfl) Try.runUnderlying83 rfl Try.sizeOf3 rfl)) ?_
  refine net_if rfl rfl rfl rfl (fun hc => (n_load rfl (evi rfl hc) (ld1 hw (i := 0) rfl Try.isAgg3 rfl))) ?_
  refine net_if rfl rfl rfl rfl (fun hc => (n_bin rfl (evi rfl hc) evc (r_gtr (b := 6)))) ?_
  refine net_cons rfl rfl (n_pick_or rfl (ev rfl) (fun h => (evi rfl h))) ?_
  refine net_nil fun a w1 hF hx => ?_
  replace hw := hw.next hx
  replace hF := hF.keep (.cons (t := 1) rfl (.cons (t := 2) rfl (.cons (t := 13) rfl .nil)))
  refine wpList_nil ?_
  refine wp_cond_split (hF.ev (ev rfl)) (fun h13 => ?_) (fun h13 => ?_)
  · have hz := okPN_d (L := L) h13
    refine wp_seq (reg_seq 1 (hF _ _) (by kernel_rfl) ?_)
    refine net_cons rfl rfl (n_assign rfl evc) ?_
    refine net_nil fun a w1 hF hx => ?_
    replace hw := hw.next hx
    replace hF := hF.keep (.cons (t := 1) rfl (.cons (t := 2) rfl (.cons (t := 13) rfl .nil)))
    refine wpList_nil ?_
    refine wp_ret (go_then_r (ret1 hF Try.results62 rfl ?_))
    exact ⟨_, rfl, hw.ext, (by rw [hz]; rfl)⟩
  · obtain ⟨hd0, hd6⟩ := or_f h13
    obtain ⟨dn, rfl⟩ := Int.eq_ofNat_of_zero_le (show 0 ≤ d by omega)
    refine wp_skip ?_
    refine wp_seq ?_
    refine wp_seq (reg_seq 1 (hF _ _) (by kernel_rfl) ?_)
    refine net_cons rfl rfl (n_assign rfl evc) ?_
    refine net_nil fun a w1 hF hx => ?_
    replace hw := hw.next hx
    replace hF := hF.keep (.cons (t := 1) rfl (.cons (t := 2) rfl (.cons (t := 3) rfl (.cons (t := 13) rfl .nil))))
    refine wpList_nil ?_
    refine wp_block ?_
    refine wp_loop_ix (α := Nat) (fun i a w1 => FrV 64 [] [(1, .is (ptr0 b1)) , (3, .is (I (i : Int)))] a ∧ Own w w1 [.blk b1 83 [I (dn : Int), .slice A n c]] ∧ (i ≤ n) ∧ (∀ j y, j < i → L[j]? = some y → gdL dn L j y = true)) (fun i => n - i) (0) ⟨hF.keep (.cons (t := 1) rfl (.cons (t := 3) rfl (.nil))), hw, Nat.zero_le _, fun j y h => by omega⟩ ?_
    rintro i a w1 ⟨hF, hw, hi0, hb⟩
    refine wp_seq ?_
    refine wp_seq (reg_seq 5 (hF _ _) (by kernel_rfl) ?_)
    refine net_cons rfl rfl (n_move rfl (ev rfl)) ?_
    refine net_cons rfl rfl (n_fieldAddrO (off' := 1) rfl (ev rfl) Try.runUnderlying83 rfl Try.sizeOf29 rfl) ?_
    refine net_cons rfl rfl (n_load rfl (ev rfl) (ld1 hw (i := 0) rfl Try.isAgg29 rfl)) ?_
    refine net_cons rfl rfl (n_len rfl (ev rfl) Try.underlying29) ?_
    refine net_cons rfl rfl (n_bin rfl (ev rfl) (ev rfl) r_lssN) ?_
    refine net_nil fun a w1 hF hx => ?_
    replace hw := hw.next hx
    replace hF := hF.keep (.cons (t := 1) rfl (.cons (t := 3) rfl (.cons (t := 18) rfl .nil)))
    refine wpList_nil ?_
    refine wp_cond_split (hF.ev (ev rfl)) (fun h18 => ?_) (fun h18 => ?_)
    · have hi : i < n := of_bool_t h18
      obtain ⟨x, hx0⟩ := some_at hl hi
      have hF_ := hF
      have hw_ := hw
      obtain rfl := hA (by rw [fm_len lc_len]; omega)
      have hF := hF_
      have hw := hw_
      refine wp_skip ?_
      refine wp_seq (wp_block ?_)
      refine wp_seq (reg_seq 7 (hF _ _) (by kernel_rfl) ?_)
      refine net_cons rfl rfl (n_fieldAddrO (off' := 1) rfl (ev rfl) Try.runUnderlying83 rfl Try.sizeOf29 rfl) ?_
      refine net_cons rfl rfl (n_load rfl (ev rfl) (ld1 hw (i := 0) rfl Try.isAgg29 rfl)) ?_
      refine net_cons rfl rfl (n_move rfl (ev rfl)) ?_
      refine net_cons rfl rfl (n_indexS (off' := oX + (i) * 18) rfl (ev rfl) (ev rfl) Try.underlying29 Try.sizeOf95 (by omega) rfl) ?_
      refine net_cons rfl rfl (n_fieldAddrO (off' := oX + (i) * 18 + 0) rfl (ev rfl) Try.runUnderlying95 rfl Try.sizeOf3 rfl) ?_
      refine net_cons rfl rfl (n_load rfl (ev rfl) (fun w2 hx2 => ld1R hcX (lc_at0 hx0) Try.isAgg3 (by omega) w2 (hw.ext.trans hx2))) ?_
      refine net_cons rfl rfl (n_assign rfl (ev rfl)) ?_
      refine net_nil fun a w1 hF hx => ?_
      replace hw := hw.next hx
      replace hF := hF.keep (.cons (t := 1) rfl (.cons (t := 3) rfl (.cons (t := 4) rfl (.cons (t := 18) rfl .nil))))
      refine wpList_nil ?_
      refine wp_seq ?_
      refine wp_seq (reg_seq 14 (hF _ _) (by kernel_rfl) ?_)
      refine net_cons rfl rfl (n_fieldAddrO (off' := 0) rfl (ev rfl) Try.runUnderlying83 rfl Try.sizeOf3 rfl) ?_
      refine net_cons rfl rfl (n_load rfl (ev rfl) (ld1 hw (i := 0) rfl Try.isAgg3 rfl)) ?_
      refine net_cons rfl rfl (n_move rfl (ev rfl)) ?_
      refine net_cons rfl rfl (n_ret rfl Try.call116 (.cons (ev rfl) (.cons (ev rfl) .nil)) (fun _ hx => (Node_c dn x.1 (by omega) _))) ?_
      refine net_cons rfl rfl (n_not rfl (ev rfl)) ?_
      refine net_cons rfl rfl (n_move rfl (ev rfl)) ?_
      refine net_if rfl rfl rfl rfl (fun hc => (n_fieldAddrO (off' := 1) rfl (ev rfl) Try.runUnderlying83 rfl Try.sizeOf29 rfl)) ?_
      refine net_if rfl rfl rfl rfl (fun hc => (n_load rfl (evi rfl hc) (ld1 hw (i := 0) rfl Try.isAgg29 rfl))) ?_
      refine net_if rfl rfl rfl rfl (fun hc => (n_move rfl (ev rfl))) ?_
      refine net_if rfl rfl rfl rfl (fun hc => (n_indexS (off' := oX + (i) * 18) rfl (evi rfl hc) (evi rfl hc) Try.underlying29 Try.sizeOf95 (by omega) rfl)) ?_
      refine net_if rfl rfl rfl rfl (fun hc => (n_fieldAddrO (off' := oX + (i) * 18 + 1) rfl (evi rfl hc) Try.runUnderlying95 rfl Try.sizeOf3 rfl)) ?_
      refine net_if rfl rfl rfl rfl (fun hc => (n_load rfl (evi rfl hc) (fun w2 hx2 => ld1R hcX (lc_at1 hx0) Try.isAgg3 (by omega) w2 (hw.ext.trans hx2)))) ?_
      refine net_if rfl rfl rfl rfl (fun hc => (n_bin rfl (evi rfl hc) evc (r_neq (b := 0)))) ?_
      refine net_cons rfl rfl (n_pick_or rfl (ev rfl) (fun h => (evi rfl h))) ?_
      refine net_nil fun a w1 hF hx => ?_
      replace hw := hw.next hx
      replace hF := hF.keep (.cons (t := 1) rfl (.cons (t := 3) rfl (.cons (t := 4) rfl (.cons (t := 18) rfl (.cons (t := 40) rfl .nil)))))
      refine wpList_nil ?_
      refine wp_cond_split (hF.ev (ev rfl)) (fun h40 => ?_) (fun h40 => ?_)
      · rw [node_not] at h40
        have hz := okPN_no (d := dn) hx0 (by unfold gdL; rw [show nodeOk dn x = false by simpa using h40]; rfl)
        refine wp_seq (reg_seq 1 (hF _ _) (by kernel_rfl) ?_)
        refine net_cons rfl rfl (n_assign rfl evc) ?_
        refine net_nil fun a w1 hF hx => ?_
        replace hw := hw.next hx
        replace hF := hF.keep (.cons (t := 1) rfl (.cons (t := 2) rfl (.cons (t := 3) rfl (.cons (t := 4) rfl (.cons (t := 18) rfl (.cons (t := 40) rfl .nil))))))
        refine wpList_nil ?_
        refine wp_ret (go_then_r (go_block_r (go_then_r (go_then_r (go_block_r (go_then_r (ret1 hF Try.results62 rfl ?_)))))))
        exact ⟨_, rfl, hw.ext, (by rw [hz]; rfl)⟩
      · rw [node_not] at h40
        have hnk : nodeOk dn x = true := by simpa using h40
        have hxr := nk_range (d := dn) (by omega) hnk
        refine wp_skip ?_
        refine wp_seq (reg_seq 1 (hF _ _) (by kernel_rfl) ?_)
        refine net_cons rfl rfl (n_assign rfl evc) ?_
        refine net_nil fun a w1 hF hx => ?_
        replace hw := hw.next hx
        replace hF := hF.keep (.cons (t := 1) rfl (.cons (t := 3) rfl (.cons (t := 4) rfl (.cons (t := 5) rfl (.cons (t := 18) rfl (.cons (t := 40) rfl .nil))))))
        refine wpList_nil ?_
        refine wp_block ?_
        refine wp_loop_ix (α := Nat) (fun j a w1 => FrV 64 [] [(1, .is (ptr0 b1)) , (3, .is (I (i : Int))) , (4, .is (I x.1)) , (5, .is (I (j : Int)))] a ∧ Own w w1 [.blk b1 83 [I (dn : Int), .slice (some ⟨bX, oX, none⟩) n c]] ∧ (j ≤ i) ∧ (∀ m y, m < j → L[m]? = some y → y.1 < x.1 ∧ bel x.1 y.1 = false)) (fun j => i - j) (0) ⟨hF.keep (.cons (t := 1) rfl (.cons (t := 3) rfl (.cons (t := 4) rfl (.cons (t := 5) rfl (.nil))))), hw, Nat.zero_le _, fun j y h => by omega⟩ ?_
        rintro j a w1 ⟨hF, hw, hj0, hq⟩
        refine wp_seq ?_
        refine wp_seq (reg_seq 3 (hF _ _) (by kernel_rfl) ?_)
        refine net_cons rfl rfl (n_move rfl (ev rfl)) ?_
        refine net_cons rfl rfl (n_move rfl (ev rfl)) ?_
        refine net_cons rfl rfl (n_bin rfl (ev rfl) (ev rfl) r_lssN) ?_
        refine net_nil fun a w1 hF hx => ?_
        replace hw := hw.next hx
        replace hF := hF.keep (.cons (t := 1) rfl (.cons (t := 3) rfl (.cons (t := 4) rfl (.cons (t := 5) rfl (.cons (t := 43) rfl .nil)))))
        refine wpList_nil ?_
        refine wp_cond_split (hF.ev (ev rfl)) (fun h43 => ?_) (fun h43 => ?_)
        · have hj : j < i := of_bool_t h43
          obtain ⟨y, hy0⟩ := some_at hl (show j < n by omega)
          have hyr := gd_range (d := dn) (by omega) (hb j y hj hy0)
          refine wp_skip ?_
          refine wp_seq (wp_block ?_)
          refine wp_seq (reg_seq 18 (hF _ _) (by kernel_rfl) ?_)
          refine net_cons rfl rfl (n_fieldAddrO (off' := 1) rfl (ev rfl) Try.runUnderlying83 rfl Try.sizeOf29 rfl) ?_
          refine net_cons rfl rfl (n_load rfl (ev rfl) (ld1 hw (i := 0) rfl Try.isAgg29 rfl)) ?_
          refine net_cons rfl rfl (n_move rfl (ev rfl)) ?_
          refine net_cons rfl rfl (n_indexS (off' := oX + (j) * 18) rfl (ev rfl) (ev rfl) Try.underlying29 Try.sizeOf95 (by omega) rfl) ?_
          refine net_cons rfl rfl (n_fieldAddrO (off' := oX + (j) * 18 + 0) rfl (ev rfl) Try.runUnderlying95 rfl Try.sizeOf3 rfl) ?_
          refine net_cons rfl rfl (n_load rfl (ev rfl) (fun w2 hx2 => ld1R hcX (lc_at0 hy0) Try.isAgg3 (by omega) w2 (hw.ext.trans hx2))) ?_
          refine net_cons rfl rfl (n_move rfl (ev rfl)) ?_
          refine net_cons rfl rfl (n_bin rfl (ev rfl) (ev rfl) r_geq) ?_
          refine net_cons rfl rfl (n_move rfl (ev rfl)) ?_
          refine net_if rfl rfl rfl rfl (fun hc => (n_move rfl (ev rfl))) ?_
          refine net_if rfl rfl rfl rfl (fun hc => (n_fieldAddrO (off' := 1) rfl (ev rfl) Try.runUnderlying83 rfl Try.sizeOf29 rfl)) ?_
          refine net_if rfl rfl rfl rfl (fun hc => (n_load rfl (evi rfl hc) (ld1 hw (i := 0) rfl Try.isAgg29 rfl))) ?_
          refine net_if rfl rfl rfl rfl (fun hc => (n_move rfl (ev rfl))) ?_
          refine net_if rfl rfl rfl rfl (fun hc => (n_indexS (off' := oX + (j) * 18) rfl (evi rfl hc) (evi rfl hc) Try.underlying29 Try.sizeOf95 (by omega) rfl)) ?_
          refine net_if rfl rfl rfl rfl (fun hc => (n_fieldAddrO (off' := oX + (j) * 18 + 0) rfl (evi rfl hc) Try.runUnderlying95 rfl Try.sizeOf3 rfl)) ?_
          refine net_if rfl rfl rfl rfl (fun hc => (n_load rfl (evi rfl hc) (fun w2 hx2 => ld1R hcX (lc_at0 hy0) Try.isAgg3 (by omega) w2 (hw.ext.trans hx2)))) ?_
          refine net_if rfl rfl rfl rfl (fun hc => (n_ret rfl Try.call111 (.cons (evi rfl hc) (.cons (evi rfl hc) .nil)) (fun _ hx => (Below_c x.1 y.1 (by omega) (by omega) hyr.1 (by omega) _)))) ?_
          refine net_cons rfl rfl (n_pick_or rfl (ev rfl) (fun h => (evi rfl h))) ?_
          refine net_nil fun a w1 hF hx => ?_
          replace hw := hw.next hx
          replace hF := hF.keep (.cons (t := 1) rfl (.cons (t := 3) rfl (.cons (t := 4) rfl (.cons (t := 5) rfl (.cons (t := 43) rfl (.cons (t := 63) rfl .nil))))))
          refine wpList_nil ?_
          refine wp_cond_split (hF.ev (ev rfl)) (fun h63 => ?_) (fun h63 => ?_)
          · have hz := okPN_no (d := dn) hx0 (gd_not hj hy0 h63)
            refine wp_seq (reg_seq 1 (hF _ _) (by kernel_rfl) ?_)
            refine net_cons rfl rfl (n_assign rfl evc) ?_
            refine net_nil fun a w1 hF hx => ?_
            replace hw := hw.next hx
            replace hF := hF.keep (.cons (t := 1) rfl (.cons (t := 2) rfl (.cons (t := 3) rfl (.cons (t := 4) rfl (.cons (t := 5) rfl (.cons (t := 43) rfl (.cons (t := 63) rfl .nil)))))))
            refine wpList_nil ?_
            refine wp_ret (go_block_r (go_then_r (go_then_r (go_block_r (go_block_r (go_then_r (go_then_r (go_block_r (go_then_r (ret1 hF Try.results62 rfl ?_))))))))))
            exact ⟨_, rfl, hw.ext, (by rw [hz]; rfl)⟩
          · refine wp_skip ?_
            refine reg_seq 3 (hF _ _) (by kernel_rfl) ?_
            refine net_cons rfl rfl (n_move rfl (ev rfl)) ?_
            refine net_cons rfl rfl (n_bin rfl (ev rfl) evc (r_inc (by omega))) ?_
            refine net_cons rfl rfl (n_assign rfl (ev rfl)) ?_
            refine net_nil fun a w1 hF hx => ?_
            replace hw := hw.next hx
            replace hF := hF.keep (.cons (t := 1) rfl (.cons (t := 3) rfl (.cons (t := 4) rfl (.cons (t := 5) rfl (.cons (t := 43) rfl (.cons (t := 63) rfl .nil))))))
            refine wpList_nil ?_
            exact ⟨j + 1, ⟨hF.keep (.cons (t := 1) rfl (.cons (t := 3) rfl (.cons (t := 4) rfl (.cons (t := 5) rfl (.nil))))), hw, by omega, up_at hq hy0 (gd_yes2 h63)⟩, by omega⟩
        · obtain rfl : i = j := by have := of_bool_f h43; omega
          refine wp_exit (go_then_e (go_then_e (go_exit ?_)))
          refine reg_seq 3 (hF _ _) (by kernel_rfl) ?_
          refine net_cons rfl rfl (n_move rfl (ev rfl)) ?_
          refine net_cons rfl rfl (n_bin rfl (ev rfl) evc (r_inc (by omega))) ?_
          refine net_cons rfl rfl (n_assign rfl (ev rfl)) ?_
          refine net_nil fun a w1 hF hx => ?_
          replace hw := hw.next hx
          replace hF := hF.keep (.cons (t := 1) rfl (.cons (t := 3) rfl (.cons (t := 4) rfl (.cons (t := 5) rfl (.cons (t := 43) rfl .nil)))))
          refine wpList_nil ?_
          exact ⟨i + 1, ⟨hF.keep (.cons (t := 1) rfl (.cons (t := 3) rfl (.nil))), hw, by omega, up_at hb hx0 (gd_all hnk hq)⟩, by omega⟩
    · obtain rfl : n = i := by have := of_bool_f h18; omega
      have hz := okPN_yes (show dn ≤ 6 by omega) hl hb
      refine wp_exit (go_then_e (go_then_e (go_exit ?_)))
      refine wp_seq (reg_seq 1 (hF _ _) (by kernel_rfl) ?_)
      refine net_cons rfl rfl (n_assign rfl evc) ?_
      refine net_nil fun a w1 hF hx => ?_
      replace hw := hw.next hx
      replace hF := hF.keep (.cons (t := 1) rfl (.cons (t := 2) rfl (.cons (t := 3) rfl (.cons (t := 18) rfl .nil))))
      refine wpList_nil ?_
      refine wp_ret (ret1 hF Try.results62 rfl ?_)
      exact ⟨_, rfl, hw.ext, (by rw [hz]; rfl)⟩

theorem rCheckP_c (d : Int) (n c : Nat) (A : Option Addr) (L : List Lab) (hl : L.length = n) (hcp : n ≤ c) (hn : n ≤ 9223372036854775800) (w : World) (hR : Rd w A (L.flatMap lc)) : RetF Try.prog 49 [PuV d (.slice A n c)].toArray w (.is (I (if okPN d L then 0 else 8))) := by
  refine enter Try.func49 rfl Try.ntmps49 rfl fun a hF => ?_
  have hw := Own.start w
  refine wp_seq (wp_region_lit ?_)
  refine t_net 0 1 (by kernel_rfl) rfl hF ?_
  refine net_cons rfl rfl (n_box rfl (ev rfl) rfl) ?_
  refine net_nil fun a w1 hF hx => ?_
  obtain ⟨b1, h_, hw⟩ := hw.blk hx (hF.at_ 1 _ rfl)
  replace hF := hF.now h_
  replace hF := hF.keep (.cons (t := 1) rfl .nil)
  refine t_net 1 1 (by kernel_rfl) rfl hF ?_
  refine net_cons rfl rfl (n_assign rfl evc) ?_
  refine net_nil fun a w1 hF hx => ?_
  replace hw := hw.next hx
  replace hF := hF.keep (.cons (t := 1) rfl (.cons (t := 2) rfl .nil))
  refine wpList_nil ?_
  refine wp_seq ?_
  refine wp_seq (reg_seq 3 (hF _ _) (by kernel_rfl) ?_)
  refine net_cons rfl rfl (n_load rfl (ev rfl) (ldN hw (i := 0) (vs := _) rfl Try.isAgg83 Try.sizeOf83 rfl rfl)) ?_
  refine net_cons rfl rfl (n_ret rfl Try.call62 (.cons (ev rfl) .nil) (fun _ hx => ValidPunctured_c d n c A L hl hcp (by omega) _ (hR.ext (hw.ext.trans hx)))) ?_
  refine net_cons rfl rfl (n_not rfl (ev rfl)) ?_
  refine net_nil fun a w1 hF hx => ?_
  replace hw := hw.next hx
  replace hF := hF.keep (.cons (t := 2) rfl (.cons (t := 5) rfl .nil))
  refine wpList_nil ?_
  refine wp_cond_split (hF.ev (ev rfl)) (fun h5 => ?_) (fun h5 => ?_)
  · have hz : okPN d L = false := by simpa using h5
    refine wp_seq (reg_seq 1 (hF _ _) (by kernel_rfl) ?_)
    refine net_cons rfl rfl (n_assign rfl evc) ?_
    refine net_nil fun a w1 hF hx => ?_
    replace hw := hw.next hx
    replace hF := hF.keep (.cons (t := 2) rfl (.cons (t := 5) rfl .nil))
    refine wpList_nil ?_
    refine wp_ret (go_then_r (ret1 hF Try.results49 rfl ?_))
    exact ⟨_, rfl, hw.ext, (by rw [hz]; rfl)⟩
  · have hz : okPN d L = true := by simpa using h5
    refine wp_skip ?_
    refine wp_seq (reg_seq 1 (hF _ _) (by kernel_rfl) ?_)
    refine net_cons rfl rfl (n_assign rfl evc) ?_
    refine net_nil fun a w1 hF hx => ?_
    replace hw := hw.next hx
    replace hF := hF.keep (.cons (t := 2) rfl (.cons (t := 5) rfl .nil))
    refine wpList_nil ?_
    refine wp_ret (ret1 hF Try.results49 rfl ?_)
    exact ⟨_, rfl, hw.ext, (by rw [hz]; rfl)⟩

theorem asked_c (d : Int) (n c : Nat) (A : Option Addr) (L : List Lab) (hl : L.length = n) (hcp : n ≤ c) (hn : n ≤ 9223372036854775800) (m : Int) (hm0 : -9223372036854775808 ≤ m) (hm1 : m < 9223372036854775808) (w : World) (hR : Rd w A (L.flatMap lc)) : RetF Try.prog 110 [PuV d (.slice A n c), I m].toArray w (.is (I (findR d L m).2)) := by
  refine enter Try.func110 rfl Try.ntmps110 rfl fun a hF => ?_
  have hw := Own.start w
  refine wp_seq (wp_region_lit ?_)
  refine t_net 0 1 (by kernel_rfl) rfl hF ?_
  refine net_cons rfl rfl (n_box rfl (ev rfl) rfl) ?_
  refine net_nil fun a w1 hF hx => ?_
  obtain ⟨b2, h_, hw⟩ := hw.blk hx (hF.at_ 2 _ rfl)
  replace hF := hF.now h_
  replace hF := hF.keep (.cons (t := 1) rfl (.cons (t := 2) rfl .nil))
  refine t_net 1 1 (by kernel_rfl) rfl hF ?_
  refine net_cons rfl rfl (n_assign rfl evc) ?_
  refine net_nil fun a w1 hF hx => ?_
  replace hw := hw.next hx
  replace hF := hF.keep (.cons (t := 1) rfl (.cons (t := 2) rfl (.cons (t := 4) rfl .nil)))
  refine wpList_nil ?_
  refine wp_seq ?_
  refine wp_seq (reg_seq 3 (hF _ _) (by kernel_rfl) ?_)
  refine net_cons rfl rfl (n_load rfl (ev rfl) (ldN hw (i := 0) (vs := _) rfl Try.isAgg83 Try.sizeOf83 rfl rfl)) ?_
  refine net_cons rfl rfl (n_ret rfl Try.call62 (.cons (ev rfl) .nil) (fun _ hx => ValidPunctured_c d n c A L hl hcp (by omega) _ (hR.ext (hw.ext.trans hx)))) ?_
  refine net_cons rfl rfl (n_not rfl (ev rfl)) ?_
  refine net_nil fun a w1 hF hx => ?_
  replace hw := hw.next hx
  replace hF := hF.keep (.cons (t := 1) rfl (.cons (t := 2) rfl (.cons (t := 4) rfl (.cons (t := 7) rfl .nil))))
  refine wpList_nil ?_
  refine wp_cond_split (hF.ev (ev rfl)) (fun h7 => ?_) (fun h7 => ?_)
  · have hz : okPN d L = false := by simpa using h7
    refine wp_seq (reg_seq 1 (hF _ _) (by kernel_rfl) ?_)
    refine net_cons rfl rfl (n_assign rfl evc) ?_
    refine net_nil fun a w1 hF hx => ?_
    replace hw := hw.next hx
    replace hF := hF.keep (.cons (t := 1) rfl (.cons (t := 2) rfl (.cons (t := 4) rfl (.cons (t := 7) rfl .nil))))
    refine wpList_nil ?_
    refine wp_ret (go_then_r (ret1 hF Try.results110 rfl ?_))
    exact ⟨_, rfl, hw.ext, (by rw [findR_bad hz]; rfl)⟩
  · have hz : okPN d L = true := by simpa using h7
    obtain ⟨hd0, hd6⟩ := okPN_depth hz
    refine wp_skip ?_
    refine wp_seq ?_
    refine wp_seq (reg_seq 9 (hF _ _) (by kernel_rfl) ?_)
    refine net_cons rfl rfl (n_move rfl (ev rfl)) ?_
    refine net_cons rfl rfl (n_bin rfl (ev rfl) evc (r_lss (b := 0))) ?_
    refine net_cons rfl rfl (n_move rfl (ev rfl)) ?_
    refine net_if rfl rfl rfl rfl (fun hc => (n_move rfl (ev rfl))) ?_
    refine net_if rfl rfl rfl rfl (fun hc => (n_fieldAddrO (off' := 0) rfl (ev rfl) Try.runUnderlying83 rfl Try.sizeOf3 rfl)) ?_
    refine net_if rfl rfl rfl rfl (fun hc => (n_load rfl (evi rfl hc) (ld1 hw (i := 0) rfl Try.isAgg3 rfl))) ?_
    refine net_if rfl rfl rfl rfl (fun hc => (n_ret rfl Try.call66 (.cons (evi rfl hc) .nil) (fun _ hx => (Receivers_c d (by omega) (by omega) _)))) ?_
    refine net_if rfl rfl rfl rfl (fun hc => (n_bin rfl (evi rfl hc) (evi rfl hc) r_geq)) ?_
    refine net_cons rfl rfl (n_pick_or rfl (ev rfl) (fun h => (evi rfl h))) ?_
    refine net_nil fun a w1 hF hx => ?_
    replace hw := hw.next hx
    replace hF := hF.keep (.cons (t := 2) rfl (.cons (t := 4) rfl (.cons (t := 7) rfl (.cons (t := 16) rfl .nil))))
    refine wpList_nil ?_
    refine wp_cond_split (hF.ev (ev rfl)) (fun h16 => ?_) (fun h16 => ?_)
    · refine wp_seq (reg_seq 1 (hF _ _) (by kernel_rfl) ?_)
      refine net_cons rfl rfl (n_assign rfl evc) ?_
      refine net_nil fun a w1 hF hx => ?_
      replace hw := hw.next hx
      replace hF := hF.keep (.cons (t := 2) rfl (.cons (t := 4) rfl (.cons (t := 7) rfl (.cons (t := 16) rfl .nil))))
      refine wpList_nil ?_
      refine wp_ret (go_then_r (ret1 hF Try.results110 rfl ?_))
      exact ⟨_, rfl, hw.ext, (by rw [findR_arg hz h16]; rfl)⟩
    · obtain ⟨dn, rfl⟩ := Int.eq_ofNat_of_zero_le hd0
      simp only [Int.toNat_natCast] at h16
      refine wp_skip ?_
      refine wp_seq (reg_seq 1 (hF _ _) (by kernel_rfl) ?_)
      refine net_cons rfl rfl (n_assign rfl evc) ?_
      refine net_nil fun a w1 hF hx => ?_
      replace hw := hw.next hx
      replace hF := hF.keep (.cons (t := 2) rfl (.cons (t := 4) rfl (.cons (t := 7) rfl (.cons (t := 16) rfl .nil))))
      refine wpList_nil ?_
      refine wp_ret (ret1 hF Try.results110 rfl ?_)
      exact ⟨_, rfl, hw.ext, (by rw [findR_ok hz h16]; rfl)⟩

theorem rFull_c (k : Key) (d : Int) (w : World) : RetF Try.prog 46 [K k, I d].toArray w (.ex 95 18 (fullR k d).2.1.length ((fullR k d).2.1.flatMap lc) (fun v => .tuple #[PuV (fullR k d).1 v, I (fullR k d).2.2])) := by
  refine enter Try.func46 rfl Try.ntmps46 rfl fun a hF => ?_
  have hw := Own.start w
  refine wp_seq (wp_region_lit ?_)
  refine t_net 0 1 (by kernel_rfl) rfl hF ?_
  refine net_cons rfl rfl (n_box rfl (ev rfl) rfl) ?_
  refine net_nil fun a w1 hF hx => ?_
  obtain ⟨b2, h_, hw⟩ := hw.blk hx (hF.at_ 2 _ rfl)
  replace hF := hF.now h_
  replace hF := hF.keep (.cons (t := 1) rfl (.cons (t := 2) rfl .nil))
  refine t_net 1 1 (by kernel_rfl) rfl hF ?_
  refine net_cons rfl rfl (n_alloc rfl Try.zeroValue83 rfl) ?_
  refine net_nil fun a w1 hF hx => ?_
  obtain ⟨b4, h_, hw⟩ := hw.blk hx (hF.at_ 4 _ rfl)
  replace hF := hF.now h_
  replace hF := hF.keep (.cons (t := 1) rfl (.cons (t := 2) rfl (.cons (t := 4) rfl .nil)))
  refine t_net 2 1 (by kernel_rfl) rfl hF ?_
  refine net_cons rfl rfl (n_assign rfl evc) ?_
  refine net_nil fun a w1 hF hx => ?_
  replace hw := hw.next hx
  replace hF := hF.keep (.cons (t := 1) rfl (.cons (t := 2) rfl (.cons (t := 4) rfl (.cons (t := 5) rfl .nil))))
  refine wpList_nil ?_
  refine wp_seq ?_
  refine wp_seq (reg_seq 6 (hF _ _) (by kernel_rfl) ?_)
  refine net_cons rfl rfl (n_move rfl (ev rfl)) ?_
  refine net_cons rfl rfl (n_bin rfl (ev rfl) evc (r_lss (b := 0))) ?_
  refine net_cons rfl rfl (n_move rfl (ev rfl)) ?_
  refine net_if rfl rfl rfl rfl (fun hc => (n_move rfl (ev rfl))) ?_
  refine net_if rfl rfl rfl rfl (fun hc => (n_bin rfl (evi rfl hc) evc (r_gtr (b := 6)))) ?_
  refine net_cons rfl rfl (n_pick_or rfl (ev rfl) (fun h => (evi rfl h))) ?_
  refine net_nil fun a w1 hF hx => ?_
  replace hw := hw.next hx
  replace hF := hF.keep (.cons (t := 1) rfl (.cons (t := 2) rfl (.cons (t := 4) rfl (.cons (t := 5) rfl (.cons (t := 11) rfl .nil)))))
  refine wpList_nil ?_
  refine wp_cond_split (hF.ev (ev rfl)) (fun h11 => ?_) (fun h11 => ?_)
  · refine wp_seq (wp_region_lit ?_)
    refine t_net 0 1 (by kernel_rfl) rfl hF ?_
    refine net_cons rfl rfl (n_build rfl .nil build_83_) ?_
    refine net_nil fun a w1 hF hx => ?_
    replace hw := hw.next hx
    replace hF := hF.keep (.cons (t := 1) rfl (.cons (t := 2) rfl (.cons (t := 4) rfl (.cons (t := 5) rfl (.cons (t := 11) rfl (.cons (t := 12) rfl .nil))))))
    refine t_store (i := 1) rfl rfl rfl hF hw rfl (ev rfl) (ev rfl) rfl one_pu Try.sizeOf83 rfl (Nat.le_of_ble_eq_true rfl) rfl fun w1 hw => ?_
    refine t_net 2 1 (by kernel_rfl) rfl hF ?_
    refine net_cons rfl rfl (n_assign rfl evc) ?_
    refine net_nil fun a w1 hF hx => ?_
    replace hw := hw.next hx
    replace hF := hF.keep (.cons (t := 1) rfl (.cons (t := 2) rfl (.cons (t := 4) rfl (.cons (t := 5) rfl (.cons (t := 11) rfl .nil)))))
    refine wpList_nil ?_
    refine wp_ret (go_then_r (retc2 hF Try.results46 rfl (ldN hw (i := 1) (vs := _) rfl Try.isAgg83 Try.sizeOf83 rfl rfl _ (Ext.refl _)) rfl ?_))
    exact ⟨_, rfl, hw.ext, (puF_none (by rw [fullR, h11]; rfl))⟩
  · refine wp_skip ?_
    refine wp_seq (wp_region_lit ?_)
    refine t_net 0 4 (by kernel_rfl) rfl hF ?_
    refine net_cons rfl rfl (n_move rfl (ev rfl)) ?_
    refine net_cons rfl rfl (n_load rfl (ev rfl) (ldN hw (i := 0) (vs := _) rfl Try.isAgg23 Try.sizeOf23 (kc_len _) (cut_whole (kc_len _)))) ?_
    refine net_cons rfl rfl (n_build rfl (.cons evc (.cons (ev rfl) .nil)) build_95_0_2) ?_
    refine net_cons rfl rfl (n_bsl sl29 rfl (.cons (ev rfl) .nil) (.cons rfl (lc_len _) .nil) rfl (by decide) (by decide)) ?_
    refine net_nil fun a w1 hF hx => ?_
    obtain ⟨b16, h_, hw⟩ := hw.cap hx (hF.at_ 16 _ rfl)
    replace hF := hF.now (v := .slice (some ⟨b16, 0, none⟩) (1) (1)) h_
    replace hF := hF.keep (.cons (t := 1) rfl (.cons (t := 4) rfl (.cons (t := 5) rfl (.cons (t := 11) rfl (.cons (t := 13) rfl (.cons (t := 16) rfl .nil))))))
    refine t_net 4 1 (by kernel_rfl) rfl hF ?_
    refine net_cons rfl rfl (n_build rfl (.cons (ev rfl) (.cons (ev rfl) .nil)) build_83_0_1) ?_
    refine net_nil fun a w1 hF hx => ?_
    replace hw := hw.next hx
    replace hF := hF.keep (.cons (t := 1) rfl (.cons (t := 4) rfl (.cons (t := 5) rfl (.cons (t := 11) rfl (.cons (t := 17) rfl .nil)))))
    refine t_store (i := 1) rfl rfl rfl hF hw rfl (ev rfl) (ev rfl) rfl one_pu Try.sizeOf83 rfl (Nat.le_of_ble_eq_true rfl) rfl fun w1 hw => ?_
    refine t_net 6 1 (by kernel_rfl) rfl hF ?_
    refine net_cons rfl rfl (n_assign rfl evc) ?_
    refine net_nil fun a w1 hF hx => ?_
    replace hw := hw.next hx
    replace hF := hF.keep (.cons (t := 1) rfl (.cons (t := 4) rfl (.cons (t := 5) rfl (.cons (t := 11) rfl .nil))))
    refine wpList_nil ?_
    refine wp_ret (retc2 hF Try.results46 rfl (ldN hw (i := 1) (vs := _) rfl Try.isAgg83 Try.sizeOf83 rfl rfl _ (Ext.refl _)) rfl ?_)
    replace hw := hw.blkRow (i := 2) (sz := 18) (n := 1) (by rfl) (by rw [List.append_nil, lc_len]) (by decide)
    exact ⟨_, rfl, hw.ext, puF_ok (i := 2) (show fullR k d = (d, [(1, 0, k)], 0) by rw [fullR, h11]; rfl) rfl hw rfl⟩
end Go.Proofs.Ythgpojlcbbgaoaa

