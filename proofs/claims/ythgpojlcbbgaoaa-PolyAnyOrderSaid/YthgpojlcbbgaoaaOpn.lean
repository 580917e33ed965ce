/- opening: the two sides of Open -/
import Derived.Test.YthgpojlcbbgaoaaSeal
import Derived.Test.YthgpojlcbbgaoaaFld
import Derived.Scope

set_option autoImplicit false
set_option maxRecDepth 100000
set_option linter.unusedVariables false
namespace Go.Proofs.Ythgpojlcbbgaoaa
open Go.RowKit

theorem sub_c (q a0 b : Nat) (hq : 0 < q) (hq2 : q ≤ 4294967295) (ha : a0 < q) (hb : b < q) (w : World) : RetF Try.prog 77 [U q, U a0, U b].toArray w (.is (U ((a0 + q - b) % q))) := by
  refine enter Try.func77 rfl Try.ntmps77 rfl fun a hF => ?_
  have hw := Own.start w
  refine wp_seq (reg_seq 1 (hF _ _) (by kernel_rfl) ?_)
  refine net_cons rfl rfl (n_assign rfl evc) ?_
  refine net_nil fun a w1 hF hx => ?_
  replace hw := hw.next hx
  replace hF := hF.keep (.cons (t := 0) rfl (.cons (t := 1) rfl (.cons (t := 2) rfl (.cons (t := 6) rfl .nil))))
  refine wpList_nil ?_
  refine wp_seq (reg_seq 8 (hF _ _) (by kernel_rfl) ?_)
  refine net_cons rfl rfl (n_move rfl (ev rfl)) ?_
  refine net_cons rfl rfl (n_move rfl (ev rfl)) ?_
  refine net_cons rfl rfl (n_bin rfl (ev rfl) (ev rfl) (r_addN (by omega))) ?_
  refine net_cons rfl rfl (n_move rfl (ev rfl)) ?_
  refine net_cons rfl rfl (n_bin rfl (ev rfl) (ev rfl) (r_subN (by omega) (by omega))) ?_
  refine net_cons rfl rfl (n_move rfl (ev rfl)) ?_
  refine net_cons rfl rfl (n_bin rfl (ev rfl) (ev rfl) (r_remN hq)) ?_
  refine net_cons rfl rfl (n_assign rfl (ev rfl)) ?_
  refine net_nil fun a w1 hF hx => ?_
  replace hw := hw.next hx
  replace hF := hF.keep (.cons (t := 6) rfl .nil)
  refine wpList_nil ?_
  refine wp_ret (ret1 hF Try.results77 rfl ?_)
  exact ⟨_, rfl, hw.ext, rfl⟩

theorem minus_c (q a0 b : Nat) (hq : 0 < q) (hq2 : q ≤ 4294967295) (ha : a0 < q) (hb : b < 18446744073709551616) (w : World) : RetF Try.prog 126 [U q, U a0, U b].toArray w (.is (U ((a0 + q - b % q) % q))) := by
  have hbq := Nat.mod_lt b hq
  refine enter Try.func126 rfl Try.ntmps126 rfl fun a hF => ?_
  have hw := Own.start w
  refine wp_seq (reg_seq 1 (hF _ _) (by kernel_rfl) ?_)
  refine net_cons rfl rfl (n_assign rfl evc) ?_
  refine net_nil fun a w1 hF hx => ?_
  replace hw := hw.next hx
  replace hF := hF.keep (.cons (t := 0) rfl (.cons (t := 1) rfl (.cons (t := 2) rfl (.cons (t := 6) rfl .nil))))
  refine wpList_nil ?_
  refine wp_seq (reg_seq 10 (hF _ _) (by kernel_rfl) ?_)
  refine net_cons rfl rfl (n_move rfl (ev rfl)) ?_
  refine net_cons rfl rfl (n_move rfl (ev rfl)) ?_
  refine net_cons rfl rfl (n_bin rfl (ev rfl) (ev rfl) (r_addN (by omega))) ?_
  refine net_cons rfl rfl (n_move rfl (ev rfl)) ?_
  refine net_cons rfl rfl (n_move rfl (ev rfl)) ?_
  refine net_cons rfl rfl (n_bin rfl (ev rfl) (ev rfl) (r_remN hq)) ?_
  refine net_cons rfl rfl (n_bin rfl (ev rfl) (ev rfl) (r_subN (by omega) (by omega))) ?_
  refine net_cons rfl rfl (n_move rfl (ev rfl)) ?_
  refine net_cons rfl rfl (n_bin rfl (ev rfl) (ev rfl) (r_remN hq)) ?_
  refine net_cons rfl rfl (n_assign rfl (ev rfl)) ?_
  refine net_nil fun a w1 hF hx => ?_
  replace hw := hw.next hx
  replace hF := hF.keep (.cons (t := 6) rfl .nil)
  refine wpList_nil ?_
  refine wp_ret (ret1 hF Try.results126 rfl ?_)
  exact ⟨_, rfl, hw.ext, rfl⟩


theorem one_lc (l : List (Int × Int × Key)) : ∀ u ∈ l.flatMap lc, u.oneCell' = true := by
  intro u hu
  obtain ⟨z, _, h⟩ := List.mem_flatMap.1 hu
  simp only [lc, List.mem_append, List.mem_cons, List.not_mem_nil, or_false] at h
  rcases h with (rfl | rfl) | h
  · rfl
  · rfl
  · exact kc_one _ u h


theorem TwinSecret_c (r : Int) (x y n c : Nat) (A : Option Addr) (l : List (Int × Int × Key)) (hl : l.length = n) (hn : n ≤ 4398046511000) (w : World) (hR : Rd w A (l.flatMap lc)) : RetF Try.prog 25 [SecV r (.slice A n c) x y].toArray w (.ex 95 18 n (l.flatMap lc) (fun v => SecV r v x y)) := by
  refine enter Try.func25 rfl Try.ntmps25 rfl fun a hF => ?_
  have hw := Own.start w
  refine wp_seq (wp_region_lit ?_)
  refine t_net 0 1 (by kernel_rfl) rfl hF ?_
  refine net_cons rfl rfl (n_box rfl (ev rfl) rfl) ?_
  refine net_nil fun a w1 hF hx => ?_
  obtain ⟨b1, h_, hw⟩ := hw.blk hx (hF.at_ 1 _ rfl)
  replace hF := hF.now h_
  replace hF := hF.keep (.cons (t := 1) rfl .nil)
  refine t_net 1 1 (by kernel_rfl) rfl hF ?_
  refine net_cons rfl rfl (n_alloc rfl Try.zeroValue33 rfl) ?_
  refine net_nil fun a w1 hF hx => ?_
  obtain ⟨b2, h_, hw⟩ := hw.blk hx (hF.at_ 2 _ rfl)
  replace hF := hF.now h_
  replace hF := hF.keep (.cons (t := 1) rfl (.cons (t := 2) rfl .nil))
  refine wpList_nil ?_
  refine wp_seq (wp_region_lit ?_)
  refine t_net 0 2 (by kernel_rfl) rfl hF ?_
  refine net_cons rfl rfl (n_fieldAddrO (off' := 1) rfl (ev rfl) Try.runUnderlying33 rfl Try.sizeOf29 rfl) ?_
  refine net_cons rfl rfl (n_load rfl (ev rfl) (ld1 hw (i := 0) rfl Try.isAgg29 rfl)) ?_
  refine net_nil fun a w1 hF hx => ?_
  replace hw := hw.next hx
  replace hF := hF.keep (.cons (t := 1) rfl (.cons (t := 2) rfl (.cons (t := 4) rfl .nil)))
  replace hw := hw.addNil 95 18
  refine t_append (i := 2) sl29 rfl rfl rfl (by decide) hF hw rfl evc (ev rfl) (hR.ext hw.ext) (by rw [fm_len lc_len, hl]) (one_lc l) (by simp only [maxLen]; omega) (by omega) fun v5 a w1 hF hw => ?_
  replace hF := hF.keep (.cons (t := 1) rfl (.cons (t := 2) rfl (.cons (t := 5) rfl .nil)))
  rw [Nat.zero_add, List.nil_append] at hw
  obtain ⟨A5, c5, rfl, _, _, _⟩ := hw.rd (i := 2) rfl
  refine t_net 3 1 (by kernel_rfl) rfl hF ?_
  refine net_cons rfl rfl (n_fieldAddrO (off' := 1) rfl (ev rfl) Try.runUnderlying33 rfl Try.sizeOf29 rfl) ?_
  refine net_nil fun a w1 hF hx => ?_
  replace hw := hw.next hx
  replace hF := hF.keep (.cons (t := 1) rfl (.cons (t := 2) rfl (.cons (t := 5) rfl (.cons (t := 6) rfl .nil))))
  refine t_store (i := 0) rfl rfl rfl hF hw rfl (ev rfl) (ev rfl) rfl one1 Try.sizeOf29 rfl (Nat.le_of_ble_eq_true rfl) rfl fun w1 hw => ?_
  refine wpList_nil ?_
  refine wp_seq (wp_region_lit ?_)
  refine t_net 0 1 (by kernel_rfl) rfl hF ?_
  refine net_cons rfl rfl (n_load rfl (ev rfl) (ldN hw (i := 0) (vs := _) rfl Try.isAgg33 Try.sizeOf33 rfl rfl)) ?_
  refine net_nil fun a w1 hF hx => ?_
  replace hw := hw.next hx
  replace hF := hF.keep (.cons (t := 1) rfl (.cons (t := 2) rfl (.cons (t := 5) rfl (.cons (t := 6) rfl (.cons (t := 7) rfl .nil)))))
  refine t_store (i := 1) rfl rfl rfl hF hw rfl (ev rfl) (ev rfl) rfl one4 Try.sizeOf33 rfl (Nat.le_of_ble_eq_true rfl) rfl fun w1 hw => ?_
  refine wpList_nil ?_
  refine wp_ret (retc hF Try.results25 rfl (ldN hw (i := 1) (vs := _) rfl Try.isAgg33 Try.sizeOf33 rfl rfl _ (Ext.refl _)) ?_)
  exact ⟨_, rfl, hw.ext, _, hw.row (i := 2) rfl, rfl⟩


theorem info131 : Try.prog.info? 131 = some Try.t131 := by kernel_rfl
theorem sl42 : SlT Try.prog 42 131 18 32 := ⟨Try.underlying42, ⟨_, _, info131, rfl, rfl, rfl, rfl⟩, by decide⟩
theorem one_pc (l : List (Nat × Nat)) : ∀ u ∈ pc l, u.oneCell' = true := by
  intro u hu
  obtain ⟨z, _, h⟩ := List.mem_flatMap.1 hu
  simp only [List.mem_cons, List.not_mem_nil, or_false] at h
  rcases h with rfl | rfl <;> rfl



theorem go_scope_r {Q : Exit → Act → World → Prop} {a : Act} {w : World} (h : Q .ret a w) : Exit.noGoto Q .ret a w := h
/-! ### search -/
def idxF {α : Type} (pf : α → Bool) (l : List α) : Int := match l.findIdx? pf with
  | some i => (i : Int)
  | none => -1
theorem idxF_hit {α : Type} {pf : α → Bool} {l : List α} {i : Nat} {x : α} (h : ∀ j y, j < i → l[j]? = some y → pf y = false) (hx : l[i]? = some x) (hp : pf x = true) : idxF pf l = (i : Int) := by
  obtain ⟨h1, h2⟩ := List.getElem?_eq_some_iff.1 hx
  have : l.findIdx? pf = some i := by
    rw [List.findIdx?_eq_some_iff_getElem]
    refine ⟨h1, by rw [h2]; exact hp, fun j hj => ?_⟩
    rw [h j _ hj (List.getElem?_eq_getElem (by omega))]
    simp
  unfold idxF
  rw [this]
theorem idxF_none {α : Type} {pf : α → Bool} {l : List α} {n : Nat} (hl : l.length = n) (h : ∀ j y, j < n → l[j]? = some y → pf y = false) : idxF pf l = -1 := by
  have : l.findIdx? pf = none := by
    rw [List.findIdx?_eq_none_iff]
    intro x hx
    obtain ⟨j, hj, rfl⟩ := List.mem_iff_getElem.1 hx
    exact h j _ (by omega) (List.getElem?_eq_getElem hj)
  unfold idxF
  rw [this]
theorem idxF_ge {α : Type} (pf : α → Bool) (l : List α) : decide (0 ≤ idxF pf l) = l.any pf := by
  unfold idxF
  cases h : l.findIdx? pf with
  | some i =>
    obtain ⟨h1, h2, _⟩ := List.findIdx?_eq_some_iff_getElem.1 h
    rw [List.any_eq_true.2 ⟨l[i], List.getElem_mem h1, h2⟩]
    simp
  | none =>
    have := List.findIdx?_eq_none_iff.1 h
    rw [show l.any pf = false from List.any_eq_false.2 (fun x hx => by rw [this x hx]; simp)]
    rfl
theorem up_ff {α : Type} {pf : α → Bool} {l : List α} {i : Nat} {x : α} (h : ∀ j y, j < i → l[j]? = some y → pf y = false) (hx : l[i]? = some x) (hp : pf x = false) : ∀ j y, j < i + 1 → l[j]? = some y → pf y = false := by
  intro j y hj hy
  by_cases e : j = i
  · subst e
    rw [hx] at hy
    injection hy with hy
    rw [← hy]
    exact hp
  · exact h j y (by omega) hy
theorem fm_take {α : Type} {f : α → List Value} {sz : Nat} (hf : ∀ x, (f x).length = sz) (l : List α) (k : Nat) : (l.take k).flatMap f = (l.flatMap f).take (k * sz) := by
  induction l generalizing k with
  | nil => simp
  | cons a l ih =>
    cases k with
    | zero => simp
    | succ k => rw [List.take_succ_cons, List.flatMap_cons, List.flatMap_cons, ih, List.take_append, hf, List.take_of_length_le (l := f a) (by rw [hf, Nat.add_mul]; omega), show (k + 1) * sz - sz = k * sz by rw [Nat.add_mul]; omega]


theorem IndexFuncP_c (g : Nat) (cap : List Value) (pf : Nat × Nat → Bool) (n c : Nat) (A : Option Addr) (l : List (Nat × Nat)) (hl : l.length = n) (hn : n ≤ 9223372036854775800) (eg : ∀ (args : Array Value) (w : World), (callFunc g args).run Try.prog w = .ok (.enter g args) w) (w : World) (hR : Rd w A (pc l)) (hcl : ∀ w2, Ext w w2 → ∀ x ∈ l, RetF Try.prog g ([PtV x] ++ cap).toArray w2 (.is (.bool (pf x)))) : RetF Try.prog 134 [.slice A n c, .func (.func g) #[] cap.toArray].toArray w (.is (I (idxF pf l))) := by
  refine enter Try.func134 rfl Try.ntmps134 rfl fun a hF => ?_
  have hw := Own.start w
  refine wp_seq (reg_seq 1 (hF _ _) (by kernel_rfl) ?_)
  refine net_cons rfl rfl (n_assign rfl evc) ?_
  refine net_nil fun a w1 hF hx => ?_
  replace hw := hw.next hx
  replace hF := hF.keep (.cons (t := 0) rfl (.cons (t := 1) rfl (.cons (t := 4) rfl .nil)))
  refine wpList_nil ?_
  refine wp_seq ?_
  refine wp_seq (reg_seq 3 (hF _ _) (by kernel_rfl) ?_)
  refine net_cons rfl rfl (n_move rfl (ev rfl)) ?_
  refine net_cons rfl rfl (n_len rfl (ev rfl) Try.underlying43) ?_
  refine net_cons rfl rfl (n_move rfl evc) ?_
  refine net_nil fun a w1 hF hx => ?_
  replace hw := hw.next hx
  replace hF := hF.keep (.cons (t := 0) rfl (.cons (t := 1) rfl (.cons (t := 4) rfl (.cons (t := 7) rfl (.cons (t := 8) rfl .nil)))))
  refine wpList_nil ?_
  refine wp_block ?_
  refine wp_loop_ix (α := Nat) (fun i a w1 => FrV 19 [] [(0, .is (.slice A n c)) , (1, .is (.func (.func g) #[] cap.toArray)) , (7, .is (I (n : Int))) , (8, .is (I (i : Int)))] a ∧ Own w w1 [] ∧ (i ≤ n) ∧ (∀ j y, j < i → l[j]? = some y → pf y = false)) (fun i => n - i) (0) ⟨hF.keep (.cons (t := 0) rfl (.cons (t := 1) rfl (.cons (t := 7) rfl (.cons (t := 8) rfl (.nil))))), hw, by omega, fun j y h => by omega⟩ ?_
  rintro i a w1 ⟨hF, hw, hi0, hbad⟩
  refine wp_seq (reg_seq 1 (hF _ _) (by kernel_rfl) ?_)
  refine net_cons rfl rfl (n_bin rfl (ev rfl) (ev rfl) r_lssN) ?_
  refine net_nil fun a w1 hF hx => ?_
  replace hw := hw.next hx
  replace hF := hF.keep (.cons (t := 0) rfl (.cons (t := 1) rfl (.cons (t := 7) rfl (.cons (t := 8) rfl (.cons (t := 9) rfl .nil)))))
  refine wpList_nil ?_
  refine wp_seq ?_
  refine wp_cond_split (hF.ev (ev rfl)) (fun h9 => ?_) (fun h9 => ?_)
  · have hi : i < n := of_bool_t h9
    obtain ⟨x, hx0⟩ := some_at hl hi
    have hF_ := hF
    have hw_ := hw
    obtain ⟨bX, oX, rfl, hcX⟩ := hR.at_ (by rw [pc_len]; omega)
    have hF := hF_
    have hw := hw_
    refine wp_skip ?_
    refine wp_seq (wp_block ?_)
    refine wp_seq (reg_seq 2 (hF _ _) (by kernel_rfl) ?_)
    refine net_cons rfl rfl (n_move rfl (ev rfl)) ?_
    refine net_cons rfl rfl (n_assign rfl (ev rfl)) ?_
    refine net_nil fun a w1 hF hx => ?_
    replace hw := hw.next hx
    replace hF := hF.keep (.cons (t := 0) rfl (.cons (t := 1) rfl (.cons (t := 5) rfl (.cons (t := 7) rfl (.cons (t := 8) rfl (.cons (t := 9) rfl .nil))))))
    refine wpList_nil ?_
    refine wp_seq (reg_seq 6 (hF _ _) (by kernel_rfl) ?_)
    refine net_cons rfl rfl (n_move rfl (ev rfl)) ?_
    refine net_cons rfl rfl (n_move rfl (ev rfl)) ?_
    refine net_cons rfl rfl (n_move rfl (ev rfl)) ?_
    refine net_cons rfl rfl (n_indexS (off' := oX + (i) * 2) rfl (ev rfl) (ev rfl) Try.underlying43 Try.sizeOf31 (by omega) rfl) ?_
    refine net_cons rfl rfl (n_load rfl (ev rfl) (fun w2 hx2 => ldNR hcX (fm_at (f := fun p : Nat × Nat => [U p.1, U p.2]) (sz := 2) (fun _ => rfl) hx0) rfl Try.isAgg31 Try.sizeOf31 (by omega) w2 (hw.ext.trans hx2))) ?_
    refine net_cons rfl rfl (n_retv rfl (ev rfl) eg (.cons (ev rfl) .nil) (fun w2 hx => hcl w2 (hw.ext.trans hx) x (List.mem_of_getElem? hx0))) ?_
    refine net_nil fun a w1 hF hx => ?_
    replace hw := hw.next hx
    replace hF := hF.keep (.cons (t := 0) rfl (.cons (t := 1) rfl (.cons (t := 5) rfl (.cons (t := 7) rfl (.cons (t := 8) rfl (.cons (t := 9) rfl (.cons (t := 16) rfl .nil)))))))
    refine wpList_nil ?_
    refine wp_cond_split (hF.ev (ev rfl)) (fun h16 => ?_) (fun h16 => ?_)
    · have hz := idxF_hit hbad hx0 h16
      refine wp_seq (reg_seq 2 (hF _ _) (by kernel_rfl) ?_)
      refine net_cons rfl rfl (n_move rfl (ev rfl)) ?_
      refine net_cons rfl rfl (n_assign rfl (ev rfl)) ?_
      refine net_nil fun a w1 hF hx => ?_
      replace hw := hw.next hx
      replace hF := hF.keep (.cons (t := 0) rfl (.cons (t := 1) rfl (.cons (t := 4) rfl (.cons (t := 5) rfl (.cons (t := 7) rfl (.cons (t := 8) rfl (.cons (t := 9) rfl (.cons (t := 16) rfl .nil))))))))
      refine wpList_nil ?_
      refine wp_ret (go_block_r (go_then_r (go_then_r (go_block_r (go_then_r (ret1 hF Try.results134 rfl ?_))))))
      exact ⟨_, rfl, hw.ext, (by rw [hz]; rfl)⟩
    · refine wp_skip ?_
      refine reg_seq 2 (hF _ _) (by kernel_rfl) ?_
      refine net_cons rfl rfl (n_bin rfl (ev rfl) evc (r_inc (by omega))) ?_
      refine net_cons rfl rfl (n_move rfl (ev rfl)) ?_
      refine net_nil fun a w1 hF hx => ?_
      replace hw := hw.next hx
      replace hF := hF.keep (.cons (t := 0) rfl (.cons (t := 1) rfl (.cons (t := 5) rfl (.cons (t := 7) rfl (.cons (t := 8) rfl (.cons (t := 9) rfl (.cons (t := 16) rfl .nil)))))))
      refine wpList_nil ?_
      exact ⟨i + 1, ⟨hF.keep (.cons (t := 0) rfl (.cons (t := 1) rfl (.cons (t := 7) rfl (.cons (t := 8) rfl (.nil))))), hw, by omega, up_ff hbad hx0 h16⟩, by omega⟩
  · obtain rfl : i = n := by have := of_bool_f h9; omega
    have hz := idxF_none hl hbad
    refine wp_exit (go_then_e (go_then_e (go_exit ?_)))
    refine wp_seq (reg_seq 1 (hF _ _) (by kernel_rfl) ?_)
    refine net_cons rfl rfl (n_assign rfl evc) ?_
    refine net_nil fun a w1 hF hx => ?_
    replace hw := hw.next hx
    replace hF := hF.keep (.cons (t := 0) rfl (.cons (t := 1) rfl (.cons (t := 4) rfl (.cons (t := 7) rfl (.cons (t := 8) rfl (.cons (t := 9) rfl .nil))))))
    refine wpList_nil ?_
    refine wp_ret (ret1 hF Try.results134 rfl ?_)
    exact ⟨_, rfl, hw.ext, (by rw [hz]; rfl)⟩

theorem ContainsFuncP_c (g : Nat) (cap : List Value) (pf : Nat × Nat → Bool) (n c : Nat) (A : Option Addr) (l : List (Nat × Nat)) (hl : l.length = n) (hn : n ≤ 9223372036854775800) (eg : ∀ (args : Array Value) (w : World), (callFunc g args).run Try.prog w = .ok (.enter g args) w) (w : World) (hR : Rd w A (pc l)) (hcl : ∀ w2, Ext w w2 → ∀ x ∈ l, RetF Try.prog g ([PtV x] ++ cap).toArray w2 (.is (.bool (pf x)))) : RetF Try.prog 88 [.slice A n c, .func (.func g) #[] cap.toArray].toArray w (.is (.bool (l.any pf))) := by
  refine enter Try.func88 rfl Try.ntmps88 rfl fun a hF => ?_
  have hw := Own.start w
  refine wp_seq (reg_seq 1 (hF _ _) (by kernel_rfl) ?_)
  refine net_cons rfl rfl (n_assign rfl evc) ?_
  refine net_nil fun a w1 hF hx => ?_
  replace hw := hw.next hx
  replace hF := hF.keep (.cons (t := 0) rfl (.cons (t := 1) rfl (.cons (t := 4) rfl .nil)))
  refine wpList_nil ?_
  refine wp_seq (reg_seq 5 (hF _ _) (by kernel_rfl) ?_)
  refine net_cons rfl rfl (n_move rfl (ev rfl)) ?_
  refine net_cons rfl rfl (n_move rfl (ev rfl)) ?_
  refine net_cons rfl rfl (n_ret rfl Try.call134 (.cons (ev rfl) (.cons (ev rfl) .nil)) (fun _ hx => (IndexFuncP_c g cap pf n c A l hl hn eg _ (hR.ext (hw.ext.trans hx)) (fun w2 hx2 => hcl w2 ((hw.ext.trans hx).trans hx2))))) ?_
  refine net_cons rfl rfl (n_to (n_bin rfl (ev rfl) evc (r_geq (b := 0))) (congrArg Value.bool (idxF_ge pf l))) ?_
  refine net_cons rfl rfl (n_assign rfl (ev rfl)) ?_
  refine net_nil fun a w1 hF hx => ?_
  replace hw := hw.next hx
  replace hF := hF.keep (.cons (t := 4) rfl .nil)
  refine wpList_nil ?_
  refine wp_ret (ret1 hF Try.results88 rfl ?_)
  exact ⟨_, rfl, hw.ext, rfl⟩

theorem distinct1_c (y x : Nat × Nat) (b : Nat) (w : World) (hb : w.heap[b]? = some (.cells [U x.1, U x.2].toArray 31 (0, 0))) : RetF Try.prog 122 [PtV y, ptr0 b].toArray w (.is (.bool (decide (y.1 = x.1)))) := by
  refine enter Try.func122 rfl Try.ntmps122 rfl fun a hF => ?_
  have hw := Own.start w
  refine wp_seq (wp_region_lit ?_)
  refine t_net 0 1 (by kernel_rfl) rfl hF ?_
  refine net_cons rfl rfl (n_box rfl (ev rfl) rfl) ?_
  refine net_nil fun a w1 hF hx => ?_
  obtain ⟨b2, h_, hw⟩ := hw.blk hx (hF.at_ 2 _ rfl)
  replace hF := hF.now h_
  replace hF := hF.keep (.cons (t := 1) rfl (.cons (t := 2) rfl .nil))
  refine t_net 1 1 (by kernel_rfl) rfl hF ?_
  refine net_cons rfl rfl (n_assign rfl evc) ?_
  refine net_nil fun a w1 hF hx => ?_
  replace hw := hw.next hx
  replace hF := hF.keep (.cons (t := 1) rfl (.cons (t := 2) rfl (.cons (t := 3) rfl .nil)))
  refine wpList_nil ?_
  refine wp_seq (reg_seq 6 (hF _ _) (by kernel_rfl) ?_)
  refine net_cons rfl rfl (n_fieldAddrO (off' := 0) rfl (ev rfl) Try.runUnderlying31 rfl Try.sizeOf24 rfl) ?_
  refine net_cons rfl rfl (n_load rfl (ev rfl) (ld1 hw (i := 0) rfl Try.isAgg24 rfl)) ?_
  refine net_cons rfl rfl (n_fieldAddrO (off' := 0) rfl (ev rfl) Try.runUnderlying31 rfl Try.sizeOf24 rfl) ?_
  refine net_cons rfl rfl (n_load rfl (ev rfl) (fun w2 hx2 => ldH1 hb Try.isAgg24 rfl w2 (hw.ext.trans hx2))) ?_
  refine net_cons rfl rfl (n_bin rfl (ev rfl) (ev rfl) r_eqlN) ?_
  refine net_cons rfl rfl (n_assign rfl (ev rfl)) ?_
  refine net_nil fun a w1 hF hx => ?_
  replace hw := hw.next hx
  replace hF := hF.keep (.cons (t := 3) rfl .nil)
  refine wpList_nil ?_
  refine wp_ret (ret1 hF Try.results122 rfl ?_)
  exact ⟨_, rfl, hw.ext, rfl⟩


/-- Whether no two points have the same X. -/
def hitX (l : List (Nat × Nat)) (x : Nat) : Bool := l.any fun y => decide (y.1 = x)
def distL (l : List (Nat × Nat)) : Bool := (List.range l.length).all fun i => !hitX (l.take i) (ptX l i)
theorem distL_yes {l : List (Nat × Nat)} {n : Nat} (hl : l.length = n) (h : ∀ j y, j < n → l[j]? = some y → hitX (l.take j) y.1 = false) : distL l = true := by
  simp only [distL, List.all_eq_true, List.mem_range]
  intro i hi
  have h1 := h i l[i] (by omega) (List.getElem?_eq_getElem hi)
  rw [show ptX l i = l[i].1 by simp only [ptX, List.getD_eq_getElem?_getD, List.getElem?_eq_getElem hi, Option.getD_some], h1]
  rfl
theorem distL_no {l : List (Nat × Nat)} {i : Nat} {x : Nat × Nat} (hx : l[i]? = some x) (h : hitX (l.take i) x.1 = true) : distL l = false := by
  cases hz : distL l with
  | false => rfl
  | true =>
    simp only [distL, List.all_eq_true, List.mem_range] at hz
    obtain ⟨hi, he⟩ := List.getElem?_eq_some_iff.1 hx
    have := hz i hi
    rw [show ptX l i = x.1 by simp only [ptX, List.getD_eq_getElem?_getD, hx, Option.getD_some], h] at this
    cases this
theorem up_at {α : Type} {p : Nat → α → Prop} {l : List α} {i : Nat} {x : α} (h : ∀ j y, j < i → l[j]? = some y → p j y) (hx : l[i]? = some x) (hp : p i x) : ∀ j y, j < i + 1 → l[j]? = some y → p j y := by
  intro j y hj hy
  by_cases e : j = i
  · subst e
    rw [hx] at hy
    injection hy with hy
    rw [← hy]
    exact hp
  · exact h j y (by omega) hy


theorem distinct_c (n c : Nat) (A : Option Addr) (l : List (Nat × Nat)) (hl : l.length = n) (hc : n ≤ c) (hn : n ≤ 9223372036854775800) (w : World) (hR : Rd w A (pc l)) : RetF Try.prog 75 [.slice A n c].toArray w (.is (.bool (distL l))) := by
  refine enter Try.func75 rfl Try.ntmps75 rfl fun a hF => ?_
  have hw := Own.start w
  refine wp_seq (reg_seq 1 (hF _ _) (by kernel_rfl) ?_)
  refine net_cons rfl rfl (n_assign rfl evc) ?_
  refine net_nil fun a w1 hF hx => ?_
  replace hw := hw.next hx
  replace hF := hF.keep (.cons (t := 0) rfl (.cons (t := 2) rfl .nil))
  refine wpList_nil ?_
  refine wp_seq ?_
  refine wp_seq (reg_seq 3 (hF _ _) (by kernel_rfl) ?_)
  refine net_cons rfl rfl (n_move rfl (ev rfl)) ?_
  refine net_cons rfl rfl (n_len rfl (ev rfl) Try.underlying43) ?_
  refine net_cons rfl rfl (n_move rfl evc) ?_
  refine net_nil fun a w1 hF hx => ?_
  replace hw := hw.next hx
  replace hF := hF.keep (.cons (t := 0) rfl (.cons (t := 2) rfl (.cons (t := 5) rfl (.cons (t := 6) rfl (.cons (t := 7) rfl .nil)))))
  refine wpList_nil ?_
  refine wp_block ?_
  refine wp_loop_ix (α := Nat) (fun i a w1 => FrV 18 [] [(0, .is (.slice A n c)) , (5, .is (.slice A n c)) , (6, .is (I (n : Int))) , (7, .is (I (i : Int)))] a ∧ Own w w1 [] ∧ (i ≤ n) ∧ (∀ j y, j < i → l[j]? = some y → hitX (l.take j) y.1 = false)) (fun i => n - i) (0) ⟨hF.keep (.cons (t := 0) rfl (.cons (t := 5) rfl (.cons (t := 6) rfl (.cons (t := 7) rfl (.nil))))), hw, by omega, fun j y h => by omega⟩ ?_
  rintro i a w1 ⟨hF, hw, hi0, hbad⟩
  refine wp_seq (reg_seq 1 (hF _ _) (by kernel_rfl) ?_)
  refine net_cons rfl rfl (n_bin rfl (ev rfl) (ev rfl) r_lssN) ?_
  refine net_nil fun a w1 hF hx => ?_
  replace hw := hw.next hx
  replace hF := hF.keep (.cons (t := 0) rfl (.cons (t := 5) rfl (.cons (t := 6) rfl (.cons (t := 7) rfl (.cons (t := 8) rfl .nil)))))
  refine wpList_nil ?_
  refine wp_seq ?_
  refine wp_cond_split (hF.ev (ev rfl)) (fun h8 => ?_) (fun h8 => ?_)
  · have hi : i < n := of_bool_t h8
    obtain ⟨x, hx0⟩ := some_at hl hi
    have hF_ := hF
    have hw_ := hw
    obtain ⟨bX, oX, rfl, hcX⟩ := hR.at_ (by rw [pc_len]; omega)
    have hF := hF_
    have hw := hw_
    refine wp_skip ?_
    refine wp_seq (wp_block ?_)
    refine wp_seq (wp_region_lit ?_)
    refine t_net 0 4 (by kernel_rfl) rfl hF ?_
    refine net_cons rfl rfl (n_move rfl (ev rfl)) ?_
    refine net_cons rfl rfl (n_indexS (off' := oX + (i) * 2) rfl (ev rfl) (ev rfl) Try.underlying43 Try.sizeOf31 (by omega) rfl) ?_
    refine net_cons rfl rfl (n_load rfl (ev rfl) (fun w2 hx2 => ldNR hcX (fm_at (f := fun p : Nat × Nat => [U p.1, U p.2]) (sz := 2) (fun _ => rfl) hx0) rfl Try.isAgg31 Try.sizeOf31 (by omega) w2 (hw.ext.trans hx2))) ?_
    refine net_cons rfl rfl (n_alloc rfl Try.zeroValue31 rfl) ?_
    refine net_nil fun a w1 hF hx => ?_
    obtain ⟨b4, h_, hw⟩ := hw.blk hx (hF.at_ 4 _ rfl)
    replace hF := hF.now h_
    replace hF := hF.keep (.cons (t := 0) rfl (.cons (t := 4) rfl (.cons (t := 5) rfl (.cons (t := 6) rfl (.cons (t := 7) rfl (.cons (t := 8) rfl (.cons (t := 9) rfl (.cons (t := 11) rfl .nil))))))))
    refine t_net 4 1 (by kernel_rfl) rfl hF ?_
    refine net_cons rfl rfl (n_assign rfl (ev rfl)) ?_
    refine net_nil fun a w1 hF hx => ?_
    replace hw := hw.next hx
    replace hF := hF.keep (.cons (t := 0) rfl (.cons (t := 3) rfl (.cons (t := 4) rfl (.cons (t := 5) rfl (.cons (t := 6) rfl (.cons (t := 7) rfl (.cons (t := 8) rfl (.cons (t := 11) rfl .nil))))))))
    refine t_store (i := 0) rfl rfl rfl hF hw rfl (ev rfl) (ev rfl) rfl (by intro u hu; simp only [List.mem_cons, List.append_nil, List.not_mem_nil, or_false] at hu; rcases hu with rfl | rfl <;> rfl) Try.sizeOf31 rfl (Nat.le_of_ble_eq_true rfl) rfl fun w1 hw => ?_
    refine wpList_nil ?_
    refine wp_seq (reg_seq 5 (hF _ _) (by kernel_rfl) ?_)
    refine net_cons rfl rfl (n_move rfl (ev rfl)) ?_
    refine net_cons rfl rfl (n_move rfl (ev rfl)) ?_
    refine net_cons rfl rfl (n_slTake rfl (ev rfl) (ev rfl) Try.underlying43 Try.sizeOf31 (by omega)) ?_
    refine net_cons rfl rfl (n_makeFunc rfl (vs := #[ptr0 b4]) (.cons (ev rfl) .nil)) ?_
    refine net_cons rfl rfl (n_ret rfl Try.call88 (.cons (ev rfl) (.cons (ev rfl) .nil)) (fun _ hx => (ContainsFuncP_c 122 [ptr0 b4] (fun y => decide (y.1 = x.1)) i c _ (l.take i) (by rw [List.length_take]; omega) (by omega) Try.call122 _ (by rw [show pc (l.take i) = _ from fm_take (f := fun p : Nat × Nat => [U p.1, U p.2]) (sz := 2) (fun _ => rfl) l i]; exact (hR.ext (hw.ext.trans hx)).take _) (fun w2 hx2 y hy => distinct1_c y x b4 w2 (hw.heap (i := 0) rfl (hx.trans hx2)))))) ?_
    refine net_nil fun a w1 hF hx => ?_
    replace hw := hw.next hx
    replace hF := hF.keep (.cons (t := 0) rfl (.cons (t := 3) rfl (.cons (t := 4) rfl (.cons (t := 5) rfl (.cons (t := 6) rfl (.cons (t := 7) rfl (.cons (t := 8) rfl (.cons (t := 11) rfl (.cons (t := 16) rfl .nil)))))))))
    refine wpList_nil ?_
    refine wp_cond_split (hF.ev (ev rfl)) (fun h16 => ?_) (fun h16 => ?_)
    · have hz := distL_no hx0 h16
      refine wp_seq (reg_seq 1 (hF _ _) (by kernel_rfl) ?_)
      refine net_cons rfl rfl (n_assign rfl evc) ?_
      refine net_nil fun a w1 hF hx => ?_
      replace hw := hw.next hx
      replace hF := hF.keep (.cons (t := 0) rfl (.cons (t := 2) rfl (.cons (t := 3) rfl (.cons (t := 4) rfl (.cons (t := 5) rfl (.cons (t := 6) rfl (.cons (t := 7) rfl (.cons (t := 8) rfl (.cons (t := 11) rfl (.cons (t := 16) rfl .nil))))))))))
      refine wpList_nil ?_
      refine wp_ret (go_block_r (go_then_r (go_then_r (go_block_r (go_then_r (ret1 hF Try.results75 rfl ?_))))))
      exact ⟨_, rfl, hw.ext, (by rw [hz]; rfl)⟩
    · refine wp_skip ?_
      refine reg_seq 2 (hF _ _) (by kernel_rfl) ?_
      refine net_cons rfl rfl (n_bin rfl (ev rfl) evc (r_inc (by omega))) ?_
      refine net_cons rfl rfl (n_move rfl (ev rfl)) ?_
      refine net_nil fun a w1 hF hx => ?_
      replace hw := hw.next hx
      replace hF := hF.keep (.cons (t := 0) rfl (.cons (t := 3) rfl (.cons (t := 4) rfl (.cons (t := 5) rfl (.cons (t := 6) rfl (.cons (t := 7) rfl (.cons (t := 8) rfl (.cons (t := 11) rfl (.cons (t := 16) rfl .nil)))))))))
      refine wpList_nil ?_
      exact ⟨i + 1, ⟨hF.keep (.cons (t := 0) rfl (.cons (t := 5) rfl (.cons (t := 6) rfl (.cons (t := 7) rfl (.nil))))), (hw.drop (List.nil_sublist _)), by omega, up_at hbad hx0 h16⟩, by omega⟩
  · obtain rfl : i = n := by have := of_bool_f h8; omega
    have hz := distL_yes hl hbad
    refine wp_exit (go_then_e (go_then_e (go_exit ?_)))
    refine wp_seq (reg_seq 1 (hF _ _) (by kernel_rfl) ?_)
    refine net_cons rfl rfl (n_assign rfl evc) ?_
    refine net_nil fun a w1 hF hx => ?_
    replace hw := hw.next hx
    replace hF := hF.keep (.cons (t := 0) rfl (.cons (t := 2) rfl (.cons (t := 5) rfl (.cons (t := 6) rfl (.cons (t := 7) rfl (.cons (t := 8) rfl .nil))))))
    refine wpList_nil ?_
    refine wp_ret (ret1 hF Try.results75 rfl ?_)
    exact ⟨_, rfl, hw.ext, (by rw [hz]; rfl)⟩

theorem CloneP_c (n c : Nat) (A : Option Addr) (l : List (Nat × Nat)) (hl : l.length = n) (hn : n ≤ 8796093021952) (w : World) (hR : Rd w A (pc l)) : RetF Try.prog 121 [.slice A n c].toArray w (.ex 31 2 n (pc l) (fun v => v)) := by
  refine enter Try.func121 rfl Try.ntmps121 rfl fun a hF => ?_
  have hw := Own.start w
  refine wp_seq (reg_seq 1 (hF _ _) (by kernel_rfl) ?_)
  refine net_cons rfl rfl (n_assign rfl evc) ?_
  refine net_nil fun a w1 hF hx => ?_
  replace hw := hw.next hx
  replace hF := hF.keep (.cons (t := 0) rfl (.cons (t := 2) rfl .nil))
  refine wpList_nil ?_
  refine wp_seq ?_
  refine wp_seq (reg_seq 2 (hF _ _) (by kernel_rfl) ?_)
  refine net_cons rfl rfl (n_move rfl (ev rfl)) ?_
  refine net_cons rfl rfl (n_bin rfl (ev rfl) evc (r_eqlNil Try.underlying43)) ?_
  refine net_nil fun a w1 hF hx => ?_
  replace hw := hw.next hx
  replace hF := hF.keep (.cons (t := 0) rfl (.cons (t := 2) rfl (.cons (t := 4) rfl .nil)))
  refine wpList_nil ?_
  refine wp_cond_split (hF.ev (ev rfl)) (fun h4 => ?_) (fun h4 => ?_)
  · obtain rfl : A = none := by simpa using h4
    obtain rfl : l = [] := by { rcases hR with h | ⟨b, off, h, _⟩; exact List.eq_nil_of_length_eq_zero (by have := congrArg List.length h; rw [pc_len, List.length_nil] at this; omega); cases h }
    obtain rfl : n = 0 := hl.symm
    refine wp_seq (reg_seq 1 (hF _ _) (by kernel_rfl) ?_)
    refine net_cons rfl rfl (n_assign rfl evc) ?_
    refine net_nil fun a w1 hF hx => ?_
    replace hw := hw.next hx
    replace hF := hF.keep (.cons (t := 0) rfl (.cons (t := 2) rfl (.cons (t := 4) rfl .nil)))
    refine wpList_nil ?_
    refine wp_ret (go_then_r (ret1 hF Try.results121 rfl ?_))
    exact ⟨_, rfl, hw.ext, (⟨_, World.ownsRow_nil _ _ _ _, rfl⟩ : (Fact.ex 31 2 0 (pc []) (fun v => v)).ok _ _ _)⟩
  · refine wp_skip ?_
    refine wp_seq (wp_region_lit ?_)
    refine t_net 0 1 (by kernel_rfl) rfl hF ?_
    refine net_cons rfl rfl (n_bsl0 sl43 rfl) ?_
    refine net_nil fun a w1 hF hx => ?_
    obtain ⟨b5, h_, hw⟩ := hw.cap hx (hF.at_ 5 _ rfl)
    replace hF := hF.now (v := .slice (some ⟨b5, 0, none⟩) (0) (0)) h_
    replace hF := hF.keep (.cons (t := 0) rfl (.cons (t := 2) rfl (.cons (t := 4) rfl (.cons (t := 5) rfl .nil))))
    refine t_net 1 1 (by kernel_rfl) rfl hF ?_
    refine net_cons rfl rfl (n_move rfl (ev rfl)) ?_
    refine net_nil fun a w1 hF hx => ?_
    replace hw := hw.next hx
    replace hF := hF.keep (.cons (t := 0) rfl (.cons (t := 2) rfl (.cons (t := 4) rfl (.cons (t := 5) rfl (.cons (t := 6) rfl .nil)))))
    replace hw := hw.blkRow (i := 0) (sz := 2) (n := 0) (by rfl) (by rfl) (by decide)
    refine t_append (i := 0) sl43 rfl rfl rfl (by decide) hF hw rfl (ev rfl) (ev rfl) (hR.ext hw.ext) (by rw [pc_len, hl]) (one_pc l) (by simp only [maxLen]; omega) (by omega) fun v7 a w1 hF hw => ?_
    replace hF := hF.keep (.cons (t := 0) rfl (.cons (t := 2) rfl (.cons (t := 4) rfl (.cons (t := 7) rfl .nil))))
    rw [Nat.zero_add, List.nil_append] at hw
    obtain ⟨A7, c7, rfl, _, _, _⟩ := hw.rd (i := 0) rfl
    refine t_net 3 1 (by kernel_rfl) rfl hF ?_
    refine net_cons rfl rfl (n_assign rfl (ev rfl)) ?_
    refine net_nil fun a w1 hF hx => ?_
    replace hw := hw.next hx
    replace hF := hF.keep (.cons (t := 0) rfl (.cons (t := 2) rfl (.cons (t := 4) rfl .nil)))
    refine wpList_nil ?_
    refine wp_ret (ret1 hF Try.results121 rfl ?_)
    exact ⟨_, rfl, hw.ext, _, hw.row (i := 0) rfl, rfl⟩

theorem TwinHeader_c (ni ci base n c : Nat) (Ai A : Option Addr) (its : List (Int × Int × Key)) (pts : List (Nat × Nat)) (box chk : Key) (hil : its.length = ni) (hl : pts.length = n) (hin : ni ≤ 4398046511000) (hn : n ≤ 8796093021952) (w : World) (hRi : Rd w Ai (its.flatMap lc)) (hR : Rd w A (pc pts)) : RetF Try.prog 26 [HV (.slice Ai ni ci) base (.slice A n c) box chk].toArray w (.ex2 131 18 ni (its.flatMap lc) 31 2 n (pc pts) (fun v v2 => HV v base v2 box chk)) := by
  refine enter Try.func26 rfl Try.ntmps26 rfl fun a hF => ?_
  have hw := Own.start w
  refine wp_seq (wp_region_lit ?_)
  refine t_net 0 1 (by kernel_rfl) rfl hF ?_
  refine net_cons rfl rfl (n_box rfl (ev rfl) rfl) ?_
  refine net_nil fun a w1 hF hx => ?_
  obtain ⟨b1, h_, hw⟩ := hw.blk hx (hF.at_ 1 _ rfl)
  replace hF := hF.now h_
  replace hF := hF.keep (.cons (t := 1) rfl .nil)
  refine t_net 1 1 (by kernel_rfl) rfl hF ?_
  refine net_cons rfl rfl (n_alloc rfl Try.zeroValue45 rfl) ?_
  refine net_nil fun a w1 hF hx => ?_
  obtain ⟨b2, h_, hw⟩ := hw.blk hx (hF.at_ 2 _ rfl)
  replace hF := hF.now h_
  replace hF := hF.keep (.cons (t := 1) rfl (.cons (t := 2) rfl .nil))
  refine wpList_nil ?_
  refine wp_seq (wp_region_lit ?_)
  refine t_net 0 2 (by kernel_rfl) rfl hF ?_
  refine net_cons rfl rfl (n_fieldAddrO (off' := 0) rfl (ev rfl) Try.runUnderlying45 rfl Try.sizeOf42 rfl) ?_
  refine net_cons rfl rfl (n_load rfl (ev rfl) (ld1 hw (i := 0) rfl Try.isAgg42 rfl)) ?_
  refine net_nil fun a w1 hF hx => ?_
  replace hw := hw.next hx
  replace hF := hF.keep (.cons (t := 1) rfl (.cons (t := 2) rfl (.cons (t := 4) rfl .nil)))
  replace hw := hw.addNil 131 18
  refine t_append (i := 2) sl42 rfl rfl rfl (by decide) hF hw rfl evc (ev rfl) (hRi.ext hw.ext) (by rw [fm_len lc_len, hil]) (one_lc its) (by simp only [maxLen]; omega) (by omega) fun v5 a w1 hF hw => ?_
  replace hF := hF.keep (.cons (t := 1) rfl (.cons (t := 2) rfl (.cons (t := 5) rfl .nil)))
  rw [Nat.zero_add, List.nil_append] at hw
  obtain ⟨A5, c5, rfl, _, _, _⟩ := hw.rd (i := 2) rfl
  refine t_net 3 1 (by kernel_rfl) rfl hF ?_
  refine net_cons rfl rfl (n_fieldAddrO (off' := 0) rfl (ev rfl) Try.runUnderlying45 rfl Try.sizeOf42 rfl) ?_
  refine net_nil fun a w1 hF hx => ?_
  replace hw := hw.next hx
  replace hF := hF.keep (.cons (t := 1) rfl (.cons (t := 2) rfl (.cons (t := 5) rfl (.cons (t := 6) rfl .nil))))
  refine t_store (i := 0) rfl rfl rfl hF hw rfl (ev rfl) (ev rfl) rfl one1 Try.sizeOf42 rfl (by rw [hcs_len]; decide) (show _ = hcs (.slice A5 ni c5) base (.slice A n c) box chk from rfl) fun w1 hw => ?_
  refine wpList_nil ?_
  refine wp_seq (wp_region_lit ?_)
  refine t_net 0 2 (by kernel_rfl) rfl hF ?_
  refine net_cons rfl rfl (n_fieldAddrO (off' := 2) rfl (ev rfl) Try.runUnderlying45 rfl Try.sizeOf43 rfl) ?_
  refine net_cons rfl rfl (n_load rfl (ev rfl) (ld1 hw (i := 0) rfl Try.isAgg43 rfl)) ?_
  refine net_nil fun a w1 hF hx => ?_
  replace hw := hw.next hx
  replace hF := hF.keep (.cons (t := 1) rfl (.cons (t := 2) rfl (.cons (t := 5) rfl (.cons (t := 6) rfl (.cons (t := 8) rfl .nil)))))
  replace hw := hw.addNil 31 2
  refine t_append (i := 3) sl43 rfl rfl rfl (by decide) hF hw rfl evc (ev rfl) (hR.ext hw.ext) (by rw [pc_len, hl]) (one_pc pts) (by simp only [maxLen]; omega) (by omega) fun v9 a w1 hF hw => ?_
  replace hF := hF.keep (.cons (t := 1) rfl (.cons (t := 2) rfl (.cons (t := 5) rfl (.cons (t := 6) rfl (.cons (t := 9) rfl .nil)))))
  rw [Nat.zero_add, List.nil_append] at hw
  obtain ⟨A9, c9, rfl, _, _, _⟩ := hw.rd (i := 3) rfl
  refine t_net 3 1 (by kernel_rfl) rfl hF ?_
  refine net_cons rfl rfl (n_fieldAddrO (off' := 2) rfl (ev rfl) Try.runUnderlying45 rfl Try.sizeOf43 rfl) ?_
  refine net_nil fun a w1 hF hx => ?_
  replace hw := hw.next hx
  replace hF := hF.keep (.cons (t := 1) rfl (.cons (t := 2) rfl (.cons (t := 5) rfl (.cons (t := 6) rfl (.cons (t := 9) rfl (.cons (t := 10) rfl .nil))))))
  refine t_store (i := 0) rfl rfl rfl hF hw rfl (ev rfl) (ev rfl) rfl one1 Try.sizeOf43 rfl (by rw [hcs_len]; decide) (hcs_pts _ _ _ _ _ _) fun w1 hw => ?_
  refine wpList_nil ?_
  refine wp_seq (wp_region_lit ?_)
  refine t_net 0 1 (by kernel_rfl) rfl hF ?_
  refine net_cons rfl rfl (n_load rfl (ev rfl) (ldN hw (i := 0) (vs := _) rfl Try.isAgg45 Try.sizeOf45 (hcs_len _ _ _ _ _) (cut_whole (hcs_len _ _ _ _ _)))) ?_
  refine net_nil fun a w1 hF hx => ?_
  replace hw := hw.next hx
  replace hF := hF.keep (.cons (t := 1) rfl (.cons (t := 2) rfl (.cons (t := 5) rfl (.cons (t := 6) rfl (.cons (t := 9) rfl (.cons (t := 10) rfl (.cons (t := 11) rfl .nil)))))))
  refine t_store (i := 1) rfl rfl rfl hF hw rfl (ev rfl) (ev rfl) rfl one_hcs Try.sizeOf45 (hcs_len _ _ _ _ _) (by first | decide | (rw [hcs_len]; decide)) (seg_whole (by rw [hcs_len] <;> rfl)) fun w1 hw => ?_
  refine wpList_nil ?_
  refine wp_ret (retc hF Try.results26 rfl (ldN hw (i := 1) (vs := _) rfl Try.isAgg45 Try.sizeOf45 (hcs_len _ _ _ _ _) (cut_whole (hcs_len _ _ _ _ _)) _ (Ext.refl _)) ?_)
  exact ⟨_, rfl, hw.ext, _, _, hw.row (i := 2) rfl, hw.row (i := 3) rfl, rfl⟩


theorem invN_lt {b q : Nat} (hq : 0 < q) : invN b q < q := by
  unfold invN
  cases hf : (List.range q).find? fun y => decide (b * y % q = 1) with
  | none => exact hq
  | some z => exact List.mem_range.1 (List.mem_of_find?_eq_some hf)
theorem mulF2e (q a b v : Nat) (h : a * b % q = v) : mulF q [a, b] = v := by rw [mulF2]; exact h


theorem div_c (q a0 b : Nat) (hq : 2 ≤ q) (hq2 : q < 4294967296) (ha : a0 ≤ 4294967295) (hb : b < 18446744073709551616) (hg : Nat.gcd b q = 1) (w : World) : RetF Try.prog 78 [U q, U a0, U b].toArray w (.is (U (divN q a0 b))) := by
  have hi := invN_lt (b := b) (q := q) (by omega)
  refine enter Try.func78 rfl Try.ntmps78 rfl fun a hF => ?_
  have hw := Own.start w
  refine wp_seq (reg_seq 1 (hF _ _) (by kernel_rfl) ?_)
  refine net_cons rfl rfl (n_assign rfl evc) ?_
  refine net_nil fun a w1 hF hx => ?_
  replace hw := hw.next hx
  replace hF := hF.keep (.cons (t := 0) rfl (.cons (t := 1) rfl (.cons (t := 2) rfl (.cons (t := 6) rfl .nil))))
  refine wpList_nil ?_
  refine wp_seq (reg_seq 8 (hF _ _) (by kernel_rfl) ?_)
  refine net_cons rfl rfl (n_move rfl (ev rfl)) ?_
  refine net_cons rfl rfl (n_move rfl (ev rfl)) ?_
  refine net_cons rfl rfl (n_ret rfl Try.call123 (.cons (ev rfl) (.cons (ev rfl) .nil)) (fun _ hx => InvMod_c _ _ (by omega) (by omega) (by omega) (by assumption) _)) ?_
  refine net_cons rfl rfl (n_move rfl (ev rfl)) ?_
  refine net_cons rfl rfl (n_extract rfl (ev rfl) rfl) ?_
  refine net_cons rfl rfl (n_extract rfl (ev rfl) rfl) ?_
  refine net_cons rfl rfl (n_assign rfl (ev rfl)) ?_
  refine net_cons rfl rfl (n_assign rfl (ev rfl)) ?_
  refine net_nil fun a w1 hF hx => ?_
  replace hw := hw.next hx
  replace hF := hF.keep (.cons (t := 0) rfl (.cons (t := 1) rfl (.cons (t := 6) rfl (.cons (t := 7) rfl .nil))))
  refine wpList_nil ?_
  refine wp_seq (reg_seq 6 (hF _ _) (by kernel_rfl) ?_)
  refine net_cons rfl rfl (n_move rfl (ev rfl)) ?_
  refine net_cons rfl rfl (n_move rfl (ev rfl)) ?_
  refine net_cons rfl rfl (n_move rfl (ev rfl)) ?_
  refine net_cons rfl rfl (n_bsl sl63 rfl (.cons (ev rfl) (.cons (ev rfl) .nil)) (.cons rfl rfl (.cons rfl rfl .nil)) rfl (by decide) (by decide)) ?_
  refine net_cons rfl rfl (n_retC (k := 1) rfl Try.call76 rfl rfl (.cons (ev rfl) .nil) .nil (fun _ b_ hx hR_ => (mul_c q 2 2 _ [a0, invN b q] (by omega) (by omega) (by intro z hz; simp only [List.mem_cons, List.not_mem_nil, or_false] at hz; omega) rfl (by decide) _ hR_))) ?_
  refine net_cons rfl rfl (n_assign rfl (ev rfl)) ?_
  refine net_nil fun a w1 hF hx => ?_
  replace hw := hw.next hx
  replace hF := hF.keep (.cons (t := 0) rfl (.cons (t := 6) rfl .nil))
  refine wpList_nil ?_
  refine wp_ret (ret1 hF Try.results78 rfl ?_)
  exact ⟨_, rfl, hw.ext, (by show U _ = U _; rw [mulF2]; rfl)⟩


theorem distL_iff (l : List (Nat × Nat)) : distL l = decide ((l.map (·.1)).Nodup) := by
  rw [Bool.eq_iff_iff, decide_eq_true_eq]
  simp only [distL, hitX, List.all_eq_true, List.mem_range, Bool.not_eq_true', List.any_eq_false, decide_eq_true_eq]
  unfold List.Nodup
  rw [List.pairwise_iff_getElem]
  constructor
  · intro h i j hi hj hij e
    simp only [List.length_map] at hi hj
    refine h j hj l[i] (List.mem_iff_getElem.2 ⟨i, by rw [List.length_take]; omega, by rw [List.getElem_take]⟩) ?_
    simp only [List.getElem_map] at e
    simp only [ptX, List.getD_eq_getElem?_getD, List.getElem?_eq_getElem hj, Option.getD_some]
    exact e
  · intro h i hi y hy e
    obtain ⟨k, hk, rfl⟩ := List.mem_iff_getElem.1 hy
    rw [List.length_take] at hk
    refine h k i (by rw [List.length_map]; omega) (by rw [List.length_map]; exact hi) (by omega) ?_
    simp only [List.getElem_take, ptX, List.getD_eq_getElem?_getD, List.getElem?_eq_getElem hi, Option.getD_some] at e
    simp only [List.getElem_map]
    exact e
theorem distL_cons (x : Nat × Nat) (l : List (Nat × Nat)) : distL (x :: l) = (!hitX l x.1 && distL l) := by
  rw [Bool.eq_iff_iff, distL_iff, distL_iff]
  simp only [decide_eq_true_eq, List.map_cons, List.nodup_cons, Bool.and_eq_true, Bool.not_eq_true', hitX, List.any_eq_false, List.mem_map, not_exists, not_and]
/-! ### headers -/
def ptOk (p q : Nat) (x : Nat × Nat) : Bool := ((decide (1 ≤ x.1) && decide (x.1 < q)) && decide (1 ≤ x.2)) && decide (x.2 < p)
def okD (p : Nat) (dg : Int) (nit base n : Nat) (pts : List (Nat × Nat)) : Bool := (((decide ((nit : Int) = 0) && decide (1 ≤ base)) && decide (base < p)) && decide ((n : Int) = dg)) && distL pts
def okF (p q : Nat) (dg : Int) (nit base n : Nat) (pts all : List (Nat × Nat)) (i : Nat) : Bool := okD p dg nit base n pts && (all.take i).all (ptOk p q)
theorem okF_zero {p q : Nat} {dg : Int} {nit base n : Nat} {pts all : List (Nat × Nat)} : okF p q dg nit base n pts all 0 = okD p dg nit base n pts := by simp [okF]
theorem okF_step {p q : Nat} {dg : Int} {nit base n i : Nat} {pts all : List (Nat × Nat)} {x : Nat × Nat} (h : (!okF p q dg nit base n pts all i) = false) (hx : all[i]? = some x) : ptOk p q x = okF p q dg nit base n pts all (i + 1) := by
  have h : okF p q dg nit base n pts all i = true := by simpa using h
  unfold okF at h ⊢
  rw [Bool.and_eq_true] at h
  rw [List.take_add_one, hx, List.all_append, h.1, h.2]
  simp
theorem okF_full {p q : Nat} {dg : Int} {nit base n i : Nat} {pts all : List (Nat × Nat)} (h : all.length ≤ i) : okF p q dg nit base n pts all i = (okD p dg nit base n pts && all.all (ptOk p q)) := by
  unfold okF
  rw [List.take_of_length_le h]
theorem okF_stop {p q : Nat} {dg : Int} {nit base n i : Nat} {pts all : List (Nat × Nat)} (h : (!okF p q dg nit base n pts all i) = true) : okF p q dg nit base n pts all i = (okD p dg nit base n pts && all.all (ptOk p q)) := by
  have h : okF p q dg nit base n pts all i = false := by simpa using h
  rw [h]
  symm
  unfold okF at h
  rw [Bool.and_eq_false_iff] at h ⊢
  rcases h with h | h
  · exact .inl h
  · refine .inr ?_
    rw [List.all_eq_false] at h ⊢
    obtain ⟨x, hx, hp⟩ := h
    exact ⟨x, List.mem_of_mem_take hx, hp⟩
/-- Whether a header and a share are of a scheme. -/
def okH (p q : Nat) (dg : Int) (nit base n : Nat) (pts : List (Nat × Nat)) (sx sy : Nat) : Bool := (okD p dg nit base n pts && (pts ++ [(sx, 1)]).all (ptOk p q)) && decide (sy < q)
theorem pc_x {l : List (Nat × Nat)} {i : Nat} {x : Nat × Nat} (h : l[i]? = some x) : (pc l)[i * 2]? = some (U x.1) := by
  have h1 : ((pc l).drop (i * 2)).take 2 = [U x.1, U x.2] := fm_at (f := fun p : Nat × Nat => [U p.1, U p.2]) (sz := 2) (fun _ => rfl) h
  have : (((pc l).drop (i * 2)).take 2)[0]? = some (U x.1) := by rw [h1]; rfl
  rwa [List.getElem?_take, if_pos (by decide), List.getElem?_drop] at this
theorem pc_y {l : List (Nat × Nat)} {i : Nat} {x : Nat × Nat} (h : l[i]? = some x) : (pc l)[i * 2 + 1]? = some (U x.2) := by
  have h1 : ((pc l).drop (i * 2)).take 2 = [U x.1, U x.2] := fm_at (f := fun p : Nat × Nat => [U p.1, U p.2]) (sz := 2) (fun _ => rfl) h
  have : (((pc l).drop (i * 2)).take 2)[1]? = some (U x.2) := by rw [h1]; rfl
  rwa [List.getElem?_take, if_pos (by decide), List.getElem?_drop] at this


theorem fits_c (kd : Nat) (dp dg : Int) (p q g : Nat) (ni ci base n c : Nat) (Ai A : Option Addr) (pts : List (Nat × Nat)) (box chk : Key) (r : Int) (labs : Value) (sx sy : Nat) (hl : pts.length = n) (hcp : n ≤ c) (hn : n ≤ 8796093021952) (w : World) (hR : Rd w A (pc pts)) : RetF Try.prog 74 [SV kd dp dg p q g, SecV r labs sx sy, HV (.slice Ai ni ci) base (.slice A n c) box chk].toArray w (.is (.bool (okH p q dg ni base n pts sx sy))) := by
  refine enter Try.func74 rfl Try.ntmps74 rfl fun a hF => ?_
  have hw := Own.start w
  refine wp_seq (wp_region_lit ?_)
  refine t_net 0 1 (by kernel_rfl) rfl hF ?_
  refine net_cons rfl rfl (n_box rfl (ev rfl) rfl) ?_
  refine net_nil fun a w1 hF hx => ?_
  obtain ⟨b3, h_, hw⟩ := hw.blk hx (hF.at_ 3 _ rfl)
  replace hF := hF.now h_
  replace hF := hF.keep (.cons (t := 1) rfl (.cons (t := 2) rfl (.cons (t := 3) rfl .nil)))
  refine t_net 1 1 (by kernel_rfl) rfl hF ?_
  refine net_cons rfl rfl (n_box rfl (ev rfl) rfl) ?_
  refine net_nil fun a w1 hF hx => ?_
  obtain ⟨b4, h_, hw⟩ := hw.blk hx (hF.at_ 4 _ rfl)
  replace hF := hF.now h_
  replace hF := hF.keep (.cons (t := 2) rfl (.cons (t := 3) rfl (.cons (t := 4) rfl .nil)))
  refine t_net 2 1 (by kernel_rfl) rfl hF ?_
  refine net_cons rfl rfl (n_box rfl (ev rfl) rfl) ?_
  refine net_nil fun a w1 hF hx => ?_
  obtain ⟨b5, h_, hw⟩ := hw.blk hx (hF.at_ 5 _ rfl)
  replace hF := hF.now h_
  replace hF := hF.keep (.cons (t := 3) rfl (.cons (t := 4) rfl (.cons (t := 5) rfl .nil)))
  refine t_net 3 1 (by kernel_rfl) rfl hF ?_
  refine net_cons rfl rfl (n_assign rfl evc) ?_
  refine net_nil fun a w1 hF hx => ?_
  replace hw := hw.next hx
  replace hF := hF.keep (.cons (t := 3) rfl (.cons (t := 4) rfl (.cons (t := 5) rfl (.cons (t := 6) rfl .nil))))
  refine wpList_nil ?_
  refine wp_scope_straight ?_
  refine wp_seq (reg_seq 31 (hF _ _) (by kernel_rfl) ?_)
  refine net_cons rfl rfl (n_fieldAddrO (off' := 0) rfl (ev rfl) Try.runUnderlying45 rfl Try.sizeOf42 rfl) ?_
  refine net_cons rfl rfl (n_load rfl (ev rfl) (ld1 hw (i := 2) rfl Try.isAgg42 rfl)) ?_
  refine net_cons rfl rfl (n_len rfl (ev rfl) Try.underlying42) ?_
  refine net_cons rfl rfl (n_bin rfl (ev rfl) evc r_eql) ?_
  refine net_cons rfl rfl (n_move rfl (ev rfl)) ?_
  refine net_if rfl rfl rfl rfl (fun hc => (n_fieldAddrO (off' := 1) rfl (ev rfl) Try.runUnderlying45 rfl Try.sizeOf24 rfl)) ?_
  refine net_if rfl rfl rfl rfl (fun hc => (n_load rfl (evi rfl hc) (ld1 hw (i := 2) rfl Try.isAgg24 rfl))) ?_
  refine net_if rfl rfl rfl rfl (fun hc => (n_bin rfl (evi rfl hc) evc (r_geqN (b := 1)))) ?_
  refine net_cons rfl rfl (n_pick_and rfl (ev rfl) (fun h => (evi rfl h))) ?_
  refine net_cons rfl rfl (n_move rfl (ev rfl)) ?_
  refine net_if rfl rfl rfl rfl (fun hc => (n_fieldAddrO (off' := 1) rfl (ev rfl) Try.runUnderlying45 rfl Try.sizeOf24 rfl)) ?_
  refine net_if rfl rfl rfl rfl (fun hc => (n_load rfl (evi rfl hc) (ld1 hw (i := 2) rfl Try.isAgg24 rfl))) ?_
  refine net_if rfl rfl rfl rfl (fun hc => (n_fieldAddrO (off' := 3) rfl (ev rfl) Try.runUnderlying28 rfl Try.sizeOf26 rfl)) ?_
  refine net_if rfl rfl rfl rfl (fun hc => (n_fieldAddrO (off' := 3) rfl (evi rfl hc) Try.runUnderlying26 rfl Try.sizeOf24 rfl)) ?_
  refine net_if rfl rfl rfl rfl (fun hc => (n_load rfl (evi rfl hc) (ld1 hw (i := 0) rfl Try.isAgg24 rfl))) ?_
  refine net_if rfl rfl rfl rfl (fun hc => (n_bin rfl (evi rfl hc) (evi rfl hc) (r_lssN))) ?_
  refine net_cons rfl rfl (n_pick_and rfl (ev rfl) (fun h => (evi rfl h))) ?_
  refine net_cons rfl rfl (n_move rfl (ev rfl)) ?_
  refine net_if rfl rfl rfl rfl (fun hc => (n_fieldAddrO (off' := 2) rfl (ev rfl) Try.runUnderlying45 rfl Try.sizeOf43 rfl)) ?_
  refine net_if rfl rfl rfl rfl (fun hc => (n_load rfl (evi rfl hc) (ld1 hw (i := 2) rfl Try.isAgg43 rfl))) ?_
  refine net_if rfl rfl rfl rfl (fun hc => (n_len rfl (evi rfl hc) Try.underlying43)) ?_
  refine net_if rfl rfl rfl rfl (fun hc => (n_fieldAddrO (off' := 2) rfl (ev rfl) Try.runUnderlying28 rfl Try.sizeOf3 rfl)) ?_
  refine net_if rfl rfl rfl rfl (fun hc => (n_load rfl (evi rfl hc) (ld1 hw (i := 0) rfl Try.isAgg3 rfl))) ?_
  refine net_if rfl rfl rfl rfl (fun hc => (n_bin rfl (evi rfl hc) (evi rfl hc) r_eql)) ?_
  refine net_cons rfl rfl (n_pick_and rfl (ev rfl) (fun h => (evi rfl h))) ?_
  refine net_cons rfl rfl (n_move rfl (ev rfl)) ?_
  refine net_if rfl rfl rfl rfl (fun hc => (n_fieldAddrO (off' := 2) rfl (ev rfl) Try.runUnderlying45 rfl Try.sizeOf43 rfl)) ?_
  refine net_if rfl rfl rfl rfl (fun hc => (n_load rfl (evi rfl hc) (ld1 hw (i := 2) rfl Try.isAgg43 rfl))) ?_
  refine net_if rfl rfl rfl rfl (fun hc => (n_ret rfl Try.call75 (.cons (evi rfl hc) .nil) (fun _ hx => distinct_c n c A pts hl hcp (by omega) _ (hR.ext (hw.ext.trans hx))))) ?_
  refine net_cons rfl rfl (n_pick_and rfl (ev rfl) (fun h => (evi rfl h))) ?_
  refine net_cons rfl rfl (n_assign rfl (ev rfl)) ?_
  refine net_nil fun a w1 hF hx => ?_
  replace hw := hw.next hx
  replace hF := hF.keep (.cons (t := 3) rfl (.cons (t := 4) rfl (.cons (t := 5) rfl (.cons (t := 6) rfl (.cons (t := 7) rfl .nil)))))
  refine wpList_nil ?_
  refine wp_seq (wp_label ?_)
  refine wp_seq ?_
  refine wp_seq (reg_then (R := fun a w1 => ∃ A48 c48, FrV 91 [] [(3, .is (ptr0 b3)), (4, .is (ptr0 b4)), (5, .is (ptr0 b5)), (7, .is (.bool (okD p dg ni base n pts))), (48, .is (.slice A48 (n + 1) c48)), (49, .is (I ((n + 1 : Nat) : Int))), (50, .is (I ((0 : Nat) : Int)))] a ∧ Own w w1 [.blk b3 28 [B8 kd, I dp, I dg, U p, U q, U g], .blk b4 33 [I r, labs, U sx, U sy], .blk b5 45 (hcs (.slice Ai ni ci) base (.slice A n c) box chk), .row (.slice A48 (n + 1) c48) 31 2 (n + 1) (pc (pts ++ [(sx, 1)]))]) (reg_drawL2 8 10 mixed rfl (by kernel_rfl) (by kernel_rfl) rfl (by kernel_rfl) (fun c a w h => by cases h.1) (hF _ _) ?_) ?_)
  · refine net_cons rfl rfl (n_fieldAddrO (off' := 2) rfl (ev rfl) Try.runUnderlying45 rfl Try.sizeOf43 rfl) ?_
    refine net_cons rfl rfl (n_load rfl (ev rfl) (ld1 hw (i := 2) rfl Try.isAgg43 rfl)) ?_
    refine net_cons rfl rfl (n_ret rfl Try.call121 (.cons (ev rfl) .nil) (fun _ hx => (CloneP_c n c A pts hl (by omega) _ (hR.ext (hw.ext.trans hx))))) ?_
    refine net_cons rfl rfl (n_fieldAddrO (off' := 2) rfl (ev rfl) Try.runUnderlying33 rfl Try.sizeOf31 rfl) ?_
    refine net_cons rfl rfl (n_fieldAddrO (off' := 2) rfl (ev rfl) Try.runUnderlying31 rfl Try.sizeOf24 rfl) ?_
    refine net_cons rfl rfl (n_load rfl (ev rfl) (ld1 hw (i := 1) rfl Try.isAgg24 rfl)) ?_
    refine net_cons rfl rfl (n_build rfl (.cons (ev rfl) (.cons evc .nil)) build_31_0_1) ?_
    refine net_cons rfl rfl (n_bsl sl43 rfl (.cons (ev rfl) .nil) (.cons rfl rfl .nil) rfl (by decide) (by decide)) ?_
    refine net_nil fun a w1 hF hx => ?_
    obtain ⟨b47, e47_, l47_, h47_⟩ := hF.at_ 47 _ rfl
    have hR47 := Rd.heap h47_
    replace hF := hF.now (v := .slice (some ⟨b47, 0, none⟩) (1) (1)) e47_
    obtain ⟨s42, h_, hw⟩ := hw.ex hx (hF.at_ 42 _ rfl)
    replace hF := hF.now h_
    replace hF := hF.keep (.cons (t := 3) rfl (.cons (t := 4) rfl (.cons (t := 5) rfl (.cons (t := 6) rfl (.cons (t := 7) rfl (.cons (t := 42) rfl (.cons (t := 47) rfl (.cons (t := 50) rfl .nil))))))))
    refine t_append (i := 3) sl43 rfl rfl rfl (by decide) hF hw rfl (ev rfl) (ev rfl) hR47 rfl (by intro u hu; simp only [List.mem_cons, List.append_nil, List.not_mem_nil, or_false] at hu; rcases hu with rfl | rfl <;> rfl) (by simp only [maxLen]; omega) (by omega) fun v48 a w1 hF hw => ?_
    replace hF := hF.keep (.cons (t := 3) rfl (.cons (t := 4) rfl (.cons (t := 5) rfl (.cons (t := 6) rfl (.cons (t := 7) rfl (.cons (t := 48) rfl (.cons (t := 50) rfl .nil)))))))
    replace hw : Own w _ [.blk b3 28 [B8 kd, I dp, I dg, U p, U q, U g], .blk b4 33 [I r, labs, U sx, U sy], .blk b5 45 (hcs (.slice Ai ni ci) base (.slice A n c) box chk), .row v48 31 2 (n + 1) (pc (pts ++ [(sx, 1)]))] := (by rw [pc_snoc]; exact hw)
    obtain ⟨A48, c48, rfl, _, _, _⟩ := hw.rd (i := 3) rfl
    refine t_net 9 1 (by kernel_rfl) rfl hF ?_
    refine net_cons rfl rfl (n_len rfl (ev rfl) Try.underlying43) ?_
    refine net_nil fun a w1 hF hx => ?_
    replace hw := hw.next hx
    replace hF := hF.keep (.cons (t := 3) rfl (.cons (t := 4) rfl (.cons (t := 5) rfl (.cons (t := 6) rfl (.cons (t := 7) rfl (.cons (t := 48) rfl (.cons (t := 49) rfl (.cons (t := 50) rfl .nil))))))))
    refine wpList_nil ?_
    exact ⟨rfl, A48, c48, hF.keep (.cons (t := 3) rfl (.cons (t := 4) rfl (.cons (t := 5) rfl (.cons (t := 7) rfl (.cons (t := 48) rfl (.cons (t := 49) rfl (.cons (t := 50) rfl (.nil)))))))), hw⟩
  rintro a w1 ⟨A48, c48, hF, hw⟩
  refine wp_block ?_
  refine wp_loop_ix (α := Nat) (fun i a w1 => FrV 91 [] [(3, .is (ptr0 b3)) , (4, .is (ptr0 b4)) , (5, .is (ptr0 b5)) , (7, .is (.bool (okF p q dg ni base n pts (pts ++ [(sx, 1)]) i))) , (48, .is (.slice A48 (n + 1) c48)) , (49, .is (I ((n + 1 : Nat) : Int))) , (50, .is (I (i : Int)))] a ∧ Own w w1 [.blk b3 28 [B8 kd, I dp, I dg, U p, U q, U g], .blk b4 33 [I r, labs, U sx, U sy], .blk b5 45 (hcs (.slice Ai ni ci) base (.slice A n c) box chk), .row (.slice A48 (n + 1) c48) 31 2 (n + 1) (pc (pts ++ [(sx, 1)]))] ∧ (i ≤ n + 1)) (fun i => n + 1 - i) (0) ⟨(by rw [okF_zero]; exact hF.keep (.cons (t := 3) rfl (.cons (t := 4) rfl (.cons (t := 5) rfl (.cons (t := 7) rfl (.cons (t := 48) rfl (.cons (t := 49) rfl (.cons (t := 50) rfl .nil)))))))), hw, by omega⟩ ?_
  rintro i a w1 ⟨hF, hw, hi0⟩
  refine wp_seq (reg_seq 1 (hF _ _) (by kernel_rfl) ?_)
  refine net_cons rfl rfl (n_bin rfl (ev rfl) (ev rfl) r_lssN) ?_
  refine net_nil fun a w1 hF hx => ?_
  replace hw := hw.next hx
  replace hF := hF.keep (.cons (t := 3) rfl (.cons (t := 4) rfl (.cons (t := 5) rfl (.cons (t := 7) rfl (.cons (t := 48) rfl (.cons (t := 49) rfl (.cons (t := 50) rfl (.cons (t := 51) rfl .nil))))))))
  refine wpList_nil ?_
  refine wp_seq ?_
  refine wp_cond_split (hF.ev (ev rfl)) (fun h51 => ?_) (fun h51 => ?_)
  · have hi : i < n + 1 := of_bool_t h51
    obtain ⟨x, hx0⟩ := some_at (l := (pts ++ [(sx, 1)])) (n := n + 1) (by rw [List.length_append, hl]; rfl) hi
    obtain ⟨_, _, hse_, _, hRr, _⟩ := hw.rd (i := 3) rfl
    injection hse_ with hA_ _ _
    subst hA_
    have hF_ := hF
    have hw_ := hw
    obtain ⟨bX, oX, rfl, hcX⟩ := hRr.at_ (by rw [pc_len, List.length_append, hl]; simp)
    have hF := hF_
    have hw := hw_
    refine wp_skip ?_
    refine wp_seq (wp_block ?_)
    refine wp_seq (wp_region_lit ?_)
    refine t_net 0 3 (by kernel_rfl) rfl hF ?_
    refine net_cons rfl rfl (n_indexS (off' := oX + (i) * 2) rfl (ev rfl) (ev rfl) Try.underlying43 Try.sizeOf31 (by omega) rfl) ?_
    refine net_cons rfl rfl (n_load rfl (ev rfl) (fun w2 hx2 => ldNR hcX (fm_at (f := fun p : Nat × Nat => [U p.1, U p.2]) (sz := 2) (fun _ => rfl) hx0) rfl Try.isAgg31 Try.sizeOf31 (by omega) w2 hx2)) ?_
    refine net_cons rfl rfl (n_alloc rfl Try.zeroValue31 rfl) ?_
    refine net_nil fun a w1 hF hx => ?_
    obtain ⟨b9, h_, hw⟩ := hw.blk hx (hF.at_ 9 _ rfl)
    replace hF := hF.now h_
    replace hF := hF.keep (.cons (t := 3) rfl (.cons (t := 4) rfl (.cons (t := 5) rfl (.cons (t := 7) rfl (.cons (t := 9) rfl (.cons (t := 48) rfl (.cons (t := 49) rfl (.cons (t := 50) rfl (.cons (t := 51) rfl (.cons (t := 53) rfl .nil))))))))))
    refine t_store (i := 4) rfl rfl rfl hF hw rfl (ev rfl) (ev rfl) rfl (by intro u hu; simp only [List.mem_cons, List.append_nil, List.not_mem_nil, or_false] at hu; rcases hu with rfl | rfl <;> rfl) Try.sizeOf31 rfl (Nat.le_of_ble_eq_true rfl) rfl fun w1 hw => ?_
    refine wpList_nil ?_
    refine wp_seq ?_
    refine wp_seq (reg_seq 2 (hF _ _) (by kernel_rfl) ?_)
    refine net_cons rfl rfl (n_move rfl (ev rfl)) ?_
    refine net_cons rfl rfl (n_not rfl (ev rfl)) ?_
    refine net_nil fun a w1 hF hx => ?_
    replace hw := hw.next hx
    replace hF := hF.keep (.cons (t := 3) rfl (.cons (t := 4) rfl (.cons (t := 5) rfl (.cons (t := 7) rfl (.cons (t := 9) rfl (.cons (t := 48) rfl (.cons (t := 49) rfl (.cons (t := 50) rfl (.cons (t := 51) rfl (.cons (t := 53) rfl (.cons (t := 55) rfl .nil)))))))))))
    refine wpList_nil ?_
    refine wp_cond_split (hF.ev (ev rfl)) (fun h55 => ?_) (fun h55 => ?_)
    · have hfu := okF_stop h55
      refine wp_exit (go_then_e (go_exit_ne (by decide) (go_then_e (go_then_e (go_exit ?_)))))
      refine wp_seq (reg_seq 11 (hF _ _) (by kernel_rfl) ?_)
      refine net_cons rfl rfl (n_move rfl (ev rfl)) ?_
      refine net_cons rfl rfl (n_move rfl (ev rfl)) ?_
      refine net_if rfl rfl rfl rfl (fun hc => (n_fieldAddrO (off' := 2) rfl (ev rfl) Try.runUnderlying33 rfl Try.sizeOf31 rfl)) ?_
      refine net_if rfl rfl rfl rfl (fun hc => (n_fieldAddrO (off' := 3) rfl (evi rfl hc) Try.runUnderlying31 rfl Try.sizeOf24 rfl)) ?_
      refine net_if rfl rfl rfl rfl (fun hc => (n_load rfl (evi rfl hc) (ld1 hw (i := 1) rfl Try.isAgg24 rfl))) ?_
      refine net_if rfl rfl rfl rfl (fun hc => (n_fieldAddrO (off' := 3) rfl (ev rfl) Try.runUnderlying28 rfl Try.sizeOf26 rfl)) ?_
      refine net_if rfl rfl rfl rfl (fun hc => (n_fieldAddrO (off' := 4) rfl (evi rfl hc) Try.runUnderlying26 rfl Try.sizeOf24 rfl)) ?_
      refine net_if rfl rfl rfl rfl (fun hc => (n_load rfl (evi rfl hc) (ld1 hw (i := 0) rfl Try.isAgg24 rfl))) ?_
      refine net_if rfl rfl rfl rfl (fun hc => (n_bin rfl (evi rfl hc) (evi rfl hc) (r_lssN))) ?_
      refine net_cons rfl rfl (n_pick_and rfl (ev rfl) (fun h => (evi rfl h))) ?_
      refine net_cons rfl rfl (n_assign rfl (ev rfl)) ?_
      refine net_nil fun a w1 hF hx => ?_
      replace hw := hw.next hx
      replace hF := hF.keep (.cons (t := 3) rfl (.cons (t := 4) rfl (.cons (t := 5) rfl (.cons (t := 6) rfl (.cons (t := 7) rfl (.cons (t := 9) rfl (.cons (t := 48) rfl (.cons (t := 49) rfl (.cons (t := 50) rfl (.cons (t := 51) rfl (.cons (t := 53) rfl (.cons (t := 55) rfl .nil))))))))))))
      refine wpList_nil ?_
      refine wp_ret (go_scope_r (ret1 hF Try.results74 rfl ?_))
      exact ⟨_, rfl, hw.ext, (by rw [hfu]; rfl)⟩
    · refine wp_skip ?_
      refine reg_seq 25 (hF _ _) (by kernel_rfl) ?_
      refine net_cons rfl rfl (n_fieldAddrO (off' := 0) rfl (ev rfl) Try.runUnderlying31 rfl Try.sizeOf24 rfl) ?_
      refine net_cons rfl rfl (n_load rfl (ev rfl) (ld1 hw (i := 4) rfl Try.isAgg24 rfl)) ?_
      refine net_cons rfl rfl (n_bin rfl (ev rfl) evc (r_geqN (b := 1))) ?_
      refine net_cons rfl rfl (n_move rfl (ev rfl)) ?_
      refine net_if rfl rfl rfl rfl (fun hc => (n_fieldAddrO (off' := 0) rfl (ev rfl) Try.runUnderlying31 rfl Try.sizeOf24 rfl)) ?_
      refine net_if rfl rfl rfl rfl (fun hc => (n_load rfl (evi rfl hc) (ld1 hw (i := 4) rfl Try.isAgg24 rfl))) ?_
      refine net_if rfl rfl rfl rfl (fun hc => (n_fieldAddrO (off' := 3) rfl (ev rfl) Try.runUnderlying28 rfl Try.sizeOf26 rfl)) ?_
      refine net_if rfl rfl rfl rfl (fun hc => (n_fieldAddrO (off' := 4) rfl (evi rfl hc) Try.runUnderlying26 rfl Try.sizeOf24 rfl)) ?_
      refine net_if rfl rfl rfl rfl (fun hc => (n_load rfl (evi rfl hc) (ld1 hw (i := 0) rfl Try.isAgg24 rfl))) ?_
      refine net_if rfl rfl rfl rfl (fun hc => (n_bin rfl (evi rfl hc) (evi rfl hc) (r_lssN))) ?_
      refine net_cons rfl rfl (n_pick_and rfl (ev rfl) (fun h => (evi rfl h))) ?_
      refine net_cons rfl rfl (n_move rfl (ev rfl)) ?_
      refine net_if rfl rfl rfl rfl (fun hc => (n_fieldAddrO (off' := 1) rfl (ev rfl) Try.runUnderlying31 rfl Try.sizeOf24 rfl)) ?_
      refine net_if rfl rfl rfl rfl (fun hc => (n_load rfl (evi rfl hc) (ld1 hw (i := 4) rfl Try.isAgg24 rfl))) ?_
      refine net_if rfl rfl rfl rfl (fun hc => (n_bin rfl (evi rfl hc) evc (r_geqN (b := 1)))) ?_
      refine net_cons rfl rfl (n_pick_and rfl (ev rfl) (fun h => (evi rfl h))) ?_
      refine net_cons rfl rfl (n_move rfl (ev rfl)) ?_
      refine net_if rfl rfl rfl rfl (fun hc => (n_fieldAddrO (off' := 1) rfl (ev rfl) Try.runUnderlying31 rfl Try.sizeOf24 rfl)) ?_
      refine net_if rfl rfl rfl rfl (fun hc => (n_load rfl (evi rfl hc) (ld1 hw (i := 4) rfl Try.isAgg24 rfl))) ?_
      refine net_if rfl rfl rfl rfl (fun hc => (n_fieldAddrO (off' := 3) rfl (ev rfl) Try.runUnderlying28 rfl Try.sizeOf26 rfl)) ?_
      refine net_if rfl rfl rfl rfl (fun hc => (n_fieldAddrO (off' := 3) rfl (evi rfl hc) Try.runUnderlying26 rfl Try.sizeOf24 rfl)) ?_
      refine net_if rfl rfl rfl rfl (fun hc => (n_load rfl (evi rfl hc) (ld1 hw (i := 0) rfl Try.isAgg24 rfl))) ?_
      refine net_if rfl rfl rfl rfl (fun hc => (n_bin rfl (evi rfl hc) (evi rfl hc) (r_lssN))) ?_
      refine net_cons rfl rfl (n_pick_and rfl (ev rfl) (fun h => (evi rfl h))) ?_
      refine net_cons rfl rfl (n_to (n_assign rfl (ev rfl)) (congrArg Value.bool (show _ = _ from okF_step h55 hx0))) ?_
      refine net_nil fun a w1 hF hx => ?_
      replace hw := hw.next hx
      replace hF := hF.keep (.cons (t := 3) rfl (.cons (t := 4) rfl (.cons (t := 5) rfl (.cons (t := 7) rfl (.cons (t := 9) rfl (.cons (t := 48) rfl (.cons (t := 49) rfl (.cons (t := 50) rfl (.cons (t := 51) rfl (.cons (t := 53) rfl (.cons (t := 55) rfl .nil)))))))))))
      refine wpList_nil ?_
      refine reg_seq 2 (hF _ _) (by kernel_rfl) ?_
      refine net_cons rfl rfl (n_bin rfl (ev rfl) evc (r_inc (by omega))) ?_
      refine net_cons rfl rfl (n_move rfl (ev rfl)) ?_
      refine net_nil fun a w1 hF hx => ?_
      replace hw := hw.next hx
      replace hF := hF.keep (.cons (t := 3) rfl (.cons (t := 4) rfl (.cons (t := 5) rfl (.cons (t := 7) rfl (.cons (t := 9) rfl (.cons (t := 48) rfl (.cons (t := 49) rfl (.cons (t := 50) rfl (.cons (t := 51) rfl (.cons (t := 53) rfl (.cons (t := 55) rfl .nil)))))))))))
      refine wpList_nil ?_
      exact ⟨i + 1, ⟨hF.keep (.cons (t := 3) rfl (.cons (t := 4) rfl (.cons (t := 5) rfl (.cons (t := 7) rfl (.cons (t := 48) rfl (.cons (t := 49) rfl (.cons (t := 50) rfl (.nil)))))))), (hw.drop (.cons_cons _ (.cons_cons _ (.cons_cons _ (.cons_cons _ (.cons _ .slnil)))))), by omega⟩, by omega⟩
  · have hfu := okF_full (p := p) (q := q) (dg := dg) (nit := ni) (base := base) (n := n) (pts := pts) (all := (pts ++ [(sx, 1)])) (i := i) (by rw [List.length_append, hl]; have := of_bool_f h51; simp; omega)
    refine wp_exit (go_then_e (go_then_e (go_exit ?_)))
    refine wp_seq (reg_seq 11 (hF _ _) (by kernel_rfl) ?_)
    refine net_cons rfl rfl (n_move rfl (ev rfl)) ?_
    refine net_cons rfl rfl (n_move rfl (ev rfl)) ?_
    refine net_if rfl rfl rfl rfl (fun hc => (n_fieldAddrO (off' := 2) rfl (ev rfl) Try.runUnderlying33 rfl Try.sizeOf31 rfl)) ?_
    refine net_if rfl rfl rfl rfl (fun hc => (n_fieldAddrO (off' := 3) rfl (evi rfl hc) Try.runUnderlying31 rfl Try.sizeOf24 rfl)) ?_
    refine net_if rfl rfl rfl rfl (fun hc => (n_load rfl (evi rfl hc) (ld1 hw (i := 1) rfl Try.isAgg24 rfl))) ?_
    refine net_if rfl rfl rfl rfl (fun hc => (n_fieldAddrO (off' := 3) rfl (ev rfl) Try.runUnderlying28 rfl Try.sizeOf26 rfl)) ?_
    refine net_if rfl rfl rfl rfl (fun hc => (n_fieldAddrO (off' := 4) rfl (evi rfl hc) Try.runUnderlying26 rfl Try.sizeOf24 rfl)) ?_
    refine net_if rfl rfl rfl rfl (fun hc => (n_load rfl (evi rfl hc) (ld1 hw (i := 0) rfl Try.isAgg24 rfl))) ?_
    refine net_if rfl rfl rfl rfl (fun hc => (n_bin rfl (evi rfl hc) (evi rfl hc) (r_lssN))) ?_
    refine net_cons rfl rfl (n_pick_and rfl (ev rfl) (fun h => (evi rfl h))) ?_
    refine net_cons rfl rfl (n_assign rfl (ev rfl)) ?_
    refine net_nil fun a w1 hF hx => ?_
    replace hw := hw.next hx
    replace hF := hF.keep (.cons (t := 3) rfl (.cons (t := 4) rfl (.cons (t := 5) rfl (.cons (t := 6) rfl (.cons (t := 7) rfl (.cons (t := 48) rfl (.cons (t := 49) rfl (.cons (t := 50) rfl (.cons (t := 51) rfl .nil)))))))))
    refine wpList_nil ?_
    refine wp_ret (go_scope_r (ret1 hF Try.results74 rfl ?_))
    exact ⟨_, rfl, hw.ext, (by rw [hfu]; rfl)⟩


theorem okD_of {p : Nat} {dg : Int} {nit base n : Nat} {pts : List (Nat × Nat)} (h : ((((!decide ((nit : Int) = 0)) || decide (base < 1)) || decide (p ≤ base)) || !decide ((n : Int) = dg)) = false) : okD p dg nit base n pts = distL pts := by
  simp only [Bool.or_eq_false_iff, Bool.not_eq_false', decide_eq_true_eq, decide_eq_false_iff_not] at h
  obtain ⟨⟨⟨h1, h2⟩, h3⟩, h4⟩ := h
  unfold okD
  rw [decide_eq_true h1, decide_eq_true (show 1 ≤ base by omega), decide_eq_true (show base < p by omega), decide_eq_true h4]
  rfl
theorem okD_bad {p : Nat} {dg : Int} {nit base n : Nat} {pts : List (Nat × Nat)} (h : ((((!decide ((nit : Int) = 0)) || decide (base < 1)) || decide (p ≤ base)) || !decide ((n : Int) = dg)) = true) : okD p dg nit base n pts = false := by
  simp only [Bool.or_eq_true, Bool.not_eq_true', decide_eq_true_eq, decide_eq_false_iff_not] at h
  unfold okD
  rcases h with ((h | h) | h) | h
  · rw [decide_eq_false h]; rfl
  · rw [decide_eq_false (show ¬ 1 ≤ base by omega)]; simp
  · rw [decide_eq_false (show ¬ base < p by omega)]; simp
  · rw [decide_eq_false h]; simp
theorem ptOk_neg {p q : Nat} {x : Nat × Nat} {b : Bool} (h : (((decide (x.1 < 1) || decide (q ≤ x.1)) || decide (x.2 < 1)) || decide (p ≤ x.2)) = b) : ptOk p q x = !b := by
  subst h
  unfold ptOk
  rw [Bool.eq_iff_iff]
  simp only [Bool.and_eq_true, decide_eq_true_eq, Bool.not_eq_true', Bool.or_eq_false_iff, decide_eq_false_iff_not]
  omega
theorem hitX_yes {l : List (Nat × Nat)} {i k : Nat} {y : Nat × Nat} {x : Nat} (hk : k < i) (hy : l[k]? = some y) (h : decide (y.1 = x) = true) : hitX (l.take i) x = true :=
  List.any_eq_true.2 ⟨y, List.mem_of_getElem? (i := k) (by rw [List.getElem?_take, if_pos hk]; exact hy), h⟩
theorem hitX_none {l : List (Nat × Nat)} {i : Nat} {x : Nat} (h : ∀ j y, j < i → l[j]? = some y → ¬ y.1 = x) : hitX (l.take i) x = false := by
  refine List.any_eq_false.2 fun y hy => ?_
  obtain ⟨j, hj, rfl⟩ := List.mem_iff_getElem.1 hy
  rw [List.length_take] at hj
  rw [List.getElem_take]
  have := h j l[j] (by omega) (List.getElem?_eq_getElem (by omega))
  simpa using this
theorem all_ok {p q : Nat} {l : List (Nat × Nat)} {n : Nat} (hl : l.length = n) (h : ∀ j y, j < n → l[j]? = some y → ptOk p q y = true) : l.all (ptOk p q) = true := by
  rw [List.all_eq_true]
  intro x hx
  obtain ⟨j, hj, rfl⟩ := List.mem_iff_getElem.1 hx
  exact h j _ (by omega) (List.getElem?_eq_getElem hj)
theorem all_no {p q : Nat} {l : List (Nat × Nat)} {i : Nat} {x : Nat × Nat} (hx : l[i]? = some x) (h : ptOk p q x = false) : l.all (ptOk p q) = false := by
  rw [List.all_eq_false]
  exact ⟨x, List.mem_of_getElem? hx, by rw [h]; simp⟩
/-- Whether a header is one of a scheme: the reference's way. -/
def okV (p q : Nat) (dg : Int) (nit base n : Nat) (pts : List (Nat × Nat)) : Bool := okD p dg nit base n pts && pts.all (ptOk p q)
theorem okV_yes {p q : Nat} {dg : Int} {nit base n : Nat} {pts : List (Nat × Nat)} (h1 : okD p dg nit base n pts = distL pts) (h2 : distL pts = true) (h3 : pts.all (ptOk p q) = true) : okV p q dg nit base n pts = true := by
  unfold okV; rw [h1, h2, h3]; rfl
theorem okV_no1 {p q : Nat} {dg : Int} {nit base n : Nat} {pts : List (Nat × Nat)} (h1 : okD p dg nit base n pts = false) : okV p q dg nit base n pts = false := by
  unfold okV; rw [h1]; rfl
theorem okV_no3 {p q : Nat} {dg : Int} {nit base n : Nat} {pts : List (Nat × Nat)} (h : pts.all (ptOk p q) = false) : okV p q dg nit base n pts = false := by
  unfold okV; rw [h, Bool.and_false]


theorem ValidHeader_c (kd : Nat) (dp dg : Int) (p q g : Nat) (ni ci base n c : Nat) (Ai A : Option Addr) (pts : List (Nat × Nat)) (box chk : Key) (hl : pts.length = n) (hn : n ≤ 8796093021952) (w : World) (hR : Rd w A (pc pts)) : RetF Try.prog 80 [SV kd dp dg p q g, HV (.slice Ai ni ci) base (.slice A n c) box chk].toArray w (.is (.bool (okV p q dg ni base n pts))) := by
  refine enter Try.func80 rfl Try.ntmps80 rfl fun a hF => ?_
  have hw := Own.start w
  refine wp_seq (wp_region_lit ?_)
  refine t_net 0 1 (by kernel_rfl) rfl hF ?_
  refine net_cons rfl rfl (n_box rfl (ev rfl) rfl) ?_
  refine net_nil fun a w1 hF hx => ?_
  obtain ⟨b2, h_, hw⟩ := hw.blk hx (hF.at_ 2 _ rfl)
  replace hF := hF.now h_
  replace hF := hF.keep (.cons (t := 1) rfl (.cons (t := 2) rfl .nil))
  refine t_net 1 1 (by kernel_rfl) rfl hF ?_
  refine net_cons rfl rfl (n_box rfl (ev rfl) rfl) ?_
  refine net_nil fun a w1 hF hx => ?_
  obtain ⟨b3, h_, hw⟩ := hw.blk hx (hF.at_ 3 _ rfl)
  replace hF := hF.now h_
  replace hF := hF.keep (.cons (t := 2) rfl (.cons (t := 3) rfl .nil))
  refine t_net 2 1 (by kernel_rfl) rfl hF ?_
  refine net_cons rfl rfl (n_assign rfl evc) ?_
  refine net_nil fun a w1 hF hx => ?_
  replace hw := hw.next hx
  replace hF := hF.keep (.cons (t := 2) rfl (.cons (t := 3) rfl (.cons (t := 4) rfl .nil)))
  refine wpList_nil ?_
  refine wp_seq ?_
  refine wp_seq (reg_seq 25 (hF _ _) (by kernel_rfl) ?_)
  refine net_cons rfl rfl (n_fieldAddrO (off' := 0) rfl (ev rfl) Try.runUnderlying45 rfl Try.sizeOf42 rfl) ?_
  refine net_cons rfl rfl (n_load rfl (ev rfl) (ld1 hw (i := 1) rfl Try.isAgg42 rfl)) ?_
  refine net_cons rfl rfl (n_len rfl (ev rfl) Try.underlying42) ?_
  refine net_cons rfl rfl (n_bin rfl (ev rfl) evc r_neq) ?_
  refine net_cons rfl rfl (n_move rfl (ev rfl)) ?_
  refine net_if rfl rfl rfl rfl (fun hc => (n_fieldAddrO (off' := 1) rfl (ev rfl) Try.runUnderlying45 rfl Try.sizeOf24 rfl)) ?_
  refine net_if rfl rfl rfl rfl (fun hc => (n_load rfl (evi rfl hc) (ld1 hw (i := 1) rfl Try.isAgg24 rfl))) ?_
  refine net_if rfl rfl rfl rfl (fun hc => (n_bin rfl (evi rfl hc) evc (r_lssN (b := 1)))) ?_
  refine net_cons rfl rfl (n_pick_or rfl (ev rfl) (fun h => (evi rfl h))) ?_
  refine net_cons rfl rfl (n_move rfl (ev rfl)) ?_
  refine net_if rfl rfl rfl rfl (fun hc => (n_fieldAddrO (off' := 1) rfl (ev rfl) Try.runUnderlying45 rfl Try.sizeOf24 rfl)) ?_
  refine net_if rfl rfl rfl rfl (fun hc => (n_load rfl (evi rfl hc) (ld1 hw (i := 1) rfl Try.isAgg24 rfl))) ?_
  refine net_if rfl rfl rfl rfl (fun hc => (n_fieldAddrO (off' := 3) rfl (ev rfl) Try.runUnderlying28 rfl Try.sizeOf26 rfl)) ?_
  refine net_if rfl rfl rfl rfl (fun hc => (n_fieldAddrO (off' := 3) rfl (evi rfl hc) Try.runUnderlying26 rfl Try.sizeOf24 rfl)) ?_
  refine net_if rfl rfl rfl rfl (fun hc => (n_load rfl (evi rfl hc) (ld1 hw (i := 0) rfl Try.isAgg24 rfl))) ?_
  refine net_if rfl rfl rfl rfl (fun hc => (n_bin rfl (evi rfl hc) (evi rfl hc) (r_geqN))) ?_
  refine net_cons rfl rfl (n_pick_or rfl (ev rfl) (fun h => (evi rfl h))) ?_
  refine net_cons rfl rfl (n_move rfl (ev rfl)) ?_
  refine net_if rfl rfl rfl rfl (fun hc => (n_fieldAddrO (off' := 2) rfl (ev rfl) Try.runUnderlying45 rfl Try.sizeOf43 rfl)) ?_
  refine net_if rfl rfl rfl rfl (fun hc => (n_load rfl (evi rfl hc) (ld1 hw (i := 1) rfl Try.isAgg43 rfl))) ?_
  refine net_if rfl rfl rfl rfl (fun hc => (n_len rfl (evi rfl hc) Try.underlying43)) ?_
  refine net_if rfl rfl rfl rfl (fun hc => (n_fieldAddrO (off' := 2) rfl (ev rfl) Try.runUnderlying28 rfl Try.sizeOf3 rfl)) ?_
  refine net_if rfl rfl rfl rfl (fun hc => (n_load rfl (evi rfl hc) (ld1 hw (i := 0) rfl Try.isAgg3 rfl))) ?_
  refine net_if rfl rfl rfl rfl (fun hc => (n_bin rfl (evi rfl hc) (evi rfl hc) r_neq)) ?_
  refine net_cons rfl rfl (n_pick_or rfl (ev rfl) (fun h => (evi rfl h))) ?_
  refine net_nil fun a w1 hF hx => ?_
  replace hw := hw.next hx
  replace hF := hF.keep (.cons (t := 2) rfl (.cons (t := 3) rfl (.cons (t := 4) rfl (.cons (t := 32) rfl .nil))))
  refine wpList_nil ?_
  refine wp_cond_split (hF.ev (ev rfl)) (fun h32 => ?_) (fun h32 => ?_)
  · have hz := okV_no1 (q := q) (okD_bad (pts := pts) h32)
    refine wp_seq (reg_seq 1 (hF _ _) (by kernel_rfl) ?_)
    refine net_cons rfl rfl (n_assign rfl evc) ?_
    refine net_nil fun a w1 hF hx => ?_
    replace hw := hw.next hx
    replace hF := hF.keep (.cons (t := 2) rfl (.cons (t := 3) rfl (.cons (t := 4) rfl (.cons (t := 32) rfl .nil))))
    refine wpList_nil ?_
    refine wp_ret (go_then_r (ret1 hF Try.results80 rfl ?_))
    exact ⟨_, rfl, hw.ext, (by rw [hz]; rfl)⟩
  · have hod := okD_of (pts := pts) h32
    refine wp_skip ?_
    refine wp_seq ?_
    refine wp_seq (reg_seq 1 (hF _ _) (by kernel_rfl) ?_)
    refine net_cons rfl rfl (n_assign rfl evc) ?_
    refine net_nil fun a w1 hF hx => ?_
    replace hw := hw.next hx
    replace hF := hF.keep (.cons (t := 2) rfl (.cons (t := 3) rfl (.cons (t := 4) rfl (.cons (t := 5) rfl (.cons (t := 32) rfl .nil)))))
    refine wpList_nil ?_
    refine wp_block ?_
    refine wp_loop_ix (α := Nat) (fun i a w1 => FrV 83 [] [(2, .is (ptr0 b2)) , (3, .is (ptr0 b3)) , (5, .is (I (i : Int)))] a ∧ Own w w1 [.blk b2 28 [B8 kd, I dp, I dg, U p, U q, U g], .blk b3 45 (hcs (.slice Ai ni ci) base (.slice A n c) box chk)] ∧ (i ≤ n) ∧ (∀ j y, j < i → pts[j]? = some y → ptOk p q y = true) ∧ (∀ j y, j < i → pts[j]? = some y → hitX (pts.take j) y.1 = false)) (fun i => n - i) (0) ⟨hF.keep (.cons (t := 2) rfl (.cons (t := 3) rfl (.cons (t := 5) rfl (.nil)))), hw, by omega, fun j y h => by omega, fun j y h => by omega⟩ ?_
    rintro i a w1 ⟨hF, hw, hi0, hb1, hb2⟩
    refine wp_seq ?_
    refine wp_seq (reg_seq 5 (hF _ _) (by kernel_rfl) ?_)
    refine net_cons rfl rfl (n_move rfl (ev rfl)) ?_
    refine net_cons rfl rfl (n_fieldAddrO (off' := 2) rfl (ev rfl) Try.runUnderlying45 rfl Try.sizeOf43 rfl) ?_
    refine net_cons rfl rfl (n_load rfl (ev rfl) (ld1 hw (i := 1) rfl Try.isAgg43 rfl)) ?_
    refine net_cons rfl rfl (n_len rfl (ev rfl) Try.underlying43) ?_
    refine net_cons rfl rfl (n_bin rfl (ev rfl) (ev rfl) r_lss) ?_
    refine net_nil fun a w1 hF hx => ?_
    replace hw := hw.next hx
    replace hF := hF.keep (.cons (t := 2) rfl (.cons (t := 3) rfl (.cons (t := 5) rfl (.cons (t := 37) rfl .nil))))
    refine wpList_nil ?_
    refine wp_cond_split (hF.ev (ev rfl)) (fun h37 => ?_) (fun h37 => ?_)
    · have hi : i < n := by have := of_bool_t h37; omega
      obtain ⟨x, hx0⟩ := some_at hl hi
      have hF_ := hF
      have hw_ := hw
      obtain ⟨bX, oX, rfl, hcX⟩ := hR.at_ (by rw [pc_len]; omega)
      have hF := hF_
      have hw := hw_
      refine wp_skip ?_
      refine wp_seq (wp_block ?_)
      refine wp_seq (wp_region_lit ?_)
      refine t_net 0 6 (by kernel_rfl) rfl hF ?_
      refine net_cons rfl rfl (n_fieldAddrO (off' := 2) rfl (ev rfl) Try.runUnderlying45 rfl Try.sizeOf43 rfl) ?_
      refine net_cons rfl rfl (n_load rfl (ev rfl) (ld1 hw (i := 1) rfl Try.isAgg43 rfl)) ?_
      refine net_cons rfl rfl (n_move rfl (ev rfl)) ?_
      refine net_cons rfl rfl (n_indexS (off' := oX + (i) * 2) rfl (ev rfl) (ev rfl) Try.underlying43 Try.sizeOf31 (by omega) rfl) ?_
      refine net_cons rfl rfl (n_load rfl (ev rfl) (fun w2 hx2 => ldNR hcX (fm_at (f := fun p : Nat × Nat => [U p.1, U p.2]) (sz := 2) (fun _ => rfl) hx0) rfl Try.isAgg31 Try.sizeOf31 (by omega) w2 (hw.ext.trans hx2))) ?_
      refine net_cons rfl rfl (n_alloc rfl Try.zeroValue31 rfl) ?_
      refine net_nil fun a w1 hF hx => ?_
      obtain ⟨b6, h_, hw⟩ := hw.blk hx (hF.at_ 6 _ rfl)
      replace hF := hF.now h_
      replace hF := hF.keep (.cons (t := 2) rfl (.cons (t := 3) rfl (.cons (t := 5) rfl (.cons (t := 6) rfl (.cons (t := 37) rfl (.cons (t := 44) rfl .nil))))))
      refine t_store (i := 2) rfl rfl rfl hF hw rfl (ev rfl) (ev rfl) rfl (by intro u hu; simp only [List.mem_cons, List.append_nil, List.not_mem_nil, or_false] at hu; rcases hu with rfl | rfl <;> rfl) Try.sizeOf31 rfl (Nat.le_of_ble_eq_true rfl) rfl fun w1 hw => ?_
      refine wpList_nil ?_
      refine wp_seq ?_
      refine wp_seq (reg_seq 24 (hF _ _) (by kernel_rfl) ?_)
      refine net_cons rfl rfl (n_fieldAddrO (off' := 0) rfl (ev rfl) Try.runUnderlying31 rfl Try.sizeOf24 rfl) ?_
      refine net_cons rfl rfl (n_load rfl (ev rfl) (ld1 hw (i := 2) rfl Try.isAgg24 rfl)) ?_
      refine net_cons rfl rfl (n_bin rfl (ev rfl) evc (r_lssN (b := 1))) ?_
      refine net_cons rfl rfl (n_move rfl (ev rfl)) ?_
      refine net_if rfl rfl rfl rfl (fun hc => (n_fieldAddrO (off' := 0) rfl (ev rfl) Try.runUnderlying31 rfl Try.sizeOf24 rfl)) ?_
      refine net_if rfl rfl rfl rfl (fun hc => (n_load rfl (evi rfl hc) (ld1 hw (i := 2) rfl Try.isAgg24 rfl))) ?_
      refine net_if rfl rfl rfl rfl (fun hc => (n_fieldAddrO (off' := 3) rfl (ev rfl) Try.runUnderlying28 rfl Try.sizeOf26 rfl)) ?_
      refine net_if rfl rfl rfl rfl (fun hc => (n_fieldAddrO (off' := 4) rfl (evi rfl hc) Try.runUnderlying26 rfl Try.sizeOf24 rfl)) ?_
      refine net_if rfl rfl rfl rfl (fun hc => (n_load rfl (evi rfl hc) (ld1 hw (i := 0) rfl Try.isAgg24 rfl))) ?_
      refine net_if rfl rfl rfl rfl (fun hc => (n_bin rfl (evi rfl hc) (evi rfl hc) (r_geqN))) ?_
      refine net_cons rfl rfl (n_pick_or rfl (ev rfl) (fun h => (evi rfl h))) ?_
      refine net_cons rfl rfl (n_move rfl (ev rfl)) ?_
      refine net_if rfl rfl rfl rfl (fun hc => (n_fieldAddrO (off' := 1) rfl (ev rfl) Try.runUnderlying31 rfl Try.sizeOf24 rfl)) ?_
      refine net_if rfl rfl rfl rfl (fun hc => (n_load rfl (evi rfl hc) (ld1 hw (i := 2) rfl Try.isAgg24 rfl))) ?_
      refine net_if rfl rfl rfl rfl (fun hc => (n_bin rfl (evi rfl hc) evc (r_lssN (b := 1)))) ?_
      refine net_cons rfl rfl (n_pick_or rfl (ev rfl) (fun h => (evi rfl h))) ?_
      refine net_cons rfl rfl (n_move rfl (ev rfl)) ?_
      refine net_if rfl rfl rfl rfl (fun hc => (n_fieldAddrO (off' := 1) rfl (ev rfl) Try.runUnderlying31 rfl Try.sizeOf24 rfl)) ?_
      refine net_if rfl rfl rfl rfl (fun hc => (n_load rfl (evi rfl hc) (ld1 hw (i := 2) rfl Try.isAgg24 rfl))) ?_
      refine net_if rfl rfl rfl rfl (fun hc => (n_fieldAddrO (off' := 3) rfl (ev rfl) Try.runUnderlying28 rfl Try.sizeOf26 rfl)) ?_
      refine net_if rfl rfl rfl rfl (fun hc => (n_fieldAddrO (off' := 3) rfl (evi rfl hc) Try.runUnderlying26 rfl Try.sizeOf24 rfl)) ?_
      refine net_if rfl rfl rfl rfl (fun hc => (n_load rfl (evi rfl hc) (ld1 hw (i := 0) rfl Try.isAgg24 rfl))) ?_
      refine net_if rfl rfl rfl rfl (fun hc => (n_bin rfl (evi rfl hc) (evi rfl hc) (r_geqN))) ?_
      refine net_cons rfl rfl (n_pick_or rfl (ev rfl) (fun h => (evi rfl h))) ?_
      refine net_nil fun a w1 hF hx => ?_
      replace hw := hw.next hx
      replace hF := hF.keep (.cons (t := 2) rfl (.cons (t := 3) rfl (.cons (t := 5) rfl (.cons (t := 6) rfl (.cons (t := 37) rfl (.cons (t := 44) rfl (.cons (t := 68) rfl .nil)))))))
      refine wpList_nil ?_
      refine wp_cond_split (hF.ev (ev rfl)) (fun h68 => ?_) (fun h68 => ?_)
      · have hz := okV_no3 (dg := dg) (nit := ni) (base := base) (n := n) (all_no hx0 (ptOk_neg h68))
        refine wp_seq (reg_seq 1 (hF _ _) (by kernel_rfl) ?_)
        refine net_cons rfl rfl (n_assign rfl evc) ?_
        refine net_nil fun a w1 hF hx => ?_
        replace hw := hw.next hx
        replace hF := hF.keep (.cons (t := 2) rfl (.cons (t := 3) rfl (.cons (t := 4) rfl (.cons (t := 5) rfl (.cons (t := 6) rfl (.cons (t := 37) rfl (.cons (t := 44) rfl (.cons (t := 68) rfl .nil))))))))
        refine wpList_nil ?_
        refine wp_ret (go_then_r (go_block_r (go_then_r (go_then_r (go_block_r (go_then_r (ret1 hF Try.results80 rfl ?_)))))))
        exact ⟨_, rfl, hw.ext, (by rw [hz]; rfl)⟩
      · have hpk := ptOk_neg h68
        refine wp_skip ?_
        refine wp_seq (reg_seq 1 (hF _ _) (by kernel_rfl) ?_)
        refine net_cons rfl rfl (n_assign rfl evc) ?_
        refine net_nil fun a w1 hF hx => ?_
        replace hw := hw.next hx
        replace hF := hF.keep (.cons (t := 2) rfl (.cons (t := 3) rfl (.cons (t := 5) rfl (.cons (t := 6) rfl (.cons (t := 7) rfl (.cons (t := 37) rfl (.cons (t := 44) rfl (.cons (t := 68) rfl .nil))))))))
        refine wpList_nil ?_
        refine wp_block ?_
        refine wp_loop_ix (α := Nat) (fun k a w1 => FrV 83 [] [(2, .is (ptr0 b2)) , (3, .is (ptr0 b3)) , (5, .is (I (i : Int))) , (6, .is (ptr0 b6)) , (7, .is (I (k : Int)))] a ∧ Own w w1 [.blk b2 28 [B8 kd, I dp, I dg, U p, U q, U g], .blk b3 45 (hcs (.slice Ai ni ci) base (.slice (some ⟨bX, oX, none⟩) n c) box chk), .blk b6 31 [U x.1, U x.2]] ∧ (k ≤ i) ∧ (∀ j y, j < k → pts[j]? = some y → ¬ y.1 = x.1)) (fun k => i - k) (0) ⟨hF.keep (.cons (t := 2) rfl (.cons (t := 3) rfl (.cons (t := 5) rfl (.cons (t := 6) rfl (.cons (t := 7) rfl (.nil)))))), hw, by omega, fun j y h => by omega⟩ ?_
        rintro k a w1 ⟨hF, hw, hk0, hkb⟩
        refine wp_seq ?_
        refine wp_seq (reg_seq 3 (hF _ _) (by kernel_rfl) ?_)
        refine net_cons rfl rfl (n_move rfl (ev rfl)) ?_
        refine net_cons rfl rfl (n_move rfl (ev rfl)) ?_
        refine net_cons rfl rfl (n_bin rfl (ev rfl) (ev rfl) r_lss) ?_
        refine net_nil fun a w1 hF hx => ?_
        replace hw := hw.next hx
        replace hF := hF.keep (.cons (t := 2) rfl (.cons (t := 3) rfl (.cons (t := 5) rfl (.cons (t := 6) rfl (.cons (t := 7) rfl (.cons (t := 71) rfl .nil))))))
        refine wpList_nil ?_
        refine wp_cond_split (hF.ev (ev rfl)) (fun h71 => ?_) (fun h71 => ?_)
        · have hk : k < i := by have := of_bool_t h71; omega
          obtain ⟨y, hy0⟩ := some_at hl (show k < n by omega)
          refine wp_skip ?_
          refine wp_seq (wp_block ?_)
          refine wp_seq (reg_draw 9 mixed (by kernel_rfl) (hF _ _) ?_)
          refine net_cons rfl rfl (n_fieldAddrO (off' := 2) rfl (ev rfl) Try.runUnderlying45 rfl Try.sizeOf43 rfl) ?_
          refine net_cons rfl rfl (n_load rfl (ev rfl) (ld1 hw (i := 1) rfl Try.isAgg43 rfl)) ?_
          refine net_cons rfl rfl (n_move rfl (ev rfl)) ?_
          refine net_cons rfl rfl (n_indexS (off' := oX + (k) * 2) rfl (ev rfl) (ev rfl) Try.underlying43 Try.sizeOf31 (by omega) rfl) ?_
          refine net_cons rfl rfl (n_fieldAddrO (off' := oX + (k) * 2 + 0) rfl (ev rfl) Try.runUnderlying31 rfl Try.sizeOf24 rfl) ?_
          refine net_cons rfl rfl (n_load rfl (ev rfl) (fun w2 hx2 => ld1R hcX (pc_x hy0) Try.isAgg24 (by omega) w2 (hw.ext.trans hx2))) ?_
          refine net_cons rfl rfl (n_fieldAddrO (off' := 0) rfl (ev rfl) Try.runUnderlying31 rfl Try.sizeOf24 rfl) ?_
          refine net_cons rfl rfl (n_load rfl (ev rfl) (ld1 hw (i := 2) rfl Try.isAgg24 rfl)) ?_
          refine net_cons rfl rfl (n_bin rfl (ev rfl) (ev rfl) (r_eqlN)) ?_
          refine net_nil fun a w1 hF hx => ?_
          replace hw := hw.next hx
          replace hF := hF.keep (.cons (t := 2) rfl (.cons (t := 3) rfl (.cons (t := 5) rfl (.cons (t := 6) rfl (.cons (t := 7) rfl (.cons (t := 71) rfl (.cons (t := 82) rfl .nil)))))))
          refine wpList_nil ?_
          refine wp_cond_split (hF.ev (ev rfl)) (fun h82 => ?_) (fun h82 => ?_)
          · have hz := okV_no1 (q := q) (hod.trans (distL_no hx0 (hitX_yes hk hy0 h82)))
            refine wp_seq (reg_seq 1 (hF _ _) (by kernel_rfl) ?_)
            refine net_cons rfl rfl (n_assign rfl evc) ?_
            refine net_nil fun a w1 hF hx => ?_
            replace hw := hw.next hx
            replace hF := hF.keep (.cons (t := 2) rfl (.cons (t := 3) rfl (.cons (t := 4) rfl (.cons (t := 5) rfl (.cons (t := 6) rfl (.cons (t := 7) rfl (.cons (t := 71) rfl (.cons (t := 82) rfl .nil))))))))
            refine wpList_nil ?_
            refine wp_ret (go_block_r (go_then_r (go_then_r (go_block_r (go_block_r (go_then_r (go_then_r (go_block_r (go_then_r (ret1 hF Try.results80 rfl ?_))))))))))
            exact ⟨_, rfl, hw.ext, (by rw [hz]; rfl)⟩
          · refine wp_skip ?_
            refine reg_seq 3 (hF _ _) (by kernel_rfl) ?_
            refine net_cons rfl rfl (n_move rfl (ev rfl)) ?_
            refine net_cons rfl rfl (n_bin rfl (ev rfl) evc (r_inc (by omega))) ?_
            refine net_cons rfl rfl (n_assign rfl (ev rfl)) ?_
            refine net_nil fun a w1 hF hx => ?_
            replace hw := hw.next hx
            replace hF := hF.keep (.cons (t := 2) rfl (.cons (t := 3) rfl (.cons (t := 5) rfl (.cons (t := 6) rfl (.cons (t := 7) rfl (.cons (t := 71) rfl (.cons (t := 82) rfl .nil)))))))
            refine wpList_nil ?_
            exact ⟨k + 1, ⟨hF.keep (.cons (t := 2) rfl (.cons (t := 3) rfl (.cons (t := 5) rfl (.cons (t := 6) rfl (.cons (t := 7) rfl (.nil)))))), hw, by omega, up_at hkb hy0 (of_bool_f h82)⟩, by omega⟩
        · obtain rfl : i = k := by have := of_bool_f h71; omega
          refine wp_exit (go_then_e (go_then_e (go_exit ?_)))
          refine reg_seq 3 (hF _ _) (by kernel_rfl) ?_
          refine net_cons rfl rfl (n_move rfl (ev rfl)) ?_
          refine net_cons rfl rfl (n_bin rfl (ev rfl) evc (r_inc (by omega))) ?_
          refine net_cons rfl rfl (n_assign rfl (ev rfl)) ?_
          refine net_nil fun a w1 hF hx => ?_
          replace hw := hw.next hx
          replace hF := hF.keep (.cons (t := 2) rfl (.cons (t := 3) rfl (.cons (t := 5) rfl (.cons (t := 6) rfl (.cons (t := 7) rfl (.cons (t := 71) rfl .nil))))))
          refine wpList_nil ?_
          exact ⟨i + 1, ⟨hF.keep (.cons (t := 2) rfl (.cons (t := 3) rfl (.cons (t := 5) rfl (.nil)))), (hw.drop (.cons_cons _ (.cons_cons _ (.cons _ .slnil)))), by omega, up_at hb1 hx0 hpk, up_at hb2 hx0 (hitX_none hkb)⟩, by omega⟩
    · obtain rfl : i = n := by have := of_bool_f h37; omega
      have hz := okV_yes hod (distL_yes hl hb2) (all_ok hl hb1)
      refine wp_exit (go_then_e (go_then_e (go_exit ?_)))
      refine wp_seq (reg_seq 1 (hF _ _) (by kernel_rfl) ?_)
      refine net_cons rfl rfl (n_assign rfl evc) ?_
      refine net_nil fun a w1 hF hx => ?_
      replace hw := hw.next hx
      replace hF := hF.keep (.cons (t := 2) rfl (.cons (t := 3) rfl (.cons (t := 4) rfl (.cons (t := 5) rfl (.cons (t := 37) rfl .nil)))))
      refine wpList_nil ?_
      refine wp_ret (ret1 hF Try.results80 rfl ?_)
      exact ⟨_, rfl, hw.ext, (by rw [hz]; rfl)⟩


theorem facR_skip {q i j : Nat} {xs : List Nat} (h : i = j) : facR q xs j (i + 1) = facR q xs j i := by rw [facR, if_pos h]
theorem facR_go {q i j x y : Nat} {xs : List Nat} (h : ¬ i = j) (hx : xs[i]? = some x) (hy : xs[j]? = some y) : facR q xs j i * x % q * invN (subN q x y) q % q = facR q xs j (i + 1) := by
  rw [facR, if_neg h, List.getD_eq_getElem?_getD, hx, List.getD_eq_getElem?_getD, hy]
  rfl
theorem sub_ne {q x y : Nat} (hx : x < q) (hy : y < q) (h : x ≠ y) : subN q x y % q ≠ 0 := by
  haveI : NeZero q := ⟨by omega⟩
  refine cst_ne_zero (q := q) ?_
  have e : cst q (subN q x y) = cst q x - cst q y := cst_minus (Nat.le_of_lt hy)
  rw [e]
  intro h0
  exact cst_ne hx hy h (by grind)
theorem subN_lt {q x y : Nat} (hq : 0 < q) : subN q x y < q := Nat.mod_lt _ hq
theorem minus_sub {q x y : Nat} (h : y < q) : (x + q - y % q) % q = subN q x y := by rw [Nat.mod_eq_of_lt h]; rfl


theorem factor_c (q j n c : Nat) (A : Option Addr) (xs : List Nat) (hqp : isP q = true) (hl : xs.length = n) (hj : j < n) (hn : n ≤ 1000000) (hb : ∀ x ∈ xs, x < q) (hd : xs.Nodup) (w : World) (hR : Rd w A (xs.map U)) : RetF Try.prog 82 [U q, .slice A n c, I (j : Int)].toArray w (.is (U (facR q xs j n))) := by
  have hq := isP_two hqp
  have hq2 := isP_max hqp
  obtain ⟨y, hy0⟩ := some_at hl hj
  have hyq := hb y (List.mem_of_getElem? hy0)
  refine enter Try.func82 rfl Try.ntmps82 rfl fun a hF => ?_
  have hw := Own.start w
  refine wp_seq (reg_seq 1 (hF _ _) (by kernel_rfl) ?_)
  refine net_cons rfl rfl (n_assign rfl evc) ?_
  refine net_nil fun a w1 hF hx => ?_
  replace hw := hw.next hx
  replace hF := hF.keep (.cons (t := 0) rfl (.cons (t := 1) rfl (.cons (t := 2) rfl (.cons (t := 6) rfl .nil))))
  refine wpList_nil ?_
  refine wp_seq (reg_seq 1 (hF _ _) (by kernel_rfl) ?_)
  refine net_cons rfl rfl (n_assign rfl evc) ?_
  refine net_nil fun a w1 hF hx => ?_
  replace hw := hw.next hx
  replace hF := hF.keep (.cons (t := 0) rfl (.cons (t := 1) rfl (.cons (t := 2) rfl (.cons (t := 6) rfl (.cons (t := 7) rfl .nil)))))
  refine wpList_nil ?_
  refine wp_seq ?_
  refine wp_seq (reg_seq 1 (hF _ _) (by kernel_rfl) ?_)
  refine net_cons rfl rfl (n_assign rfl evc) ?_
  refine net_nil fun a w1 hF hx => ?_
  replace hw := hw.next hx
  replace hF := hF.keep (.cons (t := 0) rfl (.cons (t := 1) rfl (.cons (t := 2) rfl (.cons (t := 6) rfl (.cons (t := 7) rfl (.cons (t := 8) rfl .nil))))))
  refine wpList_nil ?_
  refine wp_block ?_
  refine wp_loop_ix (α := Nat) (fun i a w1 => FrV 48 [] [(0, .is (U q)) , (1, .is (.slice A n c)) , (2, .is (I (j : Int))) , (7, .is (U (facR q xs j i))) , (8, .is (I (i : Int)))] a ∧ Own w w1 [] ∧ (i ≤ n)) (fun i => n - i) (0) ⟨hF.keep (.cons (t := 0) rfl (.cons (t := 1) rfl (.cons (t := 2) rfl (.cons (t := 7) rfl (.cons (t := 8) rfl (.nil)))))), hw, by omega⟩ ?_
  rintro i a w1 ⟨hF, hw, hi0⟩
  refine wp_seq ?_
  refine wp_seq (reg_seq 4 (hF _ _) (by kernel_rfl) ?_)
  refine net_cons rfl rfl (n_move rfl (ev rfl)) ?_
  refine net_cons rfl rfl (n_move rfl (ev rfl)) ?_
  refine net_cons rfl rfl (n_len rfl (ev rfl) Try.underlying63) ?_
  refine net_cons rfl rfl (n_bin rfl (ev rfl) (ev rfl) r_lss) ?_
  refine net_nil fun a w1 hF hx => ?_
  replace hw := hw.next hx
  replace hF := hF.keep (.cons (t := 0) rfl (.cons (t := 1) rfl (.cons (t := 2) rfl (.cons (t := 7) rfl (.cons (t := 8) rfl (.cons (t := 14) rfl .nil))))))
  refine wpList_nil ?_
  refine wp_cond_split (hF.ev (ev rfl)) (fun h14 => ?_) (fun h14 => ?_)
  · have hi : i < n := by have := of_bool_t h14; omega
    obtain ⟨x, hx0⟩ := some_at hl hi
    have hxq := hb x (List.mem_of_getElem? hx0)
    have hfl := facR_lt hq xs j i
    have hF_ := hF
    have hw_ := hw
    obtain ⟨bX, oX, rfl, hcX⟩ := hR.at_ (by rw [List.length_map]; omega)
    have hF := hF_
    have hw := hw_
    refine wp_skip ?_
    refine wp_seq (wp_block ?_)
    refine wp_seq ?_
    refine wp_seq (reg_seq 3 (hF _ _) (by kernel_rfl) ?_)
    refine net_cons rfl rfl (n_move rfl (ev rfl)) ?_
    refine net_cons rfl rfl (n_move rfl (ev rfl)) ?_
    refine net_cons rfl rfl (n_bin rfl (ev rfl) (ev rfl) r_eql) ?_
    refine net_nil fun a w1 hF hx => ?_
    replace hw := hw.next hx
    replace hF := hF.keep (.cons (t := 0) rfl (.cons (t := 1) rfl (.cons (t := 2) rfl (.cons (t := 7) rfl (.cons (t := 8) rfl (.cons (t := 14) rfl (.cons (t := 19) rfl .nil)))))))
    refine wpList_nil ?_
    refine wp_cond_split (hF.ev (ev rfl)) (fun h19 => ?_) (fun h19 => ?_)
    · have hij : i = j := by have := of_bool_t h19; omega
      rw [← facR_skip (q := q) (xs := xs) hij] at hF
      refine wp_exit (go_then_e (go_exit ?_))
      refine reg_seq 3 (hF _ _) (by kernel_rfl) ?_
      refine net_cons rfl rfl (n_move rfl (ev rfl)) ?_
      refine net_cons rfl rfl (n_bin rfl (ev rfl) evc (r_inc (by omega))) ?_
      refine net_cons rfl rfl (n_assign rfl (ev rfl)) ?_
      refine net_nil fun a w1 hF hx => ?_
      replace hw := hw.next hx
      replace hF := hF.keep (.cons (t := 0) rfl (.cons (t := 1) rfl (.cons (t := 2) rfl (.cons (t := 7) rfl (.cons (t := 8) rfl (.cons (t := 14) rfl (.cons (t := 19) rfl .nil)))))))
      refine wpList_nil ?_
      exact ⟨i + 1, ⟨hF.keep (.cons (t := 0) rfl (.cons (t := 1) rfl (.cons (t := 2) rfl (.cons (t := 7) rfl (.cons (t := 8) rfl (.nil)))))), hw, by omega⟩, by omega⟩
    · have hij : ¬ i = j := by have := of_bool_f h19; omega
      have hne : x ≠ y := fun e => hij ((List.getElem_inj (xs := xs) (h₀ := by omega) (h₁ := by omega) hd).1 (by have h1 := List.getElem?_eq_some_iff.1 hx0; have h2 := List.getElem?_eq_some_iff.1 hy0; rw [h1.2, h2.2, e]))
      have hsn := sub_ne hxq hyq hne
      have hsl := subN_lt (q := q) (x := x) (y := y) (by omega)
      have hil := invN_lt (b := subN q x y) (q := q) (by omega)
      refine wp_skip ?_
      refine wp_seq (reg_draw 17 mixed (by kernel_rfl) (hF _ _) ?_)
      refine net_cons rfl rfl (n_move rfl (ev rfl)) ?_
      refine net_cons rfl rfl (n_move rfl (ev rfl)) ?_
      refine net_cons rfl rfl (n_move rfl (ev rfl)) ?_
      refine net_cons rfl rfl (n_indexS (off' := oX + (i)) rfl (ev rfl) (ev rfl) Try.underlying63 Try.sizeOf24 (by omega) (by omega)) ?_
      refine net_cons rfl rfl (n_load rfl (ev rfl) (fun w2 hx2 => ld1R hcX (map_at hx0) Try.isAgg24 (by omega) w2 (hw.ext.trans hx2))) ?_
      refine net_cons rfl rfl (n_move rfl (ev rfl)) ?_
      refine net_cons rfl rfl (n_move rfl (ev rfl)) ?_
      refine net_cons rfl rfl (n_indexS (off' := oX + (j)) rfl (ev rfl) (ev rfl) Try.underlying63 Try.sizeOf24 (by omega) (by omega)) ?_
      refine net_cons rfl rfl (n_load rfl (ev rfl) (fun w2 hx2 => ld1R hcX (map_at hy0) Try.isAgg24 (by omega) w2 (hw.ext.trans hx2))) ?_
      refine net_cons rfl rfl (n_to (n_ret rfl Try.call126 (.cons (ev rfl) (.cons (ev rfl) (.cons (ev rfl) .nil))) (fun _ hx => minus_c q x y (by omega) (by omega) hxq (by omega) _)) (congrArg (fun n : Nat => U n) (minus_sub hyq))) ?_
      refine net_cons rfl rfl (n_move rfl (ev rfl)) ?_
      refine net_cons rfl rfl (n_ret rfl Try.call125 (.cons (ev rfl) (.cons (ev rfl) .nil)) (fun _ hx => Inverse_c (subN q x y) q (by omega) (by omega) (by omega) (gcd_of_ne hqp hsn) _)) ?_
      refine net_cons rfl rfl (n_move rfl (ev rfl)) ?_
      refine net_cons rfl rfl (n_extract rfl (ev rfl) rfl) ?_
      refine net_cons rfl rfl (n_extract rfl (ev rfl) rfl) ?_
      refine net_cons rfl rfl (n_assign rfl (ev rfl)) ?_
      refine net_cons rfl rfl (n_assign rfl (ev rfl)) ?_
      refine net_nil fun a w1 hF hx => ?_
      replace hw := hw.next hx
      replace hF := hF.keep (.cons (t := 0) rfl (.cons (t := 1) rfl (.cons (t := 2) rfl (.cons (t := 7) rfl (.cons (t := 8) rfl (.cons (t := 9) rfl (.cons (t := 14) rfl (.cons (t := 19) rfl .nil))))))))
      refine wpList_nil ?_
      refine reg_seq 13 (hF _ _) (by kernel_rfl) ?_
      refine net_cons rfl rfl (n_move rfl (ev rfl)) ?_
      refine net_cons rfl rfl (n_move rfl (ev rfl)) ?_
      refine net_cons rfl rfl (n_move rfl (ev rfl)) ?_
      refine net_cons rfl rfl (n_indexS (off' := oX + (i)) rfl (ev rfl) (ev rfl) Try.underlying63 Try.sizeOf24 (by omega) (by omega)) ?_
      refine net_cons rfl rfl (n_load rfl (ev rfl) (fun w2 hx2 => ld1R hcX (map_at hx0) Try.isAgg24 (by omega) w2 (hw.ext.trans hx2))) ?_
      refine net_cons rfl rfl (n_bin rfl (ev rfl) (ev rfl) (r_mulN (mul_le32 (by omega) (by omega)))) ?_
      refine net_cons rfl rfl (n_move rfl (ev rfl)) ?_
      refine net_cons rfl rfl (n_bin rfl (ev rfl) (ev rfl) (r_remN (by omega))) ?_
      refine net_cons rfl rfl (n_move rfl (ev rfl)) ?_
      refine net_cons rfl rfl (n_bin rfl (ev rfl) (ev rfl) (r_mulN (mul_le32 (by have := Nat.mod_lt (facR q xs j i * x) (show 0 < q by omega); omega) (by omega)))) ?_
      refine net_cons rfl rfl (n_move rfl (ev rfl)) ?_
      refine net_cons rfl rfl (n_to (n_bin rfl (ev rfl) (ev rfl) (r_remN (by omega))) (congrArg (fun n : Nat => U n) (facR_go hij hx0 hy0))) ?_
      refine net_cons rfl rfl (n_assign rfl (ev rfl)) ?_
      refine net_nil fun a w1 hF hx => ?_
      replace hw := hw.next hx
      replace hF := hF.keep (.cons (t := 0) rfl (.cons (t := 1) rfl (.cons (t := 2) rfl (.cons (t := 7) rfl (.cons (t := 8) rfl (.cons (t := 9) rfl (.cons (t := 14) rfl (.cons (t := 19) rfl .nil))))))))
      refine wpList_nil ?_
      refine reg_seq 3 (hF _ _) (by kernel_rfl) ?_
      refine net_cons rfl rfl (n_move rfl (ev rfl)) ?_
      refine net_cons rfl rfl (n_bin rfl (ev rfl) evc (r_inc (by omega))) ?_
      refine net_cons rfl rfl (n_assign rfl (ev rfl)) ?_
      refine net_nil fun a w1 hF hx => ?_
      replace hw := hw.next hx
      replace hF := hF.keep (.cons (t := 0) rfl (.cons (t := 1) rfl (.cons (t := 2) rfl (.cons (t := 7) rfl (.cons (t := 8) rfl (.cons (t := 9) rfl (.cons (t := 14) rfl (.cons (t := 19) rfl .nil))))))))
      refine wpList_nil ?_
      exact ⟨i + 1, ⟨hF.keep (.cons (t := 0) rfl (.cons (t := 1) rfl (.cons (t := 2) rfl (.cons (t := 7) rfl (.cons (t := 8) rfl (.nil)))))), hw, by omega⟩, by omega⟩
  · obtain rfl : i = n := by have := of_bool_f h14; omega
    refine wp_exit (go_then_e (go_then_e (go_exit ?_)))
    refine wp_seq (reg_seq 2 (hF _ _) (by kernel_rfl) ?_)
    refine net_cons rfl rfl (n_move rfl (ev rfl)) ?_
    refine net_cons rfl rfl (n_assign rfl (ev rfl)) ?_
    refine net_nil fun a w1 hF hx => ?_
    replace hw := hw.next hx
    replace hF := hF.keep (.cons (t := 0) rfl (.cons (t := 1) rfl (.cons (t := 2) rfl (.cons (t := 6) rfl (.cons (t := 7) rfl (.cons (t := 8) rfl (.cons (t := 14) rfl .nil)))))))
    refine wpList_nil ?_
    refine wp_ret (ret1 hF Try.results82 rfl ?_)
    exact ⟨_, rfl, hw.ext, rfl⟩


theorem Rd.cells {w : World} {b off : Nat} {xs : List Value} (h : Rd w (some ⟨b, off, none⟩) xs) : ∀ j u, xs[j]? = some u → w.cell? ⟨b, off + j, none⟩ = some u := by
  rcases h with rfl | ⟨b', off', he, h⟩
  · intro j u hj
    cases hj
  · injection he with he
    injection he with h1 h2
    subst h1 h2
    exact h
/-! ### what Open returns -/
def allP (p sx base sy : Nat) (pts : List (Nat × Nat)) : List (Nat × Nat) := (sx, base ^ sy % p) :: pts
def zP (p q : Nat) (all : List (Nat × Nat)) (n : Nat) : Nat → Nat
  | 0 => 1
  | j + 1 => zP p q all n j * (ptY all j ^ facR q (all.map (·.1)) j n % p) % p
theorem zP_le {p q : Nat} {all : List (Nat × Nat)} {n : Nat} (hp : 2 ≤ p) : ∀ j, zP p q all n j < p
  | 0 => by rw [zP]; omega
  | j + 1 => Nat.mod_lt _ (by omega)
theorem zP_step {p q j n : Nat} {all : List (Nat × Nat)} {x : Nat × Nat} (hx : all[j]? = some x) : zP p q all n j * (x.2 ^ facR q (all.map (·.1)) j n % p) % p = zP p q all n (j + 1) := by
  rw [zP]
  simp only [ptY, List.getD_eq_getElem?_getD, hx, Option.getD_some]
def openK (p q n sx base sy : Nat) (pts : List (Nat × Nat)) (box : Key) : Key := decK (derK key0 42 (zP p q (allP p sx base sy pts) (n + 1) (n + 1))) box
def openR (kd : Nat) (dp dg : Int) (p q g ni base n : Nat) (pts : List (Nat × Nat)) (sx sy : Nat) (box chk : Key) : Key × Int :=
  if okS kd dp dg p q g then (if okH p q dg ni base n pts sx sy then (if hitX pts sx then (key0, 6) else
    (if derK (openK p q n sx base sy pts box) 53 0 = chk then (openK p q n sx base sy pts box, 0) else (key0, 6))) else (key0, 8)) else (key0, 30)
section
variable {kd : Nat} {dp dg : Int} {p q g ni base n : Nat} {pts : List (Nat × Nat)} {sx sy : Nat} {box chk : Key}
theorem openR_no (h : okS kd dp dg p q g = false) : openR kd dp dg p q g ni base n pts sx sy box chk = (key0, 30) := by simp [openR, h]
theorem openR_bad (h : okS kd dp dg p q g = true) (h2 : okH p q dg ni base n pts sx sy = false) : openR kd dp dg p q g ni base n pts sx sy box chk = (key0, 8) := by simp [openR, h, h2]
theorem openR_hit (h : okS kd dp dg p q g = true) (h2 : okH p q dg ni base n pts sx sy = true) (h3 : hitX pts sx = true) : openR kd dp dg p q g ni base n pts sx sy box chk = (key0, 6) := by simp [openR, h, h2, h3]
theorem openR_wrong (h : okS kd dp dg p q g = true) (h2 : okH p q dg ni base n pts sx sy = true) (h3 : hitX pts sx = false) (h4 : ¬ derK (openK p q n sx base sy pts box) 53 0 = chk) : openR kd dp dg p q g ni base n pts sx sy box chk = (key0, 6) := by simp [openR, h, h2, h3, h4]
theorem openR_ok (h : okS kd dp dg p q g = true) (h2 : okH p q dg ni base n pts sx sy = true) (h3 : hitX pts sx = false) (h4 : derK (openK p q n sx base sy pts box) 53 0 = chk) : openR kd dp dg p q g ni base n pts sx sy box chk = (openK p q n sx base sy pts box, 0) := by simp [openR, h, h2, h3, h4]
theorem okH_all (h : okH p q dg ni base n pts sx sy = true) : (1 ≤ base ∧ base < p) ∧ (n : Int) = dg ∧ distL pts = true ∧ (∀ x ∈ pts, x.1 < q ∧ x.2 < p) ∧ (1 ≤ sx ∧ sx < q) ∧ sy < q := by
  simp only [okH, okD, ptOk, Bool.and_eq_true, decide_eq_true_eq, List.all_eq_true, List.mem_append, List.mem_singleton] at h
  obtain ⟨⟨⟨⟨⟨⟨h1, h2⟩, h3⟩, h4⟩, h5⟩, h6⟩, h7⟩ := h
  refine ⟨⟨h2, h3⟩, h4, h5, fun x hx => ?_, ?_, h7⟩
  · have := h6 x (.inl hx)
    exact ⟨this.1.1.2, this.2⟩
  · have := h6 (sx, 1) (.inr rfl)
    exact ⟨this.1.1.1, this.1.1.2⟩
theorem okH_neg {b : Bool} (hp : 2 ≤ p) (h : (((!okV p q dg ni base n pts || decide (sx < 1)) || decide (q ≤ sx)) || decide (q ≤ sy)) = b) : okH p q dg ni base n pts sx sy = !b := by
  subst h
  unfold okH okV
  rw [List.all_append, Bool.eq_iff_iff]
  simp only [List.all_cons, List.all_nil, ptOk, Bool.and_eq_true, decide_eq_true_eq, Bool.not_eq_true', Bool.or_eq_false_iff, decide_eq_false_iff_not, Bool.not_eq_false', and_true]
  constructor
  · rintro ⟨⟨h1, h2, h3⟩, h4⟩
    exact ⟨⟨⟨⟨h1, h2⟩, by omega⟩, by omega⟩, by omega⟩
  · rintro ⟨⟨⟨⟨h1, h2⟩, h3⟩, h4⟩, h5⟩
    exact ⟨⟨h1, h2, by omega⟩, by omega⟩
theorem allP_len (hl : pts.length = n) : (allP p sx base sy pts).length = n + 1 := by rw [allP, List.length_cons, hl]
theorem allP_lt (hp : 0 < p) (hx : sx < q) (h : ∀ x ∈ pts, x.1 < q ∧ x.2 < p) : ∀ x ∈ allP p sx base sy pts, x.1 < q ∧ x.2 < p := by
  intro x hm
  rcases List.mem_cons.1 hm with rfl | hm
  · exact ⟨hx, Nat.mod_lt _ hp⟩
  · exact h x hm
theorem allP_dist (h : distL pts = true) : distL (allP p sx base sy pts) = !hitX pts sx := by rw [allP, distL_cons, h, Bool.and_true]
theorem allP_nodup (h : distL pts = true) (h2 : hitX pts sx = false) : ((allP p sx base sy pts).map fun x : Nat × Nat => x.1).Nodup := by
  have h1 : distL (allP p sx base sy pts) = true := by simp [allP_dist h, h2]
  rw [distL_iff, decide_eq_true_eq] at h1
  exact h1
theorem map_lt {l : List (Nat × Nat)} {q p : Nat} (h : ∀ x ∈ l, x.1 < q ∧ x.2 < p) : ∀ x ∈ l.map (·.1), x < q := by
  intro x hx
  obtain ⟨y, hy, rfl⟩ := List.mem_map.1 hx
  exact (h y hy).1
end
theorem facA_skip {q i j : Nat} {xs : List Nat} (h : i = j) : facA q xs j (i + 1) = facA q xs j i := by rw [facA, if_pos h]
theorem facU_skip {q i j : Nat} {xs : List Nat} (h : i = j) : facU q xs j (i + 1) = facU q xs j i := by rw [facU, if_pos h]
theorem facA_go {q i j : Nat} {l : List (Nat × Nat)} {y : Nat × Nat} (h : ¬ i = j) (hy : l[i]? = some y) : mulF q [facA q (l.map (·.1)) j i, y.1] = facA q (l.map (·.1)) j (i + 1) := by
  rw [mulF2, facA, if_neg h, List.getD_eq_getElem?_getD, map_at hy]
  rfl
theorem facU_go {q i j : Nat} {l : List (Nat × Nat)} {x y : Nat × Nat} (h : ¬ i = j) (hx : l[j]? = some x) (hy : l[i]? = some y) : mulF q [facU q (l.map (·.1)) j i, (y.1 + q - x.1) % q] = facU q (l.map (·.1)) j (i + 1) := by
  rw [mulF2, facU, if_neg h, List.getD_eq_getElem?_getD, map_at hy, List.getD_eq_getElem?_getD, map_at hx]
  rfl


theorem Open_c (kd : Nat) (dp dg : Int) (p q g : Nat) (ni ci base n c : Nat) (Ai A : Option Addr) (pts : List (Nat × Nat)) (box chk : Key) (r : Int) (labs : Value) (sx sy : Nat) (hp : p < 18446744073709551616) (hq : q < 18446744073709551616) (hg : g < 18446744073709551616) (hl : pts.length = n) (hcp : n ≤ c) (hn : n ≤ 8796093021952) (w : World) (hR : Rd w A (pc pts)) : RetF Try.prog 27 [SV kd dp dg p q g, SecV r labs sx sy, HV (.slice Ai ni ci) base (.slice A n c) box chk].toArray w (.is (.tuple #[K (openR kd dp dg p q g ni base n pts sx sy box chk).1, I (openR kd dp dg p q g ni base n pts sx sy box chk).2])) := by
  refine enter Try.func27 rfl Try.ntmps27 rfl fun a hF => ?_
  have hw := Own.start w
  refine wp_seq (wp_region_lit ?_)
  refine t_net 0 1 (by kernel_rfl) rfl hF ?_
  refine net_cons rfl rfl (n_box rfl (ev rfl) rfl) ?_
  refine net_nil fun a w1 hF hx => ?_
  obtain ⟨b3, h_, hw⟩ := hw.blk hx (hF.at_ 3 _ rfl)
  replace hF := hF.now h_
  replace hF := hF.keep (.cons (t := 1) rfl (.cons (t := 2) rfl (.cons (t := 3) rfl .nil)))
  refine t_net 1 1 (by kernel_rfl) rfl hF ?_
  refine net_cons rfl rfl (n_box rfl (ev rfl) rfl) ?_
  refine net_nil fun a w1 hF hx => ?_
  obtain ⟨b4, h_, hw⟩ := hw.blk hx (hF.at_ 4 _ rfl)
  replace hF := hF.now h_
  replace hF := hF.keep (.cons (t := 2) rfl (.cons (t := 3) rfl (.cons (t := 4) rfl .nil)))
  refine t_net 2 1 (by kernel_rfl) rfl hF ?_
  refine net_cons rfl rfl (n_box rfl (ev rfl) rfl) ?_
  refine net_nil fun a w1 hF hx => ?_
  obtain ⟨b5, h_, hw⟩ := hw.blk hx (hF.at_ 5 _ rfl)
  replace hF := hF.now h_
  replace hF := hF.keep (.cons (t := 3) rfl (.cons (t := 4) rfl (.cons (t := 5) rfl .nil)))
  refine t_net 3 1 (by kernel_rfl) rfl hF ?_
  refine net_cons rfl rfl (n_alloc rfl Try.zeroValue23 rfl) ?_
  refine net_nil fun a w1 hF hx => ?_
  obtain ⟨b6, h_, hw⟩ := hw.blk hx (hF.at_ 6 _ rfl)
  replace hF := hF.now h_
  replace hF := hF.keep (.cons (t := 3) rfl (.cons (t := 4) rfl (.cons (t := 5) rfl (.cons (t := 6) rfl .nil))))
  refine t_net 4 1 (by kernel_rfl) rfl hF ?_
  refine net_cons rfl rfl (n_assign rfl evc) ?_
  refine net_nil fun a w1 hF hx => ?_
  replace hw := hw.next hx
  replace hF := hF.keep (.cons (t := 3) rfl (.cons (t := 4) rfl (.cons (t := 5) rfl (.cons (t := 6) rfl (.cons (t := 7) rfl .nil)))))
  refine wpList_nil ?_
  refine wp_seq ?_
  refine wp_seq (reg_seq 3 (hF _ _) (by kernel_rfl) ?_)
  refine net_cons rfl rfl (n_load rfl (ev rfl) (ldN hw (i := 0) (vs := _) rfl Try.isAgg28 Try.sizeOf28 rfl rfl)) ?_
  refine net_cons rfl rfl (n_ret rfl Try.call63 (.cons (ev rfl) .nil) (fun _ hx => (valid_c _ _ _ _ _ _ hp hq hg _))) ?_
  refine net_cons rfl rfl (n_not rfl (ev rfl)) ?_
  refine net_nil fun a w1 hF hx => ?_
  replace hw := hw.next hx
  replace hF := hF.keep (.cons (t := 3) rfl (.cons (t := 4) rfl (.cons (t := 5) rfl (.cons (t := 6) rfl (.cons (t := 7) rfl (.cons (t := 20) rfl .nil))))))
  refine wpList_nil ?_
  refine wp_cond_split (hF.ev (ev rfl)) (fun h20 => ?_) (fun h20 => ?_)
  · have hz : okS kd dp dg p q g = false := by simpa using h20
    refine wp_seq (wp_region_lit ?_)
    refine t_net 0 1 (by kernel_rfl) rfl hF ?_
    refine net_cons rfl rfl (n_build rfl .nil build_23_) ?_
    refine net_nil fun a w1 hF hx => ?_
    replace hw := hw.next hx
    replace hF := hF.keep (.cons (t := 3) rfl (.cons (t := 4) rfl (.cons (t := 5) rfl (.cons (t := 6) rfl (.cons (t := 7) rfl (.cons (t := 20) rfl (.cons (t := 21) rfl .nil)))))))
    refine t_store (i := 3) rfl rfl rfl hF hw rfl (ev rfl) (ev rfl) rfl (kc_one _) Try.sizeOf23 (kc_len _) (by first | decide | (rw [kc_len]; decide)) (seg_whole (by rw [kc_len]; rfl)) fun w1 hw => ?_
    refine t_net 2 1 (by kernel_rfl) rfl hF ?_
    refine net_cons rfl rfl (n_assign rfl evc) ?_
    refine net_nil fun a w1 hF hx => ?_
    replace hw := hw.next hx
    replace hF := hF.keep (.cons (t := 3) rfl (.cons (t := 4) rfl (.cons (t := 5) rfl (.cons (t := 6) rfl (.cons (t := 7) rfl (.cons (t := 20) rfl .nil))))))
    refine wpList_nil ?_
    refine wp_ret (go_then_r (retc2 hF Try.results27 rfl (ldN hw (i := 3) (vs := _) rfl Try.isAgg23 Try.sizeOf23 (kc_len _) (cut_whole (kc_len _)) _ (Ext.refl _)) rfl ?_))
    exact ⟨_, rfl, hw.ext, (by rw [openR_no hz]; rfl)⟩
  · have hz : okS kd dp dg p q g = true := by simpa using h20
    obtain ⟨hz1, hz2, hz3, hz4, hz5, hz6, hz7⟩ := okS_all hz
    obtain ⟨hz8, hz9, hz10, hz11, hz12⟩ := okG_q hz6
    obtain ⟨hpp, hqp, _⟩ := okG_all hz6
    refine wp_skip ?_
    refine wp_seq ?_
    refine wp_seq (reg_seq 5 (hF _ _) (by kernel_rfl) ?_)
    refine net_cons rfl rfl (n_load rfl (ev rfl) (ldN hw (i := 0) (vs := _) rfl Try.isAgg28 Try.sizeOf28 rfl rfl)) ?_
    refine net_cons rfl rfl (n_load rfl (ev rfl) (ldN hw (i := 1) (vs := _) rfl Try.isAgg33 Try.sizeOf33 rfl rfl)) ?_
    refine net_cons rfl rfl (n_load rfl (ev rfl) (ldN hw (i := 2) (vs := _) rfl Try.isAgg45 Try.sizeOf45 (hcs_len _ _ _ _ _) (cut_whole (hcs_len _ _ _ _ _)))) ?_
    refine net_cons rfl rfl (n_ret rfl Try.call74 (.cons (ev rfl) (.cons (ev rfl) (.cons (ev rfl) .nil))) (fun _ hx => (fits_c kd dp dg p q g ni ci base n c Ai A pts box chk r labs sx sy hl hcp (by omega) _ (hR.ext (hw.ext.trans hx))))) ?_
    refine net_cons rfl rfl (n_not rfl (ev rfl)) ?_
    refine net_nil fun a w1 hF hx => ?_
    replace hw := hw.next hx
    replace hF := hF.keep (.cons (t := 3) rfl (.cons (t := 4) rfl (.cons (t := 5) rfl (.cons (t := 6) rfl (.cons (t := 7) rfl (.cons (t := 20) rfl (.cons (t := 26) rfl .nil)))))))
    refine wpList_nil ?_
    refine wp_cond_split (hF.ev (ev rfl)) (fun h26 => ?_) (fun h26 => ?_)
    · have hz2 : okH p q dg ni base n pts sx sy = false := by simpa using h26
      refine wp_seq (wp_region_lit ?_)
      refine t_net 0 1 (by kernel_rfl) rfl hF ?_
      refine net_cons rfl rfl (n_build rfl .nil build_23_) ?_
      refine net_nil fun a w1 hF hx => ?_
      replace hw := hw.next hx
      replace hF := hF.keep (.cons (t := 3) rfl (.cons (t := 4) rfl (.cons (t := 5) rfl (.cons (t := 6) rfl (.cons (t := 7) rfl (.cons (t := 20) rfl (.cons (t := 26) rfl (.cons (t := 27) rfl .nil))))))))
      refine t_store (i := 3) rfl rfl rfl hF hw rfl (ev rfl) (ev rfl) rfl (kc_one _) Try.sizeOf23 (kc_len _) (by first | decide | (rw [kc_len]; decide)) (seg_whole (by rw [kc_len]; rfl)) fun w1 hw => ?_
      refine t_net 2 1 (by kernel_rfl) rfl hF ?_
      refine net_cons rfl rfl (n_assign rfl evc) ?_
      refine net_nil fun a w1 hF hx => ?_
      replace hw := hw.next hx
      replace hF := hF.keep (.cons (t := 3) rfl (.cons (t := 4) rfl (.cons (t := 5) rfl (.cons (t := 6) rfl (.cons (t := 7) rfl (.cons (t := 20) rfl (.cons (t := 26) rfl .nil)))))))
      refine wpList_nil ?_
      refine wp_ret (go_then_r (retc2 hF Try.results27 rfl (ldN hw (i := 3) (vs := _) rfl Try.isAgg23 Try.sizeOf23 (kc_len _) (cut_whole (kc_len _)) _ (Ext.refl _)) rfl ?_))
      exact ⟨_, rfl, hw.ext, (by rw [openR_bad hz hz2]; rfl)⟩
    · have hz2 : okH p q dg ni base n pts sx sy = true := by simpa using h26
      obtain ⟨⟨hh1, hh2⟩, hh3, hh4, hh5, ⟨hh6, hh7⟩, hh8⟩ := okH_all hz2
      have hal := allP_lt (base := base) (sy := sy) (show 0 < p by omega) hh7 hh5
      have hll := allP_len (p := p) (sx := sx) (base := base) (sy := sy) hl
      have hxl := map_lt hal
      have hxlen : ((allP p sx base sy pts).map fun x : Nat × Nat => x.1).length = n + 1 := by rw [List.length_map, hll]
      refine wp_skip ?_
      replace hw : Own w _ [.blk b3 28 [B8 kd, I dp, I dg, U p, U q, U g], .blk b4 33 [I r, labs, U sx, U sy], .blk b5 45 (hcs (.slice Ai ni ci) base (.slice A n c) box chk), .blk b6 23 (kc key0)] := hw
      refine wp_seq (reg_draw 14 mixed (by kernel_rfl) (hF _ _) ?_)
      refine net_cons rfl rfl (n_fieldAddrO (off' := 2) rfl (ev rfl) Try.runUnderlying33 rfl Try.sizeOf31 rfl) ?_
      refine net_cons rfl rfl (n_fieldAddrO (off' := 2) rfl (ev rfl) Try.runUnderlying31 rfl Try.sizeOf24 rfl) ?_
      refine net_cons rfl rfl (n_load rfl (ev rfl) (ld1 hw (i := 1) rfl Try.isAgg24 rfl)) ?_
      refine net_cons rfl rfl (n_load rfl (ev rfl) (ldN hw (i := 0) (vs := _) rfl Try.isAgg28 Try.sizeOf28 rfl rfl)) ?_
      refine net_cons rfl rfl (n_fieldAddrO (off' := 1) rfl (ev rfl) Try.runUnderlying45 rfl Try.sizeOf24 rfl) ?_
      refine net_cons rfl rfl (n_load rfl (ev rfl) (ld1 hw (i := 2) rfl Try.isAgg24 rfl)) ?_
      refine net_cons rfl rfl (n_fieldAddrO (off' := 2) rfl (ev rfl) Try.runUnderlying33 rfl Try.sizeOf31 rfl) ?_
      refine net_cons rfl rfl (n_fieldAddrO (off' := 3) rfl (ev rfl) Try.runUnderlying31 rfl Try.sizeOf24 rfl) ?_
      refine net_cons rfl rfl (n_load rfl (ev rfl) (ld1 hw (i := 1) rfl Try.isAgg24 rfl)) ?_
      refine net_cons rfl rfl (n_ret rfl Try.call69 (.cons (ev rfl) (.cons (ev rfl) (.cons (ev rfl) .nil))) (fun _ hx => (spow_c _ _ _ _ _ _ base sy (by omega) (by omega) (by omega) (by omega) _))) ?_
      refine net_cons rfl rfl (n_build rfl (.cons (ev rfl) (.cons (ev rfl) .nil)) build_31_0_1) ?_
      refine net_cons rfl rfl (n_bsl sl43 rfl (.cons (ev rfl) .nil) (.cons rfl rfl .nil) rfl (by decide) (by decide)) ?_
      refine net_cons rfl rfl (n_fieldAddrO (off' := 2) rfl (ev rfl) Try.runUnderlying45 rfl Try.sizeOf43 rfl) ?_
      refine net_cons rfl rfl (n_load rfl (ev rfl) (ld1 hw (i := 2) rfl Try.isAgg43 rfl)) ?_
      refine net_nil fun a w1 hF hx => ?_
      obtain ⟨b39, h_, hw⟩ := hw.cap hx (hF.at_ 39 _ rfl)
      replace hF := hF.now (v := .slice (some ⟨b39, 0, none⟩) (1) (1)) h_
      replace hF := hF.keep (.cons (t := 3) rfl (.cons (t := 4) rfl (.cons (t := 5) rfl (.cons (t := 6) rfl (.cons (t := 7) rfl (.cons (t := 20) rfl (.cons (t := 26) rfl (.cons (t := 39) rfl (.cons (t := 41) rfl .nil)))))))))
      replace hw := hw.blkRow (i := 4) (sz := 2) (n := 1) (by rfl) (by rfl) (by decide)
      refine t_append (i := 4) sl43 rfl rfl rfl (by decide) hF hw rfl (ev rfl) (ev rfl) (hR.ext hw.ext) (by rw [pc_len, hl]) (one_pc pts) (by simp only [maxLen]; omega) (by omega) fun v42 a w1 hF hw => ?_
      replace hF := hF.keep (.cons (t := 3) rfl (.cons (t := 4) rfl (.cons (t := 5) rfl (.cons (t := 6) rfl (.cons (t := 7) rfl (.cons (t := 20) rfl (.cons (t := 26) rfl (.cons (t := 42) rfl .nil))))))))
      rw [Nat.add_comm 1 n] at hw
      replace hw : Own w _ [.blk b3 28 [B8 kd, I dp, I dg, U p, U q, U g], .blk b4 33 [I r, labs, U sx, U sy], .blk b5 45 (hcs (.slice Ai ni ci) base (.slice A n c) box chk), .blk b6 23 (kc key0), .row v42 31 2 (n + 1) (pc (allP p sx base sy pts))] := hw
      obtain ⟨A8, c8, rfl, hle8, _, _⟩ := hw.rd (i := 4) rfl
      refine t_net 15 1 (by kernel_rfl) rfl hF ?_
      refine net_cons rfl rfl (n_assign rfl (ev rfl)) ?_
      refine net_nil fun a w1 hF hx => ?_
      replace hw := hw.next hx
      replace hF := hF.keep (.cons (t := 3) rfl (.cons (t := 4) rfl (.cons (t := 5) rfl (.cons (t := 6) rfl (.cons (t := 7) rfl (.cons (t := 8) rfl (.cons (t := 20) rfl (.cons (t := 26) rfl .nil))))))))
      refine wpList_nil ?_
      refine wp_seq ?_
      obtain ⟨_, _, hse_, _, hR8, _⟩ := hw.rd (i := 4) rfl
      injection hse_ with hA_ _ _
      subst hA_
      refine wp_seq (reg_seq 3 (hF _ _) (by kernel_rfl) ?_)
      refine net_cons rfl rfl (n_move rfl (ev rfl)) ?_
      refine net_cons rfl rfl (n_ret rfl Try.call75 (.cons (ev rfl) .nil) (fun _ hx => (distinct_c (n + 1) c8 A8 (allP p sx base sy pts) hll hle8 (by omega) _ (hR8.ext hx)))) ?_
      refine net_cons rfl rfl (n_not rfl (ev rfl)) ?_
      refine net_nil fun a w1 hF hx => ?_
      replace hw := hw.next hx
      replace hF := hF.keep (.cons (t := 3) rfl (.cons (t := 4) rfl (.cons (t := 5) rfl (.cons (t := 6) rfl (.cons (t := 7) rfl (.cons (t := 8) rfl (.cons (t := 20) rfl (.cons (t := 26) rfl (.cons (t := 45) rfl .nil)))))))))
      refine wpList_nil ?_
      refine wp_cond_split (hF.ev (ev rfl)) (fun h45 => ?_) (fun h45 => ?_)
      · have hz3 : hitX pts sx = true := by rw [allP_dist hh4] at h45; simpa using h45
        refine wp_seq (wp_region_lit ?_)
        refine t_net 0 1 (by kernel_rfl) rfl hF ?_
        refine net_cons rfl rfl (n_build rfl .nil build_23_) ?_
        refine net_nil fun a w1 hF hx => ?_
        replace hw := hw.next hx
        replace hF := hF.keep (.cons (t := 3) rfl (.cons (t := 4) rfl (.cons (t := 5) rfl (.cons (t := 6) rfl (.cons (t := 7) rfl (.cons (t := 8) rfl (.cons (t := 20) rfl (.cons (t := 26) rfl (.cons (t := 45) rfl (.cons (t := 46) rfl .nil))))))))))
        refine t_store (i := 3) rfl rfl rfl hF hw rfl (ev rfl) (ev rfl) rfl (kc_one _) Try.sizeOf23 (kc_len _) (by first | decide | (rw [kc_len]; decide)) (seg_whole (by simp only [kc_len])) fun w1 hw => ?_
        refine t_net 2 1 (by kernel_rfl) rfl hF ?_
        refine net_cons rfl rfl (n_assign rfl evc) ?_
        refine net_nil fun a w1 hF hx => ?_
        replace hw := hw.next hx
        replace hF := hF.keep (.cons (t := 3) rfl (.cons (t := 4) rfl (.cons (t := 5) rfl (.cons (t := 6) rfl (.cons (t := 7) rfl (.cons (t := 8) rfl (.cons (t := 20) rfl (.cons (t := 26) rfl (.cons (t := 45) rfl .nil)))))))))
        refine wpList_nil ?_
        refine wp_ret (go_then_r (retc2 hF Try.results27 rfl (ldN hw (i := 3) (vs := _) rfl Try.isAgg23 Try.sizeOf23 (kc_len _) (cut_whole (kc_len _)) _ (Ext.refl _)) rfl ?_))
        exact ⟨_, rfl, hw.ext, (by rw [openR_hit hz hz2 hz3]; rfl)⟩
      · have hz3 : hitX pts sx = false := by rw [allP_dist hh4] at h45; simpa using h45
        have hnd : ((allP p sx base sy pts).map fun x : Nat × Nat => x.1).Nodup := allP_nodup hh4 hz3
        refine wp_skip ?_
        refine wp_seq (reg_seq 5 (hF _ _) (by kernel_rfl) ?_)
        refine net_cons rfl rfl (n_fieldAddrO (off' := 3) rfl (ev rfl) Try.runUnderlying28 rfl Try.sizeOf26 rfl) ?_
        refine net_cons rfl rfl (n_fieldAddrO (off' := 4) rfl (ev rfl) Try.runUnderlying26 rfl Try.sizeOf24 rfl) ?_
        refine net_cons rfl rfl (n_load rfl (ev rfl) (ld1 hw (i := 0) rfl Try.isAgg24 rfl)) ?_
        refine net_cons rfl rfl (n_assign rfl (ev rfl)) ?_
        refine net_cons rfl rfl (n_assign rfl evc) ?_
        refine net_nil fun a w1 hF hx => ?_
        replace hw := hw.next hx
        replace hF := hF.keep (.cons (t := 3) rfl (.cons (t := 4) rfl (.cons (t := 5) rfl (.cons (t := 6) rfl (.cons (t := 7) rfl (.cons (t := 8) rfl (.cons (t := 9) rfl (.cons (t := 10) rfl (.cons (t := 20) rfl (.cons (t := 26) rfl (.cons (t := 45) rfl .nil)))))))))))
        refine wpList_nil ?_
        refine wp_seq ?_
        refine wp_seq (reg_seq 3 (hF _ _) (by kernel_rfl) ?_)
        refine net_cons rfl rfl (n_move rfl (ev rfl)) ?_
        refine net_cons rfl rfl (n_len rfl (ev rfl) Try.underlying43) ?_
        refine net_cons rfl rfl (n_move rfl evc) ?_
        refine net_nil fun a w1 hF hx => ?_
        replace hw := hw.next hx
        replace hF := hF.keep (.cons (t := 3) rfl (.cons (t := 4) rfl (.cons (t := 5) rfl (.cons (t := 6) rfl (.cons (t := 7) rfl (.cons (t := 8) rfl (.cons (t := 9) rfl (.cons (t := 10) rfl (.cons (t := 20) rfl (.cons (t := 26) rfl (.cons (t := 45) rfl (.cons (t := 50) rfl (.cons (t := 51) rfl (.cons (t := 52) rfl .nil))))))))))))))
        refine wpList_nil ?_
        refine wp_block ?_
        refine wp_loop_ix (α := Nat) (fun j a w1 => FrV 111 [] [(3, .is (ptr0 b3)) , (5, .is (ptr0 b5)) , (6, .is (ptr0 b6)) , (8, .is (.slice A8 (n + 1) c8)) , (9, .is (U q)) , (10, .is (U (zP p q (allP p sx base sy pts) (n + 1) j))) , (50, .is (.slice A8 (n + 1) c8)) , (51, .is (I ((n + 1 : Nat) : Int))) , (52, .is (I (j : Int)))] a ∧ Own w w1 [.blk b3 28 [B8 kd, I dp, I dg, U p, U q, U g], .blk b4 33 [I r, labs, U sx, U sy], .blk b5 45 (hcs (.slice Ai ni ci) base (.slice A n c) box chk), .blk b6 23 (kc key0), .row (.slice A8 (n + 1) c8) 31 2 (n + 1) (pc (allP p sx base sy pts))] ∧ (j ≤ n + 1)) (fun j => n + 1 - j) (0) ⟨hF.keep (.cons (t := 3) rfl (.cons (t := 5) rfl (.cons (t := 6) rfl (.cons (t := 8) rfl (.cons (t := 9) rfl (.cons (t := 10) rfl (.cons (t := 50) rfl (.cons (t := 51) rfl (.cons (t := 52) rfl (.nil)))))))))), hw, by omega⟩ ?_
        rintro j a w1 ⟨hF, hw, hj0⟩
        refine wp_seq (reg_seq 1 (hF _ _) (by kernel_rfl) ?_)
        refine net_cons rfl rfl (n_bin rfl (ev rfl) (ev rfl) r_lssN) ?_
        refine net_nil fun a w1 hF hx => ?_
        replace hw := hw.next hx
        replace hF := hF.keep (.cons (t := 3) rfl (.cons (t := 5) rfl (.cons (t := 6) rfl (.cons (t := 8) rfl (.cons (t := 9) rfl (.cons (t := 10) rfl (.cons (t := 50) rfl (.cons (t := 51) rfl (.cons (t := 52) rfl (.cons (t := 53) rfl .nil))))))))))
        refine wpList_nil ?_
        refine wp_seq ?_
        refine wp_cond_split (hF.ev (ev rfl)) (fun h53 => ?_) (fun h53 => ?_)
        · have hj : j < n + 1 := of_bool_t h53
          obtain ⟨x, hx0⟩ := some_at hll hj
          obtain ⟨hx1, hx2⟩ := hal x (List.mem_of_getElem? hx0)
          have hzl := zP_le (q := q) (all := (allP p sx base sy pts)) (n := n + 1) hz10 j
          obtain ⟨_, _, hse_, _, hRr, _⟩ := hw.rd (i := 4) rfl
          injection hse_ with hA_ _ _
          subst hA_
          have hF_ := hF
          have hw_ := hw
          obtain ⟨bX, oX, rfl, hcX⟩ := hRr.at_ (by rw [pc_len, hll]; omega)
          have hF := hF_
          have hw := hw_
          refine wp_skip ?_
          refine wp_seq (wp_block ?_)
          refine wp_seq (wp_region_lit ?_)
          refine t_net 0 4 (by kernel_rfl) rfl hF ?_
          refine net_cons rfl rfl (n_move rfl (ev rfl)) ?_
          refine net_cons rfl rfl (n_indexS (off' := oX + (j) * 2) rfl (ev rfl) (ev rfl) Try.underlying43 Try.sizeOf31 (by omega) rfl) ?_
          refine net_cons rfl rfl (n_load rfl (ev rfl) (fun w2 hx2 => ldNR hcX (fm_at (f := fun p : Nat × Nat => [U p.1, U p.2]) (sz := 2) (fun _ => rfl) hx0) rfl Try.isAgg31 Try.sizeOf31 (by omega) w2 hx2)) ?_
          refine net_cons rfl rfl (n_alloc rfl Try.zeroValue31 rfl) ?_
          refine net_nil fun a w1 hF hx => ?_
          obtain ⟨b12, h_, hw⟩ := hw.blk hx (hF.at_ 12 _ rfl)
          replace hF := hF.now h_
          replace hF := hF.keep (.cons (t := 3) rfl (.cons (t := 5) rfl (.cons (t := 6) rfl (.cons (t := 8) rfl (.cons (t := 9) rfl (.cons (t := 10) rfl (.cons (t := 12) rfl (.cons (t := 50) rfl (.cons (t := 51) rfl (.cons (t := 52) rfl (.cons (t := 53) rfl (.cons (t := 54) rfl (.cons (t := 56) rfl .nil)))))))))))))
          refine t_net 4 1 (by kernel_rfl) rfl hF ?_
          refine net_cons rfl rfl (n_assign rfl (ev rfl)) ?_
          refine net_nil fun a w1 hF hx => ?_
          replace hw := hw.next hx
          replace hF := hF.keep (.cons (t := 3) rfl (.cons (t := 5) rfl (.cons (t := 6) rfl (.cons (t := 8) rfl (.cons (t := 9) rfl (.cons (t := 10) rfl (.cons (t := 11) rfl (.cons (t := 12) rfl (.cons (t := 50) rfl (.cons (t := 51) rfl (.cons (t := 52) rfl (.cons (t := 53) rfl (.cons (t := 56) rfl .nil)))))))))))))
          refine t_store (i := 5) rfl rfl rfl hF hw rfl (ev rfl) (ev rfl) rfl (by intro u hu; simp only [List.mem_cons, List.append_nil, List.not_mem_nil, or_false] at hu; rcases hu with rfl | rfl <;> rfl) Try.sizeOf31 rfl (Nat.le_of_ble_eq_true rfl) rfl fun w1 hw => ?_
          refine wpList_nil ?_
          refine wp_seq (reg_seq 2 (hF _ _) (by kernel_rfl) ?_)
          refine net_cons rfl rfl (n_assign rfl evc) ?_
          refine net_cons rfl rfl (n_assign rfl evc) ?_
          refine net_nil fun a w1 hF hx => ?_
          replace hw := hw.next hx
          replace hF := hF.keep (.cons (t := 3) rfl (.cons (t := 5) rfl (.cons (t := 6) rfl (.cons (t := 8) rfl (.cons (t := 9) rfl (.cons (t := 10) rfl (.cons (t := 11) rfl (.cons (t := 12) rfl (.cons (t := 13) rfl (.cons (t := 14) rfl (.cons (t := 50) rfl (.cons (t := 51) rfl (.cons (t := 52) rfl (.cons (t := 53) rfl (.cons (t := 56) rfl .nil)))))))))))))))
          refine wpList_nil ?_
          refine wp_seq ?_
          refine wp_seq (reg_seq 3 (hF _ _) (by kernel_rfl) ?_)
          refine net_cons rfl rfl (n_move rfl (ev rfl)) ?_
          refine net_cons rfl rfl (n_len rfl (ev rfl) Try.underlying43) ?_
          refine net_cons rfl rfl (n_move rfl evc) ?_
          refine net_nil fun a w1 hF hx => ?_
          replace hw := hw.next hx
          replace hF := hF.keep (.cons (t := 3) rfl (.cons (t := 5) rfl (.cons (t := 6) rfl (.cons (t := 8) rfl (.cons (t := 9) rfl (.cons (t := 10) rfl (.cons (t := 11) rfl (.cons (t := 12) rfl (.cons (t := 13) rfl (.cons (t := 14) rfl (.cons (t := 50) rfl (.cons (t := 51) rfl (.cons (t := 52) rfl (.cons (t := 53) rfl (.cons (t := 56) rfl (.cons (t := 57) rfl (.cons (t := 58) rfl (.cons (t := 59) rfl .nil))))))))))))))))))
          refine wpList_nil ?_
          refine wp_block ?_
          refine wp_loop_ix (α := Nat) (fun i a w1 => FrV 111 [] [(3, .is (ptr0 b3)) , (5, .is (ptr0 b5)) , (6, .is (ptr0 b6)) , (8, .is (.slice (some ⟨bX, oX, none⟩) (n + 1) c8)) , (9, .is (U q)) , (10, .is (U (zP p q (allP p sx base sy pts) (n + 1) j))) , (50, .is (.slice (some ⟨bX, oX, none⟩) (n + 1) c8)) , (51, .is (I ((n + 1 : Nat) : Int))) , (52, .is (I (j : Int))) , (11, .is (I (j : Int))) , (12, .is (ptr0 b12)) , (13, .is (U (facA q ((allP p sx base sy pts).map fun x : Nat × Nat => x.1) j i))) , (14, .is (U (facU q ((allP p sx base sy pts).map fun x : Nat × Nat => x.1) j i))) , (57, .is (.slice (some ⟨bX, oX, none⟩) (n + 1) c8)) , (58, .is (I ((n + 1 : Nat) : Int))) , (59, .is (I (i : Int)))] a ∧ Own w w1 [.blk b3 28 [B8 kd, I dp, I dg, U p, U q, U g], .blk b4 33 [I r, labs, U sx, U sy], .blk b5 45 (hcs (.slice Ai ni ci) base (.slice A n c) box chk), .blk b6 23 (kc key0), .row (.slice (some ⟨bX, oX, none⟩) (n + 1) c8) 31 2 (n + 1) (pc (allP p sx base sy pts)), .blk b12 31 [U x.1, U x.2]] ∧ (i ≤ n + 1)) (fun i => n + 1 - i) (0) ⟨hF.keep (.cons (t := 3) rfl (.cons (t := 5) rfl (.cons (t := 6) rfl (.cons (t := 8) rfl (.cons (t := 9) rfl (.cons (t := 10) rfl (.cons (t := 50) rfl (.cons (t := 51) rfl (.cons (t := 52) rfl (.cons (t := 11) rfl (.cons (t := 12) rfl (.cons (t := 13) rfl (.cons (t := 14) rfl (.cons (t := 57) rfl (.cons (t := 58) rfl (.cons (t := 59) rfl (.nil))))))))))))))))), hw, by omega⟩ ?_
          rintro i a w1 ⟨hF, hw, hi0⟩
          refine wp_seq (reg_seq 1 (hF _ _) (by kernel_rfl) ?_)
          refine net_cons rfl rfl (n_bin rfl (ev rfl) (ev rfl) r_lssN) ?_
          refine net_nil fun a w1 hF hx => ?_
          replace hw := hw.next hx
          replace hF := hF.keep (.cons (t := 3) rfl (.cons (t := 5) rfl (.cons (t := 6) rfl (.cons (t := 8) rfl (.cons (t := 9) rfl (.cons (t := 10) rfl (.cons (t := 11) rfl (.cons (t := 12) rfl (.cons (t := 13) rfl (.cons (t := 14) rfl (.cons (t := 50) rfl (.cons (t := 51) rfl (.cons (t := 52) rfl (.cons (t := 57) rfl (.cons (t := 58) rfl (.cons (t := 59) rfl (.cons (t := 60) rfl .nil)))))))))))))))))
          refine wpList_nil ?_
          refine wp_seq ?_
          refine wp_cond_split (hF.ev (ev rfl)) (fun h60 => ?_) (fun h60 => ?_)
          · have hi : i < n + 1 := of_bool_t h60
            obtain ⟨y, hy0⟩ := some_at hll hi
            obtain ⟨hy1, hy2⟩ := hal y (List.mem_of_getElem? hy0)
            have hfa := facA_lt hz8 ((allP p sx base sy pts).map fun x : Nat × Nat => x.1) j i
            have hfu := facU_lt hz8 ((allP p sx base sy pts).map fun x : Nat × Nat => x.1) j i
            have hsl := Nat.mod_lt (y.1 + q - x.1) (show 0 < q by omega)
            obtain ⟨_, _, hse_, _, hRy, _⟩ := hw.rd (i := 4) rfl
            injection hse_ with hA_ _ _
            subst hA_
            have hcX := hRy.cells
            refine wp_skip ?_
            refine wp_seq (wp_block ?_)
            refine wp_seq (wp_region_lit ?_)
            refine t_net 0 4 (by kernel_rfl) rfl hF ?_
            refine net_cons rfl rfl (n_move rfl (ev rfl)) ?_
            refine net_cons rfl rfl (n_indexS (off' := oX + (i) * 2) rfl (ev rfl) (ev rfl) Try.underlying43 Try.sizeOf31 (by omega) rfl) ?_
            refine net_cons rfl rfl (n_load rfl (ev rfl) (fun w2 hx2 => ldNR hcX (fm_at (f := fun p : Nat × Nat => [U p.1, U p.2]) (sz := 2) (fun _ => rfl) hy0) rfl Try.isAgg31 Try.sizeOf31 (by omega) w2 hx2)) ?_
            refine net_cons rfl rfl (n_alloc rfl Try.zeroValue31 rfl) ?_
            refine net_nil fun a w1 hF hx => ?_
            obtain ⟨b16, h_, hw⟩ := hw.blk hx (hF.at_ 16 _ rfl)
            replace hF := hF.now h_
            replace hF := hF.keep (.cons (t := 3) rfl (.cons (t := 5) rfl (.cons (t := 6) rfl (.cons (t := 8) rfl (.cons (t := 9) rfl (.cons (t := 10) rfl (.cons (t := 11) rfl (.cons (t := 12) rfl (.cons (t := 13) rfl (.cons (t := 14) rfl (.cons (t := 16) rfl (.cons (t := 50) rfl (.cons (t := 51) rfl (.cons (t := 52) rfl (.cons (t := 57) rfl (.cons (t := 58) rfl (.cons (t := 59) rfl (.cons (t := 60) rfl (.cons (t := 61) rfl (.cons (t := 63) rfl .nil))))))))))))))))))))
            refine t_net 4 1 (by kernel_rfl) rfl hF ?_
            refine net_cons rfl rfl (n_assign rfl (ev rfl)) ?_
            refine net_nil fun a w1 hF hx => ?_
            replace hw := hw.next hx
            replace hF := hF.keep (.cons (t := 3) rfl (.cons (t := 5) rfl (.cons (t := 6) rfl (.cons (t := 8) rfl (.cons (t := 9) rfl (.cons (t := 10) rfl (.cons (t := 11) rfl (.cons (t := 12) rfl (.cons (t := 13) rfl (.cons (t := 14) rfl (.cons (t := 15) rfl (.cons (t := 16) rfl (.cons (t := 50) rfl (.cons (t := 51) rfl (.cons (t := 52) rfl (.cons (t := 57) rfl (.cons (t := 58) rfl (.cons (t := 59) rfl (.cons (t := 60) rfl (.cons (t := 63) rfl .nil))))))))))))))))))))
            refine t_store (i := 6) rfl rfl rfl hF hw rfl (ev rfl) (ev rfl) rfl (by intro u hu; simp only [List.mem_cons, List.append_nil, List.not_mem_nil, or_false] at hu; rcases hu with rfl | rfl <;> rfl) Try.sizeOf31 rfl (Nat.le_of_ble_eq_true rfl) rfl fun w1 hw => ?_
            refine wpList_nil ?_
            refine wp_seq (reg_seq 3 (hF _ _) (by kernel_rfl) ?_)
            refine net_cons rfl rfl (n_move rfl (ev rfl)) ?_
            refine net_cons rfl rfl (n_move rfl (ev rfl)) ?_
            refine net_cons rfl rfl (n_bin rfl (ev rfl) (ev rfl) r_neq) ?_
            refine net_nil fun a w1 hF hx => ?_
            replace hw := hw.next hx
            replace hF := hF.keep (.cons (t := 3) rfl (.cons (t := 5) rfl (.cons (t := 6) rfl (.cons (t := 8) rfl (.cons (t := 9) rfl (.cons (t := 10) rfl (.cons (t := 11) rfl (.cons (t := 12) rfl (.cons (t := 13) rfl (.cons (t := 14) rfl (.cons (t := 15) rfl (.cons (t := 16) rfl (.cons (t := 50) rfl (.cons (t := 51) rfl (.cons (t := 52) rfl (.cons (t := 57) rfl (.cons (t := 58) rfl (.cons (t := 59) rfl (.cons (t := 60) rfl (.cons (t := 63) rfl (.cons (t := 66) rfl .nil)))))))))))))))))))))
            refine wpList_nil ?_
            refine wp_cond_split (hF.ev (ev rfl)) (fun h66 => ?_) (fun h66 => ?_)
            · have hij : ¬ i = j := by have := h66; simp at this; omega
              refine reg_draw 18 mixed (by kernel_rfl) (hF _ _) ?_
              refine net_cons rfl rfl (n_move rfl (ev rfl)) ?_
              refine net_cons rfl rfl (n_move rfl (ev rfl)) ?_
              refine net_cons rfl rfl (n_fieldAddrO (off' := 0) rfl (ev rfl) Try.runUnderlying31 rfl Try.sizeOf24 rfl) ?_
              refine net_cons rfl rfl (n_load rfl (ev rfl) (ld1 hw (i := 6) rfl Try.isAgg24 rfl)) ?_
              refine net_cons rfl rfl (n_bsl sl63 rfl (.cons (ev rfl) (.cons (ev rfl) .nil)) (.cons rfl rfl (.cons rfl rfl .nil)) rfl (by decide) (by decide)) ?_
              refine net_cons rfl rfl (n_retC (k := 1) rfl Try.call76 rfl rfl (.cons (ev rfl) .nil) .nil (fun _ b_ hx hR_ => (mul_c q 2 2 _ [facA q ((allP p sx base sy pts).map fun x : Nat × Nat => x.1) j i, y.1] (by omega) (by omega) (by intro z hz; simp only [List.mem_cons, List.not_mem_nil, or_false] at hz; omega) rfl (by decide) _ hR_))) ?_
              refine net_cons rfl rfl (n_move rfl (ev rfl)) ?_
              refine net_cons rfl rfl (n_move rfl (ev rfl)) ?_
              refine net_cons rfl rfl (n_move rfl (ev rfl)) ?_
              refine net_cons rfl rfl (n_fieldAddrO (off' := 0) rfl (ev rfl) Try.runUnderlying31 rfl Try.sizeOf24 rfl) ?_
              refine net_cons rfl rfl (n_load rfl (ev rfl) (ld1 hw (i := 6) rfl Try.isAgg24 rfl)) ?_
              refine net_cons rfl rfl (n_fieldAddrO (off' := 0) rfl (ev rfl) Try.runUnderlying31 rfl Try.sizeOf24 rfl) ?_
              refine net_cons rfl rfl (n_load rfl (ev rfl) (ld1 hw (i := 5) rfl Try.isAgg24 rfl)) ?_
              refine net_cons rfl rfl (n_ret rfl Try.call77 (.cons (ev rfl) (.cons (ev rfl) (.cons (ev rfl) .nil))) (fun _ hx => (sub_c q y.1 x.1 (by omega) (by omega) (by omega) (by omega) _))) ?_
              refine net_cons rfl rfl (n_bsl sl63 rfl (.cons (ev rfl) (.cons (ev rfl) .nil)) (.cons rfl rfl (.cons rfl rfl .nil)) rfl (by decide) (by decide)) ?_
              refine net_cons rfl rfl (n_retC (k := 1) rfl Try.call76 rfl rfl (.cons (ev rfl) .nil) .nil (fun _ b_ hx hR_ => (mul_c q 2 2 _ [facU q ((allP p sx base sy pts).map fun x : Nat × Nat => x.1) j i, (y.1 + q - x.1) % q] (by omega) (by omega) (by intro z hz; simp only [List.mem_cons, List.not_mem_nil, or_false] at hz; omega) rfl (by decide) _ hR_))) ?_
              refine net_cons rfl rfl (n_to (n_assign rfl (ev rfl)) (congrArg (fun n : Nat => U n) (facA_go hij hy0))) ?_
              refine net_cons rfl rfl (n_to (n_assign rfl (ev rfl)) (congrArg (fun n : Nat => U n) (facU_go hij hx0 hy0))) ?_
              refine net_nil fun a w1 hF hx => ?_
              replace hw := hw.next hx
              replace hF := hF.keep (.cons (t := 3) rfl (.cons (t := 5) rfl (.cons (t := 6) rfl (.cons (t := 8) rfl (.cons (t := 9) rfl (.cons (t := 10) rfl (.cons (t := 11) rfl (.cons (t := 12) rfl (.cons (t := 13) rfl (.cons (t := 14) rfl (.cons (t := 15) rfl (.cons (t := 16) rfl (.cons (t := 50) rfl (.cons (t := 51) rfl (.cons (t := 52) rfl (.cons (t := 57) rfl (.cons (t := 58) rfl (.cons (t := 59) rfl (.cons (t := 60) rfl (.cons (t := 63) rfl (.cons (t := 66) rfl .nil)))))))))))))))))))))
              refine wpList_nil ?_
              refine reg_seq 2 (hF _ _) (by kernel_rfl) ?_
              refine net_cons rfl rfl (n_bin rfl (ev rfl) evc (r_inc (by omega))) ?_
              refine net_cons rfl rfl (n_move rfl (ev rfl)) ?_
              refine net_nil fun a w1 hF hx => ?_
              replace hw := hw.next hx
              replace hF := hF.keep (.cons (t := 3) rfl (.cons (t := 5) rfl (.cons (t := 6) rfl (.cons (t := 8) rfl (.cons (t := 9) rfl (.cons (t := 10) rfl (.cons (t := 11) rfl (.cons (t := 12) rfl (.cons (t := 13) rfl (.cons (t := 14) rfl (.cons (t := 15) rfl (.cons (t := 16) rfl (.cons (t := 50) rfl (.cons (t := 51) rfl (.cons (t := 52) rfl (.cons (t := 57) rfl (.cons (t := 58) rfl (.cons (t := 59) rfl (.cons (t := 60) rfl (.cons (t := 63) rfl (.cons (t := 66) rfl .nil)))))))))))))))))))))
              refine wpList_nil ?_
              exact ⟨i + 1, ⟨hF.keep (.cons (t := 3) rfl (.cons (t := 5) rfl (.cons (t := 6) rfl (.cons (t := 8) rfl (.cons (t := 9) rfl (.cons (t := 10) rfl (.cons (t := 50) rfl (.cons (t := 51) rfl (.cons (t := 52) rfl (.cons (t := 11) rfl (.cons (t := 12) rfl (.cons (t := 13) rfl (.cons (t := 14) rfl (.cons (t := 57) rfl (.cons (t := 58) rfl (.cons (t := 59) rfl (.nil))))))))))))))))), (hw.drop (.cons_cons _ (.cons_cons _ (.cons_cons _ (.cons_cons _ (.cons_cons _ (.cons_cons _ (.cons _ .slnil)))))))), by omega⟩, by omega⟩
            · have hij : i = j := by have := h66; simp at this; omega
              rw [← facA_skip (q := q) (xs := ((allP p sx base sy pts).map fun x : Nat × Nat => x.1)) hij, ← facU_skip (q := q) (xs := ((allP p sx base sy pts).map fun x : Nat × Nat => x.1)) hij] at hF
              refine wp_skip ?_
              refine reg_seq 2 (hF _ _) (by kernel_rfl) ?_
              refine net_cons rfl rfl (n_bin rfl (ev rfl) evc (r_inc (by omega))) ?_
              refine net_cons rfl rfl (n_move rfl (ev rfl)) ?_
              refine net_nil fun a w1 hF hx => ?_
              replace hw := hw.next hx
              replace hF := hF.keep (.cons (t := 3) rfl (.cons (t := 5) rfl (.cons (t := 6) rfl (.cons (t := 8) rfl (.cons (t := 9) rfl (.cons (t := 10) rfl (.cons (t := 11) rfl (.cons (t := 12) rfl (.cons (t := 13) rfl (.cons (t := 14) rfl (.cons (t := 15) rfl (.cons (t := 16) rfl (.cons (t := 50) rfl (.cons (t := 51) rfl (.cons (t := 52) rfl (.cons (t := 57) rfl (.cons (t := 58) rfl (.cons (t := 59) rfl (.cons (t := 60) rfl (.cons (t := 63) rfl (.cons (t := 66) rfl .nil)))))))))))))))))))))
              refine wpList_nil ?_
              exact ⟨i + 1, ⟨hF.keep (.cons (t := 3) rfl (.cons (t := 5) rfl (.cons (t := 6) rfl (.cons (t := 8) rfl (.cons (t := 9) rfl (.cons (t := 10) rfl (.cons (t := 50) rfl (.cons (t := 51) rfl (.cons (t := 52) rfl (.cons (t := 11) rfl (.cons (t := 12) rfl (.cons (t := 13) rfl (.cons (t := 14) rfl (.cons (t := 57) rfl (.cons (t := 58) rfl (.cons (t := 59) rfl (.nil))))))))))))))))), (hw.drop (.cons_cons _ (.cons_cons _ (.cons_cons _ (.cons_cons _ (.cons_cons _ (.cons_cons _ (.cons _ .slnil)))))))), by omega⟩, by omega⟩
          · obtain rfl : i = n + 1 := by have := of_bool_f h60; omega
            have hfa := facA_lt hz8 ((allP p sx base sy pts).map fun x : Nat × Nat => x.1) j (n + 1)
            have hfu := facU_lt hz8 ((allP p sx base sy pts).map fun x : Nat × Nat => x.1) j (n + 1)
            have hfr := facR_lt hz8 ((allP p sx base sy pts).map fun x : Nat × Nat => x.1) j (n + 1)
            have hfe := fac_eq hqp hxl hnd (j := j) (by omega)
            rw [hxlen] at hfe
            have hpl := Nat.mod_lt (x.2 ^ facR q ((allP p sx base sy pts).map fun x : Nat × Nat => x.1) j (n + 1)) (show 0 < p by omega)
            refine wp_exit (go_then_e (go_then_e (go_exit ?_)))
            refine reg_draw 15 mixed (by kernel_rfl) (hF _ _) ?_
            refine net_cons rfl rfl (n_fieldAddrO (off' := 3) rfl (ev rfl) Try.runUnderlying28 rfl Try.sizeOf26 rfl) ?_
            refine net_cons rfl rfl (n_fieldAddrO (off' := 3) rfl (ev rfl) Try.runUnderlying26 rfl Try.sizeOf24 rfl) ?_
            refine net_cons rfl rfl (n_load rfl (ev rfl) (ld1 hw (i := 0) rfl Try.isAgg24 rfl)) ?_
            refine net_cons rfl rfl (n_move rfl (ev rfl)) ?_
            refine net_cons rfl rfl (n_load rfl (ev rfl) (ldN hw (i := 0) (vs := _) rfl Try.isAgg28 Try.sizeOf28 rfl rfl)) ?_
            refine net_cons rfl rfl (n_fieldAddrO (off' := 1) rfl (ev rfl) Try.runUnderlying31 rfl Try.sizeOf24 rfl) ?_
            refine net_cons rfl rfl (n_load rfl (ev rfl) (ld1 hw (i := 5) rfl Try.isAgg24 rfl)) ?_
            refine net_cons rfl rfl (n_move rfl (ev rfl)) ?_
            refine net_cons rfl rfl (n_move rfl (ev rfl)) ?_
            refine net_cons rfl rfl (n_move rfl (ev rfl)) ?_
            refine net_cons rfl rfl (n_to (n_ret rfl Try.call78 (.cons (ev rfl) (.cons (ev rfl) (.cons (ev rfl) .nil))) (fun _ hx => div_c q (facA q ((allP p sx base sy pts).map fun x : Nat × Nat => x.1) j (n + 1)) (facU q ((allP p sx base sy pts).map fun x : Nat × Nat => x.1) j (n + 1)) (by omega) (by omega) (by omega) (by omega) (gcd_of_ne hqp hfe.1) _)) (congrArg (fun n : Nat => U n) hfe.2)) ?_
            refine net_cons rfl rfl (n_ret rfl Try.call69 (.cons (ev rfl) (.cons (ev rfl) (.cons (ev rfl) .nil))) (fun _ hx => (spow_c _ _ _ _ _ _ x.2 (facR q ((allP p sx base sy pts).map fun x : Nat × Nat => x.1) j (n + 1)) (by omega) (by omega) (by omega) (by omega) _))) ?_
            refine net_cons rfl rfl (n_bsl sl63 rfl (.cons (ev rfl) (.cons (ev rfl) .nil)) (.cons rfl rfl (.cons rfl rfl .nil)) rfl (by decide) (by decide)) ?_
            refine net_cons rfl rfl (n_retC (k := 1) rfl Try.call76 rfl rfl (.cons (ev rfl) .nil) .nil (fun _ b_ hx hR_ => (mul_c p 2 2 _ [zP p q (allP p sx base sy pts) (n + 1) j, x.2 ^ facR q ((allP p sx base sy pts).map fun x : Nat × Nat => x.1) j (n + 1) % p] (by omega) (by omega) (by intro z hz; simp only [List.mem_cons, List.not_mem_nil, or_false] at hz; omega) rfl (by decide) _ hR_))) ?_
            refine net_cons rfl rfl (n_to (n_assign rfl (ev rfl)) (congrArg (fun n : Nat => U n) ((mulF2 _ _ _).trans (zP_step hx0)))) ?_
            refine net_nil fun a w1 hF hx => ?_
            replace hw := hw.next hx
            replace hF := hF.keep (.cons (t := 3) rfl (.cons (t := 5) rfl (.cons (t := 6) rfl (.cons (t := 8) rfl (.cons (t := 9) rfl (.cons (t := 10) rfl (.cons (t := 11) rfl (.cons (t := 12) rfl (.cons (t := 13) rfl (.cons (t := 14) rfl (.cons (t := 50) rfl (.cons (t := 51) rfl (.cons (t := 52) rfl (.cons (t := 57) rfl (.cons (t := 58) rfl (.cons (t := 59) rfl (.cons (t := 60) rfl .nil)))))))))))))))))
            refine wpList_nil ?_
            refine reg_seq 2 (hF _ _) (by kernel_rfl) ?_
            refine net_cons rfl rfl (n_bin rfl (ev rfl) evc (r_inc (by omega))) ?_
            refine net_cons rfl rfl (n_move rfl (ev rfl)) ?_
            refine net_nil fun a w1 hF hx => ?_
            replace hw := hw.next hx
            replace hF := hF.keep (.cons (t := 3) rfl (.cons (t := 5) rfl (.cons (t := 6) rfl (.cons (t := 8) rfl (.cons (t := 9) rfl (.cons (t := 10) rfl (.cons (t := 11) rfl (.cons (t := 12) rfl (.cons (t := 13) rfl (.cons (t := 14) rfl (.cons (t := 50) rfl (.cons (t := 51) rfl (.cons (t := 52) rfl (.cons (t := 57) rfl (.cons (t := 58) rfl (.cons (t := 59) rfl (.cons (t := 60) rfl .nil)))))))))))))))))
            refine wpList_nil ?_
            exact ⟨j + 1, ⟨hF.keep (.cons (t := 3) rfl (.cons (t := 5) rfl (.cons (t := 6) rfl (.cons (t := 8) rfl (.cons (t := 9) rfl (.cons (t := 10) rfl (.cons (t := 50) rfl (.cons (t := 51) rfl (.cons (t := 52) rfl (.nil)))))))))), (hw.drop (.cons_cons _ (.cons_cons _ (.cons_cons _ (.cons_cons _ (.cons_cons _ (.cons _ .slnil))))))), by omega⟩, by omega⟩
        · obtain rfl : j = n + 1 := by have := of_bool_f h53; omega
          have hzl := zP_le (q := q) (all := (allP p sx base sy pts)) (n := n + 1) hz10 (n + 1)
          refine wp_exit (go_then_e (go_then_e (go_exit ?_)))
          refine wp_seq (reg_draw 6 mixed (by kernel_rfl) (hF _ _) ?_)
          refine net_cons rfl rfl (n_move rfl (ev rfl)) ?_
          refine net_cons rfl rfl (n_ret rfl Try.call72 (.cons (ev rfl) .nil) (fun _ hx => maskKey_c _ (by omega) _)) ?_
          refine net_cons rfl rfl (n_fieldAddrO (off' := 3) rfl (ev rfl) Try.runUnderlying45 rfl Try.sizeOf23 rfl) ?_
          refine net_cons rfl rfl (n_load rfl (ev rfl) (ldN hw (i := 2) (vs := _) rfl Try.isAgg23 Try.sizeOf23 (kc_len _) (hcs_box_at _ _ _ _ _))) ?_
          refine net_cons rfl rfl (n_ret rfl Try.call79 (.cons (ev rfl) (.cons (ev rfl) .nil)) (fun _ hx => Decrypt_c _ _ _)) ?_
          refine net_cons rfl rfl (n_alloc rfl Try.zeroValue23 rfl) ?_
          refine net_nil fun a w1 hF hx => ?_
          obtain ⟨b17, h_, hw⟩ := hw.blk hx (hF.at_ 17 _ rfl)
          replace hF := hF.now h_
          replace hF := hF.keep (.cons (t := 3) rfl (.cons (t := 5) rfl (.cons (t := 6) rfl (.cons (t := 8) rfl (.cons (t := 9) rfl (.cons (t := 10) rfl (.cons (t := 17) rfl (.cons (t := 50) rfl (.cons (t := 51) rfl (.cons (t := 52) rfl (.cons (t := 53) rfl (.cons (t := 103) rfl .nil))))))))))))
          refine t_store (i := 5) rfl rfl rfl hF hw rfl (ev rfl) (ev rfl) rfl (kc_one _) Try.sizeOf23 (kc_len _) (by first | decide | (rw [kc_len]; decide)) (seg_whole (by rw [kc_len]; rfl)) fun w1 hw => ?_
          refine wpList_nil ?_
          refine wp_seq ?_
          refine wp_seq (reg_draw 5 mixed (by kernel_rfl) (hF _ _) ?_)
          refine net_cons rfl rfl (n_load rfl (ev rfl) (ldN hw (i := 5) (vs := _) rfl Try.isAgg23 Try.sizeOf23 (kc_len _) (cut_whole (kc_len _)))) ?_
          refine net_cons rfl rfl (n_ret rfl Try.call37 (.cons (ev rfl) (.cons evc (.cons evc .nil))) (fun _ hx => Derive_c _ 53 0 (by decide) (by decide) _)) ?_
          refine net_cons rfl rfl (n_fieldAddrO (off' := 19) rfl (ev rfl) Try.runUnderlying45 rfl Try.sizeOf23 rfl) ?_
          refine net_cons rfl rfl (n_load rfl (ev rfl) (ldN hw (i := 2) (vs := _) rfl Try.isAgg23 Try.sizeOf23 (kc_len _) (hcs_chk_at _ _ _ _ _))) ?_
          refine net_cons rfl rfl (n_bin rfl (ev rfl) (ev rfl) r_neKey) ?_
          refine net_nil fun a w1 hF hx => ?_
          replace hw := hw.next hx
          replace hF := hF.keep (.cons (t := 3) rfl (.cons (t := 5) rfl (.cons (t := 6) rfl (.cons (t := 8) rfl (.cons (t := 9) rfl (.cons (t := 10) rfl (.cons (t := 17) rfl (.cons (t := 50) rfl (.cons (t := 51) rfl (.cons (t := 52) rfl (.cons (t := 53) rfl (.cons (t := 103) rfl (.cons (t := 108) rfl .nil)))))))))))))
          refine wpList_nil ?_
          refine wp_cond_split (hF.ev (ev rfl)) (fun h108 => ?_) (fun h108 => ?_)
          · have hz4 : ¬ derK (openK p q n sx base sy pts box) 53 0 = chk := by simpa [openK] using h108
            refine wp_seq (wp_region_lit ?_)
            refine t_net 0 1 (by kernel_rfl) rfl hF ?_
            refine net_cons rfl rfl (n_build rfl .nil build_23_) ?_
            refine net_nil fun a w1 hF hx => ?_
            replace hw := hw.next hx
            replace hF := hF.keep (.cons (t := 3) rfl (.cons (t := 5) rfl (.cons (t := 6) rfl (.cons (t := 8) rfl (.cons (t := 9) rfl (.cons (t := 10) rfl (.cons (t := 17) rfl (.cons (t := 50) rfl (.cons (t := 51) rfl (.cons (t := 52) rfl (.cons (t := 53) rfl (.cons (t := 103) rfl (.cons (t := 108) rfl (.cons (t := 109) rfl .nil))))))))))))))
            refine t_store (i := 3) rfl rfl rfl hF hw rfl (ev rfl) (ev rfl) rfl (kc_one _) Try.sizeOf23 (kc_len _) (by first | decide | (rw [kc_len]; decide)) (seg_whole (by simp only [kc_len])) fun w1 hw => ?_
            refine t_net 2 1 (by kernel_rfl) rfl hF ?_
            refine net_cons rfl rfl (n_assign rfl evc) ?_
            refine net_nil fun a w1 hF hx => ?_
            replace hw := hw.next hx
            replace hF := hF.keep (.cons (t := 3) rfl (.cons (t := 5) rfl (.cons (t := 6) rfl (.cons (t := 7) rfl (.cons (t := 8) rfl (.cons (t := 9) rfl (.cons (t := 10) rfl (.cons (t := 17) rfl (.cons (t := 50) rfl (.cons (t := 51) rfl (.cons (t := 52) rfl (.cons (t := 53) rfl (.cons (t := 103) rfl (.cons (t := 108) rfl .nil))))))))))))))
            refine wpList_nil ?_
            refine wp_ret (go_then_r (retc2 hF Try.results27 rfl (ldN hw (i := 3) (vs := _) rfl Try.isAgg23 Try.sizeOf23 (kc_len _) (cut_whole (kc_len _)) _ (Ext.refl _)) rfl ?_))
            exact ⟨_, rfl, hw.ext, (by rw [openR_wrong hz hz2 hz3 hz4]; rfl)⟩
          · have hz4 : derK (openK p q n sx base sy pts box) 53 0 = chk := by simpa [openK] using h108
            refine wp_skip ?_
            refine wp_seq (wp_region_lit ?_)
            refine t_net 0 1 (by kernel_rfl) rfl hF ?_
            refine net_cons rfl rfl (n_load rfl (ev rfl) (ldN hw (i := 5) (vs := _) rfl Try.isAgg23 Try.sizeOf23 (kc_len _) (cut_whole (kc_len _)))) ?_
            refine net_nil fun a w1 hF hx => ?_
            replace hw := hw.next hx
            replace hF := hF.keep (.cons (t := 3) rfl (.cons (t := 5) rfl (.cons (t := 6) rfl (.cons (t := 8) rfl (.cons (t := 9) rfl (.cons (t := 10) rfl (.cons (t := 17) rfl (.cons (t := 50) rfl (.cons (t := 51) rfl (.cons (t := 52) rfl (.cons (t := 53) rfl (.cons (t := 103) rfl (.cons (t := 108) rfl (.cons (t := 110) rfl .nil))))))))))))))
            refine t_store (i := 3) rfl rfl rfl hF hw rfl (ev rfl) (ev rfl) rfl (kc_one _) Try.sizeOf23 (kc_len _) (by first | decide | (rw [kc_len]; decide)) (seg_whole (by simp only [kc_len])) fun w1 hw => ?_
            refine t_net 2 1 (by kernel_rfl) rfl hF ?_
            refine net_cons rfl rfl (n_assign rfl evc) ?_
            refine net_nil fun a w1 hF hx => ?_
            replace hw := hw.next hx
            replace hF := hF.keep (.cons (t := 3) rfl (.cons (t := 5) rfl (.cons (t := 6) rfl (.cons (t := 7) rfl (.cons (t := 8) rfl (.cons (t := 9) rfl (.cons (t := 10) rfl (.cons (t := 17) rfl (.cons (t := 50) rfl (.cons (t := 51) rfl (.cons (t := 52) rfl (.cons (t := 53) rfl (.cons (t := 103) rfl (.cons (t := 108) rfl .nil))))))))))))))
            refine wpList_nil ?_
            refine wp_ret (retc2 hF Try.results27 rfl (ldN hw (i := 3) (vs := _) rfl Try.isAgg23 Try.sizeOf23 (kc_len _) (cut_whole (kc_len _)) _ (Ext.refl _)) rfl ?_)
            exact ⟨_, rfl, hw.ext, (by rw [openR_ok hz hz2 hz3 hz4]; rfl)⟩


theorem xs_take {f : Nat × Nat → Nat} {l : List (Nat × Nat)} {x : Nat × Nat} {i : Nat} (h : l[i]? = some x) : ((l.map f).take i).map U ++ [U (f x)] = ((l.map f).take (i + 1)).map U := by
  rw [List.take_add_one, map_at h]
  simp
theorem allP_succ {p sx base sy i : Nat} {pts : List (Nat × Nat)} {x : Nat × Nat} (h : pts[i]? = some x) : (allP p sx base sy pts)[i + 1]? = some x := by rw [allP, List.getElem?_cons_succ]; exact h


theorem rOpen_c (kd : Nat) (dp dg : Int) (p q g : Nat) (ni ci base n c : Nat) (Ai A : Option Addr) (pts : List (Nat × Nat)) (box chk : Key) (r : Int) (labs : Value) (sx sy : Nat) (hp : p < 18446744073709551616) (hq : q < 18446744073709551616) (hg : g < 18446744073709551616) (hl : pts.length = n) (hn : n ≤ 8796093021952) (w : World) (hR : Rd w A (pc pts)) : RetF Try.prog 28 [SV kd dp dg p q g, SecV r labs sx sy, HV (.slice Ai ni ci) base (.slice A n c) box chk].toArray w (.is (.tuple #[K (openR kd dp dg p q g ni base n pts sx sy box chk).1, I (openR kd dp dg p q g ni base n pts sx sy box chk).2])) := by
  refine enter Try.func28 rfl Try.ntmps28 rfl fun a hF => ?_
  have hw := Own.start w
  refine wp_seq (wp_region_lit ?_)
  refine t_net 0 1 (by kernel_rfl) rfl hF ?_
  refine net_cons rfl rfl (n_box rfl (ev rfl) rfl) ?_
  refine net_nil fun a w1 hF hx => ?_
  obtain ⟨b3, h_, hw⟩ := hw.blk hx (hF.at_ 3 _ rfl)
  replace hF := hF.now h_
  replace hF := hF.keep (.cons (t := 1) rfl (.cons (t := 2) rfl (.cons (t := 3) rfl .nil)))
  refine t_net 1 1 (by kernel_rfl) rfl hF ?_
  refine net_cons rfl rfl (n_box rfl (ev rfl) rfl) ?_
  refine net_nil fun a w1 hF hx => ?_
  obtain ⟨b4, h_, hw⟩ := hw.blk hx (hF.at_ 4 _ rfl)
  replace hF := hF.now h_
  replace hF := hF.keep (.cons (t := 2) rfl (.cons (t := 3) rfl (.cons (t := 4) rfl .nil)))
  refine t_net 2 1 (by kernel_rfl) rfl hF ?_
  refine net_cons rfl rfl (n_box rfl (ev rfl) rfl) ?_
  refine net_nil fun a w1 hF hx => ?_
  obtain ⟨b5, h_, hw⟩ := hw.blk hx (hF.at_ 5 _ rfl)
  replace hF := hF.now h_
  replace hF := hF.keep (.cons (t := 3) rfl (.cons (t := 4) rfl (.cons (t := 5) rfl .nil)))
  refine t_net 3 1 (by kernel_rfl) rfl hF ?_
  refine net_cons rfl rfl (n_alloc rfl Try.zeroValue23 rfl) ?_
  refine net_nil fun a w1 hF hx => ?_
  obtain ⟨b6, h_, hw⟩ := hw.blk hx (hF.at_ 6 _ rfl)
  replace hF := hF.now h_
  replace hF := hF.keep (.cons (t := 3) rfl (.cons (t := 4) rfl (.cons (t := 5) rfl (.cons (t := 6) rfl .nil))))
  refine t_net 4 1 (by kernel_rfl) rfl hF ?_
  refine net_cons rfl rfl (n_assign rfl evc) ?_
  refine net_nil fun a w1 hF hx => ?_
  replace hw := hw.next hx
  replace hF := hF.keep (.cons (t := 3) rfl (.cons (t := 4) rfl (.cons (t := 5) rfl (.cons (t := 6) rfl (.cons (t := 7) rfl .nil)))))
  refine wpList_nil ?_
  refine wp_seq ?_
  refine wp_seq (reg_seq 3 (hF _ _) (by kernel_rfl) ?_)
  refine net_cons rfl rfl (n_load rfl (ev rfl) (ldN hw (i := 0) (vs := _) rfl Try.isAgg28 Try.sizeOf28 rfl rfl)) ?_
  refine net_cons rfl rfl (n_ret rfl Try.call30 (.cons (ev rfl) .nil) (fun _ hx => (Valid_c _ _ _ _ _ _ hp hq hg _))) ?_
  refine net_cons rfl rfl (n_not rfl (ev rfl)) ?_
  refine net_nil fun a w1 hF hx => ?_
  replace hw := hw.next hx
  replace hF := hF.keep (.cons (t := 3) rfl (.cons (t := 4) rfl (.cons (t := 5) rfl (.cons (t := 6) rfl (.cons (t := 7) rfl (.cons (t := 18) rfl .nil))))))
  refine wpList_nil ?_
  refine wp_cond_split (hF.ev (ev rfl)) (fun h18 => ?_) (fun h18 => ?_)
  · have hz : okS kd dp dg p q g = false := by simpa using h18
    refine wp_seq (wp_region_lit ?_)
    refine t_net 0 1 (by kernel_rfl) rfl hF ?_
    refine net_cons rfl rfl (n_build rfl .nil build_23_) ?_
    refine net_nil fun a w1 hF hx => ?_
    replace hw := hw.next hx
    replace hF := hF.keep (.cons (t := 3) rfl (.cons (t := 4) rfl (.cons (t := 5) rfl (.cons (t := 6) rfl (.cons (t := 7) rfl (.cons (t := 18) rfl (.cons (t := 19) rfl .nil)))))))
    refine t_store (i := 3) rfl rfl rfl hF hw rfl (ev rfl) (ev rfl) rfl (kc_one _) Try.sizeOf23 (kc_len _) (by first | decide | (rw [kc_len]; decide)) (seg_whole (by rw [kc_len]; rfl)) fun w1 hw => ?_
    refine t_net 2 1 (by kernel_rfl) rfl hF ?_
    refine net_cons rfl rfl (n_assign rfl evc) ?_
    refine net_nil fun a w1 hF hx => ?_
    replace hw := hw.next hx
    replace hF := hF.keep (.cons (t := 3) rfl (.cons (t := 4) rfl (.cons (t := 5) rfl (.cons (t := 6) rfl (.cons (t := 7) rfl (.cons (t := 18) rfl .nil))))))
    refine wpList_nil ?_
    refine wp_ret (go_then_r (retc2 hF Try.results28 rfl (ldN hw (i := 3) (vs := _) rfl Try.isAgg23 Try.sizeOf23 (kc_len _) (cut_whole (kc_len _)) _ (Ext.refl _)) rfl ?_))
    exact ⟨_, rfl, hw.ext, (by rw [openR_no hz]; rfl)⟩
  · have hz : okS kd dp dg p q g = true := by simpa using h18
    obtain ⟨hz1, hz2, hz3, hz4, hz5, hz6, hz7⟩ := okS_all hz
    obtain ⟨hz8, hz9, hz10, hz11, hz12⟩ := okG_q hz6
    obtain ⟨hpp, hqp, _⟩ := okG_all hz6
    refine wp_skip ?_
    refine wp_seq (reg_draw 8 mixed (by kernel_rfl) (hF _ _) ?_)
    refine net_cons rfl rfl (n_fieldAddrO (off' := 3) rfl (ev rfl) Try.runUnderlying28 rfl Try.sizeOf26 rfl) ?_
    refine net_cons rfl rfl (n_fieldAddrO (off' := 3) rfl (ev rfl) Try.runUnderlying26 rfl Try.sizeOf24 rfl) ?_
    refine net_cons rfl rfl (n_load rfl (ev rfl) (ld1 hw (i := 0) rfl Try.isAgg24 rfl)) ?_
    refine net_cons rfl rfl (n_fieldAddrO (off' := 3) rfl (ev rfl) Try.runUnderlying28 rfl Try.sizeOf26 rfl) ?_
    refine net_cons rfl rfl (n_fieldAddrO (off' := 4) rfl (ev rfl) Try.runUnderlying26 rfl Try.sizeOf24 rfl) ?_
    refine net_cons rfl rfl (n_load rfl (ev rfl) (ld1 hw (i := 0) rfl Try.isAgg24 rfl)) ?_
    refine net_cons rfl rfl (n_assign rfl (ev rfl)) ?_
    refine net_cons rfl rfl (n_assign rfl (ev rfl)) ?_
    refine net_nil fun a w1 hF hx => ?_
    replace hw := hw.next hx
    replace hF := hF.keep (.cons (t := 3) rfl (.cons (t := 4) rfl (.cons (t := 5) rfl (.cons (t := 6) rfl (.cons (t := 7) rfl (.cons (t := 8) rfl (.cons (t := 9) rfl (.cons (t := 18) rfl .nil))))))))
    refine wpList_nil ?_
    refine wp_seq ?_
    refine wp_seq (reg_seq 24 (hF _ _) (by kernel_rfl) ?_)
    refine net_cons rfl rfl (n_load rfl (ev rfl) (ldN hw (i := 0) (vs := _) rfl Try.isAgg28 Try.sizeOf28 rfl rfl)) ?_
    refine net_cons rfl rfl (n_load rfl (ev rfl) (ldN hw (i := 2) (vs := _) rfl Try.isAgg45 Try.sizeOf45 (hcs_len _ _ _ _ _) (cut_whole (hcs_len _ _ _ _ _)))) ?_
    refine net_cons rfl rfl (n_ret rfl Try.call80 (.cons (ev rfl) (.cons (ev rfl) .nil)) (fun _ hx => (ValidHeader_c kd dp dg p q g ni ci base n c Ai A pts box chk hl (by omega) _ (hR.ext (hw.ext.trans hx))))) ?_
    refine net_cons rfl rfl (n_not rfl (ev rfl)) ?_
    refine net_cons rfl rfl (n_move rfl (ev rfl)) ?_
    refine net_if rfl rfl rfl rfl (fun hc => (n_fieldAddrO (off' := 2) rfl (ev rfl) Try.runUnderlying33 rfl Try.sizeOf31 rfl)) ?_
    refine net_if rfl rfl rfl rfl (fun hc => (n_fieldAddrO (off' := 2) rfl (evi rfl hc) Try.runUnderlying31 rfl Try.sizeOf24 rfl)) ?_
    refine net_if rfl rfl rfl rfl (fun hc => (n_load rfl (evi rfl hc) (ld1 hw (i := 1) rfl Try.isAgg24 rfl))) ?_
    refine net_if rfl rfl rfl rfl (fun hc => (n_bin rfl (evi rfl hc) evc (r_lssN (b := 1)))) ?_
    refine net_cons rfl rfl (n_pick_or rfl (ev rfl) (fun h => (evi rfl h))) ?_
    refine net_cons rfl rfl (n_move rfl (ev rfl)) ?_
    refine net_if rfl rfl rfl rfl (fun hc => (n_fieldAddrO (off' := 2) rfl (ev rfl) Try.runUnderlying33 rfl Try.sizeOf31 rfl)) ?_
    refine net_if rfl rfl rfl rfl (fun hc => (n_fieldAddrO (off' := 2) rfl (evi rfl hc) Try.runUnderlying31 rfl Try.sizeOf24 rfl)) ?_
    refine net_if rfl rfl rfl rfl (fun hc => (n_load rfl (evi rfl hc) (ld1 hw (i := 1) rfl Try.isAgg24 rfl))) ?_
    refine net_if rfl rfl rfl rfl (fun hc => (n_move rfl (ev rfl))) ?_
    refine net_if rfl rfl rfl rfl (fun hc => (n_bin rfl (evi rfl hc) (evi rfl hc) (r_geqN))) ?_
    refine net_cons rfl rfl (n_pick_or rfl (ev rfl) (fun h => (evi rfl h))) ?_
    refine net_cons rfl rfl (n_move rfl (ev rfl)) ?_
    refine net_if rfl rfl rfl rfl (fun hc => (n_fieldAddrO (off' := 2) rfl (ev rfl) Try.runUnderlying33 rfl Try.sizeOf31 rfl)) ?_
    refine net_if rfl rfl rfl rfl (fun hc => (n_fieldAddrO (off' := 3) rfl (evi rfl hc) Try.runUnderlying31 rfl Try.sizeOf24 rfl)) ?_
    refine net_if rfl rfl rfl rfl (fun hc => (n_load rfl (evi rfl hc) (ld1 hw (i := 1) rfl Try.isAgg24 rfl))) ?_
    refine net_if rfl rfl rfl rfl (fun hc => (n_move rfl (ev rfl))) ?_
    refine net_if rfl rfl rfl rfl (fun hc => (n_bin rfl (evi rfl hc) (evi rfl hc) (r_geqN))) ?_
    refine net_cons rfl rfl (n_pick_or rfl (ev rfl) (fun h => (evi rfl h))) ?_
    refine net_nil fun a w1 hF hx => ?_
    replace hw := hw.next hx
    replace hF := hF.keep (.cons (t := 3) rfl (.cons (t := 4) rfl (.cons (t := 5) rfl (.cons (t := 6) rfl (.cons (t := 7) rfl (.cons (t := 8) rfl (.cons (t := 9) rfl (.cons (t := 18) rfl (.cons (t := 49) rfl .nil)))))))))
    refine wpList_nil ?_
    refine wp_cond_split (hF.ev (ev rfl)) (fun h49 => ?_) (fun h49 => ?_)
    · have hz2 : okH p q dg ni base n pts sx sy = false := okH_neg hz10 h49
      refine wp_seq (wp_region_lit ?_)
      refine t_net 0 1 (by kernel_rfl) rfl hF ?_
      refine net_cons rfl rfl (n_build rfl .nil build_23_) ?_
      refine net_nil fun a w1 hF hx => ?_
      replace hw := hw.next hx
      replace hF := hF.keep (.cons (t := 3) rfl (.cons (t := 4) rfl (.cons (t := 5) rfl (.cons (t := 6) rfl (.cons (t := 7) rfl (.cons (t := 8) rfl (.cons (t := 9) rfl (.cons (t := 18) rfl (.cons (t := 49) rfl (.cons (t := 50) rfl .nil))))))))))
      refine t_store (i := 3) rfl rfl rfl hF hw rfl (ev rfl) (ev rfl) rfl (kc_one _) Try.sizeOf23 (kc_len _) (by first | decide | (rw [kc_len]; decide)) (seg_whole (by rw [kc_len]; rfl)) fun w1 hw => ?_
      refine t_net 2 1 (by kernel_rfl) rfl hF ?_
      refine net_cons rfl rfl (n_assign rfl evc) ?_
      refine net_nil fun a w1 hF hx => ?_
      replace hw := hw.next hx
      replace hF := hF.keep (.cons (t := 3) rfl (.cons (t := 4) rfl (.cons (t := 5) rfl (.cons (t := 6) rfl (.cons (t := 7) rfl (.cons (t := 8) rfl (.cons (t := 9) rfl (.cons (t := 18) rfl (.cons (t := 49) rfl .nil)))))))))
      refine wpList_nil ?_
      refine wp_ret (go_then_r (retc2 hF Try.results28 rfl (ldN hw (i := 3) (vs := _) rfl Try.isAgg23 Try.sizeOf23 (kc_len _) (cut_whole (kc_len _)) _ (Ext.refl _)) rfl ?_))
      exact ⟨_, rfl, hw.ext, (by rw [openR_bad hz hz2]; rfl)⟩
    · have hz2 : okH p q dg ni base n pts sx sy = true := okH_neg hz10 h49
      obtain ⟨⟨hh1, hh2⟩, hh3, hh4, hh5, ⟨hh6, hh7⟩, hh8⟩ := okH_all hz2
      have hal := allP_lt (base := base) (sy := sy) (show 0 < p by omega) hh7 hh5
      have hll := allP_len (p := p) (sx := sx) (base := base) (sy := sy) hl
      have hxl := map_lt hal
      have hxlen : ((allP p sx base sy pts).map fun x : Nat × Nat => x.1).length = n + 1 := by rw [List.length_map, hll]
      refine wp_skip ?_
      replace hw : Own w _ [.blk b3 28 [B8 kd, I dp, I dg, U p, U q, U g], .blk b4 33 [I r, labs, U sx, U sy], .blk b5 45 (hcs (.slice Ai ni ci) base (.slice A n c) box chk), .blk b6 23 (kc key0)] := hw
      refine wp_seq (wp_region_lit ?_)
      refine t_net 0 4 (by kernel_rfl) rfl hF ?_
      refine net_cons rfl rfl (n_fieldAddrO (off' := 2) rfl (ev rfl) Try.runUnderlying33 rfl Try.sizeOf31 rfl) ?_
      refine net_cons rfl rfl (n_fieldAddrO (off' := 2) rfl (ev rfl) Try.runUnderlying31 rfl Try.sizeOf24 rfl) ?_
      refine net_cons rfl rfl (n_load rfl (ev rfl) (ld1 hw (i := 1) rfl Try.isAgg24 rfl)) ?_
      refine net_cons rfl rfl (n_bsl sl63 rfl (.cons (ev rfl) .nil) (.cons rfl rfl .nil) rfl (by decide) (by decide)) ?_
      refine net_nil fun a w1 hF hx => ?_
      obtain ⟨b54, h_, hw⟩ := hw.cap hx (hF.at_ 54 _ rfl)
      replace hF := hF.now (v := .slice (some ⟨b54, 0, none⟩) (1) (1)) h_
      replace hF := hF.keep (.cons (t := 3) rfl (.cons (t := 4) rfl (.cons (t := 5) rfl (.cons (t := 6) rfl (.cons (t := 7) rfl (.cons (t := 8) rfl (.cons (t := 9) rfl (.cons (t := 18) rfl (.cons (t := 49) rfl (.cons (t := 54) rfl .nil))))))))))
      refine t_net 4 1 (by kernel_rfl) rfl hF ?_
      refine net_cons rfl rfl (n_assign rfl (ev rfl)) ?_
      refine net_nil fun a w1 hF hx => ?_
      replace hw := hw.next hx
      replace hF := hF.keep (.cons (t := 3) rfl (.cons (t := 4) rfl (.cons (t := 5) rfl (.cons (t := 6) rfl (.cons (t := 7) rfl (.cons (t := 8) rfl (.cons (t := 9) rfl (.cons (t := 10) rfl (.cons (t := 18) rfl (.cons (t := 49) rfl .nil))))))))))
      refine wpList_nil ?_
      refine wp_seq (wp_region_lit ?_)
      refine t_net 0 8 (by kernel_rfl) rfl hF ?_
      refine net_cons rfl rfl (n_fieldAddrO (off' := 1) rfl (ev rfl) Try.runUnderlying45 rfl Try.sizeOf24 rfl) ?_
      refine net_cons rfl rfl (n_load rfl (ev rfl) (ld1 hw (i := 2) rfl Try.isAgg24 rfl)) ?_
      refine net_cons rfl rfl (n_fieldAddrO (off' := 2) rfl (ev rfl) Try.runUnderlying33 rfl Try.sizeOf31 rfl) ?_
      refine net_cons rfl rfl (n_fieldAddrO (off' := 3) rfl (ev rfl) Try.runUnderlying31 rfl Try.sizeOf24 rfl) ?_
      refine net_cons rfl rfl (n_load rfl (ev rfl) (ld1 hw (i := 1) rfl Try.isAgg24 rfl)) ?_
      refine net_cons rfl rfl (n_move rfl (ev rfl)) ?_
      refine net_cons rfl rfl (n_ret rfl Try.call81 (.cons (ev rfl) (.cons (ev rfl) (.cons (ev rfl) .nil))) (fun _ hx => (rPower_c base sy p (by omega) (by omega) (by omega) (by omega) _))) ?_
      refine net_cons rfl rfl (n_bsl sl63 rfl (.cons (ev rfl) .nil) (.cons rfl rfl .nil) rfl (by decide) (by decide)) ?_
      refine net_nil fun a w1 hF hx => ?_
      obtain ⟨b62, h_, hw⟩ := hw.cap hx (hF.at_ 62 _ rfl)
      replace hF := hF.now (v := .slice (some ⟨b62, 0, none⟩) (1) (1)) h_
      replace hF := hF.keep (.cons (t := 3) rfl (.cons (t := 4) rfl (.cons (t := 5) rfl (.cons (t := 6) rfl (.cons (t := 7) rfl (.cons (t := 8) rfl (.cons (t := 9) rfl (.cons (t := 10) rfl (.cons (t := 18) rfl (.cons (t := 49) rfl (.cons (t := 62) rfl .nil)))))))))))
      refine t_net 8 1 (by kernel_rfl) rfl hF ?_
      refine net_cons rfl rfl (n_assign rfl (ev rfl)) ?_
      refine net_nil fun a w1 hF hx => ?_
      replace hw := hw.next hx
      replace hF := hF.keep (.cons (t := 3) rfl (.cons (t := 4) rfl (.cons (t := 5) rfl (.cons (t := 6) rfl (.cons (t := 7) rfl (.cons (t := 8) rfl (.cons (t := 9) rfl (.cons (t := 10) rfl (.cons (t := 11) rfl (.cons (t := 18) rfl (.cons (t := 49) rfl .nil)))))))))))
      refine wpList_nil ?_
      refine wp_seq ?_
      refine wp_seq (reg_seq 1 (hF _ _) (by kernel_rfl) ?_)
      refine net_cons rfl rfl (n_assign rfl evc) ?_
      refine net_nil fun a w1 hF hx => ?_
      replace hw := hw.next hx
      replace hF := hF.keep (.cons (t := 3) rfl (.cons (t := 4) rfl (.cons (t := 5) rfl (.cons (t := 6) rfl (.cons (t := 7) rfl (.cons (t := 8) rfl (.cons (t := 9) rfl (.cons (t := 10) rfl (.cons (t := 11) rfl (.cons (t := 12) rfl (.cons (t := 18) rfl (.cons (t := 49) rfl .nil))))))))))))
      refine wpList_nil ?_
      refine wp_block ?_
      replace hw := (hw.blkRow (i := 4) (sz := 1) (n := 1) (by rfl) (by rfl) (by decide)).blkRow (i := 5) (sz := 1) (n := 1) (by rfl) (by rfl) (by decide)
      refine wp_loop_ix (α := Nat × Value × Value) (fun ⟨i, v, u⟩ a w1 => FrV 131 [] [(3, .is (ptr0 b3)) , (4, .is (ptr0 b4)) , (5, .is (ptr0 b5)) , (6, .is (ptr0 b6)) , (8, .is (U p)) , (9, .is (U q)) , (10, .is (v)) , (11, .is (u)) , (12, .is (I (i : Int)))] a ∧ Own w w1 [.blk b3 28 [B8 kd, I dp, I dg, U p, U q, U g], .blk b4 33 [I r, labs, U sx, U sy], .blk b5 45 (hcs (.slice Ai ni ci) base (.slice A n c) box chk), .blk b6 23 (kc key0), .row v 24 1 (i + 1) ((((allP p sx base sy pts).map fun x : Nat × Nat => x.1).take (i + 1)).map U), .row u 24 1 (i + 1) ((((allP p sx base sy pts).map fun x : Nat × Nat => x.2).take (i + 1)).map U)] ∧ (i ≤ n) ∧ (∀ j y, j < i → pts[j]? = some y → ¬ y.1 = sx)) (fun ⟨i, v, u⟩ => n - i) ((0, .slice (some ⟨b54, 0, none⟩) 1 1, .slice (some ⟨b62, 0, none⟩) 1 1)) ⟨hF.keep (.cons (t := 3) rfl (.cons (t := 4) rfl (.cons (t := 5) rfl (.cons (t := 6) rfl (.cons (t := 8) rfl (.cons (t := 9) rfl (.cons (t := 10) rfl (.cons (t := 11) rfl (.cons (t := 12) rfl (.nil)))))))))), hw, by omega, fun j y h => by omega⟩ ?_
      rintro ⟨i, v, u⟩ a w1 ⟨hF, hw, hi0, hno⟩
      refine wp_seq ?_
      refine wp_seq (reg_seq 5 (hF _ _) (by kernel_rfl) ?_)
      refine net_cons rfl rfl (n_move rfl (ev rfl)) ?_
      refine net_cons rfl rfl (n_fieldAddrO (off' := 2) rfl (ev rfl) Try.runUnderlying45 rfl Try.sizeOf43 rfl) ?_
      refine net_cons rfl rfl (n_load rfl (ev rfl) (ld1 hw (i := 2) rfl Try.isAgg43 rfl)) ?_
      refine net_cons rfl rfl (n_len rfl (ev rfl) Try.underlying43) ?_
      refine net_cons rfl rfl (n_bin rfl (ev rfl) (ev rfl) r_lss) ?_
      refine net_nil fun a w1 hF hx => ?_
      replace hw := hw.next hx
      replace hF := hF.keep (.cons (t := 3) rfl (.cons (t := 4) rfl (.cons (t := 5) rfl (.cons (t := 6) rfl (.cons (t := 8) rfl (.cons (t := 9) rfl (.cons (t := 10) rfl (.cons (t := 11) rfl (.cons (t := 12) rfl (.cons (t := 67) rfl .nil))))))))))
      refine wpList_nil ?_
      refine wp_cond_split (hF.ev (ev rfl)) (fun h67 => ?_) (fun h67 => ?_)
      · have hi : i < n := by have := of_bool_t h67; omega
        obtain ⟨x, hx0⟩ := some_at hl hi
        have hF_ := hF
        have hw_ := hw
        obtain ⟨bX, oX, rfl, hcX⟩ := hR.at_ (by rw [pc_len]; omega)
        have hF := hF_
        have hw := hw_
        refine wp_skip ?_
        refine wp_seq (wp_block ?_)
        refine wp_seq ?_
        refine wp_seq (reg_draw 10 mixed (by kernel_rfl) (hF _ _) ?_)
        refine net_cons rfl rfl (n_fieldAddrO (off' := 2) rfl (ev rfl) Try.runUnderlying45 rfl Try.sizeOf43 rfl) ?_
        refine net_cons rfl rfl (n_load rfl (ev rfl) (ld1 hw (i := 2) rfl Try.isAgg43 rfl)) ?_
        refine net_cons rfl rfl (n_move rfl (ev rfl)) ?_
        refine net_cons rfl rfl (n_indexS (off' := oX + (i) * 2) rfl (ev rfl) (ev rfl) Try.underlying43 Try.sizeOf31 (by omega) rfl) ?_
        refine net_cons rfl rfl (n_fieldAddrO (off' := oX + (i) * 2 + 0) rfl (ev rfl) Try.runUnderlying31 rfl Try.sizeOf24 rfl) ?_
        refine net_cons rfl rfl (n_load rfl (ev rfl) (fun w2 hx2 => ld1R hcX (pc_x hx0) Try.isAgg24 (by omega) w2 (hw.ext.trans hx2))) ?_
        refine net_cons rfl rfl (n_fieldAddrO (off' := 2) rfl (ev rfl) Try.runUnderlying33 rfl Try.sizeOf31 rfl) ?_
        refine net_cons rfl rfl (n_fieldAddrO (off' := 2) rfl (ev rfl) Try.runUnderlying31 rfl Try.sizeOf24 rfl) ?_
        refine net_cons rfl rfl (n_load rfl (ev rfl) (ld1 hw (i := 1) rfl Try.isAgg24 rfl)) ?_
        refine net_cons rfl rfl (n_bin rfl (ev rfl) (ev rfl) (r_eqlN)) ?_
        refine net_nil fun a w1 hF hx => ?_
        replace hw := hw.next hx
        replace hF := hF.keep (.cons (t := 3) rfl (.cons (t := 4) rfl (.cons (t := 5) rfl (.cons (t := 6) rfl (.cons (t := 8) rfl (.cons (t := 9) rfl (.cons (t := 10) rfl (.cons (t := 11) rfl (.cons (t := 12) rfl (.cons (t := 67) rfl (.cons (t := 79) rfl .nil)))))))))))
        refine wpList_nil ?_
        refine wp_cond_split (hF.ev (ev rfl)) (fun h79 => ?_) (fun h79 => ?_)
        · have hz3 : hitX pts sx = true := List.any_eq_true.2 ⟨x, List.mem_of_getElem? hx0, h79⟩
          refine wp_seq (wp_region_lit ?_)
          refine t_net 0 1 (by kernel_rfl) rfl hF ?_
          refine net_cons rfl rfl (n_build rfl .nil build_23_) ?_
          refine net_nil fun a w1 hF hx => ?_
          replace hw := hw.next hx
          replace hF := hF.keep (.cons (t := 3) rfl (.cons (t := 4) rfl (.cons (t := 5) rfl (.cons (t := 6) rfl (.cons (t := 8) rfl (.cons (t := 9) rfl (.cons (t := 10) rfl (.cons (t := 11) rfl (.cons (t := 12) rfl (.cons (t := 67) rfl (.cons (t := 79) rfl (.cons (t := 80) rfl .nil))))))))))))
          refine t_store (i := 3) rfl rfl rfl hF hw rfl (ev rfl) (ev rfl) rfl (kc_one _) Try.sizeOf23 (kc_len _) (by first | decide | (rw [kc_len]; decide)) (seg_whole (by simp only [kc_len])) fun w1 hw => ?_
          refine t_net 2 1 (by kernel_rfl) rfl hF ?_
          refine net_cons rfl rfl (n_assign rfl evc) ?_
          refine net_nil fun a w1 hF hx => ?_
          replace hw := hw.next hx
          replace hF := hF.keep (.cons (t := 3) rfl (.cons (t := 4) rfl (.cons (t := 5) rfl (.cons (t := 6) rfl (.cons (t := 7) rfl (.cons (t := 8) rfl (.cons (t := 9) rfl (.cons (t := 10) rfl (.cons (t := 11) rfl (.cons (t := 12) rfl (.cons (t := 67) rfl (.cons (t := 79) rfl .nil))))))))))))
          refine wpList_nil ?_
          refine wp_ret (go_then_r (go_block_r (go_then_r (go_then_r (go_block_r (go_then_r (retc2 hF Try.results28 rfl (ldN hw (i := 3) (vs := _) rfl Try.isAgg23 Try.sizeOf23 (kc_len _) (cut_whole (kc_len _)) _ (Ext.refl _)) rfl ?_)))))))
          exact ⟨_, rfl, hw.ext, (by rw [openR_hit hz hz2 hz3]; rfl)⟩
        · refine wp_skip ?_
          refine wp_seq (wp_region_lit ?_)
          refine t_net 0 8 (by kernel_rfl) rfl hF ?_
          refine net_cons rfl rfl (n_move rfl (ev rfl)) ?_
          refine net_cons rfl rfl (n_fieldAddrO (off' := 2) rfl (ev rfl) Try.runUnderlying45 rfl Try.sizeOf43 rfl) ?_
          refine net_cons rfl rfl (n_load rfl (ev rfl) (ld1 hw (i := 2) rfl Try.isAgg43 rfl)) ?_
          refine net_cons rfl rfl (n_move rfl (ev rfl)) ?_
          refine net_cons rfl rfl (n_indexS (off' := oX + (i) * 2) rfl (ev rfl) (ev rfl) Try.underlying43 Try.sizeOf31 (by omega) rfl) ?_
          refine net_cons rfl rfl (n_fieldAddrO (off' := oX + (i) * 2 + 0) rfl (ev rfl) Try.runUnderlying31 rfl Try.sizeOf24 rfl) ?_
          refine net_cons rfl rfl (n_load rfl (ev rfl) (fun w2 hx2 => ld1R hcX (pc_x hx0) Try.isAgg24 (by omega) w2 (hw.ext.trans hx2))) ?_
          refine net_cons rfl rfl (n_bsl sl63 rfl (.cons (ev rfl) .nil) (.cons rfl rfl .nil) rfl (by decide) (by decide)) ?_
          refine net_nil fun a w1 hF hx => ?_
          obtain ⟨b88, h_, hw⟩ := hw.cap hx (hF.at_ 88 _ rfl)
          replace hF := hF.now (v := .slice (some ⟨b88, 0, none⟩) (1) (1)) h_
          replace hF := hF.keep (.cons (t := 3) rfl (.cons (t := 4) rfl (.cons (t := 5) rfl (.cons (t := 6) rfl (.cons (t := 8) rfl (.cons (t := 9) rfl (.cons (t := 10) rfl (.cons (t := 11) rfl (.cons (t := 12) rfl (.cons (t := 67) rfl (.cons (t := 79) rfl (.cons (t := 81) rfl (.cons (t := 88) rfl .nil)))))))))))))
          refine t_append (i := 4) sl63 rfl rfl rfl (by decide) hF hw rfl (ev rfl) (ev rfl) (hw.rdWhole (i := 6) rfl) rfl one1 (by simp only [maxLen]; omega) (by omega) fun v89 a w1 hF hw => ?_
          replace hF := hF.keep (.cons (t := 3) rfl (.cons (t := 4) rfl (.cons (t := 5) rfl (.cons (t := 6) rfl (.cons (t := 8) rfl (.cons (t := 9) rfl (.cons (t := 10) rfl (.cons (t := 11) rfl (.cons (t := 12) rfl (.cons (t := 67) rfl (.cons (t := 79) rfl (.cons (t := 89) rfl .nil))))))))))))
          replace hw := hw.drop (.cons_cons _ (.cons_cons _ (.cons_cons _ (.cons_cons _ (.cons_cons _ (.cons_cons _ (.cons _ .slnil)))))))
          refine t_net 9 1 (by kernel_rfl) rfl hF ?_
          refine net_cons rfl rfl (n_assign rfl (ev rfl)) ?_
          refine net_nil fun a w1 hF hx => ?_
          replace hw := hw.next hx
          replace hF := hF.keep (.cons (t := 3) rfl (.cons (t := 4) rfl (.cons (t := 5) rfl (.cons (t := 6) rfl (.cons (t := 8) rfl (.cons (t := 9) rfl (.cons (t := 10) rfl (.cons (t := 11) rfl (.cons (t := 12) rfl (.cons (t := 67) rfl (.cons (t := 79) rfl .nil)))))))))))
          refine wpList_nil ?_
          refine wp_region_lit ?_
          refine t_net 0 8 (by kernel_rfl) rfl hF ?_
          refine net_cons rfl rfl (n_move rfl (ev rfl)) ?_
          refine net_cons rfl rfl (n_fieldAddrO (off' := 2) rfl (ev rfl) Try.runUnderlying45 rfl Try.sizeOf43 rfl) ?_
          refine net_cons rfl rfl (n_load rfl (ev rfl) (ld1 hw (i := 2) rfl Try.isAgg43 rfl)) ?_
          refine net_cons rfl rfl (n_move rfl (ev rfl)) ?_
          refine net_cons rfl rfl (n_indexS (off' := oX + (i) * 2) rfl (ev rfl) (ev rfl) Try.underlying43 Try.sizeOf31 (by omega) rfl) ?_
          refine net_cons rfl rfl (n_fieldAddrO (off' := oX + (i) * 2 + 1) rfl (ev rfl) Try.runUnderlying31 rfl Try.sizeOf24 rfl) ?_
          refine net_cons rfl rfl (n_load rfl (ev rfl) (fun w2 hx2 => ld1R hcX (pc_y hx0) Try.isAgg24 (by omega) w2 (hw.ext.trans hx2))) ?_
          refine net_cons rfl rfl (n_bsl sl63 rfl (.cons (ev rfl) .nil) (.cons rfl rfl .nil) rfl (by decide) (by decide)) ?_
          refine net_nil fun a w1 hF hx => ?_
          obtain ⟨b97, h_, hw⟩ := hw.cap hx (hF.at_ 97 _ rfl)
          replace hF := hF.now (v := .slice (some ⟨b97, 0, none⟩) (1) (1)) h_
          replace hF := hF.keep (.cons (t := 3) rfl (.cons (t := 4) rfl (.cons (t := 5) rfl (.cons (t := 6) rfl (.cons (t := 8) rfl (.cons (t := 9) rfl (.cons (t := 10) rfl (.cons (t := 11) rfl (.cons (t := 12) rfl (.cons (t := 67) rfl (.cons (t := 79) rfl (.cons (t := 90) rfl (.cons (t := 97) rfl .nil)))))))))))))
          refine t_append (i := 5) sl63 rfl rfl rfl (by decide) hF hw rfl (ev rfl) (ev rfl) (hw.rdWhole (i := 6) rfl) rfl one1 (by simp only [maxLen]; omega) (by omega) fun v98 a w1 hF hw => ?_
          replace hF := hF.keep (.cons (t := 3) rfl (.cons (t := 4) rfl (.cons (t := 5) rfl (.cons (t := 6) rfl (.cons (t := 8) rfl (.cons (t := 9) rfl (.cons (t := 10) rfl (.cons (t := 11) rfl (.cons (t := 12) rfl (.cons (t := 67) rfl (.cons (t := 79) rfl (.cons (t := 98) rfl .nil))))))))))))
          replace hw := hw.drop (.cons_cons _ (.cons_cons _ (.cons_cons _ (.cons_cons _ (.cons_cons _ (.cons_cons _ (.cons _ .slnil)))))))
          refine t_net 9 1 (by kernel_rfl) rfl hF ?_
          refine net_cons rfl rfl (n_assign rfl (ev rfl)) ?_
          refine net_nil fun a w1 hF hx => ?_
          replace hw := hw.next hx
          replace hF := hF.keep (.cons (t := 3) rfl (.cons (t := 4) rfl (.cons (t := 5) rfl (.cons (t := 6) rfl (.cons (t := 8) rfl (.cons (t := 9) rfl (.cons (t := 10) rfl (.cons (t := 11) rfl (.cons (t := 12) rfl (.cons (t := 67) rfl (.cons (t := 79) rfl .nil)))))))))))
          refine wpList_nil ?_
          refine reg_seq 3 (hF _ _) (by kernel_rfl) ?_
          refine net_cons rfl rfl (n_move rfl (ev rfl)) ?_
          refine net_cons rfl rfl (n_bin rfl (ev rfl) evc (r_inc (by omega))) ?_
          refine net_cons rfl rfl (n_assign rfl (ev rfl)) ?_
          refine net_nil fun a w1 hF hx => ?_
          replace hw := hw.next hx
          replace hF := hF.keep (.cons (t := 3) rfl (.cons (t := 4) rfl (.cons (t := 5) rfl (.cons (t := 6) rfl (.cons (t := 8) rfl (.cons (t := 9) rfl (.cons (t := 10) rfl (.cons (t := 11) rfl (.cons (t := 12) rfl (.cons (t := 67) rfl (.cons (t := 79) rfl .nil)))))))))))
          refine wpList_nil ?_
          exact ⟨(i + 1, v89, v98), ⟨hF.keep (.cons (t := 3) rfl (.cons (t := 4) rfl (.cons (t := 5) rfl (.cons (t := 6) rfl (.cons (t := 8) rfl (.cons (t := 9) rfl (.cons (t := 10) rfl (.cons (t := 11) rfl (.cons (t := 12) rfl (.nil)))))))))), (xs_take (f := fun x : Nat × Nat => x.1) (allP_succ (p := p) (sx := sx) (base := base) (sy := sy) hx0) ▸ xs_take (f := fun x : Nat × Nat => x.2) (allP_succ (p := p) (sx := sx) (base := base) (sy := sy) hx0) ▸ hw), by omega, up_at hno hx0 (of_bool_f h79)⟩, (by show n - (i + 1) < n - i; omega)⟩
      · obtain rfl : n = i := by have := of_bool_f h67; omega
        have hz3 : hitX pts sx = false := by have := hitX_none hno; rwa [take_len hl] at this
        have hnd : ((allP p sx base sy pts).map fun x : Nat × Nat => x.1).Nodup := allP_nodup hh4 hz3
        rw [take_len hxlen, take_len (show ((allP p sx base sy pts).map fun x : Nat × Nat => x.2).length = n + 1 by rw [List.length_map, hll])] at hw
        obtain ⟨Ax, cx, rfl, _, _, _⟩ := hw.rd (i := 4) rfl
        obtain ⟨Ay, cy, rfl, _, _, _⟩ := hw.rd (i := 5) rfl
        refine wp_exit (go_then_e (go_then_e (go_exit ?_)))
        refine wp_seq (reg_seq 1 (hF _ _) (by kernel_rfl) ?_)
        refine net_cons rfl rfl (n_assign rfl evc) ?_
        refine net_nil fun a w1 hF hx => ?_
        replace hw := hw.next hx
        replace hF := hF.keep (.cons (t := 3) rfl (.cons (t := 4) rfl (.cons (t := 5) rfl (.cons (t := 6) rfl (.cons (t := 8) rfl (.cons (t := 9) rfl (.cons (t := 10) rfl (.cons (t := 11) rfl (.cons (t := 12) rfl (.cons (t := 13) rfl (.cons (t := 67) rfl .nil)))))))))))
        refine wpList_nil ?_
        refine wp_seq ?_
        refine wp_seq (reg_seq 1 (hF _ _) (by kernel_rfl) ?_)
        refine net_cons rfl rfl (n_assign rfl evc) ?_
        refine net_nil fun a w1 hF hx => ?_
        replace hw := hw.next hx
        replace hF := hF.keep (.cons (t := 3) rfl (.cons (t := 4) rfl (.cons (t := 5) rfl (.cons (t := 6) rfl (.cons (t := 8) rfl (.cons (t := 9) rfl (.cons (t := 10) rfl (.cons (t := 11) rfl (.cons (t := 12) rfl (.cons (t := 13) rfl (.cons (t := 14) rfl (.cons (t := 67) rfl .nil))))))))))))
        refine wpList_nil ?_
        refine wp_block ?_
        refine wp_loop_ix (α := Nat) (fun j a w1 => FrV 131 [] [(3, .is (ptr0 b3)) , (5, .is (ptr0 b5)) , (6, .is (ptr0 b6)) , (8, .is (U p)) , (9, .is (U q)) , (10, .is (.slice Ax (n + 1) cx)) , (11, .is (.slice Ay (n + 1) cy)) , (13, .is (U (zP p q (allP p sx base sy pts) (n + 1) j))) , (14, .is (I (j : Int)))] a ∧ Own w w1 [.blk b3 28 [B8 kd, I dp, I dg, U p, U q, U g], .blk b4 33 [I r, labs, U sx, U sy], .blk b5 45 (hcs (.slice Ai ni ci) base (.slice A n c) box chk), .blk b6 23 (kc key0), .row (.slice Ax (n + 1) cx) 24 1 (n + 1) (((allP p sx base sy pts).map fun x : Nat × Nat => x.1).map U), .row (.slice Ay (n + 1) cy) 24 1 (n + 1) (((allP p sx base sy pts).map fun x : Nat × Nat => x.2).map U)] ∧ (j ≤ n + 1)) (fun j => n + 1 - j) (0) ⟨hF.keep (.cons (t := 3) rfl (.cons (t := 5) rfl (.cons (t := 6) rfl (.cons (t := 8) rfl (.cons (t := 9) rfl (.cons (t := 10) rfl (.cons (t := 11) rfl (.cons (t := 13) rfl (.cons (t := 14) rfl (.nil)))))))))), hw, by omega⟩ ?_
        rintro j a w1 ⟨hF, hw, hj0⟩
        refine wp_seq ?_
        refine wp_seq (reg_seq 4 (hF _ _) (by kernel_rfl) ?_)
        refine net_cons rfl rfl (n_move rfl (ev rfl)) ?_
        refine net_cons rfl rfl (n_move rfl (ev rfl)) ?_
        refine net_cons rfl rfl (n_len rfl (ev rfl) Try.underlying63) ?_
        refine net_cons rfl rfl (n_bin rfl (ev rfl) (ev rfl) r_lss) ?_
        refine net_nil fun a w1 hF hx => ?_
        replace hw := hw.next hx
        replace hF := hF.keep (.cons (t := 3) rfl (.cons (t := 5) rfl (.cons (t := 6) rfl (.cons (t := 8) rfl (.cons (t := 9) rfl (.cons (t := 10) rfl (.cons (t := 11) rfl (.cons (t := 13) rfl (.cons (t := 14) rfl (.cons (t := 102) rfl .nil))))))))))
        refine wpList_nil ?_
        refine wp_cond_split (hF.ev (ev rfl)) (fun h102 => ?_) (fun h102 => ?_)
        · have hj : j < n + 1 := by have := of_bool_t h102; omega
          obtain ⟨x, hx0⟩ := some_at hll hj
          obtain ⟨hx1, hx2⟩ := hal x (List.mem_of_getElem? hx0)
          have hzl := zP_le (q := q) (all := (allP p sx base sy pts)) (n := n + 1) hz10 j
          have hfr := facR_lt hz8 ((allP p sx base sy pts).map fun x : Nat × Nat => x.1) j (n + 1)
          have hpl := Nat.mod_lt (x.2 ^ facR q ((allP p sx base sy pts).map fun x : Nat × Nat => x.1) j (n + 1)) (show 0 < p by omega)
          obtain ⟨_, _, hse_, _, hRx, _⟩ := hw.rd (i := 4) rfl
          injection hse_ with hA_ _ _
          subst hA_
          obtain ⟨_, _, hse_, _, hRy, _⟩ := hw.rd (i := 5) rfl
          injection hse_ with hA_ _ _
          subst hA_
          have hF_ := hF
          have hw_ := hw
          obtain ⟨bY, oY, rfl, hcY⟩ := hRy.at_ (by rw [List.length_map, List.length_map, hll]; omega)
          have hF := hF_
          have hw := hw_
          refine wp_skip ?_
          refine wp_seq (wp_block ?_)
          refine reg_draw 15 mixed (by kernel_rfl) (hF _ _) ?_
          refine net_cons rfl rfl (n_move rfl (ev rfl)) ?_
          refine net_cons rfl rfl (n_move rfl (ev rfl)) ?_
          refine net_cons rfl rfl (n_move rfl (ev rfl)) ?_
          refine net_cons rfl rfl (n_indexS (off' := oY + (j)) rfl (ev rfl) (ev rfl) Try.underlying63 Try.sizeOf24 (by omega) (by omega)) ?_
          refine net_cons rfl rfl (n_load rfl (ev rfl) (fun w2 hx2 => ld1R hcY (map_at (map_at hx0)) Try.isAgg24 (by omega) w2 hx2)) ?_
          refine net_cons rfl rfl (n_move rfl (ev rfl)) ?_
          refine net_cons rfl rfl (n_move rfl (ev rfl)) ?_
          refine net_cons rfl rfl (n_move rfl (ev rfl)) ?_
          refine net_cons rfl rfl (n_ret rfl Try.call82 (.cons (ev rfl) (.cons (ev rfl) (.cons (ev rfl) .nil))) (fun _ hx => (factor_c q j (n + 1) cx Ax ((allP p sx base sy pts).map fun x : Nat × Nat => x.1) hqp hxlen hj (by omega) hxl hnd _ (hRx.ext hx)))) ?_
          refine net_cons rfl rfl (n_move rfl (ev rfl)) ?_
          refine net_cons rfl rfl (n_ret rfl Try.call81 (.cons (ev rfl) (.cons (ev rfl) (.cons (ev rfl) .nil))) (fun _ hx => (rPower_c x.2 (facR q ((allP p sx base sy pts).map fun x : Nat × Nat => x.1) j (n + 1)) p (by omega) (by omega) (by omega) (by omega) _))) ?_
          refine net_cons rfl rfl (n_bin rfl (ev rfl) (ev rfl) (r_mulN (mul_le32 (by omega) (by omega)))) ?_
          refine net_cons rfl rfl (n_move rfl (ev rfl)) ?_
          refine net_cons rfl rfl (n_to (n_bin rfl (ev rfl) (ev rfl) (r_remN (by omega))) (congrArg (fun n : Nat => U n) (zP_step hx0))) ?_
          refine net_cons rfl rfl (n_assign rfl (ev rfl)) ?_
          refine net_nil fun a w1 hF hx => ?_
          replace hw := hw.next hx
          replace hF := hF.keep (.cons (t := 3) rfl (.cons (t := 5) rfl (.cons (t := 6) rfl (.cons (t := 8) rfl (.cons (t := 9) rfl (.cons (t := 10) rfl (.cons (t := 11) rfl (.cons (t := 13) rfl (.cons (t := 14) rfl (.cons (t := 102) rfl .nil))))))))))
          refine wpList_nil ?_
          refine reg_seq 3 (hF _ _) (by kernel_rfl) ?_
          refine net_cons rfl rfl (n_move rfl (ev rfl)) ?_
          refine net_cons rfl rfl (n_bin rfl (ev rfl) evc (r_inc (by omega))) ?_
          refine net_cons rfl rfl (n_assign rfl (ev rfl)) ?_
          refine net_nil fun a w1 hF hx => ?_
          replace hw := hw.next hx
          replace hF := hF.keep (.cons (t := 3) rfl (.cons (t := 5) rfl (.cons (t := 6) rfl (.cons (t := 8) rfl (.cons (t := 9) rfl (.cons (t := 10) rfl (.cons (t := 11) rfl (.cons (t := 13) rfl (.cons (t := 14) rfl (.cons (t := 102) rfl .nil))))))))))
          refine wpList_nil ?_
          exact ⟨j + 1, ⟨hF.keep (.cons (t := 3) rfl (.cons (t := 5) rfl (.cons (t := 6) rfl (.cons (t := 8) rfl (.cons (t := 9) rfl (.cons (t := 10) rfl (.cons (t := 11) rfl (.cons (t := 13) rfl (.cons (t := 14) rfl (.nil)))))))))), hw, by omega⟩, by omega⟩
        · obtain rfl : j = n + 1 := by have := of_bool_f h102; omega
          have hzl := zP_le (q := q) (all := (allP p sx base sy pts)) (n := n + 1) hz10 (n + 1)
          refine wp_exit (go_then_e (go_then_e (go_exit ?_)))
          refine wp_seq (reg_draw 6 mixed (by kernel_rfl) (hF _ _) ?_)
          refine net_cons rfl rfl (n_move rfl (ev rfl)) ?_
          refine net_cons rfl rfl (n_ret rfl Try.call84 (.cons (ev rfl) .nil) (fun _ hx => MaskKey_c _ (by omega) _)) ?_
          refine net_cons rfl rfl (n_fieldAddrO (off' := 3) rfl (ev rfl) Try.runUnderlying45 rfl Try.sizeOf23 rfl) ?_
          refine net_cons rfl rfl (n_load rfl (ev rfl) (ldN hw (i := 2) (vs := _) rfl Try.isAgg23 Try.sizeOf23 (kc_len _) (hcs_box_at _ _ _ _ _))) ?_
          refine net_cons rfl rfl (n_ret rfl Try.call83 (.cons (ev rfl) (.cons (ev rfl) .nil)) (fun _ hx => rDecrypt_c _ _ _)) ?_
          refine net_cons rfl rfl (n_alloc rfl Try.zeroValue23 rfl) ?_
          refine net_nil fun a w1 hF hx => ?_
          obtain ⟨b15, h_, hw⟩ := hw.blk hx (hF.at_ 15 _ rfl)
          replace hF := hF.now h_
          replace hF := hF.keep (.cons (t := 3) rfl (.cons (t := 5) rfl (.cons (t := 6) rfl (.cons (t := 8) rfl (.cons (t := 9) rfl (.cons (t := 10) rfl (.cons (t := 11) rfl (.cons (t := 13) rfl (.cons (t := 14) rfl (.cons (t := 15) rfl (.cons (t := 102) rfl (.cons (t := 123) rfl .nil))))))))))))
          refine t_store (i := 6) rfl rfl rfl hF hw rfl (ev rfl) (ev rfl) rfl (kc_one _) Try.sizeOf23 (kc_len _) (by first | decide | (rw [kc_len]; decide)) (seg_whole (by rw [kc_len]; rfl)) fun w1 hw => ?_
          refine wpList_nil ?_
          refine wp_seq ?_
          refine wp_seq (reg_draw 5 mixed (by kernel_rfl) (hF _ _) ?_)
          refine net_cons rfl rfl (n_load rfl (ev rfl) (ldN hw (i := 6) (vs := _) rfl Try.isAgg23 Try.sizeOf23 (kc_len _) (cut_whole (kc_len _)))) ?_
          refine net_cons rfl rfl (n_ret rfl Try.call85 (.cons (ev rfl) (.cons evc (.cons evc .nil))) (fun _ hx => rDerive_c _ 53 0 (by decide) (by decide) _)) ?_
          refine net_cons rfl rfl (n_fieldAddrO (off' := 19) rfl (ev rfl) Try.runUnderlying45 rfl Try.sizeOf23 rfl) ?_
          refine net_cons rfl rfl (n_load rfl (ev rfl) (ldN hw (i := 2) (vs := _) rfl Try.isAgg23 Try.sizeOf23 (kc_len _) (hcs_chk_at _ _ _ _ _))) ?_
          refine net_cons rfl rfl (n_bin rfl (ev rfl) (ev rfl) r_neKey) ?_
          refine net_nil fun a w1 hF hx => ?_
          replace hw := hw.next hx
          replace hF := hF.keep (.cons (t := 3) rfl (.cons (t := 5) rfl (.cons (t := 6) rfl (.cons (t := 8) rfl (.cons (t := 9) rfl (.cons (t := 10) rfl (.cons (t := 11) rfl (.cons (t := 13) rfl (.cons (t := 14) rfl (.cons (t := 15) rfl (.cons (t := 102) rfl (.cons (t := 123) rfl (.cons (t := 128) rfl .nil)))))))))))))
          refine wpList_nil ?_
          refine wp_cond_split (hF.ev (ev rfl)) (fun h128 => ?_) (fun h128 => ?_)
          · have hz4 : ¬ derK (openK p q n sx base sy pts box) 53 0 = chk := by simpa [openK] using h128
            refine wp_seq (wp_region_lit ?_)
            refine t_net 0 1 (by kernel_rfl) rfl hF ?_
            refine net_cons rfl rfl (n_build rfl .nil build_23_) ?_
            refine net_nil fun a w1 hF hx => ?_
            replace hw := hw.next hx
            replace hF := hF.keep (.cons (t := 3) rfl (.cons (t := 5) rfl (.cons (t := 6) rfl (.cons (t := 8) rfl (.cons (t := 9) rfl (.cons (t := 10) rfl (.cons (t := 11) rfl (.cons (t := 13) rfl (.cons (t := 14) rfl (.cons (t := 15) rfl (.cons (t := 102) rfl (.cons (t := 123) rfl (.cons (t := 128) rfl (.cons (t := 129) rfl .nil))))))))))))))
            refine t_store (i := 3) rfl rfl rfl hF hw rfl (ev rfl) (ev rfl) rfl (kc_one _) Try.sizeOf23 (kc_len _) (by first | decide | (rw [kc_len]; decide)) (seg_whole (by simp only [kc_len])) fun w1 hw => ?_
            refine t_net 2 1 (by kernel_rfl) rfl hF ?_
            refine net_cons rfl rfl (n_assign rfl evc) ?_
            refine net_nil fun a w1 hF hx => ?_
            replace hw := hw.next hx
            replace hF := hF.keep (.cons (t := 3) rfl (.cons (t := 5) rfl (.cons (t := 6) rfl (.cons (t := 7) rfl (.cons (t := 8) rfl (.cons (t := 9) rfl (.cons (t := 10) rfl (.cons (t := 11) rfl (.cons (t := 13) rfl (.cons (t := 14) rfl (.cons (t := 15) rfl (.cons (t := 102) rfl (.cons (t := 123) rfl (.cons (t := 128) rfl .nil))))))))))))))
            refine wpList_nil ?_
            refine wp_ret (go_then_r (retc2 hF Try.results28 rfl (ldN hw (i := 3) (vs := _) rfl Try.isAgg23 Try.sizeOf23 (kc_len _) (cut_whole (kc_len _)) _ (Ext.refl _)) rfl ?_))
            exact ⟨_, rfl, hw.ext, (by rw [openR_wrong hz hz2 hz3 hz4]; rfl)⟩
          · have hz4 : derK (openK p q n sx base sy pts box) 53 0 = chk := by simpa [openK] using h128
            refine wp_skip ?_
            refine wp_seq (wp_region_lit ?_)
            refine t_net 0 1 (by kernel_rfl) rfl hF ?_
            refine net_cons rfl rfl (n_load rfl (ev rfl) (ldN hw (i := 6) (vs := _) rfl Try.isAgg23 Try.sizeOf23 (kc_len _) (cut_whole (kc_len _)))) ?_
            refine net_nil fun a w1 hF hx => ?_
            replace hw := hw.next hx
            replace hF := hF.keep (.cons (t := 3) rfl (.cons (t := 5) rfl (.cons (t := 6) rfl (.cons (t := 8) rfl (.cons (t := 9) rfl (.cons (t := 10) rfl (.cons (t := 11) rfl (.cons (t := 13) rfl (.cons (t := 14) rfl (.cons (t := 15) rfl (.cons (t := 102) rfl (.cons (t := 123) rfl (.cons (t := 128) rfl (.cons (t := 130) rfl .nil))))))))))))))
            refine t_store (i := 3) rfl rfl rfl hF hw rfl (ev rfl) (ev rfl) rfl (kc_one _) Try.sizeOf23 (kc_len _) (by first | decide | (rw [kc_len]; decide)) (seg_whole (by simp only [kc_len])) fun w1 hw => ?_
            refine t_net 2 1 (by kernel_rfl) rfl hF ?_
            refine net_cons rfl rfl (n_assign rfl evc) ?_
            refine net_nil fun a w1 hF hx => ?_
            replace hw := hw.next hx
            replace hF := hF.keep (.cons (t := 3) rfl (.cons (t := 5) rfl (.cons (t := 6) rfl (.cons (t := 7) rfl (.cons (t := 8) rfl (.cons (t := 9) rfl (.cons (t := 10) rfl (.cons (t := 11) rfl (.cons (t := 13) rfl (.cons (t := 14) rfl (.cons (t := 15) rfl (.cons (t := 102) rfl (.cons (t := 123) rfl (.cons (t := 128) rfl .nil))))))))))))))
            refine wpList_nil ?_
            refine wp_ret (retc2 hF Try.results28 rfl (ldN hw (i := 3) (vs := _) rfl Try.isAgg23 Try.sizeOf23 (kc_len _) (cut_whole (kc_len _)) _ (Ext.refl _)) rfl ?_)
            exact ⟨_, rfl, hw.ext, (by rw [openR_ok hz hz2 hz3 hz4]; rfl)⟩
end Go.Proofs.Ythgpojlcbbgaoaa

