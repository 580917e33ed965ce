/- the program is alive -/
import Derived.Test.YthgpojlcbbgaoaaSmall

set_option autoImplicit false
set_option maxRecDepth 100000
set_option linter.unusedVariables false
namespace Go.Proofs.Ythgpojlcbbgaoaa
open Go.RowKit


def keyB (b : Nat) : Key := ⟨BitVec.ofNat 64 (b * 72057594037927936), 0#64⟩
theorem build_23_1 (w : World) : (Instr.build 23 #[(0, B8 1)]).run Try.prog w = .ok (K (keyB 1)) w := by
  simp [Instr.build, Try.zeroValue23, Try.runUnderlying23, Array.mapM_eq_mapM_toList, List.mapM_cons, Try.sizeOf5, Instr.fill, Value.cells]
  rfl
theorem build_23_2 (w : World) : (Instr.build 23 #[(0, B8 2)]).run Try.prog w = .ok (K (keyB 2)) w := by
  simp [Instr.build, Try.zeroValue23, Try.runUnderlying23, Array.mapM_eq_mapM_toList, List.mapM_cons, Try.sizeOf5, Instr.fill, Value.cells]
  rfl
abbrev k1 : Key := keyB 1
abbrev k2 : Key := keyB 2
@[irreducible] def al1 : Nat × Int := valR 4 2 2 23 11 2 3 [3, 0, 2] 4
@[irreducible] def al2 : List Nat × Int := intR 4 2 2 23 11 2 3 [(1, 5), (4, 2), (0, 3)]
@[irreducible] def alH : (Nat × List (Nat × Nat) × Key × Key) × Int := sealR k1 4 2 2 23 11 2 [1] k2 5
@[irreducible] def alB : (Int × Nat × Nat) × Int := secR k1 4 2 2 23 11 2 0
@[irreducible] def alC : (Int × Nat × Nat) × Int := secR k1 4 2 2 23 11 2 1
@[irreducible] def alOB : Key × Int := openR 4 2 2 23 11 2 0 alH.1.1 alH.1.2.1.length alH.1.2.1 alB.1.2.1 alB.1.2.2 alH.1.2.2.1 alH.1.2.2.2
@[irreducible] def alOC : Key × Int := openR 4 2 2 23 11 2 0 alH.1.1 alH.1.2.1.length alH.1.2.1 alC.1.2.1 alC.1.2.2 alH.1.2.2.1 alH.1.2.2.2
@[irreducible] def alF : Int × List Lab × Int := fullR k1 2
@[irreducible] def alP : Int × List Lab × Int := punR alF.1 alF.2.1 1
@[irreducible] def alE1 : Key × Int := evR alP.1 alP.2.1 1
@[irreducible] def alE0 : Key × Int := evR alP.1 alP.2.1 0
@[irreducible] def alEF : Key × Int := evR alF.1 alF.2.1 0
section
variable {w : World} {A : Option Addr} {c : Nat}
theorem hHl : alH.1.2.1.length = 2 := by decide +kernel
theorem hFl : alF.2.1.length = 1 := by decide +kernel
theorem hPl : alP.2.1.length = 2 := by decide +kernel
theorem h2l : al2.1.length = 3 := by decide +kernel
theorem al_value (hR : Rd w A ([3, 0, 2].map U)) : RetF Try.prog 33 [SV 4 2 2 23 11 2, .slice A 3 c, U 4].toArray w (.is (.tuple #[U al1.1, I al1.2])) := by
  unfold al1
  exact PValue_c 4 2 2 23 11 2 (by decide) (by decide) (by decide) 3 c A [3, 0, 2] 4 rfl (by decide) w hR
theorem al_int (hc : 3 ≤ c) (hR : Rd w A (pc [(1, 5), (4, 2), (0, 3)])) : RetF Try.prog 34 [SV 4 2 2 23 11 2, .slice A 3 c].toArray w (.ex 24 1 al2.1.length (al2.1.map U) (fun v => .tuple #[v, I al2.2])) := by
  unfold al2
  exact Interpolate_c 4 2 2 23 11 2 (by decide) (by decide) (by decide) 3 c A _ rfl hc (by decide) w hR
theorem al_seal (hR : Rd w A ([1].map I)) : RetF Try.prog 21 [K k1, SV 4 2 2 23 11 2, .slice A 1 c, K k2, U 5].toArray w (.ex 31 2 alH.1.2.1.length (pc alH.1.2.1) fun v => .tuple #[HV (.slice none 0 0) alH.1.1 v alH.1.2.2.1 alH.1.2.2.2, I alH.2]) := by
  unfold alH
  exact Seal_c k1 k2 4 2 2 23 11 2 5 1 c A [1] (by decide) (by decide) (by decide) (by decide) rfl (by decide) w hR
theorem al_secB : RetF Try.prog 18 [K k1, SV 4 2 2 23 11 2, I 0].toArray w (.is (.tuple #[SecV alB.1.1 (.slice none 0 0) alB.1.2.1 alB.1.2.2, I alB.2])) := by
  unfold alB
  exact Secret_c k1 4 2 2 23 11 2 (by decide) (by decide) (by decide) 0 (by decide) (by decide) w
theorem al_secC : RetF Try.prog 18 [K k1, SV 4 2 2 23 11 2, I 1].toArray w (.is (.tuple #[SecV alC.1.1 (.slice none 0 0) alC.1.2.1 alC.1.2.2, I alC.2])) := by
  unfold alC
  exact Secret_c k1 4 2 2 23 11 2 (by decide) (by decide) (by decide) 1 (by decide) (by decide) w
theorem al_openB (hc : alH.1.2.1.length ≤ c) (hR : Rd w A (pc alH.1.2.1)) : RetF Try.prog 27 [SV 4 2 2 23 11 2, SecV alB.1.1 (.slice none 0 0) alB.1.2.1 alB.1.2.2, HV (.slice none 0 0) alH.1.1 (.slice A alH.1.2.1.length c) alH.1.2.2.1 alH.1.2.2.2].toArray w (.is (.tuple #[K alOB.1, I alOB.2])) := by
  unfold alOB
  exact Open_c 4 2 2 23 11 2 0 0 _ _ c none A _ _ _ _ _ _ _ (by decide) (by decide) (by decide) rfl hc (by rw [hHl]; decide) w hR
theorem al_openC (hc : alH.1.2.1.length ≤ c) (hR : Rd w A (pc alH.1.2.1)) : RetF Try.prog 27 [SV 4 2 2 23 11 2, SecV alC.1.1 (.slice none 0 0) alC.1.2.1 alC.1.2.2, HV (.slice none 0 0) alH.1.1 (.slice A alH.1.2.1.length c) alH.1.2.2.1 alH.1.2.2.2].toArray w (.is (.tuple #[K alOC.1, I alOC.2])) := by
  unfold alOC
  exact Open_c 4 2 2 23 11 2 0 0 _ _ c none A _ _ _ _ _ _ _ (by decide) (by decide) (by decide) rfl hc (by rw [hHl]; decide) w hR
theorem al_full : RetF Try.prog 45 [K k1, I 2].toArray w (.ex 95 18 alF.2.1.length (alF.2.1.flatMap lc) (fun v => .tuple #[PuV alF.1 v, I alF.2.2])) := by
  unfold alF
  exact Full_c k1 2 w
theorem al_pun (hc : alF.2.1.length ≤ c) (hR : Rd w A (alF.2.1.flatMap lc)) : RetF Try.prog 50 [PuV alF.1 (.slice A alF.2.1.length c), I 1].toArray w (.ex 95 18 alP.2.1.length (alP.2.1.flatMap lc) (fun v => .tuple #[PuV alP.1 v, I alP.2.2])) := by
  unfold alP
  exact Puncture_c _ _ c A _ rfl hc (by rw [hFl]; decide) 1 (by decide) (by decide) w hR
theorem al_ev1 (hc : alP.2.1.length ≤ c) (hR : Rd w A (alP.2.1.flatMap lc)) : RetF Try.prog 52 [PuV alP.1 (.slice A alP.2.1.length c), I 1].toArray w (.is (.tuple #[K alE1.1, I alE1.2])) := by
  unfold alE1
  exact Evaluate_c _ _ c A _ rfl hc (by rw [hPl]; decide) 1 (by decide) (by decide) w hR
theorem al_ev0 (hc : alP.2.1.length ≤ c) (hR : Rd w A (alP.2.1.flatMap lc)) : RetF Try.prog 52 [PuV alP.1 (.slice A alP.2.1.length c), I 0].toArray w (.is (.tuple #[K alE0.1, I alE0.2])) := by
  unfold alE0
  exact Evaluate_c _ _ c A _ rfl hc (by rw [hPl]; decide) 0 (by decide) (by decide) w hR
theorem al_evF (hc : alF.2.1.length ≤ c) (hR : Rd w A (alF.2.1.flatMap lc)) : RetF Try.prog 52 [PuV alF.1 (.slice A alF.2.1.length c), I 0].toArray w (.is (.tuple #[K alEF.1, I alEF.2])) := by
  unfold alEF
  exact Evaluate_c _ _ c A _ rfl hc (by rw [hFl]; decide) 0 (by decide) (by decide) w hR
theorem al_words {B : Option Addr} (hR : Rd w A (al2.1.map U)) (hRb : Rd w B ([3, 0, 2].map U)) : RetF Try.prog 59 [.slice A al2.1.length c, I al2.2, .slice B 3 3].toArray w (.is (.bool true)) :=
  wordsEq_c _ c 3 3 A B _ [3, 0, 2] _ (by decide +kernel) (by decide +kernel) rfl rfl (by rw [h2l]; decide) w hR hRb
theorem al_points {B : Option Addr} (hR : Rd w A (pc alH.1.2.1)) (hRb : Rd w B ([2, 5].map U)) : RetF Try.prog 55 [HV (.slice none 0 0) alH.1.1 (.slice A alH.1.2.1.length c) alH.1.2.2.1 alH.1.2.2.2, I alH.2, .slice B 2 2].toArray w (.is (.bool true)) :=
  points_c _ _ _ c 2 2 A B _ _ _ [2, 5] _ (by decide +kernel) (by decide +kernel) rfl rfl (by rw [hHl]; decide) w hR hRb
theorem al_nodes1 {B : Option Addr} (hR : Rd w A (alF.2.1.flatMap lc)) (hRb : Rd w B ([1].map I)) : RetF Try.prog 56 [PuV alF.1 (.slice A alF.2.1.length c), I alF.2.2, .slice B 1 1].toArray w (.is (.bool true)) :=
  nodes_c _ _ c 1 1 A B _ [1] _ (by decide +kernel) (by decide +kernel) rfl rfl (by rw [hFl]; decide) w hR hRb
theorem al_nodes2 {B : Option Addr} (hR : Rd w A (alP.2.1.flatMap lc)) (hRb : Rd w B ([3, 4].map I)) : RetF Try.prog 56 [PuV alP.1 (.slice A alP.2.1.length c), I alP.2.2, .slice B 2 2].toArray w (.is (.bool true)) :=
  nodes_c _ _ c 2 2 A B _ [3, 4] _ (by decide +kernel) (by decide +kernel) rfl rfl (by rw [hPl]; decide) w hR hRb
@[irreducible] def alK : Int := if okS 4 2 2 23 11 2 then 0 else 30
theorem al_check : RetF Try.prog 40 [SV 4 2 2 23 11 2].toArray w (.is (I alK)) := by
  unfold alK
  exact Check_c 4 2 2 23 11 2 (by decide) (by decide) (by decide) w
end


set_option maxHeartbeats 2000000 in
theorem alive_c  (w : World) : RetF Try.prog 29 [].toArray w (.is (.bool true)) := by
  refine enter Try.func29 rfl Try.ntmps29 rfl fun a hF => ?_
  have hw := Own.start w
  refine wp_seq (reg_seq 1 (hF _ _) (by kernel_rfl) ?_)
  refine net_cons rfl rfl (n_assign rfl evc) ?_
  refine net_nil fun a w1 hF hx => ?_
  replace hw := hw.next hx
  replace hF := hF.keep (.cons (t := 0) rfl .nil)
  refine wpList_nil ?_
  try simp only [List.nil_append, List.cons_append, List.set_cons_zero, List.set_cons_succ] at hw
  refine wp_seq (wp_region_lit ?_)
  refine t_net 0 2 (by kernel_rfl) rfl hF ?_
  refine net_cons rfl rfl (n_ret rfl Try.call54 .nil (fun _ hx => (small_c _))) ?_
  refine net_cons rfl rfl (n_alloc rfl Try.zeroValue28 rfl) ?_
  refine net_nil fun a w1 hF hx => ?_
  obtain ⟨b1, h_, hw⟩ := hw.blk hx (hF.at_ 1 _ rfl)
  replace hF := hF.now h_
  replace hF := hF.keep (.cons (t := 0) rfl (.cons (t := 1) rfl (.cons (t := 20) rfl .nil)))
  refine t_store (i := 0) rfl rfl rfl hF hw rfl (ev rfl) (ev rfl) rfl one6 Try.sizeOf28 rfl (Nat.le_of_ble_eq_true rfl) rfl fun w1 hw => ?_
  refine wpList_nil ?_
  try simp only [List.nil_append, List.cons_append, List.set_cons_zero, List.set_cons_succ] at hw
  refine wp_seq (wp_region_lit ?_)
  refine t_net 0 2 (by kernel_rfl) rfl hF ?_
  refine net_cons rfl rfl (n_load rfl (ev rfl) (ldN hw (i := 0) (vs := _) rfl Try.isAgg28 Try.sizeOf28 rfl rfl)) ?_
  refine net_cons rfl rfl (n_bsl sl63 rfl (.cons evc (.cons evc (.cons evc .nil))) (.cons rfl rfl (.cons rfl rfl (.cons rfl rfl .nil))) rfl (by decide) (by decide)) ?_
  refine net_nil fun a w1 hF hx => ?_
  obtain ⟨b23, e23_, l23_, h23_⟩ := hF.at_ 23 _ rfl
  have hR23 := Rd.heap h23_
  replace hF := hF.now (v := .slice (some ⟨b23, 0, none⟩) (3) (3)) e23_
  replace hw := hw.next hx
  replace hF := hF.keep (.cons (t := 0) rfl (.cons (t := 1) rfl (.cons (t := 20) rfl (.cons (t := 22) rfl (.cons (t := 23) rfl .nil)))))
  refine t_net 2 6 (by kernel_rfl) rfl hF ?_
  refine net_cons rfl rfl (n_ret rfl Try.call33 (.cons (ev rfl) (.cons (ev rfl) (.cons evc .nil))) (fun _ hx => (al_value (hR23.ext hx)))) ?_
  refine net_cons rfl rfl (n_move rfl (ev rfl)) ?_
  refine net_cons rfl rfl (n_extract rfl (ev rfl) rfl) ?_
  refine net_cons rfl rfl (n_extract rfl (ev rfl) rfl) ?_
  refine net_cons rfl rfl (n_assign rfl (ev rfl)) ?_
  refine net_cons rfl rfl (n_assign rfl (ev rfl)) ?_
  refine net_nil fun a w1 hF hx => ?_
  replace hw := hw.next hx
  replace hF := hF.keep (.cons (t := 0) rfl (.cons (t := 1) rfl (.cons (t := 2) rfl (.cons (t := 3) rfl (.cons (t := 20) rfl .nil)))))
  refine wpList_nil ?_
  try simp only [List.nil_append, List.cons_append, List.set_cons_zero, List.set_cons_succ] at hw
  refine wp_seq (wp_region_lit ?_)
  refine t_net 0 5 (by kernel_rfl) rfl hF ?_
  refine net_cons rfl rfl (n_load rfl (ev rfl) (ldN hw (i := 0) (vs := _) rfl Try.isAgg28 Try.sizeOf28 rfl rfl)) ?_
  refine net_cons rfl rfl (n_build rfl (.cons evc (.cons evc .nil)) build_31_0_1) ?_
  refine net_cons rfl rfl (n_build rfl (.cons evc (.cons evc .nil)) build_31_0_1) ?_
  refine net_cons rfl rfl (n_build rfl (.cons evc (.cons evc .nil)) build_31_0_1) ?_
  refine net_cons rfl rfl (n_bsl sl43 rfl (.cons (ev rfl) (.cons (ev rfl) (.cons (ev rfl) .nil))) (.cons rfl rfl (.cons rfl rfl (.cons rfl rfl .nil))) rfl (by decide) (by decide)) ?_
  refine net_nil fun a w1 hF hx => ?_
  obtain ⟨b32, e32_, l32_, h32_⟩ := hF.at_ 32 _ rfl
  have hR32 := Rd.heap h32_
  replace hF := hF.now (v := .slice (some ⟨b32, 0, none⟩) (3) (3)) e32_
  replace hw := hw.next hx
  replace hF := hF.keep (.cons (t := 0) rfl (.cons (t := 1) rfl (.cons (t := 2) rfl (.cons (t := 3) rfl (.cons (t := 20) rfl (.cons (t := 28) rfl (.cons (t := 32) rfl .nil)))))))
  refine t_net 5 1 (by kernel_rfl) rfl hF ?_
  refine net_cons rfl rfl (n_ret rfl Try.call34 (.cons (ev rfl) (.cons (ev rfl) .nil)) (fun _ hx => (al_int (by decide) (hR32.ext hx)))) ?_
  refine net_nil fun a w1 hF hx => ?_
  obtain ⟨s33, h_, hw⟩ := hw.ex hx (hF.at_ 33 _ rfl)
  replace hF := hF.now h_
  replace hF := hF.keep (.cons (t := 0) rfl (.cons (t := 1) rfl (.cons (t := 2) rfl (.cons (t := 3) rfl (.cons (t := 20) rfl (.cons (t := 33) rfl .nil))))))
  obtain ⟨A33, c33, rfl, hle33, _, _⟩ := hw.rd (i := 1) rfl
  refine t_net 6 5 (by kernel_rfl) rfl hF ?_
  refine net_cons rfl rfl (n_move rfl (ev rfl)) ?_
  refine net_cons rfl rfl (n_extract rfl (ev rfl) rfl) ?_
  refine net_cons rfl rfl (n_extract rfl (ev rfl) rfl) ?_
  refine net_cons rfl rfl (n_assign rfl (ev rfl)) ?_
  refine net_cons rfl rfl (n_assign rfl (ev rfl)) ?_
  refine net_nil fun a w1 hF hx => ?_
  replace hw := hw.next hx
  replace hF := hF.keep (.cons (t := 0) rfl (.cons (t := 1) rfl (.cons (t := 2) rfl (.cons (t := 3) rfl (.cons (t := 4) rfl (.cons (t := 5) rfl (.cons (t := 20) rfl .nil)))))))
  refine wpList_nil ?_
  try simp only [List.nil_append, List.cons_append, List.set_cons_zero, List.set_cons_succ] at hw
  refine wp_seq ?_
  refine wp_seq (wp_region_lit ?_)
  refine t_net 0 15 (by kernel_rfl) rfl hF ?_
  refine net_cons rfl rfl (n_load rfl (ev rfl) (ldN hw (i := 0) (vs := _) rfl Try.isAgg28 Try.sizeOf28 rfl rfl)) ?_
  refine net_cons rfl rfl (n_ret rfl Try.call40 (.cons (ev rfl) .nil) (fun _ hx => al_check)) ?_
  refine net_cons rfl rfl (n_to (v' := .bool false) (n_bin rfl (ev rfl) evc (r_neq (b := 0))) (congrArg Value.bool (by decide +kernel))) ?_
  refine net_cons rfl rfl (n_move rfl (ev rfl)) ?_
  refine net_on rfl rfl rfl rfl (n_move rfl (ev rfl)) ?_
  refine net_on rfl rfl rfl rfl (n_to (v' := .bool false) (n_bin rfl (ev rfl) evc (r_neq (b := 0))) (congrArg Value.bool (by decide +kernel))) ?_
  refine net_cons rfl rfl (n_pick_or rfl (ev rfl) (fun _ => (ev rfl))) ?_
  refine net_cons rfl rfl (n_move rfl (ev rfl)) ?_
  refine net_on rfl rfl rfl rfl (n_move rfl (ev rfl)) ?_
  refine net_on rfl rfl rfl rfl (n_to (v' := .bool false) (n_bin rfl (ev rfl) evc (r_neqN (b := 2))) (congrArg Value.bool (by decide +kernel))) ?_
  refine net_cons rfl rfl (n_pick_or rfl (ev rfl) (fun _ => (ev rfl))) ?_
  refine net_cons rfl rfl (n_move rfl (ev rfl)) ?_
  refine net_on rfl rfl rfl rfl (n_move rfl (ev rfl)) ?_
  refine net_on rfl rfl rfl rfl (n_move rfl (ev rfl)) ?_
  refine net_on rfl rfl rfl rfl (n_bsl sl63 rfl (.cons evc (.cons evc (.cons evc .nil))) (.cons rfl rfl (.cons rfl rfl (.cons rfl rfl .nil))) rfl (by decide) (by decide)) ?_
  refine net_nil fun a w1 hF hx => ?_
  obtain ⟨b50, e50_, l50_, h50_⟩ := hF.at_ 50 _ rfl
  have hR50 := Rd.heap h50_
  replace hF := hF.now (v := .slice (some ⟨b50, 0, none⟩) (3) (3)) e50_
  replace hw := hw.next hx
  replace hF := hF.keep (.cons (t := 0) rfl (.cons (t := 1) rfl (.cons (t := 3) rfl (.cons (t := 5) rfl (.cons (t := 20) rfl (.cons (t := 47) rfl (.cons (t := 48) rfl (.cons (t := 49) rfl (.cons (t := 50) rfl .nil)))))))))
  obtain ⟨_, _, hse_, _, hR33, _⟩ := hw.rd (i := 1) rfl
  injection hse_ with hA_ _ _
  subst hA_
  refine t_net 15 3 (by kernel_rfl) rfl hF ?_
  refine net_on rfl rfl rfl rfl (n_ret rfl Try.call59 (.cons (ev rfl) (.cons (ev rfl) (.cons (ev rfl) .nil))) (fun _ hx => (al_words (hR33.ext hx) (hR50.ext hx)))) ?_
  refine net_on rfl rfl rfl rfl (n_to (v' := .bool false) (n_not rfl (ev rfl)) (congrArg Value.bool (by decide +kernel))) ?_
  refine net_cons rfl rfl (n_pick_or rfl (ev rfl) (fun _ => (ev rfl))) ?_
  refine net_nil fun a w1 hF hx => ?_
  replace hw := hw.next hx
  replace hF := hF.keep (.cons (t := 0) rfl (.cons (t := 1) rfl (.cons (t := 3) rfl (.cons (t := 5) rfl (.cons (t := 20) rfl (.cons (t := 53) rfl .nil))))))
  refine wpList_nil ?_
  try simp only [List.nil_append, List.cons_append, List.set_cons_zero, List.set_cons_succ] at hw
  refine wp_cond_false ((hF.ev (ev rfl)).trans (congrArg Value.bool rfl)) ?_
  refine wp_skip ?_
  refine wp_seq (wp_region_lit ?_)
  refine t_net 0 3 (by kernel_rfl) rfl hF ?_
  refine net_cons rfl rfl (n_build rfl (.cons evc .nil) build_23_1) ?_
  refine net_cons rfl rfl (n_build rfl (.cons evc .nil) build_23_2) ?_
  refine net_cons rfl rfl (n_alloc rfl Try.zeroValue23 rfl) ?_
  refine net_nil fun a w1 hF hx => ?_
  obtain ⟨b6, h_, hw⟩ := hw.blk hx (hF.at_ 6 _ rfl)
  replace hF := hF.now h_
  replace hF := hF.keep (.cons (t := 0) rfl (.cons (t := 1) rfl (.cons (t := 3) rfl (.cons (t := 5) rfl (.cons (t := 6) rfl (.cons (t := 20) rfl (.cons (t := 53) rfl (.cons (t := 54) rfl (.cons (t := 55) rfl .nil)))))))))
  refine t_net 3 1 (by kernel_rfl) rfl hF ?_
  refine net_cons rfl rfl (n_alloc rfl Try.zeroValue23 rfl) ?_
  refine net_nil fun a w1 hF hx => ?_
  obtain ⟨b7, h_, hw⟩ := hw.blk hx (hF.at_ 7 _ rfl)
  replace hF := hF.now h_
  replace hF := hF.keep (.cons (t := 0) rfl (.cons (t := 1) rfl (.cons (t := 3) rfl (.cons (t := 5) rfl (.cons (t := 6) rfl (.cons (t := 7) rfl (.cons (t := 20) rfl (.cons (t := 53) rfl (.cons (t := 54) rfl (.cons (t := 55) rfl .nil))))))))))
  refine t_store (i := 2) rfl rfl rfl hF hw rfl (ev rfl) (ev rfl) rfl (kc_one _) Try.sizeOf23 (kc_len _) (by first | decide | (rw [kc_len]; decide)) (seg_whole (by rw [kc_len]; rfl)) fun w1 hw => ?_
  refine t_store (i := 3) rfl rfl rfl hF hw rfl (ev rfl) (ev rfl) rfl (kc_one _) Try.sizeOf23 (kc_len _) (by first | decide | (rw [kc_len]; decide)) (seg_whole (by rw [kc_len]; rfl)) fun w1 hw => ?_
  refine wpList_nil ?_
  try simp only [List.nil_append, List.cons_append, List.set_cons_zero, List.set_cons_succ] at hw
  refine wp_seq (wp_region_lit ?_)
  refine t_net 0 3 (by kernel_rfl) rfl hF ?_
  refine net_cons rfl rfl (n_load rfl (ev rfl) (ldN hw (i := 2) (vs := _) rfl Try.isAgg23 Try.sizeOf23 (kc_len _) (cut_whole (kc_len _)))) ?_
  refine net_cons rfl rfl (n_load rfl (ev rfl) (ldN hw (i := 0) (vs := _) rfl Try.isAgg28 Try.sizeOf28 rfl rfl)) ?_
  refine net_cons rfl rfl (n_bsl sl41 rfl (.cons evc .nil) (.cons rfl rfl .nil) rfl (by decide) (by decide)) ?_
  refine net_nil fun a w1 hF hx => ?_
  obtain ⟨b59, e59_, l59_, h59_⟩ := hF.at_ 59 _ rfl
  have hR59 := Rd.heap h59_
  replace hF := hF.now (v := .slice (some ⟨b59, 0, none⟩) (1) (1)) e59_
  replace hw := hw.next hx
  replace hF := hF.keep (.cons (t := 0) rfl (.cons (t := 1) rfl (.cons (t := 3) rfl (.cons (t := 5) rfl (.cons (t := 6) rfl (.cons (t := 7) rfl (.cons (t := 20) rfl (.cons (t := 53) rfl (.cons (t := 54) rfl (.cons (t := 55) rfl (.cons (t := 57) rfl (.cons (t := 58) rfl (.cons (t := 59) rfl .nil)))))))))))))
  refine t_net 3 2 (by kernel_rfl) rfl hF ?_
  refine net_cons rfl rfl (n_load rfl (ev rfl) (ldN hw (i := 3) (vs := _) rfl Try.isAgg23 Try.sizeOf23 (kc_len _) (cut_whole (kc_len _)))) ?_
  refine net_cons rfl rfl (n_ret rfl Try.call21 (.cons (ev rfl) (.cons (ev rfl) (.cons (ev rfl) (.cons (ev rfl) (.cons evc .nil))))) (fun _ hx => (al_seal (hR59.ext hx)))) ?_
  refine net_nil fun a w1 hF hx => ?_
  obtain ⟨s61, h_, hw⟩ := hw.ex hx (hF.at_ 61 _ rfl)
  replace hF := hF.now h_
  replace hF := hF.keep (.cons (t := 0) rfl (.cons (t := 1) rfl (.cons (t := 3) rfl (.cons (t := 5) rfl (.cons (t := 6) rfl (.cons (t := 7) rfl (.cons (t := 20) rfl (.cons (t := 53) rfl (.cons (t := 54) rfl (.cons (t := 55) rfl (.cons (t := 61) rfl .nil)))))))))))
  obtain ⟨A61, c61, rfl, hle61, _, _⟩ := hw.rd (i := 4) rfl
  refine t_net 5 4 (by kernel_rfl) rfl hF ?_
  refine net_cons rfl rfl (n_move rfl (ev rfl)) ?_
  refine net_cons rfl rfl (n_extract rfl (ev rfl) rfl) ?_
  refine net_cons rfl rfl (n_extract rfl (ev rfl) rfl) ?_
  refine net_cons rfl rfl (n_alloc rfl Try.zeroValue45 rfl) ?_
  refine net_nil fun a w1 hF hx => ?_
  obtain ⟨b8, h_, hw⟩ := hw.blk hx (hF.at_ 8 _ rfl)
  replace hF := hF.now h_
  replace hF := hF.keep (.cons (t := 0) rfl (.cons (t := 1) rfl (.cons (t := 3) rfl (.cons (t := 5) rfl (.cons (t := 6) rfl (.cons (t := 7) rfl (.cons (t := 8) rfl (.cons (t := 20) rfl (.cons (t := 53) rfl (.cons (t := 54) rfl (.cons (t := 55) rfl (.cons (t := 62) rfl (.cons (t := 63) rfl .nil)))))))))))))
  refine t_store (i := 5) rfl rfl rfl hF hw rfl (ev rfl) (ev rfl) rfl one_hcs Try.sizeOf45 (hcs_len _ _ _ _ _) (by first | decide | (rw [hcs_len]; decide)) (seg_whole (by rw [hcs_len] <;> rfl)) fun w1 hw => ?_
  refine t_net 10 1 (by kernel_rfl) rfl hF ?_
  refine net_cons rfl rfl (n_assign rfl (ev rfl)) ?_
  refine net_nil fun a w1 hF hx => ?_
  replace hw := hw.next hx
  replace hF := hF.keep (.cons (t := 0) rfl (.cons (t := 1) rfl (.cons (t := 3) rfl (.cons (t := 5) rfl (.cons (t := 6) rfl (.cons (t := 7) rfl (.cons (t := 8) rfl (.cons (t := 20) rfl (.cons (t := 53) rfl (.cons (t := 54) rfl (.cons (t := 55) rfl .nil)))))))))))
  refine wpList_nil ?_
  try simp only [List.nil_append, List.cons_append, List.set_cons_zero, List.set_cons_succ] at hw
  refine wp_seq (wp_region_lit ?_)
  refine t_net 0 7 (by kernel_rfl) rfl hF ?_
  refine net_cons rfl rfl (n_load rfl (ev rfl) (ldN hw (i := 2) (vs := _) rfl Try.isAgg23 Try.sizeOf23 (kc_len _) (cut_whole (kc_len _)))) ?_
  refine net_cons rfl rfl (n_load rfl (ev rfl) (ldN hw (i := 0) (vs := _) rfl Try.isAgg28 Try.sizeOf28 rfl rfl)) ?_
  refine net_cons rfl rfl (n_ret rfl Try.call18 (.cons (ev rfl) (.cons (ev rfl) (.cons evc .nil))) (fun _ hx => al_secB)) ?_
  refine net_cons rfl rfl (n_move rfl (ev rfl)) ?_
  refine net_cons rfl rfl (n_extract rfl (ev rfl) rfl) ?_
  refine net_cons rfl rfl (n_extract rfl (ev rfl) rfl) ?_
  refine net_cons rfl rfl (n_alloc rfl Try.zeroValue33 rfl) ?_
  refine net_nil fun a w1 hF hx => ?_
  obtain ⟨b9, h_, hw⟩ := hw.blk hx (hF.at_ 9 _ rfl)
  replace hF := hF.now h_
  replace hF := hF.keep (.cons (t := 0) rfl (.cons (t := 1) rfl (.cons (t := 3) rfl (.cons (t := 5) rfl (.cons (t := 6) rfl (.cons (t := 7) rfl (.cons (t := 8) rfl (.cons (t := 9) rfl (.cons (t := 20) rfl (.cons (t := 53) rfl (.cons (t := 54) rfl (.cons (t := 55) rfl (.cons (t := 68) rfl (.cons (t := 69) rfl .nil))))))))))))))
  refine t_store (i := 6) rfl rfl rfl hF hw rfl (ev rfl) (ev rfl) rfl one4 Try.sizeOf33 rfl (Nat.le_of_ble_eq_true rfl) rfl fun w1 hw => ?_
  refine t_net 8 1 (by kernel_rfl) rfl hF ?_
  refine net_cons rfl rfl (n_assign rfl (ev rfl)) ?_
  refine net_nil fun a w1 hF hx => ?_
  replace hw := hw.next hx
  replace hF := hF.keep (.cons (t := 0) rfl (.cons (t := 1) rfl (.cons (t := 3) rfl (.cons (t := 5) rfl (.cons (t := 6) rfl (.cons (t := 7) rfl (.cons (t := 8) rfl (.cons (t := 9) rfl (.cons (t := 20) rfl (.cons (t := 53) rfl (.cons (t := 54) rfl (.cons (t := 55) rfl .nil))))))))))))
  refine wpList_nil ?_
  try simp only [List.nil_append, List.cons_append, List.set_cons_zero, List.set_cons_succ] at hw
  refine wp_seq (wp_region_lit ?_)
  refine t_net 0 7 (by kernel_rfl) rfl hF ?_
  refine net_cons rfl rfl (n_load rfl (ev rfl) (ldN hw (i := 2) (vs := _) rfl Try.isAgg23 Try.sizeOf23 (kc_len _) (cut_whole (kc_len _)))) ?_
  refine net_cons rfl rfl (n_load rfl (ev rfl) (ldN hw (i := 0) (vs := _) rfl Try.isAgg28 Try.sizeOf28 rfl rfl)) ?_
  refine net_cons rfl rfl (n_ret rfl Try.call18 (.cons (ev rfl) (.cons (ev rfl) (.cons evc .nil))) (fun _ hx => al_secC)) ?_
  refine net_cons rfl rfl (n_move rfl (ev rfl)) ?_
  refine net_cons rfl rfl (n_extract rfl (ev rfl) rfl) ?_
  refine net_cons rfl rfl (n_extract rfl (ev rfl) rfl) ?_
  refine net_cons rfl rfl (n_alloc rfl Try.zeroValue33 rfl) ?_
  refine net_nil fun a w1 hF hx => ?_
  obtain ⟨b10, h_, hw⟩ := hw.blk hx (hF.at_ 10 _ rfl)
  replace hF := hF.now h_
  replace hF := hF.keep (.cons (t := 0) rfl (.cons (t := 1) rfl (.cons (t := 3) rfl (.cons (t := 5) rfl (.cons (t := 6) rfl (.cons (t := 7) rfl (.cons (t := 8) rfl (.cons (t := 9) rfl (.cons (t := 10) rfl (.cons (t := 20) rfl (.cons (t := 53) rfl (.cons (t := 54) rfl (.cons (t := 55) rfl (.cons (t := 74) rfl (.cons (t := 75) rfl .nil)))))))))))))))
  refine t_store (i := 7) rfl rfl rfl hF hw rfl (ev rfl) (ev rfl) rfl one4 Try.sizeOf33 rfl (Nat.le_of_ble_eq_true rfl) rfl fun w1 hw => ?_
  refine t_net 8 1 (by kernel_rfl) rfl hF ?_
  refine net_cons rfl rfl (n_assign rfl (ev rfl)) ?_
  refine net_nil fun a w1 hF hx => ?_
  replace hw := hw.next hx
  replace hF := hF.keep (.cons (t := 0) rfl (.cons (t := 1) rfl (.cons (t := 3) rfl (.cons (t := 5) rfl (.cons (t := 6) rfl (.cons (t := 7) rfl (.cons (t := 8) rfl (.cons (t := 9) rfl (.cons (t := 10) rfl (.cons (t := 11) rfl (.cons (t := 20) rfl (.cons (t := 53) rfl (.cons (t := 54) rfl (.cons (t := 55) rfl .nil))))))))))))))
  refine wpList_nil ?_
  try simp only [List.nil_append, List.cons_append, List.set_cons_zero, List.set_cons_succ] at hw
  obtain ⟨_, _, hse_, _, hR61, _⟩ := hw.rd (i := 4) rfl
  injection hse_ with hA_ _ _
  subst hA_
  refine wp_seq (wp_region_lit ?_)
  refine t_net 0 8 (by kernel_rfl) rfl hF ?_
  refine net_cons rfl rfl (n_load rfl (ev rfl) (ldN hw (i := 0) (vs := _) rfl Try.isAgg28 Try.sizeOf28 rfl rfl)) ?_
  refine net_cons rfl rfl (n_load rfl (ev rfl) (ldN hw (i := 6) (vs := _) rfl Try.isAgg33 Try.sizeOf33 rfl rfl)) ?_
  refine net_cons rfl rfl (n_load rfl (ev rfl) (ldN hw (i := 5) (vs := _) rfl Try.isAgg45 Try.sizeOf45 (hcs_len _ _ _ _ _) (cut_whole (hcs_len _ _ _ _ _)))) ?_
  refine net_cons rfl rfl (n_ret rfl Try.call27 (.cons (ev rfl) (.cons (ev rfl) (.cons (ev rfl) .nil))) (fun _ hx => (al_openB hle61 (hR61.ext hx)))) ?_
  refine net_cons rfl rfl (n_move rfl (ev rfl)) ?_
  refine net_cons rfl rfl (n_extract rfl (ev rfl) rfl) ?_
  refine net_cons rfl rfl (n_extract rfl (ev rfl) rfl) ?_
  refine net_cons rfl rfl (n_alloc rfl Try.zeroValue23 rfl) ?_
  refine net_nil fun a w1 hF hx => ?_
  obtain ⟨b12, h_, hw⟩ := hw.blk hx (hF.at_ 12 _ rfl)
  replace hF := hF.now h_
  replace hF := hF.keep (.cons (t := 0) rfl (.cons (t := 1) rfl (.cons (t := 3) rfl (.cons (t := 5) rfl (.cons (t := 6) rfl (.cons (t := 7) rfl (.cons (t := 8) rfl (.cons (t := 9) rfl (.cons (t := 10) rfl (.cons (t := 11) rfl (.cons (t := 12) rfl (.cons (t := 20) rfl (.cons (t := 53) rfl (.cons (t := 54) rfl (.cons (t := 55) rfl (.cons (t := 81) rfl (.cons (t := 82) rfl .nil)))))))))))))))))
  refine t_store (i := 8) rfl rfl rfl hF hw rfl (ev rfl) (ev rfl) rfl (kc_one _) Try.sizeOf23 (kc_len _) (by first | decide | (rw [kc_len]; decide)) (seg_whole (by rw [kc_len]; rfl)) fun w1 hw => ?_
  refine t_net 9 1 (by kernel_rfl) rfl hF ?_
  refine net_cons rfl rfl (n_assign rfl (ev rfl)) ?_
  refine net_nil fun a w1 hF hx => ?_
  replace hw := hw.next hx
  replace hF := hF.keep (.cons (t := 0) rfl (.cons (t := 1) rfl (.cons (t := 3) rfl (.cons (t := 5) rfl (.cons (t := 6) rfl (.cons (t := 7) rfl (.cons (t := 8) rfl (.cons (t := 9) rfl (.cons (t := 10) rfl (.cons (t := 11) rfl (.cons (t := 12) rfl (.cons (t := 13) rfl (.cons (t := 20) rfl (.cons (t := 53) rfl (.cons (t := 54) rfl (.cons (t := 55) rfl .nil))))))))))))))))
  refine wpList_nil ?_
  try simp only [List.nil_append, List.cons_append, List.set_cons_zero, List.set_cons_succ] at hw
  obtain ⟨_, _, hse_, _, hR61, _⟩ := hw.rd (i := 4) rfl
  injection hse_ with hA_ _ _
  subst hA_
  refine wp_seq (wp_region_lit ?_)
  refine t_net 0 8 (by kernel_rfl) rfl hF ?_
  refine net_cons rfl rfl (n_load rfl (ev rfl) (ldN hw (i := 0) (vs := _) rfl Try.isAgg28 Try.sizeOf28 rfl rfl)) ?_
  refine net_cons rfl rfl (n_load rfl (ev rfl) (ldN hw (i := 7) (vs := _) rfl Try.isAgg33 Try.sizeOf33 rfl rfl)) ?_
  refine net_cons rfl rfl (n_load rfl (ev rfl) (ldN hw (i := 5) (vs := _) rfl Try.isAgg45 Try.sizeOf45 (hcs_len _ _ _ _ _) (cut_whole (hcs_len _ _ _ _ _)))) ?_
  refine net_cons rfl rfl (n_ret rfl Try.call27 (.cons (ev rfl) (.cons (ev rfl) (.cons (ev rfl) .nil))) (fun _ hx => (al_openC hle61 (hR61.ext hx)))) ?_
  refine net_cons rfl rfl (n_move rfl (ev rfl)) ?_
  refine net_cons rfl rfl (n_extract rfl (ev rfl) rfl) ?_
  refine net_cons rfl rfl (n_extract rfl (ev rfl) rfl) ?_
  refine net_cons rfl rfl (n_alloc rfl Try.zeroValue23 rfl) ?_
  refine net_nil fun a w1 hF hx => ?_
  obtain ⟨b14, h_, hw⟩ := hw.blk hx (hF.at_ 14 _ rfl)
  replace hF := hF.now h_
  replace hF := hF.keep (.cons (t := 0) rfl (.cons (t := 1) rfl (.cons (t := 3) rfl (.cons (t := 5) rfl (.cons (t := 6) rfl (.cons (t := 7) rfl (.cons (t := 8) rfl (.cons (t := 9) rfl (.cons (t := 10) rfl (.cons (t := 11) rfl (.cons (t := 12) rfl (.cons (t := 13) rfl (.cons (t := 14) rfl (.cons (t := 20) rfl (.cons (t := 53) rfl (.cons (t := 54) rfl (.cons (t := 55) rfl (.cons (t := 88) rfl (.cons (t := 89) rfl .nil)))))))))))))))))))
  refine t_store (i := 9) rfl rfl rfl hF hw rfl (ev rfl) (ev rfl) rfl (kc_one _) Try.sizeOf23 (kc_len _) (by first | decide | (rw [kc_len]; decide)) (seg_whole (by rw [kc_len]; rfl)) fun w1 hw => ?_
  refine t_net 9 1 (by kernel_rfl) rfl hF ?_
  refine net_cons rfl rfl (n_assign rfl (ev rfl)) ?_
  refine net_nil fun a w1 hF hx => ?_
  replace hw := hw.next hx
  replace hF := hF.keep (.cons (t := 0) rfl (.cons (t := 1) rfl (.cons (t := 3) rfl (.cons (t := 5) rfl (.cons (t := 6) rfl (.cons (t := 7) rfl (.cons (t := 8) rfl (.cons (t := 9) rfl (.cons (t := 10) rfl (.cons (t := 11) rfl (.cons (t := 12) rfl (.cons (t := 13) rfl (.cons (t := 15) rfl (.cons (t := 20) rfl (.cons (t := 53) rfl (.cons (t := 54) rfl (.cons (t := 55) rfl .nil)))))))))))))))))
  refine wpList_nil ?_
  try simp only [List.nil_append, List.cons_append, List.set_cons_zero, List.set_cons_succ] at hw
  refine wp_seq ?_
  refine wp_seq (wp_region_lit ?_)
  refine t_net 0 3 (by kernel_rfl) rfl hF ?_
  refine net_cons rfl rfl (n_load rfl (ev rfl) (ldN hw (i := 5) (vs := _) rfl Try.isAgg45 Try.sizeOf45 (hcs_len _ _ _ _ _) (cut_whole (hcs_len _ _ _ _ _)))) ?_
  refine net_cons rfl rfl (n_move rfl (ev rfl)) ?_
  refine net_cons rfl rfl (n_bsl sl63 rfl (.cons evc (.cons evc .nil)) (.cons rfl rfl (.cons rfl rfl .nil)) rfl (by decide) (by decide)) ?_
  refine net_nil fun a w1 hF hx => ?_
  obtain ⟨b92, e92_, l92_, h92_⟩ := hF.at_ 92 _ rfl
  have hR92 := Rd.heap h92_
  replace hF := hF.now (v := .slice (some ⟨b92, 0, none⟩) (2) (2)) e92_
  replace hw := hw.next hx
  replace hF := hF.keep (.cons (t := 0) rfl (.cons (t := 1) rfl (.cons (t := 3) rfl (.cons (t := 5) rfl (.cons (t := 6) rfl (.cons (t := 7) rfl (.cons (t := 8) rfl (.cons (t := 9) rfl (.cons (t := 10) rfl (.cons (t := 11) rfl (.cons (t := 12) rfl (.cons (t := 13) rfl (.cons (t := 15) rfl (.cons (t := 20) rfl (.cons (t := 53) rfl (.cons (t := 54) rfl (.cons (t := 55) rfl (.cons (t := 90) rfl (.cons (t := 91) rfl (.cons (t := 92) rfl .nil))))))))))))))))))))
  obtain ⟨_, _, hse_, _, hR61, _⟩ := hw.rd (i := 4) rfl
  injection hse_ with hA_ _ _
  subst hA_
  refine t_net 3 29 (by kernel_rfl) rfl hF ?_
  refine net_cons rfl rfl (n_ret rfl Try.call55 (.cons (ev rfl) (.cons (ev rfl) (.cons (ev rfl) .nil))) (fun _ hx => (al_points (hR61.ext hx) (hR92.ext hx)))) ?_
  refine net_cons rfl rfl (n_to (v' := .bool false) (n_not rfl (ev rfl)) (congrArg Value.bool (by decide +kernel))) ?_
  refine net_cons rfl rfl (n_move rfl (ev rfl)) ?_
  refine net_on rfl rfl rfl rfl (n_move rfl (ev rfl)) ?_
  refine net_on rfl rfl rfl rfl (n_to (v' := .bool false) (n_bin rfl (ev rfl) evc (r_neq (b := 0))) (congrArg Value.bool (by decide +kernel))) ?_
  refine net_cons rfl rfl (n_pick_or rfl (ev rfl) (fun _ => (ev rfl))) ?_
  refine net_cons rfl rfl (n_move rfl (ev rfl)) ?_
  refine net_on rfl rfl rfl rfl (n_fieldAddrO (off' := 2) rfl (ev rfl) Try.runUnderlying33 rfl Try.sizeOf31 rfl) ?_
  refine net_on rfl rfl rfl rfl (n_fieldAddrO (off' := 2) rfl (ev rfl) Try.runUnderlying31 rfl Try.sizeOf24 rfl) ?_
  refine net_on rfl rfl rfl rfl (n_load rfl (ev rfl) (ld1 hw (i := 6) rfl Try.isAgg24 rfl)) ?_
  refine net_on rfl rfl rfl rfl (n_to (v' := .bool false) (n_bin rfl (ev rfl) evc (r_neqN (b := 1))) (congrArg Value.bool (by decide +kernel))) ?_
  refine net_cons rfl rfl (n_pick_or rfl (ev rfl) (fun _ => (ev rfl))) ?_
  refine net_cons rfl rfl (n_move rfl (ev rfl)) ?_
  refine net_on rfl rfl rfl rfl (n_move rfl (ev rfl)) ?_
  refine net_on rfl rfl rfl rfl (n_to (v' := .bool false) (n_bin rfl (ev rfl) evc (r_neq (b := 0))) (congrArg Value.bool (by decide +kernel))) ?_
  refine net_cons rfl rfl (n_pick_or rfl (ev rfl) (fun _ => (ev rfl))) ?_
  refine net_cons rfl rfl (n_move rfl (ev rfl)) ?_
  refine net_on rfl rfl rfl rfl (n_move rfl (ev rfl)) ?_
  refine net_on rfl rfl rfl rfl (n_to (v' := .bool false) (n_bin rfl (ev rfl) evc (r_neq (b := 0))) (congrArg Value.bool (by decide +kernel))) ?_
  refine net_cons rfl rfl (n_pick_or rfl (ev rfl) (fun _ => (ev rfl))) ?_
  refine net_cons rfl rfl (n_move rfl (ev rfl)) ?_
  refine net_on rfl rfl rfl rfl (n_load rfl (ev rfl) (ldN hw (i := 8) (vs := _) rfl Try.isAgg23 Try.sizeOf23 (kc_len _) (cut_whole (kc_len _)))) ?_
  refine net_on rfl rfl rfl rfl (n_load rfl (ev rfl) (ldN hw (i := 3) (vs := _) rfl Try.isAgg23 Try.sizeOf23 (kc_len _) (cut_whole (kc_len _)))) ?_
  refine net_on rfl rfl rfl rfl (n_to (v' := .bool false) (n_bin rfl (ev rfl) (ev rfl) r_neKey) (congrArg Value.bool (by decide +kernel))) ?_
  refine net_cons rfl rfl (n_pick_or rfl (ev rfl) (fun _ => (ev rfl))) ?_
  refine net_cons rfl rfl (n_move rfl (ev rfl)) ?_
  refine net_on rfl rfl rfl rfl (n_move rfl (ev rfl)) ?_
  refine net_on rfl rfl rfl rfl (n_to (v' := .bool false) (n_bin rfl (ev rfl) evc (r_neq (b := 6))) (congrArg Value.bool (by decide +kernel))) ?_
  refine net_cons rfl rfl (n_pick_or rfl (ev rfl) (fun _ => (ev rfl))) ?_
  refine net_nil fun a w1 hF hx => ?_
  replace hw := hw.next hx
  replace hF := hF.keep (.cons (t := 0) rfl (.cons (t := 1) rfl (.cons (t := 3) rfl (.cons (t := 5) rfl (.cons (t := 6) rfl (.cons (t := 7) rfl (.cons (t := 8) rfl (.cons (t := 9) rfl (.cons (t := 10) rfl (.cons (t := 11) rfl (.cons (t := 12) rfl (.cons (t := 13) rfl (.cons (t := 15) rfl (.cons (t := 20) rfl (.cons (t := 53) rfl (.cons (t := 54) rfl (.cons (t := 55) rfl (.cons (t := 121) rfl .nil))))))))))))))))))
  refine wpList_nil ?_
  try simp only [List.nil_append, List.cons_append, List.set_cons_zero, List.set_cons_succ] at hw
  refine wp_cond_false ((hF.ev (ev rfl)).trans (congrArg Value.bool rfl)) ?_
  refine wp_skip ?_
  refine wp_seq (wp_region_lit ?_)
  refine t_net 0 2 (by kernel_rfl) rfl hF ?_
  refine net_cons rfl rfl (n_load rfl (ev rfl) (ldN hw (i := 2) (vs := _) rfl Try.isAgg23 Try.sizeOf23 (kc_len _) (cut_whole (kc_len _)))) ?_
  refine net_cons rfl rfl (n_ret rfl Try.call45 (.cons (ev rfl) (.cons evc .nil)) (fun _ hx => al_full)) ?_
  refine net_nil fun a w1 hF hx => ?_
  obtain ⟨s124, h_, hw⟩ := hw.ex hx (hF.at_ 124 _ rfl)
  replace hF := hF.now h_
  replace hF := hF.keep (.cons (t := 0) rfl (.cons (t := 1) rfl (.cons (t := 3) rfl (.cons (t := 5) rfl (.cons (t := 6) rfl (.cons (t := 7) rfl (.cons (t := 8) rfl (.cons (t := 9) rfl (.cons (t := 10) rfl (.cons (t := 11) rfl (.cons (t := 12) rfl (.cons (t := 13) rfl (.cons (t := 15) rfl (.cons (t := 20) rfl (.cons (t := 53) rfl (.cons (t := 54) rfl (.cons (t := 55) rfl (.cons (t := 121) rfl (.cons (t := 124) rfl .nil)))))))))))))))))))
  obtain ⟨A124, c124, rfl, hle124, _, _⟩ := hw.rd (i := 10) rfl
  refine t_net 2 4 (by kernel_rfl) rfl hF ?_
  refine net_cons rfl rfl (n_move rfl (ev rfl)) ?_
  refine net_cons rfl rfl (n_extract rfl (ev rfl) rfl) ?_
  refine net_cons rfl rfl (n_extract rfl (ev rfl) rfl) ?_
  refine net_cons rfl rfl (n_alloc rfl Try.zeroValue83 rfl) ?_
  refine net_nil fun a w1 hF hx => ?_
  obtain ⟨b16, h_, hw⟩ := hw.blk hx (hF.at_ 16 _ rfl)
  replace hF := hF.now h_
  replace hF := hF.keep (.cons (t := 0) rfl (.cons (t := 1) rfl (.cons (t := 3) rfl (.cons (t := 5) rfl (.cons (t := 6) rfl (.cons (t := 7) rfl (.cons (t := 8) rfl (.cons (t := 9) rfl (.cons (t := 10) rfl (.cons (t := 11) rfl (.cons (t := 12) rfl (.cons (t := 13) rfl (.cons (t := 15) rfl (.cons (t := 16) rfl (.cons (t := 20) rfl (.cons (t := 53) rfl (.cons (t := 54) rfl (.cons (t := 55) rfl (.cons (t := 121) rfl (.cons (t := 125) rfl (.cons (t := 126) rfl .nil)))))))))))))))))))))
  refine t_store (i := 11) rfl rfl rfl hF hw rfl (ev rfl) (ev rfl) rfl one_pu Try.sizeOf83 rfl (Nat.le_of_ble_eq_true rfl) rfl fun w1 hw => ?_
  refine t_net 7 1 (by kernel_rfl) rfl hF ?_
  refine net_cons rfl rfl (n_assign rfl (ev rfl)) ?_
  refine net_nil fun a w1 hF hx => ?_
  replace hw := hw.next hx
  replace hF := hF.keep (.cons (t := 0) rfl (.cons (t := 1) rfl (.cons (t := 3) rfl (.cons (t := 5) rfl (.cons (t := 6) rfl (.cons (t := 7) rfl (.cons (t := 8) rfl (.cons (t := 9) rfl (.cons (t := 10) rfl (.cons (t := 11) rfl (.cons (t := 12) rfl (.cons (t := 13) rfl (.cons (t := 15) rfl (.cons (t := 16) rfl (.cons (t := 20) rfl (.cons (t := 53) rfl (.cons (t := 54) rfl (.cons (t := 55) rfl (.cons (t := 121) rfl .nil)))))))))))))))))))
  refine wpList_nil ?_
  try simp only [List.nil_append, List.cons_append, List.set_cons_zero, List.set_cons_succ] at hw
  obtain ⟨_, _, hse_, _, hR124, _⟩ := hw.rd (i := 10) rfl
  injection hse_ with hA_ _ _
  subst hA_
  refine wp_seq (wp_region_lit ?_)
  refine t_net 0 2 (by kernel_rfl) rfl hF ?_
  refine net_cons rfl rfl (n_load rfl (ev rfl) (ldN hw (i := 11) (vs := _) rfl Try.isAgg83 Try.sizeOf83 rfl rfl)) ?_
  refine net_cons rfl rfl (n_ret rfl Try.call50 (.cons (ev rfl) (.cons evc .nil)) (fun _ hx => (al_pun hle124 (hR124.ext hx)))) ?_
  refine net_nil fun a w1 hF hx => ?_
  obtain ⟨s129, h_, hw⟩ := hw.ex hx (hF.at_ 129 _ rfl)
  replace hF := hF.now h_
  replace hF := hF.keep (.cons (t := 0) rfl (.cons (t := 1) rfl (.cons (t := 3) rfl (.cons (t := 5) rfl (.cons (t := 6) rfl (.cons (t := 7) rfl (.cons (t := 8) rfl (.cons (t := 9) rfl (.cons (t := 10) rfl (.cons (t := 11) rfl (.cons (t := 12) rfl (.cons (t := 13) rfl (.cons (t := 15) rfl (.cons (t := 16) rfl (.cons (t := 20) rfl (.cons (t := 53) rfl (.cons (t := 54) rfl (.cons (t := 55) rfl (.cons (t := 121) rfl (.cons (t := 129) rfl .nil))))))))))))))))))))
  obtain ⟨A129, c129, rfl, hle129, _, _⟩ := hw.rd (i := 12) rfl
  refine t_net 2 4 (by kernel_rfl) rfl hF ?_
  refine net_cons rfl rfl (n_move rfl (ev rfl)) ?_
  refine net_cons rfl rfl (n_extract rfl (ev rfl) rfl) ?_
  refine net_cons rfl rfl (n_extract rfl (ev rfl) rfl) ?_
  refine net_cons rfl rfl (n_alloc rfl Try.zeroValue83 rfl) ?_
  refine net_nil fun a w1 hF hx => ?_
  obtain ⟨b17, h_, hw⟩ := hw.blk hx (hF.at_ 17 _ rfl)
  replace hF := hF.now h_
  replace hF := hF.keep (.cons (t := 0) rfl (.cons (t := 1) rfl (.cons (t := 3) rfl (.cons (t := 5) rfl (.cons (t := 6) rfl (.cons (t := 7) rfl (.cons (t := 8) rfl (.cons (t := 9) rfl (.cons (t := 10) rfl (.cons (t := 11) rfl (.cons (t := 12) rfl (.cons (t := 13) rfl (.cons (t := 15) rfl (.cons (t := 16) rfl (.cons (t := 17) rfl (.cons (t := 20) rfl (.cons (t := 53) rfl (.cons (t := 54) rfl (.cons (t := 55) rfl (.cons (t := 121) rfl (.cons (t := 130) rfl (.cons (t := 131) rfl .nil))))))))))))))))))))))
  refine t_store (i := 13) rfl rfl rfl hF hw rfl (ev rfl) (ev rfl) rfl one_pu Try.sizeOf83 rfl (Nat.le_of_ble_eq_true rfl) rfl fun w1 hw => ?_
  refine t_net 7 1 (by kernel_rfl) rfl hF ?_
  refine net_cons rfl rfl (n_assign rfl (ev rfl)) ?_
  refine net_nil fun a w1 hF hx => ?_
  replace hw := hw.next hx
  replace hF := hF.keep (.cons (t := 0) rfl (.cons (t := 1) rfl (.cons (t := 3) rfl (.cons (t := 5) rfl (.cons (t := 6) rfl (.cons (t := 7) rfl (.cons (t := 8) rfl (.cons (t := 9) rfl (.cons (t := 10) rfl (.cons (t := 11) rfl (.cons (t := 12) rfl (.cons (t := 13) rfl (.cons (t := 15) rfl (.cons (t := 16) rfl (.cons (t := 17) rfl (.cons (t := 20) rfl (.cons (t := 53) rfl (.cons (t := 54) rfl (.cons (t := 55) rfl (.cons (t := 121) rfl .nil))))))))))))))))))))
  refine wpList_nil ?_
  try simp only [List.nil_append, List.cons_append, List.set_cons_zero, List.set_cons_succ] at hw
  obtain ⟨_, _, hse_, _, hR129, _⟩ := hw.rd (i := 12) rfl
  injection hse_ with hA_ _ _
  subst hA_
  refine wp_seq (reg_seq 6 (hF _ _) (by kernel_rfl) ?_)
  refine net_cons rfl rfl (n_load rfl (ev rfl) (ldN hw (i := 13) (vs := _) rfl Try.isAgg83 Try.sizeOf83 rfl rfl)) ?_
  refine net_cons rfl rfl (n_ret rfl Try.call52 (.cons (ev rfl) (.cons evc .nil)) (fun _ hx => (al_ev1 hle129 (hR129.ext hx)))) ?_
  refine net_cons rfl rfl (n_move rfl (ev rfl)) ?_
  refine net_cons rfl rfl (n_extract rfl (ev rfl) rfl) ?_
  refine net_cons rfl rfl (n_extract rfl (ev rfl) rfl) ?_
  refine net_cons rfl rfl (n_assign rfl (ev rfl)) ?_
  refine net_nil fun a w1 hF hx => ?_
  replace hw := hw.next hx
  replace hF := hF.keep (.cons (t := 0) rfl (.cons (t := 1) rfl (.cons (t := 3) rfl (.cons (t := 5) rfl (.cons (t := 6) rfl (.cons (t := 7) rfl (.cons (t := 8) rfl (.cons (t := 9) rfl (.cons (t := 10) rfl (.cons (t := 11) rfl (.cons (t := 12) rfl (.cons (t := 13) rfl (.cons (t := 15) rfl (.cons (t := 16) rfl (.cons (t := 17) rfl (.cons (t := 20) rfl (.cons (t := 53) rfl (.cons (t := 54) rfl (.cons (t := 55) rfl (.cons (t := 121) rfl .nil))))))))))))))))))))
  refine wpList_nil ?_
  try simp only [List.nil_append, List.cons_append, List.set_cons_zero, List.set_cons_succ] at hw
  obtain ⟨_, _, hse_, _, hR129, _⟩ := hw.rd (i := 12) rfl
  injection hse_ with hA_ _ _
  subst hA_
  refine wp_seq (wp_region_lit ?_)
  refine t_net 0 6 (by kernel_rfl) rfl hF ?_
  refine net_cons rfl rfl (n_load rfl (ev rfl) (ldN hw (i := 13) (vs := _) rfl Try.isAgg83 Try.sizeOf83 rfl rfl)) ?_
  refine net_cons rfl rfl (n_ret rfl Try.call52 (.cons (ev rfl) (.cons evc .nil)) (fun _ hx => (al_ev0 hle129 (hR129.ext hx)))) ?_
  refine net_cons rfl rfl (n_move rfl (ev rfl)) ?_
  refine net_cons rfl rfl (n_extract rfl (ev rfl) rfl) ?_
  refine net_cons rfl rfl (n_extract rfl (ev rfl) rfl) ?_
  refine net_cons rfl rfl (n_alloc rfl Try.zeroValue23 rfl) ?_
  refine net_nil fun a w1 hF hx => ?_
  obtain ⟨b18, h_, hw⟩ := hw.blk hx (hF.at_ 18 _ rfl)
  replace hF := hF.now h_
  replace hF := hF.keep (.cons (t := 0) rfl (.cons (t := 1) rfl (.cons (t := 3) rfl (.cons (t := 5) rfl (.cons (t := 6) rfl (.cons (t := 7) rfl (.cons (t := 8) rfl (.cons (t := 9) rfl (.cons (t := 10) rfl (.cons (t := 11) rfl (.cons (t := 12) rfl (.cons (t := 13) rfl (.cons (t := 15) rfl (.cons (t := 16) rfl (.cons (t := 17) rfl (.cons (t := 18) rfl (.cons (t := 20) rfl (.cons (t := 53) rfl (.cons (t := 54) rfl (.cons (t := 55) rfl (.cons (t := 121) rfl (.cons (t := 140) rfl (.cons (t := 141) rfl .nil)))))))))))))))))))))))
  refine t_store (i := 14) rfl rfl rfl hF hw rfl (ev rfl) (ev rfl) rfl (kc_one _) Try.sizeOf23 (kc_len _) (by first | decide | (rw [kc_len]; decide)) (seg_whole (by rw [kc_len]; rfl)) fun w1 hw => ?_
  refine t_net 7 1 (by kernel_rfl) rfl hF ?_
  refine net_cons rfl rfl (n_assign rfl (ev rfl)) ?_
  refine net_nil fun a w1 hF hx => ?_
  replace hw := hw.next hx
  replace hF := hF.keep (.cons (t := 0) rfl (.cons (t := 1) rfl (.cons (t := 3) rfl (.cons (t := 5) rfl (.cons (t := 6) rfl (.cons (t := 7) rfl (.cons (t := 8) rfl (.cons (t := 9) rfl (.cons (t := 10) rfl (.cons (t := 11) rfl (.cons (t := 12) rfl (.cons (t := 13) rfl (.cons (t := 15) rfl (.cons (t := 16) rfl (.cons (t := 17) rfl (.cons (t := 18) rfl (.cons (t := 20) rfl (.cons (t := 53) rfl (.cons (t := 54) rfl (.cons (t := 55) rfl (.cons (t := 121) rfl .nil)))))))))))))))))))))
  refine wpList_nil ?_
  try simp only [List.nil_append, List.cons_append, List.set_cons_zero, List.set_cons_succ] at hw
  obtain ⟨_, _, hse_, _, hR124, _⟩ := hw.rd (i := 10) rfl
  injection hse_ with hA_ _ _
  subst hA_
  refine wp_seq (wp_region_lit ?_)
  refine t_net 0 6 (by kernel_rfl) rfl hF ?_
  refine net_cons rfl rfl (n_load rfl (ev rfl) (ldN hw (i := 11) (vs := _) rfl Try.isAgg83 Try.sizeOf83 rfl rfl)) ?_
  refine net_cons rfl rfl (n_ret rfl Try.call52 (.cons (ev rfl) (.cons evc .nil)) (fun _ hx => (al_evF hle124 (hR124.ext hx)))) ?_
  refine net_cons rfl rfl (n_move rfl (ev rfl)) ?_
  refine net_cons rfl rfl (n_extract rfl (ev rfl) rfl) ?_
  refine net_cons rfl rfl (n_extract rfl (ev rfl) rfl) ?_
  refine net_cons rfl rfl (n_alloc rfl Try.zeroValue23 rfl) ?_
  refine net_nil fun a w1 hF hx => ?_
  obtain ⟨b19, h_, hw⟩ := hw.blk hx (hF.at_ 19 _ rfl)
  replace hF := hF.now h_
  replace hF := hF.keep (.cons (t := 0) rfl (.cons (t := 1) rfl (.cons (t := 3) rfl (.cons (t := 5) rfl (.cons (t := 6) rfl (.cons (t := 7) rfl (.cons (t := 8) rfl (.cons (t := 9) rfl (.cons (t := 10) rfl (.cons (t := 11) rfl (.cons (t := 12) rfl (.cons (t := 13) rfl (.cons (t := 15) rfl (.cons (t := 16) rfl (.cons (t := 17) rfl (.cons (t := 18) rfl (.cons (t := 19) rfl (.cons (t := 20) rfl (.cons (t := 53) rfl (.cons (t := 54) rfl (.cons (t := 55) rfl (.cons (t := 121) rfl (.cons (t := 145) rfl (.cons (t := 146) rfl .nil))))))))))))))))))))))))
  refine t_store (i := 15) rfl rfl rfl hF hw rfl (ev rfl) (ev rfl) rfl (kc_one _) Try.sizeOf23 (kc_len _) (by first | decide | (rw [kc_len]; decide)) (seg_whole (by rw [kc_len]; rfl)) fun w1 hw => ?_
  refine t_net 7 1 (by kernel_rfl) rfl hF ?_
  refine net_cons rfl rfl (n_assign rfl (ev rfl)) ?_
  refine net_nil fun a w1 hF hx => ?_
  replace hw := hw.next hx
  replace hF := hF.keep (.cons (t := 0) rfl (.cons (t := 1) rfl (.cons (t := 3) rfl (.cons (t := 5) rfl (.cons (t := 6) rfl (.cons (t := 7) rfl (.cons (t := 8) rfl (.cons (t := 9) rfl (.cons (t := 10) rfl (.cons (t := 11) rfl (.cons (t := 12) rfl (.cons (t := 13) rfl (.cons (t := 15) rfl (.cons (t := 16) rfl (.cons (t := 17) rfl (.cons (t := 18) rfl (.cons (t := 19) rfl (.cons (t := 20) rfl (.cons (t := 53) rfl (.cons (t := 54) rfl (.cons (t := 55) rfl (.cons (t := 121) rfl .nil))))))))))))))))))))))
  refine wpList_nil ?_
  try simp only [List.nil_append, List.cons_append, List.set_cons_zero, List.set_cons_succ] at hw
  refine wp_seq (wp_region_lit ?_)
  refine t_net 0 3 (by kernel_rfl) rfl hF ?_
  refine net_cons rfl rfl (n_load rfl (ev rfl) (ldN hw (i := 11) (vs := _) rfl Try.isAgg83 Try.sizeOf83 rfl rfl)) ?_
  refine net_cons rfl rfl (n_move rfl (ev rfl)) ?_
  refine net_cons rfl rfl (n_bsl sl41 rfl (.cons evc .nil) (.cons rfl rfl .nil) rfl (by decide) (by decide)) ?_
  refine net_nil fun a w1 hF hx => ?_
  obtain ⟨b149, e149_, l149_, h149_⟩ := hF.at_ 149 _ rfl
  have hR149 := Rd.heap h149_
  replace hF := hF.now (v := .slice (some ⟨b149, 0, none⟩) (1) (1)) e149_
  replace hw := hw.next hx
  replace hF := hF.keep (.cons (t := 0) rfl (.cons (t := 1) rfl (.cons (t := 3) rfl (.cons (t := 5) rfl (.cons (t := 6) rfl (.cons (t := 7) rfl (.cons (t := 8) rfl (.cons (t := 9) rfl (.cons (t := 10) rfl (.cons (t := 11) rfl (.cons (t := 12) rfl (.cons (t := 13) rfl (.cons (t := 15) rfl (.cons (t := 16) rfl (.cons (t := 17) rfl (.cons (t := 18) rfl (.cons (t := 19) rfl (.cons (t := 20) rfl (.cons (t := 53) rfl (.cons (t := 54) rfl (.cons (t := 55) rfl (.cons (t := 121) rfl (.cons (t := 147) rfl (.cons (t := 148) rfl (.cons (t := 149) rfl .nil)))))))))))))))))))))))))
  obtain ⟨_, _, hse_, _, hR124, _⟩ := hw.rd (i := 10) rfl
  injection hse_ with hA_ _ _
  subst hA_
  refine t_net 3 5 (by kernel_rfl) rfl hF ?_
  refine net_cons rfl rfl (n_ret rfl Try.call56 (.cons (ev rfl) (.cons (ev rfl) (.cons (ev rfl) .nil))) (fun _ hx => (al_nodes1 (hR124.ext hx) (hR149.ext hx)))) ?_
  refine net_cons rfl rfl (n_move rfl (ev rfl)) ?_
  refine net_on rfl rfl rfl rfl (n_load rfl (ev rfl) (ldN hw (i := 13) (vs := _) rfl Try.isAgg83 Try.sizeOf83 rfl rfl)) ?_
  refine net_on rfl rfl rfl rfl (n_move rfl (ev rfl)) ?_
  refine net_on rfl rfl rfl rfl (n_bsl sl41 rfl (.cons evc (.cons evc .nil)) (.cons rfl rfl (.cons rfl rfl .nil)) rfl (by decide) (by decide)) ?_
  refine net_nil fun a w1 hF hx => ?_
  obtain ⟨b154, e154_, l154_, h154_⟩ := hF.at_ 154 _ rfl
  have hR154 := Rd.heap h154_
  replace hF := hF.now (v := .slice (some ⟨b154, 0, none⟩) (2) (2)) e154_
  replace hw := hw.next hx
  replace hF := hF.keep (.cons (t := 0) rfl (.cons (t := 1) rfl (.cons (t := 3) rfl (.cons (t := 5) rfl (.cons (t := 6) rfl (.cons (t := 7) rfl (.cons (t := 8) rfl (.cons (t := 9) rfl (.cons (t := 10) rfl (.cons (t := 11) rfl (.cons (t := 12) rfl (.cons (t := 13) rfl (.cons (t := 15) rfl (.cons (t := 16) rfl (.cons (t := 17) rfl (.cons (t := 18) rfl (.cons (t := 19) rfl (.cons (t := 20) rfl (.cons (t := 53) rfl (.cons (t := 54) rfl (.cons (t := 55) rfl (.cons (t := 121) rfl (.cons (t := 151) rfl (.cons (t := 152) rfl (.cons (t := 153) rfl (.cons (t := 154) rfl .nil))))))))))))))))))))))))))
  obtain ⟨_, _, hse_, _, hR129, _⟩ := hw.rd (i := 12) rfl
  injection hse_ with hA_ _ _
  subst hA_
  refine t_net 8 20 (by kernel_rfl) rfl hF ?_
  refine net_on rfl rfl rfl rfl (n_ret rfl Try.call56 (.cons (ev rfl) (.cons (ev rfl) (.cons (ev rfl) .nil))) (fun _ hx => (al_nodes2 (hR129.ext hx) (hR154.ext hx)))) ?_
  refine net_cons rfl rfl (n_pick_and rfl (ev rfl) (fun _ => (ev rfl))) ?_
  refine net_cons rfl rfl (n_move rfl (ev rfl)) ?_
  refine net_on rfl rfl rfl rfl (n_move rfl (ev rfl)) ?_
  refine net_on rfl rfl rfl rfl (n_to (v' := .bool true) (n_bin rfl (ev rfl) evc (r_eql (b := 6))) (congrArg Value.bool (by decide +kernel))) ?_
  refine net_cons rfl rfl (n_pick_and rfl (ev rfl) (fun _ => (ev rfl))) ?_
  refine net_cons rfl rfl (n_move rfl (ev rfl)) ?_
  refine net_on rfl rfl rfl rfl (n_move rfl (ev rfl)) ?_
  refine net_on rfl rfl rfl rfl (n_to (v' := .bool true) (n_bin rfl (ev rfl) evc (r_eql (b := 0))) (congrArg Value.bool (by decide +kernel))) ?_
  refine net_cons rfl rfl (n_pick_and rfl (ev rfl) (fun _ => (ev rfl))) ?_
  refine net_cons rfl rfl (n_move rfl (ev rfl)) ?_
  refine net_on rfl rfl rfl rfl (n_move rfl (ev rfl)) ?_
  refine net_on rfl rfl rfl rfl (n_to (v' := .bool true) (n_bin rfl (ev rfl) evc (r_eql (b := 0))) (congrArg Value.bool (by decide +kernel))) ?_
  refine net_cons rfl rfl (n_pick_and rfl (ev rfl) (fun _ => (ev rfl))) ?_
  refine net_cons rfl rfl (n_move rfl (ev rfl)) ?_
  refine net_on rfl rfl rfl rfl (n_load rfl (ev rfl) (ldN hw (i := 14) (vs := _) rfl Try.isAgg23 Try.sizeOf23 (kc_len _) (cut_whole (kc_len _)))) ?_
  refine net_on rfl rfl rfl rfl (n_load rfl (ev rfl) (ldN hw (i := 15) (vs := _) rfl Try.isAgg23 Try.sizeOf23 (kc_len _) (cut_whole (kc_len _)))) ?_
  refine net_on rfl rfl rfl rfl (n_to (v' := .bool true) (n_bin rfl (ev rfl) (ev rfl) r_eqKey) (congrArg Value.bool (by decide +kernel))) ?_
  refine net_cons rfl rfl (n_pick_and rfl (ev rfl) (fun _ => (ev rfl))) ?_
  refine net_cons rfl rfl (n_assign rfl (ev rfl)) ?_
  refine net_nil fun a w1 hF hx => ?_
  replace hw := hw.next hx
  replace hF := hF.keep (.cons (t := 0) rfl (.cons (t := 1) rfl (.cons (t := 3) rfl (.cons (t := 5) rfl (.cons (t := 6) rfl (.cons (t := 7) rfl (.cons (t := 8) rfl (.cons (t := 9) rfl (.cons (t := 10) rfl (.cons (t := 11) rfl (.cons (t := 12) rfl (.cons (t := 13) rfl (.cons (t := 15) rfl (.cons (t := 16) rfl (.cons (t := 17) rfl (.cons (t := 18) rfl (.cons (t := 19) rfl (.cons (t := 20) rfl (.cons (t := 53) rfl (.cons (t := 54) rfl (.cons (t := 55) rfl (.cons (t := 121) rfl .nil))))))))))))))))))))))
  refine wpList_nil ?_
  try simp only [List.nil_append, List.cons_append, List.set_cons_zero, List.set_cons_succ] at hw
  refine wp_ret (ret1 hF Try.results29 rfl ?_)
  exact ⟨_, rfl, hw.ext, rfl⟩
end Go.Proofs.Ythgpojlcbbgaoaa

