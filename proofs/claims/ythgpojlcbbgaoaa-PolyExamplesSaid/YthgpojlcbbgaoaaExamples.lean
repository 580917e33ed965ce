/- the examples -/
import Derived.Test.YthgpojlcbbgaoaaAlive

set_option autoImplicit false
set_option maxRecDepth 100000
set_option linter.unusedVariables false
set_option linter.unusedSimpArgs false
set_option linter.unnecessarySimpa false
namespace Go.Proofs.Ythgpojlcbbgaoaa
open Go.RowKit


abbrev k7 : Key := keyB 7
theorem build_23_7 (w : World) : (Instr.build 23 #[(0, B8 7)]).run Try.prog w = .ok (K k7) w := by
  simp [Instr.build, Try.zeroValue23, Try.runUnderlying23, Array.mapM_eq_mapM_toList, List.mapM_cons, Try.sizeOf5, Instr.fill, Value.cells]
  rfl
@[irreducible] def exC9 : Int := if okS 4 2 9 23 11 2 then 0 else 30
@[irreducible] def exC4 : Int := if okS 4 4 2 23 11 2 then 0 else 30
@[irreducible] def exC5 : Int := if okS 4 2 2 23 11 5 then 0 else 30
@[irreducible] def exV0 : Nat × Int := valR 4 2 2 23 11 2 3 [3, 0, 2] 0
@[irreducible] def exV1 : Nat × Int := valR 4 2 2 23 11 2 3 [3, 0, 2] 1
@[irreducible] def exV2 : Nat × Int := valR 4 2 2 23 11 2 3 [3, 0, 2] 11
@[irreducible] def exV3 : Nat × Int := valR 4 2 2 23 11 2 2 [3, 0] 0
@[irreducible] def exI0 : List Nat × Int := intR 4 2 2 23 11 2 3 [(1, 5), (1, 5), (0, 3)]
@[irreducible] def exI1 : List Nat × Int := intR 4 2 2 23 11 2 2 [(1, 5), (4, 2)]
@[irreducible] def exS3 : (Int × Nat × Nat) × Int := secR key0 4 2 2 23 11 2 3
@[irreducible] def exS4 : (Int × Nat × Nat) × Int := secR key0 4 2 2 23 11 2 4
@[irreducible] def exX : (Nat × List (Nat × Nat) × Key × Key) × Int := sealR key0 4 2 2 23 11 2 [0, 2] key0 0
@[irreducible] def exY : (Nat × List (Nat × Nat) × Key × Key) × Int := sealR key0 4 2 2 23 11 2 [] key0 0
@[irreducible] def exZ : (Nat × List (Nat × Nat) × Key × Key) × Int := sealR key0 4 2 2 23 11 2 [0, 1, 2] key0 0
@[irreducible] def exF : Int × List Lab × Int := fullR k7 2
@[irreducible] def exG : Int × List Lab × Int := fullR k7 0
@[irreducible] def exP1 : Int × List Lab × Int := punR exF.1 exF.2.1 1
@[irreducible] def exP2 : Int × List Lab × Int := punR exP1.1 exP1.2.1 3
@[irreducible] def exP3 : Int × List Lab × Int := punR exP2.1 exP2.2.1 1
@[irreducible] def exP4 : Int × List Lab × Int := punR exP3.1 exP3.2.1 0
@[irreducible] def exP5 : Int × List Lab × Int := punR exP4.1 exP4.2.1 2
@[irreducible] def exE0 : Key × Int := evR exG.1 exG.2.1 0
@[irreducible] def exE4 : Key × Int := evR exP2.1 exP2.2.1 4
theorem exl_F : exF.2.1.length = 1 := by decide +kernel
theorem exl_G : exG.2.1.length = 1 := by decide +kernel
theorem exl_P1 : exP1.2.1.length = 2 := by decide +kernel
theorem exl_P2 : exP2.2.1.length = 2 := by decide +kernel
theorem exl_P3 : exP3.2.1.length = 2 := by decide +kernel
theorem exl_P4 : exP4.2.1.length = 1 := by decide +kernel
theorem exl_P5 : exP5.2.1.length = 0 := by decide +kernel
theorem exl_X : exX.1.2.1.length = 2 := by decide +kernel
theorem exl_Y : exY.1.2.1.length = 2 := by decide +kernel
section
variable {w : World} {A : Option Addr} {c : Nat}
theorem ex_C9 : RetF Try.prog 40 [SV 4 2 9 23 11 2].toArray w (.is (I exC9)) := by
  unfold exC9
  exact Check_c 4 2 9 23 11 2 (by decide) (by decide) (by decide) w
theorem ex_C4 : RetF Try.prog 40 [SV 4 4 2 23 11 2].toArray w (.is (I exC4)) := by
  unfold exC4
  exact Check_c 4 4 2 23 11 2 (by decide) (by decide) (by decide) w
theorem ex_C5 : RetF Try.prog 40 [SV 4 2 2 23 11 5].toArray w (.is (I exC5)) := by
  unfold exC5
  exact Check_c 4 2 2 23 11 5 (by decide) (by decide) (by decide) w
theorem ex_V0 (hR : Rd w A ([3, 0, 2].map U)) : RetF Try.prog 33 [SV 4 2 2 23 11 2, .slice A 3 c, U 0].toArray w (.is (.tuple #[U exV0.1, I exV0.2])) := by
  unfold exV0
  exact PValue_c 4 2 2 23 11 2 (by decide) (by decide) (by decide) 3 c A [3, 0, 2] 0 rfl (by decide) w hR
theorem ex_V1 (hR : Rd w A ([3, 0, 2].map U)) : RetF Try.prog 33 [SV 4 2 2 23 11 2, .slice A 3 c, U 1].toArray w (.is (.tuple #[U exV1.1, I exV1.2])) := by
  unfold exV1
  exact PValue_c 4 2 2 23 11 2 (by decide) (by decide) (by decide) 3 c A [3, 0, 2] 1 rfl (by decide) w hR
theorem ex_V2 (hR : Rd w A ([3, 0, 2].map U)) : RetF Try.prog 33 [SV 4 2 2 23 11 2, .slice A 3 c, U 11].toArray w (.is (.tuple #[U exV2.1, I exV2.2])) := by
  unfold exV2
  exact PValue_c 4 2 2 23 11 2 (by decide) (by decide) (by decide) 3 c A [3, 0, 2] 11 rfl (by decide) w hR
theorem ex_V3 (hR : Rd w A ([3, 0].map U)) : RetF Try.prog 33 [SV 4 2 2 23 11 2, .slice A 2 c, U 0].toArray w (.is (.tuple #[U exV3.1, I exV3.2])) := by
  unfold exV3
  exact PValue_c 4 2 2 23 11 2 (by decide) (by decide) (by decide) 2 c A [3, 0] 0 rfl (by decide) w hR
theorem ex_I0 (hc : 3 ≤ c) (hR : Rd w A (pc [(1, 5), (1, 5), (0, 3)])) : RetF Try.prog 34 [SV 4 2 2 23 11 2, .slice A 3 c].toArray w (.ex 24 1 exI0.1.length (exI0.1.map U) (fun v => .tuple #[v, I exI0.2])) := by
  unfold exI0
  exact Interpolate_c 4 2 2 23 11 2 (by decide) (by decide) (by decide) 3 c A _ rfl hc (by decide) w hR
theorem ex_I1 (hc : 2 ≤ c) (hR : Rd w A (pc [(1, 5), (4, 2)])) : RetF Try.prog 34 [SV 4 2 2 23 11 2, .slice A 2 c].toArray w (.ex 24 1 exI1.1.length (exI1.1.map U) (fun v => .tuple #[v, I exI1.2])) := by
  unfold exI1
  exact Interpolate_c 4 2 2 23 11 2 (by decide) (by decide) (by decide) 2 c A _ rfl hc (by decide) w hR
theorem ex_S3 : RetF Try.prog 18 [K key0, SV 4 2 2 23 11 2, I 3].toArray w (.is (.tuple #[SecV exS3.1.1 (.slice none 0 0) exS3.1.2.1 exS3.1.2.2, I exS3.2])) := by
  unfold exS3
  exact Secret_c key0 4 2 2 23 11 2 (by decide) (by decide) (by decide) 3 (by decide) (by decide) w
theorem ex_S4 : RetF Try.prog 18 [K key0, SV 4 2 2 23 11 2, I 4].toArray w (.is (.tuple #[SecV exS4.1.1 (.slice none 0 0) exS4.1.2.1 exS4.1.2.2, I exS4.2])) := by
  unfold exS4
  exact Secret_c key0 4 2 2 23 11 2 (by decide) (by decide) (by decide) 4 (by decide) (by decide) w
theorem ex_X (hR : Rd w A ([0, 2].map I)) : RetF Try.prog 21 [K key0, SV 4 2 2 23 11 2, .slice A 2 c, K key0, U 0].toArray w (.ex 31 2 exX.1.2.1.length (pc exX.1.2.1) fun v => .tuple #[HV (.slice none 0 0) exX.1.1 v exX.1.2.2.1 exX.1.2.2.2, I exX.2]) := by
  unfold exX
  exact Seal_c key0 key0 4 2 2 23 11 2 0 2 c A [0, 2] (by decide) (by decide) (by decide) (by decide) rfl (by decide) w hR
theorem ex_Y : RetF Try.prog 21 [K key0, SV 4 2 2 23 11 2, .slice none 0 0, K key0, U 0].toArray w (.ex 31 2 exY.1.2.1.length (pc exY.1.2.1) fun v => .tuple #[HV (.slice none 0 0) exY.1.1 v exY.1.2.2.1 exY.1.2.2.2, I exY.2]) := by
  unfold exY
  exact Seal_c key0 key0 4 2 2 23 11 2 0 0 0 none [] (by decide) (by decide) (by decide) (by decide) rfl (by decide) w (.inl rfl)
theorem ex_Z (hR : Rd w A ([0, 1, 2].map I)) : RetF Try.prog 21 [K key0, SV 4 2 2 23 11 2, .slice A 3 c, K key0, U 0].toArray w (.ex 31 2 exZ.1.2.1.length (pc exZ.1.2.1) fun v => .tuple #[HV (.slice none 0 0) exZ.1.1 v exZ.1.2.2.1 exZ.1.2.2.2, I exZ.2]) := by
  unfold exZ
  exact Seal_c key0 key0 4 2 2 23 11 2 0 3 c A [0, 1, 2] (by decide) (by decide) (by decide) (by decide) rfl (by decide) w hR
theorem ex_F : RetF Try.prog 45 [K k7, I 2].toArray w (.ex 95 18 exF.2.1.length (exF.2.1.flatMap lc) (fun v => .tuple #[PuV exF.1 v, I exF.2.2])) := by
  unfold exF
  exact Full_c k7 2 w
theorem ex_G : RetF Try.prog 45 [K k7, I 0].toArray w (.ex 95 18 exG.2.1.length (exG.2.1.flatMap lc) (fun v => .tuple #[PuV exG.1 v, I exG.2.2])) := by
  unfold exG
  exact Full_c k7 0 w
theorem ex_P1 (hc : exF.2.1.length ≤ c) (hR : Rd w A (exF.2.1.flatMap lc)) : RetF Try.prog 50 [PuV exF.1 (.slice A exF.2.1.length c), I 1].toArray w (.ex 95 18 exP1.2.1.length (exP1.2.1.flatMap lc) (fun v => .tuple #[PuV exP1.1 v, I exP1.2.2])) := by
  unfold exP1
  exact Puncture_c _ _ c A _ rfl hc (by rw [exl_F]; decide) 1 (by decide) (by decide) w hR
theorem ex_P2 (hc : exP1.2.1.length ≤ c) (hR : Rd w A (exP1.2.1.flatMap lc)) : RetF Try.prog 50 [PuV exP1.1 (.slice A exP1.2.1.length c), I 3].toArray w (.ex 95 18 exP2.2.1.length (exP2.2.1.flatMap lc) (fun v => .tuple #[PuV exP2.1 v, I exP2.2.2])) := by
  unfold exP2
  exact Puncture_c _ _ c A _ rfl hc (by rw [exl_P1]; decide) 3 (by decide) (by decide) w hR
theorem ex_P3 (hc : exP2.2.1.length ≤ c) (hR : Rd w A (exP2.2.1.flatMap lc)) : RetF Try.prog 50 [PuV exP2.1 (.slice A exP2.2.1.length c), I 1].toArray w (.ex 95 18 exP3.2.1.length (exP3.2.1.flatMap lc) (fun v => .tuple #[PuV exP3.1 v, I exP3.2.2])) := by
  unfold exP3
  exact Puncture_c _ _ c A _ rfl hc (by rw [exl_P2]; decide) 1 (by decide) (by decide) w hR
theorem ex_P4 (hc : exP3.2.1.length ≤ c) (hR : Rd w A (exP3.2.1.flatMap lc)) : RetF Try.prog 50 [PuV exP3.1 (.slice A exP3.2.1.length c), I 0].toArray w (.ex 95 18 exP4.2.1.length (exP4.2.1.flatMap lc) (fun v => .tuple #[PuV exP4.1 v, I exP4.2.2])) := by
  unfold exP4
  exact Puncture_c _ _ c A _ rfl hc (by rw [exl_P3]; decide) 0 (by decide) (by decide) w hR
theorem ex_P5 (hc : exP4.2.1.length ≤ c) (hR : Rd w A (exP4.2.1.flatMap lc)) : RetF Try.prog 50 [PuV exP4.1 (.slice A exP4.2.1.length c), I 2].toArray w (.ex 95 18 exP5.2.1.length (exP5.2.1.flatMap lc) (fun v => .tuple #[PuV exP5.1 v, I exP5.2.2])) := by
  unfold exP5
  exact Puncture_c _ _ c A _ rfl hc (by rw [exl_P4]; decide) 2 (by decide) (by decide) w hR
theorem ex_E0 (hc : exG.2.1.length ≤ c) (hR : Rd w A (exG.2.1.flatMap lc)) : RetF Try.prog 52 [PuV exG.1 (.slice A exG.2.1.length c), I 0].toArray w (.is (.tuple #[K exE0.1, I exE0.2])) := by
  unfold exE0
  exact Evaluate_c _ _ c A _ rfl hc (by rw [exl_G]; decide) 0 (by decide) (by decide) w hR
theorem ex_E4 (hc : exP2.2.1.length ≤ c) (hR : Rd w A (exP2.2.1.flatMap lc)) : RetF Try.prog 52 [PuV exP2.1 (.slice A exP2.2.1.length c), I 4].toArray w (.is (.tuple #[K exE4.1, I exE4.2])) := by
  unfold exE4
  exact Evaluate_c _ _ c A _ rfl hc (by rw [exl_P2]; decide) 4 (by decide) (by decide) w hR
theorem ex_ptX {B : Option Addr} (hR : Rd w A (pc exX.1.2.1)) (hRb : Rd w B ([1, 3].map U)) : RetF Try.prog 55 [HV (.slice none 0 0) exX.1.1 (.slice A exX.1.2.1.length c) exX.1.2.2.1 exX.1.2.2.2, I exX.2, .slice B 2 2].toArray w (.is (.bool true)) :=
  points_c _ _ _ c 2 2 A B _ _ _ [1, 3] _ (by decide +kernel) (by decide +kernel) rfl rfl (by rw [exl_X]; decide) w hR hRb
theorem ex_ptY {B : Option Addr} (hR : Rd w A (pc exY.1.2.1)) (hRb : Rd w B ([5, 6].map U)) : RetF Try.prog 55 [HV (.slice none 0 0) exY.1.1 (.slice A exY.1.2.1.length c) exY.1.2.2.1 exY.1.2.2.2, I exY.2, .slice B 2 2].toArray w (.is (.bool true)) :=
  points_c _ _ _ c 2 2 A B _ _ _ [5, 6] _ (by decide +kernel) (by decide +kernel) rfl rfl (by rw [exl_Y]; decide) w hR hRb
theorem ex_ndP2 {B : Option Addr} (hR : Rd w A (exP2.2.1.flatMap lc)) (hRb : Rd w B ([4, 6].map I)) : RetF Try.prog 56 [PuV exP2.1 (.slice A exP2.2.1.length c), I exP2.2.2, .slice B 2 2].toArray w (.is (.bool true)) :=
  nodes_c _ _ c 2 2 A B _ [4, 6] _ (by decide +kernel) (by decide +kernel) rfl rfl (by rw [exl_P2]; decide) w hR hRb
theorem ex_ndP3 {B : Option Addr} (hR : Rd w A (exP3.2.1.flatMap lc)) (hRb : Rd w B ([4, 6].map I)) : RetF Try.prog 56 [PuV exP3.1 (.slice A exP3.2.1.length c), I exP3.2.2, .slice B 2 2].toArray w (.is (.bool true)) :=
  nodes_c _ _ c 2 2 A B _ [4, 6] _ (by decide +kernel) (by decide +kernel) rfl rfl (by rw [exl_P3]; decide) w hR hRb
theorem ex_ndP5 (hR : Rd w A (exP5.2.1.flatMap lc)) : RetF Try.prog 56 [PuV exP5.1 (.slice A exP5.2.1.length c), I exP5.2.2, .slice none 0 0].toArray w (.is (.bool true)) :=
  nodes_c _ _ c 0 0 A none _ [] _ (by decide +kernel) (by decide +kernel) rfl rfl (by rw [exl_P5]; decide) w hR (.inl rfl)
end


set_option maxHeartbeats 8000000 in
theorem PolyExamples_c  (w : World) : RetF Try.prog 10 [].toArray w (.is (.bool true)) := by
  refine enter Try.func10 rfl Try.ntmps10 rfl fun a hF => ?_
  have hw := Own.start w
  refine wp_seq (reg_seq 1 (hF _ _) (by kernel_rfl) ?_)
  refine net_cons rfl rfl (n_assign rfl evc) ?_
  refine net_nil fun a w1 hF hx => ?_
  replace hw := hw.next hx
  replace hF := hF.keep (.cons (t := 0) rfl .nil)
  refine wpList_nil ?_
  try simp only [List.nil_append, List.cons_append, List.set_cons_zero, List.set_cons_succ] at hw
  refine wp_seq (wp_region_lit ?_)
  refine t_net 0 5 (by kernel_rfl) rfl hF ?_
  refine net_cons rfl rfl (n_ret rfl Try.call54 .nil (fun _ hx => (small_c _))) ?_
  refine net_cons rfl rfl (n_ret rfl Try.call54 .nil (fun _ hx => (small_c _))) ?_
  refine net_cons rfl rfl (n_ret rfl Try.call54 .nil (fun _ hx => (small_c _))) ?_
  refine net_cons rfl rfl (n_ret rfl Try.call54 .nil (fun _ hx => (small_c _))) ?_
  refine net_cons rfl rfl (n_alloc rfl Try.zeroValue28 rfl) ?_
  refine net_nil fun a w1 hF hx => ?_
  obtain ⟨b1, h_, hw⟩ := hw.blk hx (hF.at_ 1 _ rfl)
  replace hF := hF.now h_
  replace hF := hF.keep (.cons (t := 0) rfl (.cons (t := 1) rfl (.cons (t := 24) rfl (.cons (t := 25) rfl (.cons (t := 26) rfl (.cons (t := 27) rfl .nil))))))
  refine t_net 5 1 (by kernel_rfl) rfl hF ?_
  refine net_cons rfl rfl (n_alloc rfl Try.zeroValue28 rfl) ?_
  refine net_nil fun a w1 hF hx => ?_
  obtain ⟨b2, h_, hw⟩ := hw.blk hx (hF.at_ 2 _ rfl)
  replace hF := hF.now h_
  replace hF := hF.keep (.cons (t := 0) rfl (.cons (t := 1) rfl (.cons (t := 2) rfl (.cons (t := 24) rfl (.cons (t := 25) rfl (.cons (t := 26) rfl (.cons (t := 27) rfl .nil)))))))
  refine t_net 6 1 (by kernel_rfl) rfl hF ?_
  refine net_cons rfl rfl (n_alloc rfl Try.zeroValue28 rfl) ?_
  refine net_nil fun a w1 hF hx => ?_
  obtain ⟨b3, h_, hw⟩ := hw.blk hx (hF.at_ 3 _ rfl)
  replace hF := hF.now h_
  replace hF := hF.keep (.cons (t := 0) rfl (.cons (t := 1) rfl (.cons (t := 2) rfl (.cons (t := 3) rfl (.cons (t := 24) rfl (.cons (t := 25) rfl (.cons (t := 26) rfl (.cons (t := 27) rfl .nil))))))))
  refine t_net 7 1 (by kernel_rfl) rfl hF ?_
  refine net_cons rfl rfl (n_alloc rfl Try.zeroValue28 rfl) ?_
  refine net_nil fun a w1 hF hx => ?_
  obtain ⟨b4, h_, hw⟩ := hw.blk hx (hF.at_ 4 _ rfl)
  replace hF := hF.now h_
  replace hF := hF.keep (.cons (t := 0) rfl (.cons (t := 1) rfl (.cons (t := 2) rfl (.cons (t := 3) rfl (.cons (t := 4) rfl (.cons (t := 24) rfl (.cons (t := 25) rfl (.cons (t := 26) rfl (.cons (t := 27) rfl .nil)))))))))
  refine t_store (i := 0) rfl rfl rfl hF hw rfl (ev rfl) (ev rfl) rfl one6 Try.sizeOf28 rfl (Nat.le_of_ble_eq_true rfl) rfl fun w1 hw => ?_
  refine t_store (i := 1) rfl rfl rfl hF hw rfl (ev rfl) (ev rfl) rfl one6 Try.sizeOf28 rfl (Nat.le_of_ble_eq_true rfl) rfl fun w1 hw => ?_
  refine t_store (i := 2) rfl rfl rfl hF hw rfl (ev rfl) (ev rfl) rfl one6 Try.sizeOf28 rfl (Nat.le_of_ble_eq_true rfl) rfl fun w1 hw => ?_
  refine t_store (i := 3) rfl rfl rfl hF hw rfl (ev rfl) (ev rfl) rfl one6 Try.sizeOf28 rfl (Nat.le_of_ble_eq_true rfl) rfl fun w1 hw => ?_
  refine wpList_nil ?_
  try simp only [List.nil_append, List.cons_append, List.set_cons_zero, List.set_cons_succ] at hw
  refine wp_seq (wp_region_lit ?_)
  refine t_net 0 1 (by kernel_rfl) rfl hF ?_
  refine net_cons rfl rfl (n_fieldAddrO (off' := 2) rfl (ev rfl) Try.runUnderlying28 rfl Try.sizeOf3 rfl) ?_
  refine net_nil fun a w1 hF hx => ?_
  replace hw := hw.next hx
  replace hF := hF.keep (.cons (t := 0) rfl (.cons (t := 1) rfl (.cons (t := 2) rfl (.cons (t := 3) rfl (.cons (t := 4) rfl (.cons (t := 24) rfl (.cons (t := 25) rfl (.cons (t := 26) rfl (.cons (t := 27) rfl (.cons (t := 28) rfl .nil))))))))))
  refine t_store (i := 1) rfl rfl rfl hF hw rfl (ev rfl) evc rfl one1 Try.sizeOf3 rfl (Nat.le_of_ble_eq_true rfl) (show seg _ _ _ = [B8 4, I 2, I 9, U 23, U 11, U 2] from rfl) fun w1 hw => ?_
  refine wpList_nil ?_
  try simp only [List.nil_append, List.cons_append, List.set_cons_zero, List.set_cons_succ] at hw
  refine wp_seq (wp_region_lit ?_)
  refine t_net 0 1 (by kernel_rfl) rfl hF ?_
  refine net_cons rfl rfl (n_fieldAddrO (off' := 1) rfl (ev rfl) Try.runUnderlying28 rfl Try.sizeOf3 rfl) ?_
  refine net_nil fun a w1 hF hx => ?_
  replace hw := hw.next hx
  replace hF := hF.keep (.cons (t := 0) rfl (.cons (t := 1) rfl (.cons (t := 2) rfl (.cons (t := 3) rfl (.cons (t := 4) rfl (.cons (t := 24) rfl (.cons (t := 25) rfl (.cons (t := 26) rfl (.cons (t := 27) rfl (.cons (t := 28) rfl (.cons (t := 29) rfl .nil)))))))))))
  refine t_store (i := 2) rfl rfl rfl hF hw rfl (ev rfl) evc rfl one1 Try.sizeOf3 rfl (Nat.le_of_ble_eq_true rfl) (show seg _ _ _ = [B8 4, I 4, I 2, U 23, U 11, U 2] from rfl) fun w1 hw => ?_
  refine wpList_nil ?_
  try simp only [List.nil_append, List.cons_append, List.set_cons_zero, List.set_cons_succ] at hw
  refine wp_seq (wp_region_lit ?_)
  refine t_net 0 2 (by kernel_rfl) rfl hF ?_
  refine net_cons rfl rfl (n_fieldAddrO (off' := 3) rfl (ev rfl) Try.runUnderlying28 rfl Try.sizeOf26 rfl) ?_
  refine net_cons rfl rfl (n_fieldAddrO (off' := 5) rfl (ev rfl) Try.runUnderlying26 rfl Try.sizeOf24 rfl) ?_
  refine net_nil fun a w1 hF hx => ?_
  replace hw := hw.next hx
  replace hF := hF.keep (.cons (t := 0) rfl (.cons (t := 1) rfl (.cons (t := 2) rfl (.cons (t := 3) rfl (.cons (t := 4) rfl (.cons (t := 24) rfl (.cons (t := 25) rfl (.cons (t := 26) rfl (.cons (t := 27) rfl (.cons (t := 28) rfl (.cons (t := 29) rfl (.cons (t := 31) rfl .nil))))))))))))
  refine t_store (i := 3) rfl rfl rfl hF hw rfl (ev rfl) evc rfl one1 Try.sizeOf24 rfl (Nat.le_of_ble_eq_true rfl) (show seg _ _ _ = [B8 4, I 2, I 2, U 23, U 11, U 5] from rfl) fun w1 hw => ?_
  refine wpList_nil ?_
  try simp only [List.nil_append, List.cons_append, List.set_cons_zero, List.set_cons_succ] at hw
  refine wp_seq ?_
  refine wp_seq (reg_seq 19 (hF _ _) (by kernel_rfl) ?_)
  refine net_cons rfl rfl (n_move rfl evc) ?_
  refine net_on rfl rfl rfl rfl (n_ret rfl Try.call29 .nil (fun _ hx => (alive_c _))) ?_
  refine net_on rfl rfl rfl rfl (n_to (v' := .bool false) (n_not rfl (ev rfl)) (congrArg Value.bool (by decide +kernel))) ?_
  refine net_cons rfl rfl (n_pick_or rfl (ev rfl) (fun _ => (ev rfl))) ?_
  refine net_cons rfl rfl (n_move rfl (ev rfl)) ?_
  refine net_on rfl rfl rfl rfl (n_load rfl (ev rfl) (ldN hw (i := 1) (vs := _) rfl Try.isAgg28 Try.sizeOf28 rfl rfl)) ?_
  refine net_on rfl rfl rfl rfl (n_ret rfl Try.call40 (.cons (ev rfl) .nil) (fun _ hx => ex_C9)) ?_
  refine net_on rfl rfl rfl rfl (n_to (v' := .bool false) (n_bin rfl (ev rfl) evc (r_neq (b := 30))) (congrArg Value.bool (by decide +kernel))) ?_
  refine net_cons rfl rfl (n_pick_or rfl (ev rfl) (fun _ => (ev rfl))) ?_
  refine net_cons rfl rfl (n_move rfl (ev rfl)) ?_
  refine net_on rfl rfl rfl rfl (n_load rfl (ev rfl) (ldN hw (i := 2) (vs := _) rfl Try.isAgg28 Try.sizeOf28 rfl rfl)) ?_
  refine net_on rfl rfl rfl rfl (n_ret rfl Try.call40 (.cons (ev rfl) .nil) (fun _ hx => ex_C4)) ?_
  refine net_on rfl rfl rfl rfl (n_to (v' := .bool false) (n_bin rfl (ev rfl) evc (r_neq (b := 30))) (congrArg Value.bool (by decide +kernel))) ?_
  refine net_cons rfl rfl (n_pick_or rfl (ev rfl) (fun _ => (ev rfl))) ?_
  refine net_cons rfl rfl (n_move rfl (ev rfl)) ?_
  refine net_on rfl rfl rfl rfl (n_load rfl (ev rfl) (ldN hw (i := 3) (vs := _) rfl Try.isAgg28 Try.sizeOf28 rfl rfl)) ?_
  refine net_on rfl rfl rfl rfl (n_ret rfl Try.call40 (.cons (ev rfl) .nil) (fun _ hx => ex_C5)) ?_
  refine net_on rfl rfl rfl rfl (n_to (v' := .bool false) (n_bin rfl (ev rfl) evc (r_neq (b := 30))) (congrArg Value.bool (by decide +kernel))) ?_
  refine net_cons rfl rfl (n_pick_or rfl (ev rfl) (fun _ => (ev rfl))) ?_
  refine net_nil fun a w1 hF hx => ?_
  replace hw := hw.next hx
  replace hF := hF.keep (.cons (t := 0) rfl (.cons (t := 1) rfl (.cons (t := 2) rfl (.cons (t := 3) rfl (.cons (t := 4) rfl (.cons (t := 24) rfl (.cons (t := 25) rfl (.cons (t := 26) rfl (.cons (t := 27) rfl (.cons (t := 28) rfl (.cons (t := 29) rfl (.cons (t := 31) rfl (.cons (t := 50) rfl .nil)))))))))))))
  refine wpList_nil ?_
  try simp only [List.nil_append, List.cons_append, List.set_cons_zero, List.set_cons_succ] at hw
  refine wp_cond_false ((hF.ev (ev rfl)).trans (congrArg Value.bool rfl)) ?_
  refine wp_skip ?_
  refine wp_seq (wp_region_lit ?_)
  refine t_net 0 2 (by kernel_rfl) rfl hF ?_
  refine net_cons rfl rfl (n_load rfl (ev rfl) (ldN hw (i := 0) (vs := _) rfl Try.isAgg28 Try.sizeOf28 rfl rfl)) ?_
  refine net_cons rfl rfl (n_bsl sl63 rfl (.cons evc (.cons evc (.cons evc .nil))) (.cons rfl rfl (.cons rfl rfl (.cons rfl rfl .nil))) rfl (by decide) (by decide)) ?_
  refine net_nil fun a w1 hF hx => ?_
  obtain ⟨b53, e53_, l53_, h53_⟩ := hF.at_ 53 _ rfl
  have hR53 := Rd.heap h53_
  replace hF := hF.now (v := .slice (some ⟨b53, 0, none⟩) (3) (3)) e53_
  replace hw := hw.next hx
  replace hF := hF.keep (.cons (t := 0) rfl (.cons (t := 1) rfl (.cons (t := 2) rfl (.cons (t := 3) rfl (.cons (t := 4) rfl (.cons (t := 24) rfl (.cons (t := 25) rfl (.cons (t := 26) rfl (.cons (t := 27) rfl (.cons (t := 28) rfl (.cons (t := 29) rfl (.cons (t := 31) rfl (.cons (t := 50) rfl (.cons (t := 52) rfl (.cons (t := 53) rfl .nil)))))))))))))))
  refine t_net 2 6 (by kernel_rfl) rfl hF ?_
  refine net_cons rfl rfl (n_ret rfl Try.call33 (.cons (ev rfl) (.cons (ev rfl) (.cons evc .nil))) (fun _ hx => (ex_V0 (hR53.ext hx)))) ?_
  refine net_cons rfl rfl (n_move rfl (ev rfl)) ?_
  refine net_cons rfl rfl (n_extract rfl (ev rfl) rfl) ?_
  refine net_cons rfl rfl (n_extract rfl (ev rfl) rfl) ?_
  refine net_cons rfl rfl (n_assign rfl (ev rfl)) ?_
  refine net_cons rfl rfl (n_assign rfl (ev rfl)) ?_
  refine net_nil fun a w1 hF hx => ?_
  replace hw := hw.next hx
  replace hF := hF.keep (.cons (t := 0) rfl (.cons (t := 1) rfl (.cons (t := 2) rfl (.cons (t := 3) rfl (.cons (t := 4) rfl (.cons (t := 5) rfl (.cons (t := 6) rfl (.cons (t := 24) rfl (.cons (t := 25) rfl (.cons (t := 26) rfl (.cons (t := 27) rfl (.cons (t := 28) rfl (.cons (t := 29) rfl (.cons (t := 31) rfl (.cons (t := 50) rfl .nil)))))))))))))))
  refine wpList_nil ?_
  try simp only [List.nil_append, List.cons_append, List.set_cons_zero, List.set_cons_succ] at hw
  refine wp_seq (wp_region_lit ?_)
  refine t_net 0 2 (by kernel_rfl) rfl hF ?_
  refine net_cons rfl rfl (n_load rfl (ev rfl) (ldN hw (i := 0) (vs := _) rfl Try.isAgg28 Try.sizeOf28 rfl rfl)) ?_
  refine net_cons rfl rfl (n_bsl sl63 rfl (.cons evc (.cons evc (.cons evc .nil))) (.cons rfl rfl (.cons rfl rfl (.cons rfl rfl .nil))) rfl (by decide) (by decide)) ?_
  refine net_nil fun a w1 hF hx => ?_
  obtain ⟨b59, e59_, l59_, h59_⟩ := hF.at_ 59 _ rfl
  have hR59 := Rd.heap h59_
  replace hF := hF.now (v := .slice (some ⟨b59, 0, none⟩) (3) (3)) e59_
  replace hw := hw.next hx
  replace hF := hF.keep (.cons (t := 0) rfl (.cons (t := 1) rfl (.cons (t := 2) rfl (.cons (t := 3) rfl (.cons (t := 4) rfl (.cons (t := 5) rfl (.cons (t := 6) rfl (.cons (t := 24) rfl (.cons (t := 25) rfl (.cons (t := 26) rfl (.cons (t := 27) rfl (.cons (t := 28) rfl (.cons (t := 29) rfl (.cons (t := 31) rfl (.cons (t := 50) rfl (.cons (t := 58) rfl (.cons (t := 59) rfl .nil)))))))))))))))))
  refine t_net 2 6 (by kernel_rfl) rfl hF ?_
  refine net_cons rfl rfl (n_ret rfl Try.call33 (.cons (ev rfl) (.cons (ev rfl) (.cons evc .nil))) (fun _ hx => (ex_V1 (hR59.ext hx)))) ?_
  refine net_cons rfl rfl (n_move rfl (ev rfl)) ?_
  refine net_cons rfl rfl (n_extract rfl (ev rfl) rfl) ?_
  refine net_cons rfl rfl (n_extract rfl (ev rfl) rfl) ?_
  refine net_cons rfl rfl (n_assign rfl (ev rfl)) ?_
  refine net_cons rfl rfl (n_assign rfl (ev rfl)) ?_
  refine net_nil fun a w1 hF hx => ?_
  replace hw := hw.next hx
  replace hF := hF.keep (.cons (t := 0) rfl (.cons (t := 1) rfl (.cons (t := 2) rfl (.cons (t := 3) rfl (.cons (t := 4) rfl (.cons (t := 5) rfl (.cons (t := 6) rfl (.cons (t := 7) rfl (.cons (t := 8) rfl (.cons (t := 24) rfl (.cons (t := 25) rfl (.cons (t := 26) rfl (.cons (t := 27) rfl (.cons (t := 28) rfl (.cons (t := 29) rfl (.cons (t := 31) rfl (.cons (t := 50) rfl .nil)))))))))))))))))
  refine wpList_nil ?_
  try simp only [List.nil_append, List.cons_append, List.set_cons_zero, List.set_cons_succ] at hw
  refine wp_seq (wp_region_lit ?_)
  refine t_net 0 2 (by kernel_rfl) rfl hF ?_
  refine net_cons rfl rfl (n_load rfl (ev rfl) (ldN hw (i := 0) (vs := _) rfl Try.isAgg28 Try.sizeOf28 rfl rfl)) ?_
  refine net_cons rfl rfl (n_bsl sl63 rfl (.cons evc (.cons evc (.cons evc .nil))) (.cons rfl rfl (.cons rfl rfl (.cons rfl rfl .nil))) rfl (by decide) (by decide)) ?_
  refine net_nil fun a w1 hF hx => ?_
  obtain ⟨b65, e65_, l65_, h65_⟩ := hF.at_ 65 _ rfl
  have hR65 := Rd.heap h65_
  replace hF := hF.now (v := .slice (some ⟨b65, 0, none⟩) (3) (3)) e65_
  replace hw := hw.next hx
  replace hF := hF.keep (.cons (t := 0) rfl (.cons (t := 1) rfl (.cons (t := 2) rfl (.cons (t := 3) rfl (.cons (t := 4) rfl (.cons (t := 5) rfl (.cons (t := 6) rfl (.cons (t := 7) rfl (.cons (t := 8) rfl (.cons (t := 24) rfl (.cons (t := 25) rfl (.cons (t := 26) rfl (.cons (t := 27) rfl (.cons (t := 28) rfl (.cons (t := 29) rfl (.cons (t := 31) rfl (.cons (t := 50) rfl (.cons (t := 64) rfl (.cons (t := 65) rfl .nil)))))))))))))))))))
  refine t_net 2 6 (by kernel_rfl) rfl hF ?_
  refine net_cons rfl rfl (n_ret rfl Try.call33 (.cons (ev rfl) (.cons (ev rfl) (.cons evc .nil))) (fun _ hx => (ex_V2 (hR65.ext hx)))) ?_
  refine net_cons rfl rfl (n_move rfl (ev rfl)) ?_
  refine net_cons rfl rfl (n_extract rfl (ev rfl) rfl) ?_
  refine net_cons rfl rfl (n_extract rfl (ev rfl) rfl) ?_
  refine net_cons rfl rfl (n_assign rfl (ev rfl)) ?_
  refine net_cons rfl rfl (n_assign rfl (ev rfl)) ?_
  refine net_nil fun a w1 hF hx => ?_
  replace hw := hw.next hx
  replace hF := hF.keep (.cons (t := 0) rfl (.cons (t := 1) rfl (.cons (t := 2) rfl (.cons (t := 3) rfl (.cons (t := 4) rfl (.cons (t := 5) rfl (.cons (t := 6) rfl (.cons (t := 7) rfl (.cons (t := 8) rfl (.cons (t := 10) rfl (.cons (t := 24) rfl (.cons (t := 25) rfl (.cons (t := 26) rfl (.cons (t := 27) rfl (.cons (t := 28) rfl (.cons (t := 29) rfl (.cons (t := 31) rfl (.cons (t := 50) rfl .nil))))))))))))))))))
  refine wpList_nil ?_
  try simp only [List.nil_append, List.cons_append, List.set_cons_zero, List.set_cons_succ] at hw
  refine wp_seq (wp_region_lit ?_)
  refine t_net 0 2 (by kernel_rfl) rfl hF ?_
  refine net_cons rfl rfl (n_load rfl (ev rfl) (ldN hw (i := 0) (vs := _) rfl Try.isAgg28 Try.sizeOf28 rfl rfl)) ?_
  refine net_cons rfl rfl (n_bsl sl63 rfl (.cons evc (.cons evc .nil)) (.cons rfl rfl (.cons rfl rfl .nil)) rfl (by decide) (by decide)) ?_
  refine net_nil fun a w1 hF hx => ?_
  obtain ⟨b71, e71_, l71_, h71_⟩ := hF.at_ 71 _ rfl
  have hR71 := Rd.heap h71_
  replace hF := hF.now (v := .slice (some ⟨b71, 0, none⟩) (2) (2)) e71_
  replace hw := hw.next hx
  replace hF := hF.keep (.cons (t := 0) rfl (.cons (t := 1) rfl (.cons (t := 2) rfl (.cons (t := 3) rfl (.cons (t := 4) rfl (.cons (t := 5) rfl (.cons (t := 6) rfl (.cons (t := 7) rfl (.cons (t := 8) rfl (.cons (t := 10) rfl (.cons (t := 24) rfl (.cons (t := 25) rfl (.cons (t := 26) rfl (.cons (t := 27) rfl (.cons (t := 28) rfl (.cons (t := 29) rfl (.cons (t := 31) rfl (.cons (t := 50) rfl (.cons (t := 70) rfl (.cons (t := 71) rfl .nil))))))))))))))))))))
  refine t_net 2 6 (by kernel_rfl) rfl hF ?_
  refine net_cons rfl rfl (n_ret rfl Try.call33 (.cons (ev rfl) (.cons (ev rfl) (.cons evc .nil))) (fun _ hx => (ex_V3 (hR71.ext hx)))) ?_
  refine net_cons rfl rfl (n_move rfl (ev rfl)) ?_
  refine net_cons rfl rfl (n_extract rfl (ev rfl) rfl) ?_
  refine net_cons rfl rfl (n_extract rfl (ev rfl) rfl) ?_
  refine net_cons rfl rfl (n_assign rfl (ev rfl)) ?_
  refine net_cons rfl rfl (n_assign rfl (ev rfl)) ?_
  refine net_nil fun a w1 hF hx => ?_
  replace hw := hw.next hx
  replace hF := hF.keep (.cons (t := 0) rfl (.cons (t := 1) rfl (.cons (t := 2) rfl (.cons (t := 3) rfl (.cons (t := 4) rfl (.cons (t := 5) rfl (.cons (t := 6) rfl (.cons (t := 7) rfl (.cons (t := 8) rfl (.cons (t := 10) rfl (.cons (t := 12) rfl (.cons (t := 24) rfl (.cons (t := 25) rfl (.cons (t := 26) rfl (.cons (t := 27) rfl (.cons (t := 28) rfl (.cons (t := 29) rfl (.cons (t := 31) rfl (.cons (t := 50) rfl .nil)))))))))))))))))))
  refine wpList_nil ?_
  try simp only [List.nil_append, List.cons_append, List.set_cons_zero, List.set_cons_succ] at hw
  refine wp_seq ?_
  refine wp_seq (reg_seq 22 (hF _ _) (by kernel_rfl) ?_)
  refine net_cons rfl rfl (n_move rfl (ev rfl)) ?_
  refine net_cons rfl rfl (n_to (v' := .bool false) (n_bin rfl (ev rfl) evc (r_neq (b := 0))) (congrArg Value.bool (by decide +kernel))) ?_
  refine net_cons rfl rfl (n_move rfl (ev rfl)) ?_
  refine net_on rfl rfl rfl rfl (n_move rfl (ev rfl)) ?_
  refine net_on rfl rfl rfl rfl (n_to (v' := .bool false) (n_bin rfl (ev rfl) evc (r_neqN (b := 3))) (congrArg Value.bool (by decide +kernel))) ?_
  refine net_cons rfl rfl (n_pick_or rfl (ev rfl) (fun _ => (ev rfl))) ?_
  refine net_cons rfl rfl (n_move rfl (ev rfl)) ?_
  refine net_on rfl rfl rfl rfl (n_move rfl (ev rfl)) ?_
  refine net_on rfl rfl rfl rfl (n_to (v' := .bool false) (n_bin rfl (ev rfl) evc (r_neq (b := 0))) (congrArg Value.bool (by decide +kernel))) ?_
  refine net_cons rfl rfl (n_pick_or rfl (ev rfl) (fun _ => (ev rfl))) ?_
  refine net_cons rfl rfl (n_move rfl (ev rfl)) ?_
  refine net_on rfl rfl rfl rfl (n_move rfl (ev rfl)) ?_
  refine net_on rfl rfl rfl rfl (n_to (v' := .bool false) (n_bin rfl (ev rfl) evc (r_neqN (b := 5))) (congrArg Value.bool (by decide +kernel))) ?_
  refine net_cons rfl rfl (n_pick_or rfl (ev rfl) (fun _ => (ev rfl))) ?_
  refine net_cons rfl rfl (n_move rfl (ev rfl)) ?_
  refine net_on rfl rfl rfl rfl (n_move rfl (ev rfl)) ?_
  refine net_on rfl rfl rfl rfl (n_to (v' := .bool false) (n_bin rfl (ev rfl) evc (r_neq (b := 2))) (congrArg Value.bool (by decide +kernel))) ?_
  refine net_cons rfl rfl (n_pick_or rfl (ev rfl) (fun _ => (ev rfl))) ?_
  refine net_cons rfl rfl (n_move rfl (ev rfl)) ?_
  refine net_on rfl rfl rfl rfl (n_move rfl (ev rfl)) ?_
  refine net_on rfl rfl rfl rfl (n_to (v' := .bool false) (n_bin rfl (ev rfl) evc (r_neq (b := 2))) (congrArg Value.bool (by decide +kernel))) ?_
  refine net_cons rfl rfl (n_pick_or rfl (ev rfl) (fun _ => (ev rfl))) ?_
  refine net_nil fun a w1 hF hx => ?_
  replace hw := hw.next hx
  replace hF := hF.keep (.cons (t := 0) rfl (.cons (t := 1) rfl (.cons (t := 2) rfl (.cons (t := 3) rfl (.cons (t := 4) rfl (.cons (t := 6) rfl (.cons (t := 8) rfl (.cons (t := 10) rfl (.cons (t := 12) rfl (.cons (t := 24) rfl (.cons (t := 25) rfl (.cons (t := 26) rfl (.cons (t := 27) rfl (.cons (t := 28) rfl (.cons (t := 29) rfl (.cons (t := 31) rfl (.cons (t := 50) rfl (.cons (t := 96) rfl .nil))))))))))))))))))
  refine wpList_nil ?_
  try simp only [List.nil_append, List.cons_append, List.set_cons_zero, List.set_cons_succ] at hw
  refine wp_cond_false ((hF.ev (ev rfl)).trans (congrArg Value.bool rfl)) ?_
  refine wp_skip ?_
  refine wp_seq (wp_region_lit ?_)
  refine t_net 0 5 (by kernel_rfl) rfl hF ?_
  refine net_cons rfl rfl (n_load rfl (ev rfl) (ldN hw (i := 0) (vs := _) rfl Try.isAgg28 Try.sizeOf28 rfl rfl)) ?_
  refine net_cons rfl rfl (n_build rfl (.cons evc (.cons evc .nil)) build_31_0_1) ?_
  refine net_cons rfl rfl (n_build rfl (.cons evc (.cons evc .nil)) build_31_0_1) ?_
  refine net_cons rfl rfl (n_build rfl (.cons evc (.cons evc .nil)) build_31_0_1) ?_
  refine net_cons rfl rfl (n_bsl sl43 rfl (.cons (ev rfl) (.cons (ev rfl) (.cons (ev rfl) .nil))) (.cons rfl rfl (.cons rfl rfl (.cons rfl rfl .nil))) rfl (by decide) (by decide)) ?_
  refine net_nil fun a w1 hF hx => ?_
  obtain ⟨b102, e102_, l102_, h102_⟩ := hF.at_ 102 _ rfl
  have hR102 := Rd.heap h102_
  replace hF := hF.now (v := .slice (some ⟨b102, 0, none⟩) (3) (3)) e102_
  replace hw := hw.next hx
  replace hF := hF.keep (.cons (t := 0) rfl (.cons (t := 1) rfl (.cons (t := 2) rfl (.cons (t := 3) rfl (.cons (t := 4) rfl (.cons (t := 6) rfl (.cons (t := 8) rfl (.cons (t := 10) rfl (.cons (t := 12) rfl (.cons (t := 24) rfl (.cons (t := 25) rfl (.cons (t := 26) rfl (.cons (t := 27) rfl (.cons (t := 28) rfl (.cons (t := 29) rfl (.cons (t := 31) rfl (.cons (t := 50) rfl (.cons (t := 96) rfl (.cons (t := 98) rfl (.cons (t := 102) rfl .nil))))))))))))))))))))
  refine t_net 5 1 (by kernel_rfl) rfl hF ?_
  refine net_cons rfl rfl (n_ret rfl Try.call34 (.cons (ev rfl) (.cons (ev rfl) .nil)) (fun _ hx => (ex_I0 (by decide) (hR102.ext hx)))) ?_
  refine net_nil fun a w1 hF hx => ?_
  obtain ⟨s103, h_, hw⟩ := hw.ex hx (hF.at_ 103 _ rfl)
  replace hF := hF.now h_
  replace hF := hF.keep (.cons (t := 0) rfl (.cons (t := 1) rfl (.cons (t := 2) rfl (.cons (t := 3) rfl (.cons (t := 4) rfl (.cons (t := 6) rfl (.cons (t := 8) rfl (.cons (t := 10) rfl (.cons (t := 12) rfl (.cons (t := 24) rfl (.cons (t := 25) rfl (.cons (t := 26) rfl (.cons (t := 27) rfl (.cons (t := 28) rfl (.cons (t := 29) rfl (.cons (t := 31) rfl (.cons (t := 50) rfl (.cons (t := 96) rfl (.cons (t := 103) rfl .nil)))))))))))))))))))
  obtain ⟨A103, c103, rfl, hle103, _, _⟩ := hw.rd (i := 4) rfl
  refine t_net 6 4 (by kernel_rfl) rfl hF ?_
  refine net_cons rfl rfl (n_move rfl (ev rfl)) ?_
  refine net_cons rfl rfl (n_extract rfl (ev rfl) rfl) ?_
  refine net_cons rfl rfl (n_extract rfl (ev rfl) rfl) ?_
  refine net_cons rfl rfl (n_assign rfl (ev rfl)) ?_
  refine net_nil fun a w1 hF hx => ?_
  replace hw := hw.next hx
  replace hF := hF.keep (.cons (t := 0) rfl (.cons (t := 1) rfl (.cons (t := 2) rfl (.cons (t := 3) rfl (.cons (t := 4) rfl (.cons (t := 6) rfl (.cons (t := 8) rfl (.cons (t := 10) rfl (.cons (t := 12) rfl (.cons (t := 24) rfl (.cons (t := 25) rfl (.cons (t := 26) rfl (.cons (t := 27) rfl (.cons (t := 28) rfl (.cons (t := 29) rfl (.cons (t := 31) rfl (.cons (t := 50) rfl (.cons (t := 96) rfl .nil))))))))))))))))))
  refine wpList_nil ?_
  try simp only [List.nil_append, List.cons_append, List.set_cons_zero, List.set_cons_succ] at hw
  refine wp_seq (wp_region_lit ?_)
  refine t_net 0 4 (by kernel_rfl) rfl hF ?_
  refine net_cons rfl rfl (n_load rfl (ev rfl) (ldN hw (i := 0) (vs := _) rfl Try.isAgg28 Try.sizeOf28 rfl rfl)) ?_
  refine net_cons rfl rfl (n_build rfl (.cons evc (.cons evc .nil)) build_31_0_1) ?_
  refine net_cons rfl rfl (n_build rfl (.cons evc (.cons evc .nil)) build_31_0_1) ?_
  refine net_cons rfl rfl (n_bsl sl43 rfl (.cons (ev rfl) (.cons (ev rfl) .nil)) (.cons rfl rfl (.cons rfl rfl .nil)) rfl (by decide) (by decide)) ?_
  refine net_nil fun a w1 hF hx => ?_
  obtain ⟨b110, e110_, l110_, h110_⟩ := hF.at_ 110 _ rfl
  have hR110 := Rd.heap h110_
  replace hF := hF.now (v := .slice (some ⟨b110, 0, none⟩) (2) (2)) e110_
  replace hw := hw.next hx
  replace hF := hF.keep (.cons (t := 0) rfl (.cons (t := 1) rfl (.cons (t := 2) rfl (.cons (t := 3) rfl (.cons (t := 4) rfl (.cons (t := 6) rfl (.cons (t := 8) rfl (.cons (t := 10) rfl (.cons (t := 12) rfl (.cons (t := 24) rfl (.cons (t := 25) rfl (.cons (t := 26) rfl (.cons (t := 27) rfl (.cons (t := 28) rfl (.cons (t := 29) rfl (.cons (t := 31) rfl (.cons (t := 50) rfl (.cons (t := 96) rfl (.cons (t := 107) rfl (.cons (t := 110) rfl .nil))))))))))))))))))))
  refine t_net 4 1 (by kernel_rfl) rfl hF ?_
  refine net_cons rfl rfl (n_ret rfl Try.call34 (.cons (ev rfl) (.cons (ev rfl) .nil)) (fun _ hx => (ex_I1 (by decide) (hR110.ext hx)))) ?_
  refine net_nil fun a w1 hF hx => ?_
  obtain ⟨s111, h_, hw⟩ := hw.ex hx (hF.at_ 111 _ rfl)
  replace hF := hF.now h_
  replace hF := hF.keep (.cons (t := 0) rfl (.cons (t := 1) rfl (.cons (t := 2) rfl (.cons (t := 3) rfl (.cons (t := 4) rfl (.cons (t := 6) rfl (.cons (t := 8) rfl (.cons (t := 10) rfl (.cons (t := 12) rfl (.cons (t := 24) rfl (.cons (t := 25) rfl (.cons (t := 26) rfl (.cons (t := 27) rfl (.cons (t := 28) rfl (.cons (t := 29) rfl (.cons (t := 31) rfl (.cons (t := 50) rfl (.cons (t := 96) rfl (.cons (t := 111) rfl .nil)))))))))))))))))))
  obtain ⟨A111, c111, rfl, hle111, _, _⟩ := hw.rd (i := 5) rfl
  refine t_net 5 4 (by kernel_rfl) rfl hF ?_
  refine net_cons rfl rfl (n_move rfl (ev rfl)) ?_
  refine net_cons rfl rfl (n_extract rfl (ev rfl) rfl) ?_
  refine net_cons rfl rfl (n_extract rfl (ev rfl) rfl) ?_
  refine net_cons rfl rfl (n_assign rfl (ev rfl)) ?_
  refine net_nil fun a w1 hF hx => ?_
  replace hw := hw.next hx
  replace hF := hF.keep (.cons (t := 0) rfl (.cons (t := 1) rfl (.cons (t := 2) rfl (.cons (t := 3) rfl (.cons (t := 4) rfl (.cons (t := 6) rfl (.cons (t := 8) rfl (.cons (t := 10) rfl (.cons (t := 12) rfl (.cons (t := 24) rfl (.cons (t := 25) rfl (.cons (t := 26) rfl (.cons (t := 27) rfl (.cons (t := 28) rfl (.cons (t := 29) rfl (.cons (t := 31) rfl (.cons (t := 50) rfl (.cons (t := 96) rfl .nil))))))))))))))))))
  refine wpList_nil ?_
  try simp only [List.nil_append, List.cons_append, List.set_cons_zero, List.set_cons_succ] at hw
  refine wp_seq (wp_region_lit ?_)
  refine t_net 0 7 (by kernel_rfl) rfl hF ?_
  refine net_cons rfl rfl (n_build rfl .nil build_23_) ?_
  refine net_cons rfl rfl (n_load rfl (ev rfl) (ldN hw (i := 0) (vs := _) rfl Try.isAgg28 Try.sizeOf28 rfl rfl)) ?_
  refine net_cons rfl rfl (n_ret rfl Try.call18 (.cons (ev rfl) (.cons (ev rfl) (.cons evc .nil))) (fun _ hx => ex_S3)) ?_
  refine net_cons rfl rfl (n_move rfl (ev rfl)) ?_
  refine net_cons rfl rfl (n_extract rfl (ev rfl) rfl) ?_
  refine net_cons rfl rfl (n_extract rfl (ev rfl) rfl) ?_
  refine net_cons rfl rfl (n_alloc rfl Try.zeroValue33 rfl) ?_
  refine net_nil fun a w1 hF hx => ?_
  obtain ⟨b13, h_, hw⟩ := hw.blk hx (hF.at_ 13 _ rfl)
  replace hF := hF.now h_
  replace hF := hF.keep (.cons (t := 0) rfl (.cons (t := 1) rfl (.cons (t := 2) rfl (.cons (t := 3) rfl (.cons (t := 4) rfl (.cons (t := 6) rfl (.cons (t := 8) rfl (.cons (t := 10) rfl (.cons (t := 12) rfl (.cons (t := 13) rfl (.cons (t := 24) rfl (.cons (t := 25) rfl (.cons (t := 26) rfl (.cons (t := 27) rfl (.cons (t := 28) rfl (.cons (t := 29) rfl (.cons (t := 31) rfl (.cons (t := 50) rfl (.cons (t := 96) rfl (.cons (t := 118) rfl (.cons (t := 119) rfl .nil)))))))))))))))))))))
  refine t_store (i := 6) rfl rfl rfl hF hw rfl (ev rfl) (ev rfl) rfl one4 Try.sizeOf33 rfl (Nat.le_of_ble_eq_true rfl) rfl fun w1 hw => ?_
  refine t_net 8 1 (by kernel_rfl) rfl hF ?_
  refine net_cons rfl rfl (n_assign rfl (ev rfl)) ?_
  refine net_nil fun a w1 hF hx => ?_
  replace hw := hw.next hx
  replace hF := hF.keep (.cons (t := 0) rfl (.cons (t := 1) rfl (.cons (t := 2) rfl (.cons (t := 3) rfl (.cons (t := 4) rfl (.cons (t := 6) rfl (.cons (t := 8) rfl (.cons (t := 10) rfl (.cons (t := 12) rfl (.cons (t := 13) rfl (.cons (t := 24) rfl (.cons (t := 25) rfl (.cons (t := 26) rfl (.cons (t := 27) rfl (.cons (t := 28) rfl (.cons (t := 29) rfl (.cons (t := 31) rfl (.cons (t := 50) rfl (.cons (t := 96) rfl .nil)))))))))))))))))))
  refine wpList_nil ?_
  try simp only [List.nil_append, List.cons_append, List.set_cons_zero, List.set_cons_succ] at hw
  refine wp_seq (reg_seq 7 (hF _ _) (by kernel_rfl) ?_)
  refine net_cons rfl rfl (n_build rfl .nil build_23_) ?_
  refine net_cons rfl rfl (n_load rfl (ev rfl) (ldN hw (i := 0) (vs := _) rfl Try.isAgg28 Try.sizeOf28 rfl rfl)) ?_
  refine net_cons rfl rfl (n_ret rfl Try.call18 (.cons (ev rfl) (.cons (ev rfl) (.cons evc .nil))) (fun _ hx => ex_S4)) ?_
  refine net_cons rfl rfl (n_move rfl (ev rfl)) ?_
  refine net_cons rfl rfl (n_extract rfl (ev rfl) rfl) ?_
  refine net_cons rfl rfl (n_extract rfl (ev rfl) rfl) ?_
  refine net_cons rfl rfl (n_assign rfl (ev rfl)) ?_
  refine net_nil fun a w1 hF hx => ?_
  replace hw := hw.next hx
  replace hF := hF.keep (.cons (t := 0) rfl (.cons (t := 1) rfl (.cons (t := 2) rfl (.cons (t := 3) rfl (.cons (t := 4) rfl (.cons (t := 6) rfl (.cons (t := 8) rfl (.cons (t := 10) rfl (.cons (t := 12) rfl (.cons (t := 13) rfl (.cons (t := 24) rfl (.cons (t := 25) rfl (.cons (t := 26) rfl (.cons (t := 27) rfl (.cons (t := 28) rfl (.cons (t := 29) rfl (.cons (t := 31) rfl (.cons (t := 50) rfl (.cons (t := 96) rfl .nil)))))))))))))))))))
  refine wpList_nil ?_
  try simp only [List.nil_append, List.cons_append, List.set_cons_zero, List.set_cons_succ] at hw
  refine wp_seq ?_
  refine wp_seq (reg_seq 20 (hF _ _) (by kernel_rfl) ?_)
  refine net_cons rfl rfl (n_move rfl (ev rfl)) ?_
  refine net_cons rfl rfl (n_to (v' := .bool false) (n_bin rfl (ev rfl) evc (r_neq (b := 2))) (congrArg Value.bool (by decide +kernel))) ?_
  refine net_cons rfl rfl (n_move rfl (ev rfl)) ?_
  refine net_on rfl rfl rfl rfl (n_move rfl (ev rfl)) ?_
  refine net_on rfl rfl rfl rfl (n_to (v' := .bool false) (n_bin rfl (ev rfl) evc (r_neq (b := 2))) (congrArg Value.bool (by decide +kernel))) ?_
  refine net_cons rfl rfl (n_pick_or rfl (ev rfl) (fun _ => (ev rfl))) ?_
  refine net_cons rfl rfl (n_move rfl (ev rfl)) ?_
  refine net_on rfl rfl rfl rfl (n_move rfl (ev rfl)) ?_
  refine net_on rfl rfl rfl rfl (n_to (v' := .bool false) (n_bin rfl (ev rfl) evc (r_neq (b := 0))) (congrArg Value.bool (by decide +kernel))) ?_
  refine net_cons rfl rfl (n_pick_or rfl (ev rfl) (fun _ => (ev rfl))) ?_
  refine net_cons rfl rfl (n_move rfl (ev rfl)) ?_
  refine net_on rfl rfl rfl rfl (n_fieldAddrO (off' := 2) rfl (ev rfl) Try.runUnderlying33 rfl Try.sizeOf31 rfl) ?_
  refine net_on rfl rfl rfl rfl (n_fieldAddrO (off' := 2) rfl (ev rfl) Try.runUnderlying31 rfl Try.sizeOf24 rfl) ?_
  refine net_on rfl rfl rfl rfl (n_load rfl (ev rfl) (ld1 hw (i := 6) rfl Try.isAgg24 rfl)) ?_
  refine net_on rfl rfl rfl rfl (n_to (v' := .bool false) (n_bin rfl (ev rfl) evc (r_neqN (b := 4))) (congrArg Value.bool (by decide +kernel))) ?_
  refine net_cons rfl rfl (n_pick_or rfl (ev rfl) (fun _ => (ev rfl))) ?_
  refine net_cons rfl rfl (n_move rfl (ev rfl)) ?_
  refine net_on rfl rfl rfl rfl (n_move rfl (ev rfl)) ?_
  refine net_on rfl rfl rfl rfl (n_to (v' := .bool false) (n_bin rfl (ev rfl) evc (r_neq (b := 2))) (congrArg Value.bool (by decide +kernel))) ?_
  refine net_cons rfl rfl (n_pick_or rfl (ev rfl) (fun _ => (ev rfl))) ?_
  refine net_nil fun a w1 hF hx => ?_
  replace hw := hw.next hx
  replace hF := hF.keep (.cons (t := 0) rfl (.cons (t := 1) rfl (.cons (t := 2) rfl (.cons (t := 3) rfl (.cons (t := 4) rfl (.cons (t := 6) rfl (.cons (t := 8) rfl (.cons (t := 10) rfl (.cons (t := 12) rfl (.cons (t := 13) rfl (.cons (t := 24) rfl (.cons (t := 25) rfl (.cons (t := 26) rfl (.cons (t := 27) rfl (.cons (t := 28) rfl (.cons (t := 29) rfl (.cons (t := 31) rfl (.cons (t := 50) rfl (.cons (t := 96) rfl (.cons (t := 145) rfl .nil))))))))))))))))))))
  refine wpList_nil ?_
  try simp only [List.nil_append, List.cons_append, List.set_cons_zero, List.set_cons_succ] at hw
  refine wp_cond_false ((hF.ev (ev rfl)).trans (congrArg Value.bool rfl)) ?_
  refine wp_skip ?_
  refine wp_seq (wp_region_lit ?_)
  refine t_net 0 3 (by kernel_rfl) rfl hF ?_
  refine net_cons rfl rfl (n_build rfl .nil build_23_) ?_
  refine net_cons rfl rfl (n_load rfl (ev rfl) (ldN hw (i := 0) (vs := _) rfl Try.isAgg28 Try.sizeOf28 rfl rfl)) ?_
  refine net_cons rfl rfl (n_bsl sl41 rfl (.cons evc (.cons evc .nil)) (.cons rfl rfl (.cons rfl rfl .nil)) rfl (by decide) (by decide)) ?_
  refine net_nil fun a w1 hF hx => ?_
  obtain ⟨b149, e149_, l149_, h149_⟩ := hF.at_ 149 _ rfl
  have hR149 := Rd.heap h149_
  replace hF := hF.now (v := .slice (some ⟨b149, 0, none⟩) (2) (2)) e149_
  replace hw := hw.next hx
  replace hF := hF.keep (.cons (t := 0) rfl (.cons (t := 1) rfl (.cons (t := 2) rfl (.cons (t := 3) rfl (.cons (t := 4) rfl (.cons (t := 6) rfl (.cons (t := 8) rfl (.cons (t := 10) rfl (.cons (t := 12) rfl (.cons (t := 13) rfl (.cons (t := 24) rfl (.cons (t := 25) rfl (.cons (t := 26) rfl (.cons (t := 27) rfl (.cons (t := 28) rfl (.cons (t := 29) rfl (.cons (t := 31) rfl (.cons (t := 50) rfl (.cons (t := 96) rfl (.cons (t := 145) rfl (.cons (t := 147) rfl (.cons (t := 148) rfl (.cons (t := 149) rfl .nil)))))))))))))))))))))))
  refine t_net 3 2 (by kernel_rfl) rfl hF ?_
  refine net_cons rfl rfl (n_build rfl .nil build_23_) ?_
  refine net_cons rfl rfl (n_ret rfl Try.call21 (.cons (ev rfl) (.cons (ev rfl) (.cons (ev rfl) (.cons (ev rfl) (.cons evc .nil))))) (fun _ hx => (ex_X (hR149.ext hx)))) ?_
  refine net_nil fun a w1 hF hx => ?_
  obtain ⟨s151, h_, hw⟩ := hw.ex hx (hF.at_ 151 _ rfl)
  replace hF := hF.now h_
  replace hF := hF.keep (.cons (t := 0) rfl (.cons (t := 1) rfl (.cons (t := 2) rfl (.cons (t := 3) rfl (.cons (t := 4) rfl (.cons (t := 6) rfl (.cons (t := 8) rfl (.cons (t := 10) rfl (.cons (t := 12) rfl (.cons (t := 13) rfl (.cons (t := 24) rfl (.cons (t := 25) rfl (.cons (t := 26) rfl (.cons (t := 27) rfl (.cons (t := 28) rfl (.cons (t := 29) rfl (.cons (t := 31) rfl (.cons (t := 50) rfl (.cons (t := 96) rfl (.cons (t := 145) rfl (.cons (t := 151) rfl .nil)))))))))))))))))))))
  obtain ⟨A151, c151, rfl, hle151, _, _⟩ := hw.rd (i := 7) rfl
  refine t_net 5 4 (by kernel_rfl) rfl hF ?_
  refine net_cons rfl rfl (n_move rfl (ev rfl)) ?_
  refine net_cons rfl rfl (n_extract rfl (ev rfl) rfl) ?_
  refine net_cons rfl rfl (n_extract rfl (ev rfl) rfl) ?_
  refine net_cons rfl rfl (n_alloc rfl Try.zeroValue45 rfl) ?_
  refine net_nil fun a w1 hF hx => ?_
  obtain ⟨b14, h_, hw⟩ := hw.blk hx (hF.at_ 14 _ rfl)
  replace hF := hF.now h_
  replace hF := hF.keep (.cons (t := 0) rfl (.cons (t := 1) rfl (.cons (t := 2) rfl (.cons (t := 3) rfl (.cons (t := 4) rfl (.cons (t := 6) rfl (.cons (t := 8) rfl (.cons (t := 10) rfl (.cons (t := 12) rfl (.cons (t := 13) rfl (.cons (t := 14) rfl (.cons (t := 24) rfl (.cons (t := 25) rfl (.cons (t := 26) rfl (.cons (t := 27) rfl (.cons (t := 28) rfl (.cons (t := 29) rfl (.cons (t := 31) rfl (.cons (t := 50) rfl (.cons (t := 96) rfl (.cons (t := 145) rfl (.cons (t := 152) rfl (.cons (t := 153) rfl .nil)))))))))))))))))))))))
  refine t_store (i := 8) rfl rfl rfl hF hw rfl (ev rfl) (ev rfl) rfl one_hcs Try.sizeOf45 (hcs_len _ _ _ _ _) (by first | decide | (rw [hcs_len]; decide)) (seg_whole (by rw [hcs_len] <;> rfl)) fun w1 hw => ?_
  refine t_net 10 1 (by kernel_rfl) rfl hF ?_
  refine net_cons rfl rfl (n_assign rfl (ev rfl)) ?_
  refine net_nil fun a w1 hF hx => ?_
  replace hw := hw.next hx
  replace hF := hF.keep (.cons (t := 0) rfl (.cons (t := 1) rfl (.cons (t := 2) rfl (.cons (t := 3) rfl (.cons (t := 4) rfl (.cons (t := 6) rfl (.cons (t := 8) rfl (.cons (t := 10) rfl (.cons (t := 12) rfl (.cons (t := 13) rfl (.cons (t := 14) rfl (.cons (t := 24) rfl (.cons (t := 25) rfl (.cons (t := 26) rfl (.cons (t := 27) rfl (.cons (t := 28) rfl (.cons (t := 29) rfl (.cons (t := 31) rfl (.cons (t := 50) rfl (.cons (t := 96) rfl (.cons (t := 145) rfl .nil)))))))))))))))))))))
  refine wpList_nil ?_
  try simp only [List.nil_append, List.cons_append, List.set_cons_zero, List.set_cons_succ] at hw
  refine wp_seq (wp_region_lit ?_)
  refine t_net 0 4 (by kernel_rfl) rfl hF ?_
  refine net_cons rfl rfl (n_build rfl .nil build_23_) ?_
  refine net_cons rfl rfl (n_load rfl (ev rfl) (ldN hw (i := 0) (vs := _) rfl Try.isAgg28 Try.sizeOf28 rfl rfl)) ?_
  refine net_cons rfl rfl (n_build rfl .nil build_23_) ?_
  refine net_cons rfl rfl (n_ret rfl Try.call21 (.cons (ev rfl) (.cons (ev rfl) (.cons evc (.cons (ev rfl) (.cons evc .nil))))) (fun _ hx => ex_Y)) ?_
  refine net_nil fun a w1 hF hx => ?_
  obtain ⟨s158, h_, hw⟩ := hw.ex hx (hF.at_ 158 _ rfl)
  replace hF := hF.now h_
  replace hF := hF.keep (.cons (t := 0) rfl (.cons (t := 1) rfl (.cons (t := 2) rfl (.cons (t := 3) rfl (.cons (t := 4) rfl (.cons (t := 6) rfl (.cons (t := 8) rfl (.cons (t := 10) rfl (.cons (t := 12) rfl (.cons (t := 13) rfl (.cons (t := 14) rfl (.cons (t := 24) rfl (.cons (t := 25) rfl (.cons (t := 26) rfl (.cons (t := 27) rfl (.cons (t := 28) rfl (.cons (t := 29) rfl (.cons (t := 31) rfl (.cons (t := 50) rfl (.cons (t := 96) rfl (.cons (t := 145) rfl (.cons (t := 158) rfl .nil))))))))))))))))))))))
  obtain ⟨A158, c158, rfl, hle158, _, _⟩ := hw.rd (i := 9) rfl
  refine t_net 4 4 (by kernel_rfl) rfl hF ?_
  refine net_cons rfl rfl (n_move rfl (ev rfl)) ?_
  refine net_cons rfl rfl (n_extract rfl (ev rfl) rfl) ?_
  refine net_cons rfl rfl (n_extract rfl (ev rfl) rfl) ?_
  refine net_cons rfl rfl (n_alloc rfl Try.zeroValue45 rfl) ?_
  refine net_nil fun a w1 hF hx => ?_
  obtain ⟨b15, h_, hw⟩ := hw.blk hx (hF.at_ 15 _ rfl)
  replace hF := hF.now h_
  replace hF := hF.keep (.cons (t := 0) rfl (.cons (t := 1) rfl (.cons (t := 2) rfl (.cons (t := 3) rfl (.cons (t := 4) rfl (.cons (t := 6) rfl (.cons (t := 8) rfl (.cons (t := 10) rfl (.cons (t := 12) rfl (.cons (t := 13) rfl (.cons (t := 14) rfl (.cons (t := 15) rfl (.cons (t := 24) rfl (.cons (t := 25) rfl (.cons (t := 26) rfl (.cons (t := 27) rfl (.cons (t := 28) rfl (.cons (t := 29) rfl (.cons (t := 31) rfl (.cons (t := 50) rfl (.cons (t := 96) rfl (.cons (t := 145) rfl (.cons (t := 159) rfl (.cons (t := 160) rfl .nil))))))))))))))))))))))))
  refine t_store (i := 10) rfl rfl rfl hF hw rfl (ev rfl) (ev rfl) rfl one_hcs Try.sizeOf45 (hcs_len _ _ _ _ _) (by first | decide | (rw [hcs_len]; decide)) (seg_whole (by rw [hcs_len] <;> rfl)) fun w1 hw => ?_
  refine t_net 9 1 (by kernel_rfl) rfl hF ?_
  refine net_cons rfl rfl (n_assign rfl (ev rfl)) ?_
  refine net_nil fun a w1 hF hx => ?_
  replace hw := hw.next hx
  replace hF := hF.keep (.cons (t := 0) rfl (.cons (t := 1) rfl (.cons (t := 2) rfl (.cons (t := 3) rfl (.cons (t := 4) rfl (.cons (t := 6) rfl (.cons (t := 8) rfl (.cons (t := 10) rfl (.cons (t := 12) rfl (.cons (t := 13) rfl (.cons (t := 14) rfl (.cons (t := 15) rfl (.cons (t := 24) rfl (.cons (t := 25) rfl (.cons (t := 26) rfl (.cons (t := 27) rfl (.cons (t := 28) rfl (.cons (t := 29) rfl (.cons (t := 31) rfl (.cons (t := 50) rfl (.cons (t := 96) rfl (.cons (t := 145) rfl .nil))))))))))))))))))))))
  refine wpList_nil ?_
  try simp only [List.nil_append, List.cons_append, List.set_cons_zero, List.set_cons_succ] at hw
  refine wp_seq (wp_region_lit ?_)
  refine t_net 0 3 (by kernel_rfl) rfl hF ?_
  refine net_cons rfl rfl (n_build rfl .nil build_23_) ?_
  refine net_cons rfl rfl (n_load rfl (ev rfl) (ldN hw (i := 0) (vs := _) rfl Try.isAgg28 Try.sizeOf28 rfl rfl)) ?_
  refine net_cons rfl rfl (n_bsl sl41 rfl (.cons evc (.cons evc (.cons evc .nil))) (.cons rfl rfl (.cons rfl rfl (.cons rfl rfl .nil))) rfl (by decide) (by decide)) ?_
  refine net_nil fun a w1 hF hx => ?_
  obtain ⟨b164, e164_, l164_, h164_⟩ := hF.at_ 164 _ rfl
  have hR164 := Rd.heap h164_
  replace hF := hF.now (v := .slice (some ⟨b164, 0, none⟩) (3) (3)) e164_
  replace hw := hw.next hx
  replace hF := hF.keep (.cons (t := 0) rfl (.cons (t := 1) rfl (.cons (t := 2) rfl (.cons (t := 3) rfl (.cons (t := 4) rfl (.cons (t := 6) rfl (.cons (t := 8) rfl (.cons (t := 10) rfl (.cons (t := 12) rfl (.cons (t := 13) rfl (.cons (t := 14) rfl (.cons (t := 15) rfl (.cons (t := 24) rfl (.cons (t := 25) rfl (.cons (t := 26) rfl (.cons (t := 27) rfl (.cons (t := 28) rfl (.cons (t := 29) rfl (.cons (t := 31) rfl (.cons (t := 50) rfl (.cons (t := 96) rfl (.cons (t := 145) rfl (.cons (t := 162) rfl (.cons (t := 163) rfl (.cons (t := 164) rfl .nil)))))))))))))))))))))))))
  refine t_net 3 2 (by kernel_rfl) rfl hF ?_
  refine net_cons rfl rfl (n_build rfl .nil build_23_) ?_
  refine net_cons rfl rfl (n_ret rfl Try.call21 (.cons (ev rfl) (.cons (ev rfl) (.cons (ev rfl) (.cons (ev rfl) (.cons evc .nil))))) (fun _ hx => (ex_Z (hR164.ext hx)))) ?_
  refine net_nil fun a w1 hF hx => ?_
  obtain ⟨s166, h_, hw⟩ := hw.ex hx (hF.at_ 166 _ rfl)
  replace hF := hF.now h_
  replace hF := hF.keep (.cons (t := 0) rfl (.cons (t := 1) rfl (.cons (t := 2) rfl (.cons (t := 3) rfl (.cons (t := 4) rfl (.cons (t := 6) rfl (.cons (t := 8) rfl (.cons (t := 10) rfl (.cons (t := 12) rfl (.cons (t := 13) rfl (.cons (t := 14) rfl (.cons (t := 15) rfl (.cons (t := 24) rfl (.cons (t := 25) rfl (.cons (t := 26) rfl (.cons (t := 27) rfl (.cons (t := 28) rfl (.cons (t := 29) rfl (.cons (t := 31) rfl (.cons (t := 50) rfl (.cons (t := 96) rfl (.cons (t := 145) rfl (.cons (t := 166) rfl .nil)))))))))))))))))))))))
  obtain ⟨A166, c166, rfl, hle166, _, _⟩ := hw.rd (i := 11) rfl
  refine t_net 5 4 (by kernel_rfl) rfl hF ?_
  refine net_cons rfl rfl (n_move rfl (ev rfl)) ?_
  refine net_cons rfl rfl (n_extract rfl (ev rfl) rfl) ?_
  refine net_cons rfl rfl (n_extract rfl (ev rfl) rfl) ?_
  refine net_cons rfl rfl (n_assign rfl (ev rfl)) ?_
  refine net_nil fun a w1 hF hx => ?_
  replace hw := hw.next hx
  replace hF := hF.keep (.cons (t := 0) rfl (.cons (t := 1) rfl (.cons (t := 2) rfl (.cons (t := 3) rfl (.cons (t := 4) rfl (.cons (t := 6) rfl (.cons (t := 8) rfl (.cons (t := 10) rfl (.cons (t := 12) rfl (.cons (t := 13) rfl (.cons (t := 14) rfl (.cons (t := 15) rfl (.cons (t := 24) rfl (.cons (t := 25) rfl (.cons (t := 26) rfl (.cons (t := 27) rfl (.cons (t := 28) rfl (.cons (t := 29) rfl (.cons (t := 31) rfl (.cons (t := 50) rfl (.cons (t := 96) rfl (.cons (t := 145) rfl .nil))))))))))))))))))))))
  refine wpList_nil ?_
  try simp only [List.nil_append, List.cons_append, List.set_cons_zero, List.set_cons_succ] at hw
  refine wp_seq ?_
  refine wp_seq (wp_region_lit ?_)
  refine t_net 0 3 (by kernel_rfl) rfl hF ?_
  refine net_cons rfl rfl (n_load rfl (ev rfl) (ldN hw (i := 8) (vs := _) rfl Try.isAgg45 Try.sizeOf45 (hcs_len _ _ _ _ _) (cut_whole (hcs_len _ _ _ _ _)))) ?_
  refine net_cons rfl rfl (n_move rfl (ev rfl)) ?_
  refine net_cons rfl rfl (n_bsl sl63 rfl (.cons evc (.cons evc .nil)) (.cons rfl rfl (.cons rfl rfl .nil)) rfl (by decide) (by decide)) ?_
  refine net_nil fun a w1 hF hx => ?_
  obtain ⟨b171, e171_, l171_, h171_⟩ := hF.at_ 171 _ rfl
  have hR171 := Rd.heap h171_
  replace hF := hF.now (v := .slice (some ⟨b171, 0, none⟩) (2) (2)) e171_
  replace hw := hw.next hx
  replace hF := hF.keep (.cons (t := 0) rfl (.cons (t := 1) rfl (.cons (t := 2) rfl (.cons (t := 3) rfl (.cons (t := 4) rfl (.cons (t := 6) rfl (.cons (t := 8) rfl (.cons (t := 10) rfl (.cons (t := 12) rfl (.cons (t := 13) rfl (.cons (t := 14) rfl (.cons (t := 15) rfl (.cons (t := 24) rfl (.cons (t := 25) rfl (.cons (t := 26) rfl (.cons (t := 27) rfl (.cons (t := 28) rfl (.cons (t := 29) rfl (.cons (t := 31) rfl (.cons (t := 50) rfl (.cons (t := 96) rfl (.cons (t := 145) rfl (.cons (t := 169) rfl (.cons (t := 170) rfl (.cons (t := 171) rfl .nil)))))))))))))))))))))))))
  obtain ⟨_, _, hse_, _, hR151, _⟩ := hw.rd (i := 7) rfl
  injection hse_ with hA_ _ _
  subst hA_
  refine t_net 3 6 (by kernel_rfl) rfl hF ?_
  refine net_cons rfl rfl (n_ret rfl Try.call55 (.cons (ev rfl) (.cons (ev rfl) (.cons (ev rfl) .nil))) (fun _ hx => (ex_ptX (hR151.ext hx) (hR171.ext hx)))) ?_
  refine net_cons rfl rfl (n_to (v' := .bool false) (n_not rfl (ev rfl)) (congrArg Value.bool (by decide +kernel))) ?_
  refine net_cons rfl rfl (n_move rfl (ev rfl)) ?_
  refine net_on rfl rfl rfl rfl (n_load rfl (ev rfl) (ldN hw (i := 10) (vs := _) rfl Try.isAgg45 Try.sizeOf45 (hcs_len _ _ _ _ _) (cut_whole (hcs_len _ _ _ _ _)))) ?_
  refine net_on rfl rfl rfl rfl (n_move rfl (ev rfl)) ?_
  refine net_on rfl rfl rfl rfl (n_bsl sl63 rfl (.cons evc (.cons evc .nil)) (.cons rfl rfl (.cons rfl rfl .nil)) rfl (by decide) (by decide)) ?_
  refine net_nil fun a w1 hF hx => ?_
  obtain ⟨b177, e177_, l177_, h177_⟩ := hF.at_ 177 _ rfl
  have hR177 := Rd.heap h177_
  replace hF := hF.now (v := .slice (some ⟨b177, 0, none⟩) (2) (2)) e177_
  replace hw := hw.next hx
  replace hF := hF.keep (.cons (t := 0) rfl (.cons (t := 1) rfl (.cons (t := 2) rfl (.cons (t := 3) rfl (.cons (t := 4) rfl (.cons (t := 6) rfl (.cons (t := 8) rfl (.cons (t := 10) rfl (.cons (t := 12) rfl (.cons (t := 13) rfl (.cons (t := 14) rfl (.cons (t := 15) rfl (.cons (t := 24) rfl (.cons (t := 25) rfl (.cons (t := 26) rfl (.cons (t := 27) rfl (.cons (t := 28) rfl (.cons (t := 29) rfl (.cons (t := 31) rfl (.cons (t := 50) rfl (.cons (t := 96) rfl (.cons (t := 145) rfl (.cons (t := 174) rfl (.cons (t := 175) rfl (.cons (t := 176) rfl (.cons (t := 177) rfl .nil))))))))))))))))))))))))))
  obtain ⟨_, _, hse_, _, hR158, _⟩ := hw.rd (i := 9) rfl
  injection hse_ with hA_ _ _
  subst hA_
  refine t_net 9 7 (by kernel_rfl) rfl hF ?_
  refine net_on rfl rfl rfl rfl (n_ret rfl Try.call55 (.cons (ev rfl) (.cons (ev rfl) (.cons (ev rfl) .nil))) (fun _ hx => (ex_ptY (hR158.ext hx) (hR177.ext hx)))) ?_
  refine net_on rfl rfl rfl rfl (n_to (v' := .bool false) (n_not rfl (ev rfl)) (congrArg Value.bool (by decide +kernel))) ?_
  refine net_cons rfl rfl (n_pick_or rfl (ev rfl) (fun _ => (ev rfl))) ?_
  refine net_cons rfl rfl (n_move rfl (ev rfl)) ?_
  refine net_on rfl rfl rfl rfl (n_move rfl (ev rfl)) ?_
  refine net_on rfl rfl rfl rfl (n_to (v' := .bool false) (n_bin rfl (ev rfl) evc (r_neq (b := 4))) (congrArg Value.bool (by decide +kernel))) ?_
  refine net_cons rfl rfl (n_pick_or rfl (ev rfl) (fun _ => (ev rfl))) ?_
  refine net_nil fun a w1 hF hx => ?_
  replace hw := hw.next hx
  replace hF := hF.keep (.cons (t := 0) rfl (.cons (t := 1) rfl (.cons (t := 2) rfl (.cons (t := 3) rfl (.cons (t := 4) rfl (.cons (t := 6) rfl (.cons (t := 8) rfl (.cons (t := 10) rfl (.cons (t := 12) rfl (.cons (t := 13) rfl (.cons (t := 14) rfl (.cons (t := 15) rfl (.cons (t := 24) rfl (.cons (t := 25) rfl (.cons (t := 26) rfl (.cons (t := 27) rfl (.cons (t := 28) rfl (.cons (t := 29) rfl (.cons (t := 31) rfl (.cons (t := 50) rfl (.cons (t := 96) rfl (.cons (t := 145) rfl (.cons (t := 184) rfl .nil)))))))))))))))))))))))
  refine wpList_nil ?_
  try simp only [List.nil_append, List.cons_append, List.set_cons_zero, List.set_cons_succ] at hw
  refine wp_cond_false ((hF.ev (ev rfl)).trans (congrArg Value.bool rfl)) ?_
  refine wp_skip ?_
  refine wp_seq (wp_region_lit ?_)
  refine t_net 0 2 (by kernel_rfl) rfl hF ?_
  refine net_cons rfl rfl (n_build rfl (.cons evc .nil) build_23_7) ?_
  refine net_cons rfl rfl (n_ret rfl Try.call45 (.cons (ev rfl) (.cons evc .nil)) (fun _ hx => ex_F)) ?_
  refine net_nil fun a w1 hF hx => ?_
  obtain ⟨s187, h_, hw⟩ := hw.ex hx (hF.at_ 187 _ rfl)
  replace hF := hF.now h_
  replace hF := hF.keep (.cons (t := 0) rfl (.cons (t := 1) rfl (.cons (t := 2) rfl (.cons (t := 3) rfl (.cons (t := 4) rfl (.cons (t := 6) rfl (.cons (t := 8) rfl (.cons (t := 10) rfl (.cons (t := 12) rfl (.cons (t := 13) rfl (.cons (t := 14) rfl (.cons (t := 15) rfl (.cons (t := 24) rfl (.cons (t := 25) rfl (.cons (t := 26) rfl (.cons (t := 27) rfl (.cons (t := 28) rfl (.cons (t := 29) rfl (.cons (t := 31) rfl (.cons (t := 50) rfl (.cons (t := 96) rfl (.cons (t := 145) rfl (.cons (t := 184) rfl (.cons (t := 187) rfl .nil))))))))))))))))))))))))
  obtain ⟨A187, c187, rfl, hle187, _, _⟩ := hw.rd (i := 12) rfl
  refine t_net 2 4 (by kernel_rfl) rfl hF ?_
  refine net_cons rfl rfl (n_move rfl (ev rfl)) ?_
  refine net_cons rfl rfl (n_extract rfl (ev rfl) rfl) ?_
  refine net_cons rfl rfl (n_extract rfl (ev rfl) rfl) ?_
  refine net_cons rfl rfl (n_alloc rfl Try.zeroValue83 rfl) ?_
  refine net_nil fun a w1 hF hx => ?_
  obtain ⟨b16, h_, hw⟩ := hw.blk hx (hF.at_ 16 _ rfl)
  replace hF := hF.now h_
  replace hF := hF.keep (.cons (t := 0) rfl (.cons (t := 1) rfl (.cons (t := 2) rfl (.cons (t := 3) rfl (.cons (t := 4) rfl (.cons (t := 6) rfl (.cons (t := 8) rfl (.cons (t := 10) rfl (.cons (t := 12) rfl (.cons (t := 13) rfl (.cons (t := 14) rfl (.cons (t := 15) rfl (.cons (t := 16) rfl (.cons (t := 24) rfl (.cons (t := 25) rfl (.cons (t := 26) rfl (.cons (t := 27) rfl (.cons (t := 28) rfl (.cons (t := 29) rfl (.cons (t := 31) rfl (.cons (t := 50) rfl (.cons (t := 96) rfl (.cons (t := 145) rfl (.cons (t := 184) rfl (.cons (t := 188) rfl (.cons (t := 189) rfl .nil))))))))))))))))))))))))))
  refine t_store (i := 13) rfl rfl rfl hF hw rfl (ev rfl) (ev rfl) rfl one_pu Try.sizeOf83 rfl (Nat.le_of_ble_eq_true rfl) rfl fun w1 hw => ?_
  refine t_net 7 1 (by kernel_rfl) rfl hF ?_
  refine net_cons rfl rfl (n_assign rfl (ev rfl)) ?_
  refine net_nil fun a w1 hF hx => ?_
  replace hw := hw.next hx
  replace hF := hF.keep (.cons (t := 0) rfl (.cons (t := 1) rfl (.cons (t := 2) rfl (.cons (t := 3) rfl (.cons (t := 4) rfl (.cons (t := 6) rfl (.cons (t := 8) rfl (.cons (t := 10) rfl (.cons (t := 12) rfl (.cons (t := 13) rfl (.cons (t := 14) rfl (.cons (t := 15) rfl (.cons (t := 16) rfl (.cons (t := 24) rfl (.cons (t := 25) rfl (.cons (t := 26) rfl (.cons (t := 27) rfl (.cons (t := 28) rfl (.cons (t := 29) rfl (.cons (t := 31) rfl (.cons (t := 50) rfl (.cons (t := 96) rfl (.cons (t := 145) rfl (.cons (t := 184) rfl .nil))))))))))))))))))))))))
  refine wpList_nil ?_
  try simp only [List.nil_append, List.cons_append, List.set_cons_zero, List.set_cons_succ] at hw
  obtain ⟨_, _, hse_, _, hR187, _⟩ := hw.rd (i := 12) rfl
  injection hse_ with hA_ _ _
  subst hA_
  refine wp_seq (wp_region_lit ?_)
  refine t_net 0 2 (by kernel_rfl) rfl hF ?_
  refine net_cons rfl rfl (n_load rfl (ev rfl) (ldN hw (i := 13) (vs := _) rfl Try.isAgg83 Try.sizeOf83 rfl rfl)) ?_
  refine net_cons rfl rfl (n_ret rfl Try.call50 (.cons (ev rfl) (.cons evc .nil)) (fun _ hx => (ex_P1 hle187 (hR187.ext hx)))) ?_
  refine net_nil fun a w1 hF hx => ?_
  obtain ⟨s192, h_, hw⟩ := hw.ex hx (hF.at_ 192 _ rfl)
  replace hF := hF.now h_
  replace hF := hF.keep (.cons (t := 0) rfl (.cons (t := 1) rfl (.cons (t := 2) rfl (.cons (t := 3) rfl (.cons (t := 4) rfl (.cons (t := 6) rfl (.cons (t := 8) rfl (.cons (t := 10) rfl (.cons (t := 12) rfl (.cons (t := 13) rfl (.cons (t := 14) rfl (.cons (t := 15) rfl (.cons (t := 16) rfl (.cons (t := 24) rfl (.cons (t := 25) rfl (.cons (t := 26) rfl (.cons (t := 27) rfl (.cons (t := 28) rfl (.cons (t := 29) rfl (.cons (t := 31) rfl (.cons (t := 50) rfl (.cons (t := 96) rfl (.cons (t := 145) rfl (.cons (t := 184) rfl (.cons (t := 192) rfl .nil)))))))))))))))))))))))))
  obtain ⟨A192, c192, rfl, hle192, _, _⟩ := hw.rd (i := 14) rfl
  refine t_net 2 3 (by kernel_rfl) rfl hF ?_
  refine net_cons rfl rfl (n_move rfl (ev rfl)) ?_
  refine net_cons rfl rfl (n_extract rfl (ev rfl) rfl) ?_
  refine net_cons rfl rfl (n_extract rfl (ev rfl) rfl) ?_
  refine net_nil fun a w1 hF hx => ?_
  replace hw := hw.next hx
  replace hF := hF.keep (.cons (t := 0) rfl (.cons (t := 1) rfl (.cons (t := 2) rfl (.cons (t := 3) rfl (.cons (t := 4) rfl (.cons (t := 6) rfl (.cons (t := 8) rfl (.cons (t := 10) rfl (.cons (t := 12) rfl (.cons (t := 13) rfl (.cons (t := 14) rfl (.cons (t := 15) rfl (.cons (t := 16) rfl (.cons (t := 24) rfl (.cons (t := 25) rfl (.cons (t := 26) rfl (.cons (t := 27) rfl (.cons (t := 28) rfl (.cons (t := 29) rfl (.cons (t := 31) rfl (.cons (t := 50) rfl (.cons (t := 96) rfl (.cons (t := 145) rfl (.cons (t := 184) rfl (.cons (t := 193) rfl (.cons (t := 194) rfl .nil))))))))))))))))))))))))))
  refine t_store (i := 13) rfl rfl rfl hF hw rfl (ev rfl) (ev rfl) rfl one_pu Try.sizeOf83 rfl (Nat.le_of_ble_eq_true rfl) rfl fun w1 hw => ?_
  refine t_net 6 1 (by kernel_rfl) rfl hF ?_
  refine net_cons rfl rfl (n_assign rfl (ev rfl)) ?_
  refine net_nil fun a w1 hF hx => ?_
  replace hw := hw.next hx
  replace hF := hF.keep (.cons (t := 0) rfl (.cons (t := 1) rfl (.cons (t := 2) rfl (.cons (t := 3) rfl (.cons (t := 4) rfl (.cons (t := 6) rfl (.cons (t := 8) rfl (.cons (t := 10) rfl (.cons (t := 12) rfl (.cons (t := 13) rfl (.cons (t := 14) rfl (.cons (t := 15) rfl (.cons (t := 16) rfl (.cons (t := 24) rfl (.cons (t := 25) rfl (.cons (t := 26) rfl (.cons (t := 27) rfl (.cons (t := 28) rfl (.cons (t := 29) rfl (.cons (t := 31) rfl (.cons (t := 50) rfl (.cons (t := 96) rfl (.cons (t := 145) rfl (.cons (t := 184) rfl .nil))))))))))))))))))))))))
  refine wpList_nil ?_
  try simp only [List.nil_append, List.cons_append, List.set_cons_zero, List.set_cons_succ] at hw
  obtain ⟨_, _, hse_, _, hR192, _⟩ := hw.rd (i := 14) rfl
  injection hse_ with hA_ _ _
  subst hA_
  refine wp_seq (wp_region_lit ?_)
  refine t_net 0 2 (by kernel_rfl) rfl hF ?_
  refine net_cons rfl rfl (n_load rfl (ev rfl) (ldN hw (i := 13) (vs := _) rfl Try.isAgg83 Try.sizeOf83 rfl rfl)) ?_
  refine net_cons rfl rfl (n_ret rfl Try.call50 (.cons (ev rfl) (.cons evc .nil)) (fun _ hx => (ex_P2 hle192 (hR192.ext hx)))) ?_
  refine net_nil fun a w1 hF hx => ?_
  obtain ⟨s197, h_, hw⟩ := hw.ex hx (hF.at_ 197 _ rfl)
  replace hF := hF.now h_
  replace hF := hF.keep (.cons (t := 0) rfl (.cons (t := 1) rfl (.cons (t := 2) rfl (.cons (t := 3) rfl (.cons (t := 4) rfl (.cons (t := 6) rfl (.cons (t := 8) rfl (.cons (t := 10) rfl (.cons (t := 12) rfl (.cons (t := 13) rfl (.cons (t := 14) rfl (.cons (t := 15) rfl (.cons (t := 16) rfl (.cons (t := 24) rfl (.cons (t := 25) rfl (.cons (t := 26) rfl (.cons (t := 27) rfl (.cons (t := 28) rfl (.cons (t := 29) rfl (.cons (t := 31) rfl (.cons (t := 50) rfl (.cons (t := 96) rfl (.cons (t := 145) rfl (.cons (t := 184) rfl (.cons (t := 197) rfl .nil)))))))))))))))))))))))))
  obtain ⟨A197, c197, rfl, hle197, _, _⟩ := hw.rd (i := 15) rfl
  refine t_net 2 3 (by kernel_rfl) rfl hF ?_
  refine net_cons rfl rfl (n_move rfl (ev rfl)) ?_
  refine net_cons rfl rfl (n_extract rfl (ev rfl) rfl) ?_
  refine net_cons rfl rfl (n_extract rfl (ev rfl) rfl) ?_
  refine net_nil fun a w1 hF hx => ?_
  replace hw := hw.next hx
  replace hF := hF.keep (.cons (t := 0) rfl (.cons (t := 1) rfl (.cons (t := 2) rfl (.cons (t := 3) rfl (.cons (t := 4) rfl (.cons (t := 6) rfl (.cons (t := 8) rfl (.cons (t := 10) rfl (.cons (t := 12) rfl (.cons (t := 13) rfl (.cons (t := 14) rfl (.cons (t := 15) rfl (.cons (t := 16) rfl (.cons (t := 24) rfl (.cons (t := 25) rfl (.cons (t := 26) rfl (.cons (t := 27) rfl (.cons (t := 28) rfl (.cons (t := 29) rfl (.cons (t := 31) rfl (.cons (t := 50) rfl (.cons (t := 96) rfl (.cons (t := 145) rfl (.cons (t := 184) rfl (.cons (t := 198) rfl (.cons (t := 199) rfl .nil))))))))))))))))))))))))))
  refine t_store (i := 13) rfl rfl rfl hF hw rfl (ev rfl) (ev rfl) rfl one_pu Try.sizeOf83 rfl (Nat.le_of_ble_eq_true rfl) rfl fun w1 hw => ?_
  refine t_net 6 1 (by kernel_rfl) rfl hF ?_
  refine net_cons rfl rfl (n_assign rfl (ev rfl)) ?_
  refine net_nil fun a w1 hF hx => ?_
  replace hw := hw.next hx
  replace hF := hF.keep (.cons (t := 0) rfl (.cons (t := 1) rfl (.cons (t := 2) rfl (.cons (t := 3) rfl (.cons (t := 4) rfl (.cons (t := 6) rfl (.cons (t := 8) rfl (.cons (t := 10) rfl (.cons (t := 12) rfl (.cons (t := 13) rfl (.cons (t := 14) rfl (.cons (t := 15) rfl (.cons (t := 16) rfl (.cons (t := 24) rfl (.cons (t := 25) rfl (.cons (t := 26) rfl (.cons (t := 27) rfl (.cons (t := 28) rfl (.cons (t := 29) rfl (.cons (t := 31) rfl (.cons (t := 50) rfl (.cons (t := 96) rfl (.cons (t := 145) rfl (.cons (t := 184) rfl .nil))))))))))))))))))))))))
  refine wpList_nil ?_
  try simp only [List.nil_append, List.cons_append, List.set_cons_zero, List.set_cons_succ] at hw
  obtain ⟨_, _, hse_, _, hR197, _⟩ := hw.rd (i := 15) rfl
  injection hse_ with hA_ _ _
  subst hA_
  refine wp_seq (wp_region_lit ?_)
  refine t_net 0 2 (by kernel_rfl) rfl hF ?_
  refine net_cons rfl rfl (n_load rfl (ev rfl) (ldN hw (i := 13) (vs := _) rfl Try.isAgg83 Try.sizeOf83 rfl rfl)) ?_
  refine net_cons rfl rfl (n_ret rfl Try.call50 (.cons (ev rfl) (.cons evc .nil)) (fun _ hx => (ex_P3 hle197 (hR197.ext hx)))) ?_
  refine net_nil fun a w1 hF hx => ?_
  obtain ⟨s202, h_, hw⟩ := hw.ex hx (hF.at_ 202 _ rfl)
  replace hF := hF.now h_
  replace hF := hF.keep (.cons (t := 0) rfl (.cons (t := 1) rfl (.cons (t := 2) rfl (.cons (t := 3) rfl (.cons (t := 4) rfl (.cons (t := 6) rfl (.cons (t := 8) rfl (.cons (t := 10) rfl (.cons (t := 12) rfl (.cons (t := 13) rfl (.cons (t := 14) rfl (.cons (t := 15) rfl (.cons (t := 16) rfl (.cons (t := 24) rfl (.cons (t := 25) rfl (.cons (t := 26) rfl (.cons (t := 27) rfl (.cons (t := 28) rfl (.cons (t := 29) rfl (.cons (t := 31) rfl (.cons (t := 50) rfl (.cons (t := 96) rfl (.cons (t := 145) rfl (.cons (t := 184) rfl (.cons (t := 202) rfl .nil)))))))))))))))))))))))))
  obtain ⟨A202, c202, rfl, hle202, _, _⟩ := hw.rd (i := 16) rfl
  refine t_net 2 4 (by kernel_rfl) rfl hF ?_
  refine net_cons rfl rfl (n_move rfl (ev rfl)) ?_
  refine net_cons rfl rfl (n_extract rfl (ev rfl) rfl) ?_
  refine net_cons rfl rfl (n_extract rfl (ev rfl) rfl) ?_
  refine net_cons rfl rfl (n_alloc rfl Try.zeroValue83 rfl) ?_
  refine net_nil fun a w1 hF hx => ?_
  obtain ⟨b18, h_, hw⟩ := hw.blk hx (hF.at_ 18 _ rfl)
  replace hF := hF.now h_
  replace hF := hF.keep (.cons (t := 0) rfl (.cons (t := 1) rfl (.cons (t := 2) rfl (.cons (t := 3) rfl (.cons (t := 4) rfl (.cons (t := 6) rfl (.cons (t := 8) rfl (.cons (t := 10) rfl (.cons (t := 12) rfl (.cons (t := 13) rfl (.cons (t := 14) rfl (.cons (t := 15) rfl (.cons (t := 16) rfl (.cons (t := 18) rfl (.cons (t := 24) rfl (.cons (t := 25) rfl (.cons (t := 26) rfl (.cons (t := 27) rfl (.cons (t := 28) rfl (.cons (t := 29) rfl (.cons (t := 31) rfl (.cons (t := 50) rfl (.cons (t := 96) rfl (.cons (t := 145) rfl (.cons (t := 184) rfl (.cons (t := 203) rfl (.cons (t := 204) rfl .nil)))))))))))))))))))))))))))
  refine t_store (i := 17) rfl rfl rfl hF hw rfl (ev rfl) (ev rfl) rfl one_pu Try.sizeOf83 rfl (Nat.le_of_ble_eq_true rfl) rfl fun w1 hw => ?_
  refine t_net 7 1 (by kernel_rfl) rfl hF ?_
  refine net_cons rfl rfl (n_assign rfl (ev rfl)) ?_
  refine net_nil fun a w1 hF hx => ?_
  replace hw := hw.next hx
  replace hF := hF.keep (.cons (t := 0) rfl (.cons (t := 1) rfl (.cons (t := 2) rfl (.cons (t := 3) rfl (.cons (t := 4) rfl (.cons (t := 6) rfl (.cons (t := 8) rfl (.cons (t := 10) rfl (.cons (t := 12) rfl (.cons (t := 13) rfl (.cons (t := 14) rfl (.cons (t := 15) rfl (.cons (t := 16) rfl (.cons (t := 18) rfl (.cons (t := 24) rfl (.cons (t := 25) rfl (.cons (t := 26) rfl (.cons (t := 27) rfl (.cons (t := 28) rfl (.cons (t := 29) rfl (.cons (t := 31) rfl (.cons (t := 50) rfl (.cons (t := 96) rfl (.cons (t := 145) rfl (.cons (t := 184) rfl .nil)))))))))))))))))))))))))
  refine wpList_nil ?_
  try simp only [List.nil_append, List.cons_append, List.set_cons_zero, List.set_cons_succ] at hw
  obtain ⟨_, _, hse_, _, hR202, _⟩ := hw.rd (i := 16) rfl
  injection hse_ with hA_ _ _
  subst hA_
  refine wp_seq (wp_region_lit ?_)
  refine t_net 0 2 (by kernel_rfl) rfl hF ?_
  refine net_cons rfl rfl (n_load rfl (ev rfl) (ldN hw (i := 17) (vs := _) rfl Try.isAgg83 Try.sizeOf83 rfl rfl)) ?_
  refine net_cons rfl rfl (n_ret rfl Try.call50 (.cons (ev rfl) (.cons evc .nil)) (fun _ hx => (ex_P4 hle202 (hR202.ext hx)))) ?_
  refine net_nil fun a w1 hF hx => ?_
  obtain ⟨s207, h_, hw⟩ := hw.ex hx (hF.at_ 207 _ rfl)
  replace hF := hF.now h_
  replace hF := hF.keep (.cons (t := 0) rfl (.cons (t := 1) rfl (.cons (t := 2) rfl (.cons (t := 3) rfl (.cons (t := 4) rfl (.cons (t := 6) rfl (.cons (t := 8) rfl (.cons (t := 10) rfl (.cons (t := 12) rfl (.cons (t := 13) rfl (.cons (t := 14) rfl (.cons (t := 15) rfl (.cons (t := 16) rfl (.cons (t := 18) rfl (.cons (t := 24) rfl (.cons (t := 25) rfl (.cons (t := 26) rfl (.cons (t := 27) rfl (.cons (t := 28) rfl (.cons (t := 29) rfl (.cons (t := 31) rfl (.cons (t := 50) rfl (.cons (t := 96) rfl (.cons (t := 145) rfl (.cons (t := 184) rfl (.cons (t := 207) rfl .nil))))))))))))))))))))))))))
  obtain ⟨A207, c207, rfl, hle207, _, _⟩ := hw.rd (i := 18) rfl
  refine t_net 2 4 (by kernel_rfl) rfl hF ?_
  refine net_cons rfl rfl (n_move rfl (ev rfl)) ?_
  refine net_cons rfl rfl (n_extract rfl (ev rfl) rfl) ?_
  refine net_cons rfl rfl (n_extract rfl (ev rfl) rfl) ?_
  refine net_cons rfl rfl (n_alloc rfl Try.zeroValue83 rfl) ?_
  refine net_nil fun a w1 hF hx => ?_
  obtain ⟨b19, h_, hw⟩ := hw.blk hx (hF.at_ 19 _ rfl)
  replace hF := hF.now h_
  replace hF := hF.keep (.cons (t := 0) rfl (.cons (t := 1) rfl (.cons (t := 2) rfl (.cons (t := 3) rfl (.cons (t := 4) rfl (.cons (t := 6) rfl (.cons (t := 8) rfl (.cons (t := 10) rfl (.cons (t := 12) rfl (.cons (t := 13) rfl (.cons (t := 14) rfl (.cons (t := 15) rfl (.cons (t := 16) rfl (.cons (t := 18) rfl (.cons (t := 19) rfl (.cons (t := 24) rfl (.cons (t := 25) rfl (.cons (t := 26) rfl (.cons (t := 27) rfl (.cons (t := 28) rfl (.cons (t := 29) rfl (.cons (t := 31) rfl (.cons (t := 50) rfl (.cons (t := 96) rfl (.cons (t := 145) rfl (.cons (t := 184) rfl (.cons (t := 208) rfl (.cons (t := 209) rfl .nil))))))))))))))))))))))))))))
  refine t_store (i := 19) rfl rfl rfl hF hw rfl (ev rfl) (ev rfl) rfl one_pu Try.sizeOf83 rfl (Nat.le_of_ble_eq_true rfl) rfl fun w1 hw => ?_
  refine t_net 7 1 (by kernel_rfl) rfl hF ?_
  refine net_cons rfl rfl (n_assign rfl (ev rfl)) ?_
  refine net_nil fun a w1 hF hx => ?_
  replace hw := hw.next hx
  replace hF := hF.keep (.cons (t := 0) rfl (.cons (t := 1) rfl (.cons (t := 2) rfl (.cons (t := 3) rfl (.cons (t := 4) rfl (.cons (t := 6) rfl (.cons (t := 8) rfl (.cons (t := 10) rfl (.cons (t := 12) rfl (.cons (t := 13) rfl (.cons (t := 14) rfl (.cons (t := 15) rfl (.cons (t := 16) rfl (.cons (t := 18) rfl (.cons (t := 19) rfl (.cons (t := 24) rfl (.cons (t := 25) rfl (.cons (t := 26) rfl (.cons (t := 27) rfl (.cons (t := 28) rfl (.cons (t := 29) rfl (.cons (t := 31) rfl (.cons (t := 50) rfl (.cons (t := 96) rfl (.cons (t := 145) rfl (.cons (t := 184) rfl .nil))))))))))))))))))))))))))
  refine wpList_nil ?_
  try simp only [List.nil_append, List.cons_append, List.set_cons_zero, List.set_cons_succ] at hw
  obtain ⟨_, _, hse_, _, hR207, _⟩ := hw.rd (i := 18) rfl
  injection hse_ with hA_ _ _
  subst hA_
  refine wp_seq (wp_region_lit ?_)
  refine t_net 0 2 (by kernel_rfl) rfl hF ?_
  refine net_cons rfl rfl (n_load rfl (ev rfl) (ldN hw (i := 19) (vs := _) rfl Try.isAgg83 Try.sizeOf83 rfl rfl)) ?_
  refine net_cons rfl rfl (n_ret rfl Try.call50 (.cons (ev rfl) (.cons evc .nil)) (fun _ hx => (ex_P5 hle207 (hR207.ext hx)))) ?_
  refine net_nil fun a w1 hF hx => ?_
  obtain ⟨s212, h_, hw⟩ := hw.ex hx (hF.at_ 212 _ rfl)
  replace hF := hF.now h_
  replace hF := hF.keep (.cons (t := 0) rfl (.cons (t := 1) rfl (.cons (t := 2) rfl (.cons (t := 3) rfl (.cons (t := 4) rfl (.cons (t := 6) rfl (.cons (t := 8) rfl (.cons (t := 10) rfl (.cons (t := 12) rfl (.cons (t := 13) rfl (.cons (t := 14) rfl (.cons (t := 15) rfl (.cons (t := 16) rfl (.cons (t := 18) rfl (.cons (t := 19) rfl (.cons (t := 24) rfl (.cons (t := 25) rfl (.cons (t := 26) rfl (.cons (t := 27) rfl (.cons (t := 28) rfl (.cons (t := 29) rfl (.cons (t := 31) rfl (.cons (t := 50) rfl (.cons (t := 96) rfl (.cons (t := 145) rfl (.cons (t := 184) rfl (.cons (t := 212) rfl .nil)))))))))))))))))))))))))))
  obtain ⟨A212, c212, rfl, hle212, _, _⟩ := hw.rd (i := 20) rfl
  refine t_net 2 4 (by kernel_rfl) rfl hF ?_
  refine net_cons rfl rfl (n_move rfl (ev rfl)) ?_
  refine net_cons rfl rfl (n_extract rfl (ev rfl) rfl) ?_
  refine net_cons rfl rfl (n_extract rfl (ev rfl) rfl) ?_
  refine net_cons rfl rfl (n_alloc rfl Try.zeroValue83 rfl) ?_
  refine net_nil fun a w1 hF hx => ?_
  obtain ⟨b20, h_, hw⟩ := hw.blk hx (hF.at_ 20 _ rfl)
  replace hF := hF.now h_
  replace hF := hF.keep (.cons (t := 0) rfl (.cons (t := 1) rfl (.cons (t := 2) rfl (.cons (t := 3) rfl (.cons (t := 4) rfl (.cons (t := 6) rfl (.cons (t := 8) rfl (.cons (t := 10) rfl (.cons (t := 12) rfl (.cons (t := 13) rfl (.cons (t := 14) rfl (.cons (t := 15) rfl (.cons (t := 16) rfl (.cons (t := 18) rfl (.cons (t := 19) rfl (.cons (t := 20) rfl (.cons (t := 24) rfl (.cons (t := 25) rfl (.cons (t := 26) rfl (.cons (t := 27) rfl (.cons (t := 28) rfl (.cons (t := 29) rfl (.cons (t := 31) rfl (.cons (t := 50) rfl (.cons (t := 96) rfl (.cons (t := 145) rfl (.cons (t := 184) rfl (.cons (t := 213) rfl (.cons (t := 214) rfl .nil)))))))))))))))))))))))))))))
  refine t_store (i := 21) rfl rfl rfl hF hw rfl (ev rfl) (ev rfl) rfl one_pu Try.sizeOf83 rfl (Nat.le_of_ble_eq_true rfl) rfl fun w1 hw => ?_
  refine t_net 7 1 (by kernel_rfl) rfl hF ?_
  refine net_cons rfl rfl (n_assign rfl (ev rfl)) ?_
  refine net_nil fun a w1 hF hx => ?_
  replace hw := hw.next hx
  replace hF := hF.keep (.cons (t := 0) rfl (.cons (t := 1) rfl (.cons (t := 2) rfl (.cons (t := 3) rfl (.cons (t := 4) rfl (.cons (t := 6) rfl (.cons (t := 8) rfl (.cons (t := 10) rfl (.cons (t := 12) rfl (.cons (t := 13) rfl (.cons (t := 14) rfl (.cons (t := 15) rfl (.cons (t := 16) rfl (.cons (t := 18) rfl (.cons (t := 19) rfl (.cons (t := 20) rfl (.cons (t := 21) rfl (.cons (t := 24) rfl (.cons (t := 25) rfl (.cons (t := 26) rfl (.cons (t := 27) rfl (.cons (t := 28) rfl (.cons (t := 29) rfl (.cons (t := 31) rfl (.cons (t := 50) rfl (.cons (t := 96) rfl (.cons (t := 145) rfl (.cons (t := 184) rfl .nil))))))))))))))))))))))))))))
  refine wpList_nil ?_
  try simp only [List.nil_append, List.cons_append, List.set_cons_zero, List.set_cons_succ] at hw
  refine wp_seq ?_
  refine wp_seq (wp_region_lit ?_)
  refine t_net 0 6 (by kernel_rfl) rfl hF ?_
  refine net_cons rfl rfl (n_move rfl (ev rfl)) ?_
  refine net_cons rfl rfl (n_to (v' := .bool false) (n_bin rfl (ev rfl) evc (r_neq (b := 0))) (congrArg Value.bool (by decide +kernel))) ?_
  refine net_cons rfl rfl (n_move rfl (ev rfl)) ?_
  refine net_on rfl rfl rfl rfl (n_load rfl (ev rfl) (ldN hw (i := 13) (vs := _) rfl Try.isAgg83 Try.sizeOf83 rfl rfl)) ?_
  refine net_on rfl rfl rfl rfl (n_move rfl (ev rfl)) ?_
  refine net_on rfl rfl rfl rfl (n_bsl sl41 rfl (.cons evc (.cons evc .nil)) (.cons rfl rfl (.cons rfl rfl .nil)) rfl (by decide) (by decide)) ?_
  refine net_nil fun a w1 hF hx => ?_
  obtain ⟨b220, e220_, l220_, h220_⟩ := hF.at_ 220 _ rfl
  have hR220 := Rd.heap h220_
  replace hF := hF.now (v := .slice (some ⟨b220, 0, none⟩) (2) (2)) e220_
  replace hw := hw.next hx
  replace hF := hF.keep (.cons (t := 0) rfl (.cons (t := 1) rfl (.cons (t := 2) rfl (.cons (t := 3) rfl (.cons (t := 4) rfl (.cons (t := 6) rfl (.cons (t := 8) rfl (.cons (t := 10) rfl (.cons (t := 12) rfl (.cons (t := 13) rfl (.cons (t := 14) rfl (.cons (t := 15) rfl (.cons (t := 16) rfl (.cons (t := 18) rfl (.cons (t := 19) rfl (.cons (t := 20) rfl (.cons (t := 21) rfl (.cons (t := 24) rfl (.cons (t := 25) rfl (.cons (t := 26) rfl (.cons (t := 27) rfl (.cons (t := 28) rfl (.cons (t := 29) rfl (.cons (t := 31) rfl (.cons (t := 50) rfl (.cons (t := 96) rfl (.cons (t := 145) rfl (.cons (t := 184) rfl (.cons (t := 217) rfl (.cons (t := 218) rfl (.cons (t := 219) rfl (.cons (t := 220) rfl .nil))))))))))))))))))))))))))))))))
  obtain ⟨_, _, hse_, _, hR197, _⟩ := hw.rd (i := 15) rfl
  injection hse_ with hA_ _ _
  subst hA_
  refine t_net 6 7 (by kernel_rfl) rfl hF ?_
  refine net_on rfl rfl rfl rfl (n_ret rfl Try.call56 (.cons (ev rfl) (.cons (ev rfl) (.cons (ev rfl) .nil))) (fun _ hx => (ex_ndP2 (hR197.ext hx) (hR220.ext hx)))) ?_
  refine net_on rfl rfl rfl rfl (n_to (v' := .bool false) (n_not rfl (ev rfl)) (congrArg Value.bool (by decide +kernel))) ?_
  refine net_cons rfl rfl (n_pick_or rfl (ev rfl) (fun _ => (ev rfl))) ?_
  refine net_cons rfl rfl (n_move rfl (ev rfl)) ?_
  refine net_on rfl rfl rfl rfl (n_load rfl (ev rfl) (ldN hw (i := 17) (vs := _) rfl Try.isAgg83 Try.sizeOf83 rfl rfl)) ?_
  refine net_on rfl rfl rfl rfl (n_move rfl (ev rfl)) ?_
  refine net_on rfl rfl rfl rfl (n_bsl sl41 rfl (.cons evc (.cons evc .nil)) (.cons rfl rfl (.cons rfl rfl .nil)) rfl (by decide) (by decide)) ?_
  refine net_nil fun a w1 hF hx => ?_
  obtain ⟨b227, e227_, l227_, h227_⟩ := hF.at_ 227 _ rfl
  have hR227 := Rd.heap h227_
  replace hF := hF.now (v := .slice (some ⟨b227, 0, none⟩) (2) (2)) e227_
  replace hw := hw.next hx
  replace hF := hF.keep (.cons (t := 0) rfl (.cons (t := 1) rfl (.cons (t := 2) rfl (.cons (t := 3) rfl (.cons (t := 4) rfl (.cons (t := 6) rfl (.cons (t := 8) rfl (.cons (t := 10) rfl (.cons (t := 12) rfl (.cons (t := 13) rfl (.cons (t := 14) rfl (.cons (t := 15) rfl (.cons (t := 16) rfl (.cons (t := 18) rfl (.cons (t := 19) rfl (.cons (t := 20) rfl (.cons (t := 21) rfl (.cons (t := 24) rfl (.cons (t := 25) rfl (.cons (t := 26) rfl (.cons (t := 27) rfl (.cons (t := 28) rfl (.cons (t := 29) rfl (.cons (t := 31) rfl (.cons (t := 50) rfl (.cons (t := 96) rfl (.cons (t := 145) rfl (.cons (t := 184) rfl (.cons (t := 224) rfl (.cons (t := 225) rfl (.cons (t := 226) rfl (.cons (t := 227) rfl .nil))))))))))))))))))))))))))))))))
  obtain ⟨_, _, hse_, _, hR202, _⟩ := hw.rd (i := 16) rfl
  injection hse_ with hA_ _ _
  subst hA_
  obtain ⟨_, _, hse_, _, hR212, _⟩ := hw.rd (i := 20) rfl
  injection hse_ with hA_ _ _
  subst hA_
  refine t_net 13 13 (by kernel_rfl) rfl hF ?_
  refine net_on rfl rfl rfl rfl (n_ret rfl Try.call56 (.cons (ev rfl) (.cons (ev rfl) (.cons (ev rfl) .nil))) (fun _ hx => (ex_ndP3 (hR202.ext hx) (hR227.ext hx)))) ?_
  refine net_on rfl rfl rfl rfl (n_to (v' := .bool false) (n_not rfl (ev rfl)) (congrArg Value.bool (by decide +kernel))) ?_
  refine net_cons rfl rfl (n_pick_or rfl (ev rfl) (fun _ => (ev rfl))) ?_
  refine net_cons rfl rfl (n_move rfl (ev rfl)) ?_
  refine net_on rfl rfl rfl rfl (n_move rfl (ev rfl)) ?_
  refine net_on rfl rfl rfl rfl (n_to (v' := .bool false) (n_bin rfl (ev rfl) evc (r_neq (b := 0))) (congrArg Value.bool (by decide +kernel))) ?_
  refine net_cons rfl rfl (n_pick_or rfl (ev rfl) (fun _ => (ev rfl))) ?_
  refine net_cons rfl rfl (n_move rfl (ev rfl)) ?_
  refine net_on rfl rfl rfl rfl (n_load rfl (ev rfl) (ldN hw (i := 21) (vs := _) rfl Try.isAgg83 Try.sizeOf83 rfl rfl)) ?_
  refine net_on rfl rfl rfl rfl (n_move rfl (ev rfl)) ?_
  refine net_on rfl rfl rfl rfl (n_ret rfl Try.call56 (.cons (ev rfl) (.cons (ev rfl) (.cons evc .nil))) (fun _ hx => (ex_ndP5 (hR212.ext hx)))) ?_
  refine net_on rfl rfl rfl rfl (n_to (v' := .bool false) (n_not rfl (ev rfl)) (congrArg Value.bool (by decide +kernel))) ?_
  refine net_cons rfl rfl (n_pick_or rfl (ev rfl) (fun _ => (ev rfl))) ?_
  refine net_nil fun a w1 hF hx => ?_
  replace hw := hw.next hx
  replace hF := hF.keep (.cons (t := 0) rfl (.cons (t := 1) rfl (.cons (t := 2) rfl (.cons (t := 3) rfl (.cons (t := 4) rfl (.cons (t := 6) rfl (.cons (t := 8) rfl (.cons (t := 10) rfl (.cons (t := 12) rfl (.cons (t := 13) rfl (.cons (t := 14) rfl (.cons (t := 15) rfl (.cons (t := 16) rfl (.cons (t := 18) rfl (.cons (t := 19) rfl (.cons (t := 20) rfl (.cons (t := 24) rfl (.cons (t := 25) rfl (.cons (t := 26) rfl (.cons (t := 27) rfl (.cons (t := 28) rfl (.cons (t := 29) rfl (.cons (t := 31) rfl (.cons (t := 50) rfl (.cons (t := 96) rfl (.cons (t := 145) rfl (.cons (t := 184) rfl (.cons (t := 240) rfl .nil))))))))))))))))))))))))))))
  refine wpList_nil ?_
  try simp only [List.nil_append, List.cons_append, List.set_cons_zero, List.set_cons_succ] at hw
  refine wp_cond_false ((hF.ev (ev rfl)).trans (congrArg Value.bool rfl)) ?_
  refine wp_skip ?_
  refine wp_seq (wp_region_lit ?_)
  refine t_net 0 2 (by kernel_rfl) rfl hF ?_
  refine net_cons rfl rfl (n_build rfl (.cons evc .nil) build_23_7) ?_
  refine net_cons rfl rfl (n_ret rfl Try.call45 (.cons (ev rfl) (.cons evc .nil)) (fun _ hx => ex_G)) ?_
  refine net_nil fun a w1 hF hx => ?_
  obtain ⟨s243, h_, hw⟩ := hw.ex hx (hF.at_ 243 _ rfl)
  replace hF := hF.now h_
  replace hF := hF.keep (.cons (t := 0) rfl (.cons (t := 1) rfl (.cons (t := 2) rfl (.cons (t := 3) rfl (.cons (t := 4) rfl (.cons (t := 6) rfl (.cons (t := 8) rfl (.cons (t := 10) rfl (.cons (t := 12) rfl (.cons (t := 13) rfl (.cons (t := 14) rfl (.cons (t := 15) rfl (.cons (t := 16) rfl (.cons (t := 18) rfl (.cons (t := 19) rfl (.cons (t := 20) rfl (.cons (t := 24) rfl (.cons (t := 25) rfl (.cons (t := 26) rfl (.cons (t := 27) rfl (.cons (t := 28) rfl (.cons (t := 29) rfl (.cons (t := 31) rfl (.cons (t := 50) rfl (.cons (t := 96) rfl (.cons (t := 145) rfl (.cons (t := 184) rfl (.cons (t := 240) rfl (.cons (t := 243) rfl .nil)))))))))))))))))))))))))))))
  obtain ⟨A243, c243, rfl, hle243, _, _⟩ := hw.rd (i := 22) rfl
  refine t_net 2 4 (by kernel_rfl) rfl hF ?_
  refine net_cons rfl rfl (n_move rfl (ev rfl)) ?_
  refine net_cons rfl rfl (n_extract rfl (ev rfl) rfl) ?_
  refine net_cons rfl rfl (n_extract rfl (ev rfl) rfl) ?_
  refine net_cons rfl rfl (n_alloc rfl Try.zeroValue83 rfl) ?_
  refine net_nil fun a w1 hF hx => ?_
  obtain ⟨b22, h_, hw⟩ := hw.blk hx (hF.at_ 22 _ rfl)
  replace hF := hF.now h_
  replace hF := hF.keep (.cons (t := 0) rfl (.cons (t := 1) rfl (.cons (t := 2) rfl (.cons (t := 3) rfl (.cons (t := 4) rfl (.cons (t := 6) rfl (.cons (t := 8) rfl (.cons (t := 10) rfl (.cons (t := 12) rfl (.cons (t := 13) rfl (.cons (t := 14) rfl (.cons (t := 15) rfl (.cons (t := 16) rfl (.cons (t := 18) rfl (.cons (t := 19) rfl (.cons (t := 20) rfl (.cons (t := 22) rfl (.cons (t := 24) rfl (.cons (t := 25) rfl (.cons (t := 26) rfl (.cons (t := 27) rfl (.cons (t := 28) rfl (.cons (t := 29) rfl (.cons (t := 31) rfl (.cons (t := 50) rfl (.cons (t := 96) rfl (.cons (t := 145) rfl (.cons (t := 184) rfl (.cons (t := 240) rfl (.cons (t := 244) rfl (.cons (t := 245) rfl .nil)))))))))))))))))))))))))))))))
  refine t_store (i := 23) rfl rfl rfl hF hw rfl (ev rfl) (ev rfl) rfl one_pu Try.sizeOf83 rfl (Nat.le_of_ble_eq_true rfl) rfl fun w1 hw => ?_
  refine t_net 7 1 (by kernel_rfl) rfl hF ?_
  refine net_cons rfl rfl (n_assign rfl (ev rfl)) ?_
  refine net_nil fun a w1 hF hx => ?_
  replace hw := hw.next hx
  replace hF := hF.keep (.cons (t := 0) rfl (.cons (t := 1) rfl (.cons (t := 2) rfl (.cons (t := 3) rfl (.cons (t := 4) rfl (.cons (t := 6) rfl (.cons (t := 8) rfl (.cons (t := 10) rfl (.cons (t := 12) rfl (.cons (t := 13) rfl (.cons (t := 14) rfl (.cons (t := 15) rfl (.cons (t := 16) rfl (.cons (t := 18) rfl (.cons (t := 19) rfl (.cons (t := 20) rfl (.cons (t := 22) rfl (.cons (t := 24) rfl (.cons (t := 25) rfl (.cons (t := 26) rfl (.cons (t := 27) rfl (.cons (t := 28) rfl (.cons (t := 29) rfl (.cons (t := 31) rfl (.cons (t := 50) rfl (.cons (t := 96) rfl (.cons (t := 145) rfl (.cons (t := 184) rfl (.cons (t := 240) rfl .nil)))))))))))))))))))))))))))))
  refine wpList_nil ?_
  try simp only [List.nil_append, List.cons_append, List.set_cons_zero, List.set_cons_succ] at hw
  obtain ⟨_, _, hse_, _, hR243, _⟩ := hw.rd (i := 22) rfl
  injection hse_ with hA_ _ _
  subst hA_
  refine wp_seq (wp_region_lit ?_)
  refine t_net 0 6 (by kernel_rfl) rfl hF ?_
  refine net_cons rfl rfl (n_load rfl (ev rfl) (ldN hw (i := 23) (vs := _) rfl Try.isAgg83 Try.sizeOf83 rfl rfl)) ?_
  refine net_cons rfl rfl (n_ret rfl Try.call52 (.cons (ev rfl) (.cons evc .nil)) (fun _ hx => (ex_E0 hle243 (hR243.ext hx)))) ?_
  refine net_cons rfl rfl (n_move rfl (ev rfl)) ?_
  refine net_cons rfl rfl (n_extract rfl (ev rfl) rfl) ?_
  refine net_cons rfl rfl (n_extract rfl (ev rfl) rfl) ?_
  refine net_cons rfl rfl (n_alloc rfl Try.zeroValue23 rfl) ?_
  refine net_nil fun a w1 hF hx => ?_
  obtain ⟨b23, h_, hw⟩ := hw.blk hx (hF.at_ 23 _ rfl)
  replace hF := hF.now h_
  replace hF := hF.keep (.cons (t := 0) rfl (.cons (t := 1) rfl (.cons (t := 2) rfl (.cons (t := 3) rfl (.cons (t := 4) rfl (.cons (t := 6) rfl (.cons (t := 8) rfl (.cons (t := 10) rfl (.cons (t := 12) rfl (.cons (t := 13) rfl (.cons (t := 14) rfl (.cons (t := 15) rfl (.cons (t := 16) rfl (.cons (t := 18) rfl (.cons (t := 19) rfl (.cons (t := 20) rfl (.cons (t := 22) rfl (.cons (t := 23) rfl (.cons (t := 24) rfl (.cons (t := 25) rfl (.cons (t := 26) rfl (.cons (t := 27) rfl (.cons (t := 28) rfl (.cons (t := 29) rfl (.cons (t := 31) rfl (.cons (t := 50) rfl (.cons (t := 96) rfl (.cons (t := 145) rfl (.cons (t := 184) rfl (.cons (t := 240) rfl (.cons (t := 249) rfl (.cons (t := 250) rfl .nil))))))))))))))))))))))))))))))))
  refine t_store (i := 24) rfl rfl rfl hF hw rfl (ev rfl) (ev rfl) rfl (kc_one _) Try.sizeOf23 (kc_len _) (by first | decide | (rw [kc_len]; decide)) (seg_whole (by rw [kc_len]; rfl)) fun w1 hw => ?_
  refine t_net 7 1 (by kernel_rfl) rfl hF ?_
  refine net_cons rfl rfl (n_assign rfl (ev rfl)) ?_
  refine net_nil fun a w1 hF hx => ?_
  replace hw := hw.next hx
  replace hF := hF.keep (.cons (t := 0) rfl (.cons (t := 1) rfl (.cons (t := 2) rfl (.cons (t := 3) rfl (.cons (t := 4) rfl (.cons (t := 6) rfl (.cons (t := 8) rfl (.cons (t := 10) rfl (.cons (t := 12) rfl (.cons (t := 13) rfl (.cons (t := 14) rfl (.cons (t := 15) rfl (.cons (t := 16) rfl (.cons (t := 18) rfl (.cons (t := 19) rfl (.cons (t := 20) rfl (.cons (t := 22) rfl (.cons (t := 23) rfl (.cons (t := 24) rfl (.cons (t := 25) rfl (.cons (t := 26) rfl (.cons (t := 27) rfl (.cons (t := 28) rfl (.cons (t := 29) rfl (.cons (t := 31) rfl (.cons (t := 50) rfl (.cons (t := 96) rfl (.cons (t := 145) rfl (.cons (t := 184) rfl (.cons (t := 240) rfl .nil))))))))))))))))))))))))))))))
  refine wpList_nil ?_
  try simp only [List.nil_append, List.cons_append, List.set_cons_zero, List.set_cons_succ] at hw
  obtain ⟨_, _, hse_, _, hR197, _⟩ := hw.rd (i := 15) rfl
  injection hse_ with hA_ _ _
  subst hA_
  refine wp_seq (reg_seq 6 (hF _ _) (by kernel_rfl) ?_)
  refine net_cons rfl rfl (n_load rfl (ev rfl) (ldN hw (i := 13) (vs := _) rfl Try.isAgg83 Try.sizeOf83 rfl rfl)) ?_
  refine net_cons rfl rfl (n_ret rfl Try.call52 (.cons (ev rfl) (.cons evc .nil)) (fun _ hx => (ex_E4 hle197 (hR197.ext hx)))) ?_
  refine net_cons rfl rfl (n_move rfl (ev rfl)) ?_
  refine net_cons rfl rfl (n_extract rfl (ev rfl) rfl) ?_
  refine net_cons rfl rfl (n_extract rfl (ev rfl) rfl) ?_
  refine net_cons rfl rfl (n_assign rfl (ev rfl)) ?_
  refine net_nil fun a w1 hF hx => ?_
  replace hw := hw.next hx
  replace hF := hF.keep (.cons (t := 0) rfl (.cons (t := 1) rfl (.cons (t := 2) rfl (.cons (t := 3) rfl (.cons (t := 4) rfl (.cons (t := 6) rfl (.cons (t := 8) rfl (.cons (t := 10) rfl (.cons (t := 12) rfl (.cons (t := 13) rfl (.cons (t := 14) rfl (.cons (t := 15) rfl (.cons (t := 16) rfl (.cons (t := 18) rfl (.cons (t := 19) rfl (.cons (t := 20) rfl (.cons (t := 22) rfl (.cons (t := 23) rfl (.cons (t := 24) rfl (.cons (t := 25) rfl (.cons (t := 26) rfl (.cons (t := 27) rfl (.cons (t := 28) rfl (.cons (t := 29) rfl (.cons (t := 31) rfl (.cons (t := 50) rfl (.cons (t := 96) rfl (.cons (t := 145) rfl (.cons (t := 184) rfl (.cons (t := 240) rfl .nil))))))))))))))))))))))))))))))
  refine wpList_nil ?_
  try simp only [List.nil_append, List.cons_append, List.set_cons_zero, List.set_cons_succ] at hw
  refine wp_seq (reg_draw 17 mixed (by kernel_rfl) (hF _ _) ?_)
  refine net_cons rfl rfl (n_move rfl (ev rfl)) ?_
  refine net_cons rfl rfl (n_to (v' := .bool true) (n_bin rfl (ev rfl) evc (r_eql (b := 0))) (congrArg Value.bool (by decide +kernel))) ?_
  refine net_cons rfl rfl (n_move rfl (ev rfl)) ?_
  refine net_on rfl rfl rfl rfl (n_move rfl (ev rfl)) ?_
  refine net_on rfl rfl rfl rfl (n_to (v' := .bool true) (n_bin rfl (ev rfl) evc (r_eql (b := 0))) (congrArg Value.bool (by decide +kernel))) ?_
  refine net_cons rfl rfl (n_pick_and rfl (ev rfl) (fun _ => (ev rfl))) ?_
  refine net_cons rfl rfl (n_move rfl (ev rfl)) ?_
  refine net_on rfl rfl rfl rfl (n_load rfl (ev rfl) (ldN hw (i := 24) (vs := _) rfl Try.isAgg23 Try.sizeOf23 (kc_len _) (cut_whole (kc_len _)))) ?_
  refine net_on rfl rfl rfl rfl (n_build rfl (.cons evc .nil) build_23_7) ?_
  refine net_on rfl rfl rfl rfl (n_ret rfl Try.call37 (.cons (ev rfl) (.cons evc (.cons evc .nil))) (fun _ hx => (Derive_c k7 33 0 (by decide) (by decide) _))) ?_
  refine net_on rfl rfl rfl rfl (n_to (v' := .bool true) (n_bin rfl (ev rfl) (ev rfl) r_eqKey) (congrArg Value.bool (by decide +kernel))) ?_
  refine net_cons rfl rfl (n_pick_and rfl (ev rfl) (fun _ => (ev rfl))) ?_
  refine net_cons rfl rfl (n_move rfl (ev rfl)) ?_
  refine net_on rfl rfl rfl rfl (n_move rfl (ev rfl)) ?_
  refine net_on rfl rfl rfl rfl (n_to (v' := .bool true) (n_bin rfl (ev rfl) evc (r_eql (b := 2))) (congrArg Value.bool (by decide +kernel))) ?_
  refine net_cons rfl rfl (n_pick_and rfl (ev rfl) (fun _ => (ev rfl))) ?_
  refine net_cons rfl rfl (n_assign rfl (ev rfl)) ?_
  refine net_nil fun a w1 hF hx => ?_
  replace hw := hw.next hx
  replace hF := hF.keep (.cons (t := 0) rfl (.cons (t := 1) rfl (.cons (t := 2) rfl (.cons (t := 3) rfl (.cons (t := 4) rfl (.cons (t := 6) rfl (.cons (t := 8) rfl (.cons (t := 10) rfl (.cons (t := 12) rfl (.cons (t := 13) rfl (.cons (t := 14) rfl (.cons (t := 15) rfl (.cons (t := 16) rfl (.cons (t := 18) rfl (.cons (t := 19) rfl (.cons (t := 20) rfl (.cons (t := 22) rfl (.cons (t := 23) rfl (.cons (t := 24) rfl (.cons (t := 25) rfl (.cons (t := 26) rfl (.cons (t := 27) rfl (.cons (t := 28) rfl (.cons (t := 29) rfl (.cons (t := 31) rfl (.cons (t := 50) rfl (.cons (t := 96) rfl (.cons (t := 145) rfl (.cons (t := 184) rfl (.cons (t := 240) rfl .nil))))))))))))))))))))))))))))))
  refine wpList_nil ?_
  try simp only [List.nil_append, List.cons_append, List.set_cons_zero, List.set_cons_succ] at hw
  refine wp_ret (ret1 hF Try.results10 rfl ?_)
  exact ⟨_, rfl, hw.ext, rfl⟩
end Go.Proofs.Ythgpojlcbbgaoaa

