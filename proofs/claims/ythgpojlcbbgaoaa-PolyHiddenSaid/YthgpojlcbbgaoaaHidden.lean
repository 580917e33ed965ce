/- the law of what a header hides -/
import Derived.Test.YthgpojlcbbgaoaaAlive
import Derived.Test.YthgpojlcbbgaoaaGrpD

set_option autoImplicit false
set_option maxRecDepth 100000
set_option linter.unusedVariables false
set_option linter.unusedSimpArgs false
set_option linter.unnecessarySimpa false
namespace Go.Proofs.Ythgpojlcbbgaoaa
open Go.RowKit


theorem okS_g1 {kd : Nat} {dp dg : Int} {p q g : Nat} (h : (!okS kd dp dg p q g) = false) : 0 ≤ dp ∧ dp ≤ 6 := by
  rw [Bool.not_eq_false'] at h
  have := okS_all h
  exact ⟨this.2.1, this.2.2.1⟩
theorem pow_to {b v n m : Nat} (h : v = n) (hb : b < 18446744073709551616) (hn : n < 18446744073709551616) (h1 : 1 ≤ m) (h2 : m < 4294967296) (w : World) : RetF Try.prog 35 [U b, U v, U m].toArray w (.is (.tuple #[U (b ^ n % m), I 0])) := by
  subst h
  exact PowMod_c b v m hb hn h1 h2 w
theorem right_mk {q : Nat} {pts : List (Nat × Nat)} (h : ∀ x ∈ pts, x.1 < q ∧ x.2 < q) (hd : (pts.map (·.1)).Nodup) : rightL q pts = true := by
  rw [rightL, Bool.and_eq_true, distL_iff, decide_eq_true_eq, Bool.not_eq_true', List.any_eq_false]
  refine ⟨fun x hx => ?_, hd⟩
  have := h x hx
  simp only [bdP, Bool.or_eq_true, decide_eq_true_eq, not_or]
  omega
section
variable {root session : Key} {kd : Nat} {dp dg : Int} {p q g nonce m v w : Nat} {l : List Int}
theorem hid_yes (hl : l.length = m) (h : ((((!okS kd dp dg p q g || !okL ((2 ^ dp.toNat : Nat) : Int) l) || decide (dg < (m : Int))) || decide (q ≤ v)) || decide (q ≤ w)) = false) : okS kd dp dg p q g = true ∧ okL ((2 ^ dp.toNat : Nat) : Int) l = true ∧ (l.length : Int) ≤ dg ∧ v < q ∧ w < q := by
  simp only [Bool.or_eq_false_iff, Bool.not_eq_false', decide_eq_false_iff_not] at h
  exact ⟨h.1.1.1.1, h.1.1.1.2, by omega, by omega, by omega⟩
def hidP (root : Key) (n q v : Nat) (xs : List Nat) : List (Nat × Nat) := (0, v) :: xs.map fun x => (x, pv (cfs root n q) x % q)
theorem hidP_snoc {n i x : Nat} {xs : List Nat} (h : xs[i]? = some x) : pc (hidP root n q v (xs.take i)) ++ [U x, U (pv (cfs root n q) x % q)] = pc (hidP root n q v (xs.take (i + 1))) := by
  rw [List.take_add_one, h, hidP, hidP, List.map_append, ← pc_snoc (p := (x, pv (cfs root n q) x % q))]
  rfl
variable {d n c : Nat} {A : Option Addr}
theorem val_g (hp : p < 18446744073709551616) (hq : q < 18446744073709551616) (hg : g < 18446744073709551616) (hz : okS kd d n p q g = true) {G : List Nat} (hG : G.length = n + 1) (hGq : ∀ c ∈ G, c < q) {x : Nat} (hx : x < q) (W : World) (hR : Rd W A (G.map U)) :
    RetF Try.prog 33 [SV kd d n p q g, .slice A G.length c, U x].toArray W (.is (.tuple #[U (pv G x % q), I 0])) := by
  have hn : n ≤ 8 := by have := okS_all hz; omega
  have := PValue_c kd d n p q g hp hq hg G.length c A G x rfl (by omega) W hR
  rwa [valR_ok hz (by
    rw [Bool.and_eq_true, decide_eq_true_eq, polyOk, Bool.and_eq_true, decide_eq_true_eq, List.all_eq_true]
    exact ⟨⟨by omega, fun c hc => by rw [decide_eq_true_eq]; exact hGq c hc⟩, hx⟩)] at this
theorem hid_pts (hz : okS kd d n p q g = true) (hok : okL ((2 ^ d : Nat) : Int) l = true) (hl : l.length ≤ n) (hv : v < q) :
    (∀ x ∈ hidP root n q v (xsL (2 ^ d) n l), x.1 < q ∧ x.2 < q) ∧ ((hidP root n q v (xsL (2 ^ d) n l)).map (·.1)).Nodup ∧ (hidP root n q v (xsL (2 ^ d) n l)).length = n + 1 := by
  have h7 := (okS_all hz).2.2.2.2.2.2
  simp only [Int.toNat_natCast] at h7
  refine ⟨fun x hx => ?_, ?_, by simp [hidP, xsL_len hl]⟩
  · rcases List.mem_cons.1 hx with rfl | hx
    · exact ⟨by show 0 < q; omega, hv⟩
    · obtain ⟨y, hy, rfl⟩ := List.mem_map.1 hx
      have := xsL_mem hok hl y hy
      exact ⟨by show y < q; omega, Nat.mod_lt _ (by omega)⟩
  · rw [hidP, List.map_cons, List.map_map, show ((fun x : Nat × Nat => x.1) ∘ fun x => (x, pv (cfs root n q) x % q)) = id from rfl, List.map_id, List.nodup_cons]
    refine ⟨fun hc => ?_, xsL_nodup hok⟩
    have := (xsL_mem hok hl _ hc).1
    omega
theorem hid_int (hp : p < 18446744073709551616) (hq : q < 18446744073709551616) (hg : g < 18446744073709551616) (hz : okS kd d n p q g = true) (hok : okL ((2 ^ d : Nat) : Int) l = true) (hl : l.length ≤ n) (hv : v < q) {N : Nat} (hN : N = n + 1) (hc : N ≤ c) (W : World) (hR : Rd W A (pc (hidP root n q v (xsL (2 ^ d) n l)))) :
    RetF Try.prog 34 [SV kd d n p q g, .slice A N c].toArray W (.ex 24 1 (intL q (hidP root n q v (xsL (2 ^ d) n l))).length ((intL q (hidP root n q v (xsL (2 ^ d) n l))).map U) (fun v => .tuple #[v, I 0])) := by
  subst hN
  have hn : n ≤ 8 := by have := okS_all hz; omega
  obtain ⟨h1, h2, h3⟩ := hid_pts (root := root) hz hok hl hv
  have := Interpolate_c kd d n p q g hp hq hg (n + 1) c A (hidP root n q v (xsL (2 ^ d) n l)) h3 hc (by omega) W hR
  rwa [intR_ok hz (by rw [right_mk h1 h2, decide_eq_true (by omega)]; rfl)] at this
theorem hid_at (hz : okS kd d n p q g = true) (hok : okL ((2 ^ d : Nat) : Int) l = true) (hl : l.length ≤ n) (hv : v < q) :
    (intL q (hidP root n q v (xsL (2 ^ d) n l))).length = n + 1 ∧ (∀ c ∈ intL q (hidP root n q v (xsL (2 ^ d) n l)), c < q) ∧ pv (intL q (hidP root n q v (xsL (2 ^ d) n l))) 0 % q = v ∧ ∀ x ∈ xsL (2 ^ d) n l, pv (intL q (hidP root n q v (xsL (2 ^ d) n l))) x % q = pv (cfs root n q) x % q := by
  obtain ⟨h1, h2, h3⟩ := hid_pts (root := root) hz hok hl hv
  have hqp := (okG_all (okS_all hz).2.2.2.2.2.1).2.1
  refine ⟨by rw [intL_len, h3], intL_lt (by have := isP_two hqp; omega) _, intL_at hqp h1 h2 (List.mem_cons_self), fun x hx => ?_⟩
  exact intL_at hqp h1 h2 (p := (x, pv (cfs root n q) x % q)) (List.mem_cons_of_mem _ (List.mem_map.2 ⟨x, hx, rfl⟩))
theorem sec_k (hp : p < 18446744073709551616) (hq : q < 18446744073709551616) (hg : g < 18446744073709551616) (hz : okS kd d n p q g = true) {k : Nat} (hk : k < 2 ^ d) (W : World) :
    RetF Try.prog 18 [K root, SV kd d n p q g, I (k : Int)].toArray W (.is (.tuple #[SecV k (.slice none 0 0) (k + 1) (pv (cfs root n q) (k + 1) % q), I 0])) := by
  have hd : d ≤ 6 := by have := okS_all hz; omega
  have := pow_le64 hd
  have := Secret_c root kd d n p q g hp hq hg (k : Int) (by omega) (by omega) W
  rwa [secR_ok hz hk] at this
theorem hid_fin {a b v w : Nat} (h : a = b ↔ v = w) : ((true && decide ((0 : Int) = 0)) && decide ((0 : Int) = 0) && (decide (a = b) == decide (v = w))) = true := by
  rw [show decide (a = b) = decide (v = w) by rw [decide_eq_decide]; exact h]
  cases decide (v = w) <;> rfl
end


set_option maxHeartbeats 4000000 in
theorem PolyHidden_c (root session : Key) (kd : Nat) (dp dg : Int) (p q g nonce m c : Nat) (A : Option Addr) (l : List Int) (hp : p < 18446744073709551616) (hq : q < 18446744073709551616) (hg : g < 18446744073709551616) (hno : nonce < 18446744073709551616) (hl : l.length = m) (hm : m ≤ 9223372036854775800) (v y : Nat) (hv : v < 18446744073709551616) (hy : y < 18446744073709551616) (w : World) (hR : Rd w A (l.map I)) : RetF Try.prog 6 [K root, SV kd dp dg p q g, .slice A m c, K session, U nonce, U v, U y].toArray w (.is (.bool true)) := by
  refine enter Try.func6 rfl Try.ntmps6 rfl fun a hF => ?_
  have hw := Own.start w
  refine wp_seq (wp_region_lit ?_)
  refine t_net 0 1 (by kernel_rfl) rfl hF ?_
  refine net_cons rfl rfl (n_box rfl (ev rfl) rfl) ?_
  refine net_nil fun a w1 hF hx => ?_
  obtain ⟨b7, h_, hw⟩ := hw.blk hx (hF.at_ 7 _ rfl)
  replace hF := hF.now h_
  replace hF := hF.keep (.cons (t := 1) rfl (.cons (t := 2) rfl (.cons (t := 3) rfl (.cons (t := 4) rfl (.cons (t := 5) rfl (.cons (t := 6) rfl (.cons (t := 7) rfl .nil)))))))
  refine t_net 1 1 (by kernel_rfl) rfl hF ?_
  refine net_cons rfl rfl (n_box rfl (ev rfl) rfl) ?_
  refine net_nil fun a w1 hF hx => ?_
  obtain ⟨b8, h_, hw⟩ := hw.blk hx (hF.at_ 8 _ rfl)
  replace hF := hF.now h_
  replace hF := hF.keep (.cons (t := 2) rfl (.cons (t := 3) rfl (.cons (t := 4) rfl (.cons (t := 5) rfl (.cons (t := 6) rfl (.cons (t := 7) rfl (.cons (t := 8) rfl .nil)))))))
  refine t_net 2 1 (by kernel_rfl) rfl hF ?_
  refine net_cons rfl rfl (n_box rfl (ev rfl) rfl) ?_
  refine net_nil fun a w1 hF hx => ?_
  obtain ⟨b10, h_, hw⟩ := hw.blk hx (hF.at_ 10 _ rfl)
  replace hF := hF.now h_
  replace hF := hF.keep (.cons (t := 2) rfl (.cons (t := 4) rfl (.cons (t := 5) rfl (.cons (t := 6) rfl (.cons (t := 7) rfl (.cons (t := 8) rfl (.cons (t := 10) rfl .nil)))))))
  refine t_net 3 1 (by kernel_rfl) rfl hF ?_
  refine net_cons rfl rfl (n_assign rfl evc) ?_
  refine net_nil fun a w1 hF hx => ?_
  replace hw := hw.next hx
  replace hF := hF.keep (.cons (t := 2) rfl (.cons (t := 4) rfl (.cons (t := 5) rfl (.cons (t := 6) rfl (.cons (t := 7) rfl (.cons (t := 8) rfl (.cons (t := 10) rfl (.cons (t := 14) rfl .nil))))))))
  refine wpList_nil ?_
  try simp only [List.nil_append, List.cons_append, List.set_cons_zero, List.set_cons_succ] at hw
  refine wp_seq (reg_seq 2 (hF _ _) (by kernel_rfl) ?_)
  refine net_cons rfl rfl (n_ret rfl Try.call29 .nil (fun _ hx => (alive_c _))) ?_
  refine net_cons rfl rfl (n_assign rfl (ev rfl)) ?_
  refine net_nil fun a w1 hF hx => ?_
  replace hw := hw.next hx
  replace hF := hF.keep (.cons (t := 2) rfl (.cons (t := 4) rfl (.cons (t := 5) rfl (.cons (t := 6) rfl (.cons (t := 7) rfl (.cons (t := 8) rfl (.cons (t := 10) rfl (.cons (t := 14) rfl (.cons (t := 15) rfl .nil)))))))))
  refine wpList_nil ?_
  try simp only [List.nil_append, List.cons_append, List.set_cons_zero, List.set_cons_succ] at hw
  refine wp_seq ?_
  refine wp_seq (reg_seq 31 (hF _ _) (by kernel_rfl) ?_)
  refine net_cons rfl rfl (n_load rfl (ev rfl) (ldN hw (i := 1) (vs := _) rfl Try.isAgg28 Try.sizeOf28 rfl rfl)) ?_
  refine net_cons rfl rfl (n_ret rfl Try.call30 (.cons (ev rfl) .nil) (fun _ hx => (Valid_c kd dp dg p q g hp hq hg _))) ?_
  refine net_cons rfl rfl (n_not rfl (ev rfl)) ?_
  refine net_cons rfl rfl (n_move rfl (ev rfl)) ?_
  refine net_if rfl rfl rfl rfl (fun hc => (n_fieldAddrO (off' := 1) rfl (ev rfl) Try.runUnderlying28 rfl Try.sizeOf3 rfl)) ?_
  refine net_if rfl rfl rfl rfl (fun hc => (n_load rfl (evi rfl hc) (ld1 hw (i := 1) rfl Try.isAgg3 rfl))) ?_
  refine net_if rfl rfl rfl rfl (fun hc => (n_move rfl (ev rfl))) ?_
  refine net_if rfl rfl rfl rfl (fun hc => (n_ret rfl Try.call31 (.cons (evi rfl hc) (.cons (evi rfl hc) .nil)) (fun _ hx => (IsList_c dp (okS_g1 hc).1 (okS_g1 hc).2 m c A l hl hm _ (hR.ext (hw.ext.trans hx)))))) ?_
  refine net_if rfl rfl rfl rfl (fun hc => (n_not rfl (evi rfl hc))) ?_
  refine net_cons rfl rfl (n_pick_or rfl (ev rfl) (fun h => (evi rfl h))) ?_
  refine net_cons rfl rfl (n_move rfl (ev rfl)) ?_
  refine net_if rfl rfl rfl rfl (fun hc => (n_move rfl (ev rfl))) ?_
  refine net_if rfl rfl rfl rfl (fun hc => (n_len rfl (evi rfl hc) Try.underlying41)) ?_
  refine net_if rfl rfl rfl rfl (fun hc => (n_fieldAddrO (off' := 2) rfl (ev rfl) Try.runUnderlying28 rfl Try.sizeOf3 rfl)) ?_
  refine net_if rfl rfl rfl rfl (fun hc => (n_load rfl (evi rfl hc) (ld1 hw (i := 1) rfl Try.isAgg3 rfl))) ?_
  refine net_if rfl rfl rfl rfl (fun hc => (n_bin rfl (evi rfl hc) (evi rfl hc) r_gtr)) ?_
  refine net_cons rfl rfl (n_pick_or rfl (ev rfl) (fun h => (evi rfl h))) ?_
  refine net_cons rfl rfl (n_move rfl (ev rfl)) ?_
  refine net_if rfl rfl rfl rfl (fun hc => (n_move rfl (ev rfl))) ?_
  refine net_if rfl rfl rfl rfl (fun hc => (n_fieldAddrO (off' := 3) rfl (ev rfl) Try.runUnderlying28 rfl Try.sizeOf26 rfl)) ?_
  refine net_if rfl rfl rfl rfl (fun hc => (n_fieldAddrO (off' := 4) rfl (evi rfl hc) Try.runUnderlying26 rfl Try.sizeOf24 rfl)) ?_
  refine net_if rfl rfl rfl rfl (fun hc => (n_load rfl (evi rfl hc) (ld1 hw (i := 1) rfl Try.isAgg24 rfl))) ?_
  refine net_if rfl rfl rfl rfl (fun hc => (n_bin rfl (evi rfl hc) (evi rfl hc) r_geqN)) ?_
  refine net_cons rfl rfl (n_pick_or rfl (ev rfl) (fun h => (evi rfl h))) ?_
  refine net_cons rfl rfl (n_move rfl (ev rfl)) ?_
  refine net_if rfl rfl rfl rfl (fun hc => (n_move rfl (ev rfl))) ?_
  refine net_if rfl rfl rfl rfl (fun hc => (n_fieldAddrO (off' := 3) rfl (ev rfl) Try.runUnderlying28 rfl Try.sizeOf26 rfl)) ?_
  refine net_if rfl rfl rfl rfl (fun hc => (n_fieldAddrO (off' := 4) rfl (evi rfl hc) Try.runUnderlying26 rfl Try.sizeOf24 rfl)) ?_
  refine net_if rfl rfl rfl rfl (fun hc => (n_load rfl (evi rfl hc) (ld1 hw (i := 1) rfl Try.isAgg24 rfl))) ?_
  refine net_if rfl rfl rfl rfl (fun hc => (n_bin rfl (evi rfl hc) (evi rfl hc) r_geqN)) ?_
  refine net_cons rfl rfl (n_pick_or rfl (ev rfl) (fun h => (evi rfl h))) ?_
  refine net_nil fun a w1 hF hx => ?_
  replace hw := hw.next hx
  replace hF := hF.keep (.cons (t := 2) rfl (.cons (t := 4) rfl (.cons (t := 5) rfl (.cons (t := 6) rfl (.cons (t := 7) rfl (.cons (t := 8) rfl (.cons (t := 10) rfl (.cons (t := 14) rfl (.cons (t := 15) rfl (.cons (t := 69) rfl .nil))))))))))
  refine wpList_nil ?_
  try simp only [List.nil_append, List.cons_append, List.set_cons_zero, List.set_cons_succ] at hw
  refine wp_cond_split (hF.ev (ev rfl)) (fun h69 => ?_) (fun h69 => ?_)
  · refine wp_seq (reg_seq 2 (hF _ _) (by kernel_rfl) ?_)
    refine net_cons rfl rfl (n_move rfl (ev rfl)) ?_
    refine net_cons rfl rfl (n_assign rfl (ev rfl)) ?_
    refine net_nil fun a w1 hF hx => ?_
    replace hw := hw.next hx
    replace hF := hF.keep (.cons (t := 2) rfl (.cons (t := 4) rfl (.cons (t := 5) rfl (.cons (t := 6) rfl (.cons (t := 7) rfl (.cons (t := 8) rfl (.cons (t := 10) rfl (.cons (t := 14) rfl (.cons (t := 15) rfl (.cons (t := 69) rfl .nil))))))))))
    refine wpList_nil ?_
    try simp only [List.nil_append, List.cons_append, List.set_cons_zero, List.set_cons_succ] at hw
    refine wp_ret (go_then_r (ret1 hF Try.results6 rfl ?_))
    exact ⟨_, rfl, hw.ext, rfl⟩
  · obtain ⟨hz, hok, hll, hvq, hwq⟩ := hid_yes hl h69
    obtain ⟨hz1, hz2, hz3, hz4, hz5, hz6, hz7⟩ := okS_all hz
    obtain ⟨hz8, hz9, hz10, hz11, hz12⟩ := okG_q hz6
    obtain ⟨d, rfl⟩ := Int.eq_ofNat_of_zero_le hz2
    obtain ⟨n, rfl⟩ := Int.eq_ofNat_of_zero_le (show 0 ≤ dg by omega)
    rw [Int.toNat_natCast] at hok
    simp only [Int.toNat_natCast] at hz7
    have hln : l.length ≤ n := by omega
    have hpw := pow_le64 (d := d) (by omega)
    have hs := sealR_ok (root := root) (session := session) (nonce := nonce) hz hok hln
    have hco : cofR root kd d n p q g = (cfs root n q, 0) := cofR_ok hz rfl
    have hbl := base_lt (root := root) (nonce := nonce) hz6
    have hpl := ptsL_len (root := root) (d := d) (p := p) (q := q) (g := g) (nonce := nonce) hln
    obtain ⟨hG1, hG2, hG3, hG4⟩ := hid_at (root := root) hz hok hln hvq
    refine wp_skip ?_
    refine wp_seq (wp_region_lit ?_)
    refine t_net 0 6 (by kernel_rfl) rfl hF ?_
    refine net_cons rfl rfl (n_load rfl (ev rfl) (ldN hw (i := 0) (vs := _) rfl Try.isAgg23 Try.sizeOf23 (kc_len _) (cut_whole (kc_len _)))) ?_
    refine net_cons rfl rfl (n_load rfl (ev rfl) (ldN hw (i := 1) (vs := _) rfl Try.isAgg28 Try.sizeOf28 rfl rfl)) ?_
    refine net_cons rfl rfl (n_move rfl (ev rfl)) ?_
    refine net_cons rfl rfl (n_load rfl (ev rfl) (ldN hw (i := 2) (vs := _) rfl Try.isAgg23 Try.sizeOf23 (kc_len _) (cut_whole (kc_len _)))) ?_
    refine net_cons rfl rfl (n_move rfl (ev rfl)) ?_
    refine net_cons rfl rfl (n_ret rfl Try.call21 (.cons (ev rfl) (.cons (ev rfl) (.cons (ev rfl) (.cons (ev rfl) (.cons (ev rfl) .nil))))) (fun _ hx => (Seal_c root session kd d n p q g nonce m c A l hp hq hg hno hl hm _ (hR.ext (hw.ext.trans hx))))) ?_
    refine net_nil fun a w1 hF hx => ?_
    obtain ⟨s77, h_, hw⟩ := hw.ex hx (hF.at_ 77 _ rfl)
    replace hF := hF.now h_
    replace hF := hF.keep (.cons (t := 2) rfl (.cons (t := 5) rfl (.cons (t := 6) rfl (.cons (t := 7) rfl (.cons (t := 8) rfl (.cons (t := 14) rfl (.cons (t := 15) rfl (.cons (t := 69) rfl (.cons (t := 77) rfl .nil)))))))))
    obtain ⟨A77, c77, rfl, _, _, _⟩ := hw.rd (i := 3) rfl
    refine t_net 6 4 (by kernel_rfl) rfl hF ?_
    refine net_cons rfl rfl (n_move rfl (ev rfl)) ?_
    refine net_cons rfl rfl (n_extract rfl (ev rfl) rfl) ?_
    refine net_cons rfl rfl (n_extract rfl (ev rfl) rfl) ?_
    refine net_cons rfl rfl (n_alloc rfl Try.zeroValue45 rfl) ?_
    refine net_nil fun a w1 hF hx => ?_
    obtain ⟨b16, h_, hw⟩ := hw.blk hx (hF.at_ 16 _ rfl)
    replace hF := hF.now h_
    replace hF := hF.keep (.cons (t := 2) rfl (.cons (t := 5) rfl (.cons (t := 6) rfl (.cons (t := 7) rfl (.cons (t := 8) rfl (.cons (t := 14) rfl (.cons (t := 15) rfl (.cons (t := 16) rfl (.cons (t := 69) rfl (.cons (t := 78) rfl (.cons (t := 79) rfl .nil)))))))))))
    refine t_store (i := 4) rfl rfl rfl hF hw rfl (ev rfl) (ev rfl) rfl one_hcs Try.sizeOf45 (hcs_len _ _ _ _ _) (by first | decide | (rw [hcs_len]; decide)) (seg_whole (by rw [hcs_len] <;> rfl)) fun w1 hw => ?_
    refine t_net 11 1 (by kernel_rfl) rfl hF ?_
    refine net_cons rfl rfl (n_assign rfl (ev rfl)) ?_
    refine net_nil fun a w1 hF hx => ?_
    replace hw := hw.next hx
    replace hF := hF.keep (.cons (t := 2) rfl (.cons (t := 5) rfl (.cons (t := 6) rfl (.cons (t := 7) rfl (.cons (t := 8) rfl (.cons (t := 14) rfl (.cons (t := 15) rfl (.cons (t := 16) rfl (.cons (t := 17) rfl (.cons (t := 69) rfl .nil))))))))))
    refine wpList_nil ?_
    try simp only [List.nil_append, List.cons_append, List.set_cons_zero, List.set_cons_succ] at hw
    rw [hs] at hF hw
    refine wp_seq (wp_region_lit ?_)
    refine t_net 0 3 (by kernel_rfl) rfl hF ?_
    refine net_cons rfl rfl (n_load rfl (ev rfl) (ldN hw (i := 0) (vs := _) rfl Try.isAgg23 Try.sizeOf23 (kc_len _) (cut_whole (kc_len _)))) ?_
    refine net_cons rfl rfl (n_load rfl (ev rfl) (ldN hw (i := 1) (vs := _) rfl Try.isAgg28 Try.sizeOf28 rfl rfl)) ?_
    refine net_cons rfl rfl (n_ret rfl Try.call32 (.cons (ev rfl) (.cons (ev rfl) .nil)) (fun _ hx => (Coefficients_c root kd d n p q g hp hq hg _))) ?_
    refine net_nil fun a w1 hF hx => ?_
    obtain ⟨s83, h_, hw⟩ := hw.ex hx (hF.at_ 83 _ rfl)
    replace hF := hF.now h_
    replace hF := hF.keep (.cons (t := 2) rfl (.cons (t := 5) rfl (.cons (t := 6) rfl (.cons (t := 7) rfl (.cons (t := 8) rfl (.cons (t := 14) rfl (.cons (t := 15) rfl (.cons (t := 16) rfl (.cons (t := 17) rfl (.cons (t := 69) rfl (.cons (t := 83) rfl .nil)))))))))))
    obtain ⟨A83, c83, rfl, _, _, _⟩ := hw.rd (i := 5) rfl
    refine t_net 3 5 (by kernel_rfl) rfl hF ?_
    refine net_cons rfl rfl (n_move rfl (ev rfl)) ?_
    refine net_cons rfl rfl (n_extract rfl (ev rfl) rfl) ?_
    refine net_cons rfl rfl (n_extract rfl (ev rfl) rfl) ?_
    refine net_cons rfl rfl (n_assign rfl (ev rfl)) ?_
    refine net_cons rfl rfl (n_assign rfl (ev rfl)) ?_
    refine net_nil fun a w1 hF hx => ?_
    replace hw := hw.next hx
    replace hF := hF.keep (.cons (t := 2) rfl (.cons (t := 5) rfl (.cons (t := 6) rfl (.cons (t := 7) rfl (.cons (t := 8) rfl (.cons (t := 14) rfl (.cons (t := 15) rfl (.cons (t := 16) rfl (.cons (t := 17) rfl (.cons (t := 18) rfl (.cons (t := 19) rfl (.cons (t := 69) rfl .nil))))))))))))
    refine wpList_nil ?_
    try simp only [List.nil_append, List.cons_append, List.set_cons_zero, List.set_cons_succ] at hw
    refine wp_seq ?_
    rw [hco] at hF hw
    refine wp_seq (reg_seq 14 (hF _ _) (by kernel_rfl) ?_)
    refine net_cons rfl rfl (n_move rfl (ev rfl)) ?_
    refine net_cons rfl rfl (n_bin rfl (ev rfl) evc (r_neq (b := 0))) ?_
    refine net_cons rfl rfl (n_move rfl (ev rfl)) ?_
    refine net_if rfl rfl rfl rfl (fun hc => (n_move rfl (ev rfl))) ?_
    refine net_if rfl rfl rfl rfl (fun hc => (n_bin rfl (evi rfl hc) evc (r_neq (b := 0)))) ?_
    refine net_cons rfl rfl (n_pick_or rfl (ev rfl) (fun h => (evi rfl h))) ?_
    refine net_cons rfl rfl (n_move rfl (ev rfl)) ?_
    refine net_if rfl rfl rfl rfl (fun hc => (n_fieldAddrO (off' := 2) rfl (ev rfl) Try.runUnderlying45 rfl Try.sizeOf43 rfl)) ?_
    refine net_if rfl rfl rfl rfl (fun hc => (n_load rfl (evi rfl hc) (ld1 hw (i := 4) rfl Try.isAgg43 rfl))) ?_
    refine net_if rfl rfl rfl rfl (fun hc => (n_len rfl (evi rfl hc) Try.underlying43)) ?_
    refine net_if rfl rfl rfl rfl (fun hc => (n_fieldAddrO (off' := 2) rfl (ev rfl) Try.runUnderlying28 rfl Try.sizeOf3 rfl)) ?_
    refine net_if rfl rfl rfl rfl (fun hc => (n_load rfl (evi rfl hc) (ld1 hw (i := 1) rfl Try.isAgg3 rfl))) ?_
    refine net_if rfl rfl rfl rfl (fun hc => (n_bin rfl (evi rfl hc) (evi rfl hc) r_neq)) ?_
    refine net_cons rfl rfl (n_pick_or rfl (ev rfl) (fun h => (evi rfl h))) ?_
    refine net_nil fun a w1 hF hx => ?_
    replace hw := hw.next hx
    replace hF := hF.keep (.cons (t := 2) rfl (.cons (t := 5) rfl (.cons (t := 6) rfl (.cons (t := 7) rfl (.cons (t := 8) rfl (.cons (t := 14) rfl (.cons (t := 15) rfl (.cons (t := 16) rfl (.cons (t := 17) rfl (.cons (t := 18) rfl (.cons (t := 19) rfl (.cons (t := 69) rfl (.cons (t := 99) rfl .nil)))))))))))))
    refine wpList_nil ?_
    try simp only [List.nil_append, List.cons_append, List.set_cons_zero, List.set_cons_succ] at hw
    refine wp_cond_false ((hF.ev (ev rfl)).trans (congrArg Value.bool (by simp [hpl]))) ?_
    refine wp_skip ?_
    refine wp_seq (reg_seq 4 (hF _ _) (by kernel_rfl) ?_)
    refine net_cons rfl rfl (n_move rfl (ev rfl)) ?_
    refine net_cons rfl rfl (n_build rfl (.cons evc (.cons (ev rfl) .nil)) build_31_0_1) ?_
    refine net_cons rfl rfl (n_bsl sl43 rfl (.cons (ev rfl) .nil) (.cons rfl rfl .nil) rfl (by decide) (by decide)) ?_
    refine net_cons rfl rfl (n_assignF rfl rfl) ?_
    refine net_nil fun a w1 hF hx => ?_
    obtain ⟨b20, h_, hw⟩ := hw.cap hx (hF.at_ 20 _ rfl)
    replace hF := hF.now (v := .slice (some ⟨b20, 0, none⟩) (1) (1)) h_
    replace hF := hF.keep (.cons (t := 2) rfl (.cons (t := 5) rfl (.cons (t := 6) rfl (.cons (t := 7) rfl (.cons (t := 8) rfl (.cons (t := 14) rfl (.cons (t := 15) rfl (.cons (t := 16) rfl (.cons (t := 17) rfl (.cons (t := 18) rfl (.cons (t := 19) rfl (.cons (t := 20) rfl (.cons (t := 69) rfl (.cons (t := 99) rfl .nil))))))))))))))
    refine wpList_nil ?_
    try simp only [List.nil_append, List.cons_append, List.set_cons_zero, List.set_cons_succ] at hw
    refine wp_seq ?_
    refine wp_seq (reg_seq 1 (hF _ _) (by kernel_rfl) ?_)
    refine net_cons rfl rfl (n_assign rfl evc) ?_
    refine net_nil fun a w1 hF hx => ?_
    replace hw := hw.next hx
    replace hF := hF.keep (.cons (t := 2) rfl (.cons (t := 5) rfl (.cons (t := 6) rfl (.cons (t := 7) rfl (.cons (t := 8) rfl (.cons (t := 14) rfl (.cons (t := 15) rfl (.cons (t := 16) rfl (.cons (t := 17) rfl (.cons (t := 18) rfl (.cons (t := 19) rfl (.cons (t := 20) rfl (.cons (t := 21) rfl (.cons (t := 69) rfl (.cons (t := 99) rfl .nil)))))))))))))))
    refine wpList_nil ?_
    try simp only [List.nil_append, List.cons_append, List.set_cons_zero, List.set_cons_succ] at hw
    refine wp_block ?_
    replace hw := hw.blkRow (i := 6) (sz := 2) (n := 1) (by rfl) (by rfl) (by decide)
    refine wp_loop_ix (α := Nat × Value) (fun ⟨i, r⟩ a w1 => FrV 279 [] [(2, .is (.slice A m c)) , (5, .is (U v)) , (6, .is (U y)) , (7, .is (ptr0 b7)) , (8, .is (ptr0 b8)) , (15, .is (.bool true)) , (16, .is (ptr0 b16)) , (18, .is (.slice A83 (cfs root n q).length c83)) , (20, .is (r)) , (21, .is (I (i : Int)))] a ∧ Own w w1 [.blk b7 23 (kc root), .blk b8 28 [B8 kd, I (d : Int), I (n : Int), U p, U q, U g], .blk b10 23 (kc session), .row (.slice A77 (ptsL root d n p q g l nonce).length c77) 31 2 (ptsL root d n p q g l nonce).length (pc (ptsL root d n p q g l nonce)), .blk b16 45 (hcs (.slice none 0 0) (baseN root p q g nonce) (.slice A77 (ptsL root d n p q g l nonce).length c77) (boxK root n p q g session nonce) (derK session 53 0)), .row (.slice A83 (cfs root n q).length c83) 24 1 (cfs root n q).length ((cfs root n q).map U), .row r 31 2 (i + 1) (pc (hidP root n q v ((xsL (2 ^ d) n l).take i)))] ∧ (i ≤ (ptsL root d n p q g l nonce).length)) (fun ⟨i, r⟩ => (ptsL root d n p q g l nonce).length - i) ((0, .slice (some ⟨b20, 0, none⟩) 1 1)) ⟨hF.keep (.cons (t := 2) rfl (.cons (t := 5) rfl (.cons (t := 6) rfl (.cons (t := 7) rfl (.cons (t := 8) rfl (.cons (t := 15) rfl (.cons (t := 16) rfl (.cons (t := 18) rfl (.cons (t := 20) rfl (.cons (t := 21) rfl (.nil))))))))))), hw, Nat.zero_le _⟩ ?_
    rintro ⟨i, r⟩ a w1 ⟨hF, hw, hi0⟩
    refine wp_seq ?_
    refine wp_seq (reg_seq 5 (hF _ _) (by kernel_rfl) ?_)
    refine net_cons rfl rfl (n_move rfl (ev rfl)) ?_
    refine net_cons rfl rfl (n_fieldAddrO (off' := 2) rfl (ev rfl) Try.runUnderlying45 rfl Try.sizeOf43 rfl) ?_
    refine net_cons rfl rfl (n_load rfl (ev rfl) (ld1 hw (i := 4) rfl Try.isAgg43 rfl)) ?_
    refine net_cons rfl rfl (n_len rfl (ev rfl) Try.underlying43) ?_
    refine net_cons rfl rfl (n_bin rfl (ev rfl) (ev rfl) r_lssN) ?_
    refine net_nil fun a w1 hF hx => ?_
    replace hw := hw.next hx
    replace hF := hF.keep (.cons (t := 2) rfl (.cons (t := 5) rfl (.cons (t := 6) rfl (.cons (t := 7) rfl (.cons (t := 8) rfl (.cons (t := 15) rfl (.cons (t := 16) rfl (.cons (t := 18) rfl (.cons (t := 20) rfl (.cons (t := 21) rfl (.cons (t := 107) rfl .nil)))))))))))
    refine wpList_nil ?_
    try simp only [List.nil_append, List.cons_append, List.set_cons_zero, List.set_cons_succ] at hw
    refine wp_cond_split (hF.ev (ev rfl)) (fun h107 => ?_) (fun h107 => ?_)
    · have hi : i < (ptsL root d n p q g l nonce).length := of_bool_t h107
      obtain ⟨z, hz0⟩ := some_at (l := (ptsL root d n p q g l nonce)) rfl hi
      obtain ⟨zx, hzx, hze⟩ := List.mem_map.1 (List.mem_of_getElem? hz0)
      have hzq := xsL_mem hok hln zx hzx
      subst hze
      have hfl := pc_len (ptsL root d n p q g l nonce)
      have hxi : (xsL (2 ^ d) n l)[i]? = some zx := by { have := congrArg (Option.map Prod.fst) hz0; rw [← List.getElem?_map, pts_fst] at this; exact this }
      obtain ⟨_, _, hse_, _, hR77, _⟩ := hw.rd (i := 3) rfl
      injection hse_ with hA_ _ _
      subst hA_
      have hF_ := hF
      have hw_ := hw
      obtain ⟨bX, oX, rfl, hcX⟩ := hR77.at_ (by omega)
      have hF := hF_
      have hw := hw_
      refine wp_skip ?_
      refine wp_seq (wp_block ?_)
      obtain ⟨_, _, hse_, _, hR83, _⟩ := hw.rd (i := 5) rfl
      injection hse_ with hA_ _ _
      subst hA_
      refine wp_seq (reg_draw 14 mixed (by kernel_rfl) (hF _ _) ?_)
      refine net_cons rfl rfl (n_load rfl (ev rfl) (ldN hw (i := 1) (vs := _) rfl Try.isAgg28 Try.sizeOf28 rfl rfl)) ?_
      refine net_cons rfl rfl (n_move rfl (ev rfl)) ?_
      refine net_cons rfl rfl (n_fieldAddrO (off' := 2) rfl (ev rfl) Try.runUnderlying45 rfl Try.sizeOf43 rfl) ?_
      refine net_cons rfl rfl (n_load rfl (ev rfl) (ld1 hw (i := 4) rfl Try.isAgg43 rfl)) ?_
      refine net_cons rfl rfl (n_move rfl (ev rfl)) ?_
      refine net_cons rfl rfl (n_indexS (off' := oX + (i) * 2) rfl (ev rfl) (ev rfl) Try.underlying43 Try.sizeOf31 (by omega) rfl) ?_
      refine net_cons rfl rfl (n_fieldAddrO (off' := oX + (i) * 2 + 0) rfl (ev rfl) Try.runUnderlying31 rfl Try.sizeOf24 rfl) ?_
      refine net_cons rfl rfl (n_load rfl (ev rfl) (fun w2 hx2 => ld1R hcX (pc_at0 hz0) Try.isAgg24 (by omega) w2 hx2)) ?_
      refine net_cons rfl rfl (n_ret rfl Try.call33 (.cons (ev rfl) (.cons (ev rfl) (.cons (ev rfl) .nil))) (fun _ hx => (val_g hp hq hg hz (cfs_len root n q) (cfs_lt root n (by omega)) (x := zx) (by omega) _ (hR83.ext hx)))) ?_
      refine net_cons rfl rfl (n_move rfl (ev rfl)) ?_
      refine net_cons rfl rfl (n_extract rfl (ev rfl) rfl) ?_
      refine net_cons rfl rfl (n_extract rfl (ev rfl) rfl) ?_
      refine net_cons rfl rfl (n_assign rfl (ev rfl)) ?_
      refine net_cons rfl rfl (n_assign rfl (ev rfl)) ?_
      refine net_nil fun a w1 hF hx => ?_
      replace hw := hw.next hx
      replace hF := hF.keep (.cons (t := 2) rfl (.cons (t := 5) rfl (.cons (t := 6) rfl (.cons (t := 7) rfl (.cons (t := 8) rfl (.cons (t := 15) rfl (.cons (t := 16) rfl (.cons (t := 18) rfl (.cons (t := 20) rfl (.cons (t := 21) rfl (.cons (t := 22) rfl (.cons (t := 23) rfl (.cons (t := 107) rfl .nil)))))))))))))
      refine wpList_nil ?_
      try simp only [List.nil_append, List.cons_append, List.set_cons_zero, List.set_cons_succ] at hw
      refine wp_seq ?_
      refine wp_seq (reg_seq 2 (hF _ _) (by kernel_rfl) ?_)
      refine net_cons rfl rfl (n_move rfl (ev rfl)) ?_
      refine net_cons rfl rfl (n_bin rfl (ev rfl) evc (r_neq (b := 0))) ?_
      refine net_nil fun a w1 hF hx => ?_
      replace hw := hw.next hx
      replace hF := hF.keep (.cons (t := 2) rfl (.cons (t := 5) rfl (.cons (t := 6) rfl (.cons (t := 7) rfl (.cons (t := 8) rfl (.cons (t := 15) rfl (.cons (t := 16) rfl (.cons (t := 18) rfl (.cons (t := 20) rfl (.cons (t := 21) rfl (.cons (t := 22) rfl (.cons (t := 23) rfl (.cons (t := 107) rfl (.cons (t := 123) rfl .nil))))))))))))))
      refine wpList_nil ?_
      try simp only [List.nil_append, List.cons_append, List.set_cons_zero, List.set_cons_succ] at hw
      refine wp_cond_false ((hF.ev (ev rfl)).trans (congrArg Value.bool (by simp))) ?_
      refine wp_skip ?_
      obtain ⟨_, _, hse_, _, hR77, _⟩ := hw.rd (i := 3) rfl
      injection hse_ with hA_ _ _
      subst hA_
      have hcX := hR77.cells
      refine wp_region_lit ?_
      refine t_net 0 10 (by kernel_rfl) rfl hF ?_
      refine net_cons rfl rfl (n_move rfl (ev rfl)) ?_
      refine net_cons rfl rfl (n_fieldAddrO (off' := 2) rfl (ev rfl) Try.runUnderlying45 rfl Try.sizeOf43 rfl) ?_
      refine net_cons rfl rfl (n_load rfl (ev rfl) (ld1 hw (i := 4) rfl Try.isAgg43 rfl)) ?_
      refine net_cons rfl rfl (n_move rfl (ev rfl)) ?_
      refine net_cons rfl rfl (n_indexS (off' := oX + (i) * 2) rfl (ev rfl) (ev rfl) Try.underlying43 Try.sizeOf31 (by omega) rfl) ?_
      refine net_cons rfl rfl (n_fieldAddrO (off' := oX + (i) * 2 + 0) rfl (ev rfl) Try.runUnderlying31 rfl Try.sizeOf24 rfl) ?_
      refine net_cons rfl rfl (n_load rfl (ev rfl) (fun w2 hx2 => ld1R hcX (pc_at0 hz0) Try.isAgg24 (by omega) w2 hx2)) ?_
      refine net_cons rfl rfl (n_move rfl (ev rfl)) ?_
      refine net_cons rfl rfl (n_build rfl (.cons (ev rfl) (.cons (ev rfl) .nil)) build_31_0_1) ?_
      refine net_cons rfl rfl (n_bsl sl43 rfl (.cons (ev rfl) .nil) (.cons rfl rfl .nil) rfl (by decide) (by decide)) ?_
      refine net_nil fun a w1 hF hx => ?_
      obtain ⟨b133, e133_, l133_, h133_⟩ := hF.at_ 133 _ rfl
      have hR133 := Rd.heap h133_
      replace hF := hF.now (v := .slice (some ⟨b133, 0, none⟩) (1) (1)) e133_
      replace hw := hw.next hx
      replace hF := hF.keep (.cons (t := 2) rfl (.cons (t := 5) rfl (.cons (t := 6) rfl (.cons (t := 7) rfl (.cons (t := 8) rfl (.cons (t := 15) rfl (.cons (t := 16) rfl (.cons (t := 18) rfl (.cons (t := 20) rfl (.cons (t := 21) rfl (.cons (t := 22) rfl (.cons (t := 23) rfl (.cons (t := 107) rfl (.cons (t := 123) rfl (.cons (t := 124) rfl (.cons (t := 133) rfl .nil))))))))))))))))
      refine t_append (i := 6) sl43 rfl rfl rfl (by decide) hF hw rfl (ev rfl) (ev rfl) hR133 rfl (one_pc [(zx, pv (cfs root n q) zx % q)]) (by simp only [maxLen]; omega) (by omega) fun v134 a w1 hF hw => ?_
      replace hF := hF.keep (.cons (t := 2) rfl (.cons (t := 5) rfl (.cons (t := 6) rfl (.cons (t := 7) rfl (.cons (t := 8) rfl (.cons (t := 15) rfl (.cons (t := 16) rfl (.cons (t := 18) rfl (.cons (t := 20) rfl (.cons (t := 21) rfl (.cons (t := 22) rfl (.cons (t := 23) rfl (.cons (t := 107) rfl (.cons (t := 123) rfl (.cons (t := 134) rfl .nil)))))))))))))))
      refine t_net 11 1 (by kernel_rfl) rfl hF ?_
      refine net_cons rfl rfl (n_assign rfl (ev rfl)) ?_
      refine net_nil fun a w1 hF hx => ?_
      replace hw := hw.next hx
      replace hF := hF.keep (.cons (t := 2) rfl (.cons (t := 5) rfl (.cons (t := 6) rfl (.cons (t := 7) rfl (.cons (t := 8) rfl (.cons (t := 15) rfl (.cons (t := 16) rfl (.cons (t := 18) rfl (.cons (t := 20) rfl (.cons (t := 21) rfl (.cons (t := 22) rfl (.cons (t := 23) rfl (.cons (t := 107) rfl (.cons (t := 123) rfl .nil))))))))))))))
      refine wpList_nil ?_
      try simp only [List.nil_append, List.cons_append, List.set_cons_zero, List.set_cons_succ] at hw
      refine reg_seq 3 (hF _ _) (by kernel_rfl) ?_
      refine net_cons rfl rfl (n_move rfl (ev rfl)) ?_
      refine net_cons rfl rfl (n_bin rfl (ev rfl) evc (r_inc (by omega))) ?_
      refine net_cons rfl rfl (n_assign rfl (ev rfl)) ?_
      refine net_nil fun a w1 hF hx => ?_
      replace hw := hw.next hx
      replace hF := hF.keep (.cons (t := 2) rfl (.cons (t := 5) rfl (.cons (t := 6) rfl (.cons (t := 7) rfl (.cons (t := 8) rfl (.cons (t := 15) rfl (.cons (t := 16) rfl (.cons (t := 18) rfl (.cons (t := 20) rfl (.cons (t := 21) rfl (.cons (t := 22) rfl (.cons (t := 23) rfl (.cons (t := 107) rfl (.cons (t := 123) rfl .nil))))))))))))))
      refine wpList_nil ?_
      try simp only [List.nil_append, List.cons_append, List.set_cons_zero, List.set_cons_succ] at hw
      exact ⟨(i + 1, v134), ⟨hF.keep (.cons (t := 2) rfl (.cons (t := 5) rfl (.cons (t := 6) rfl (.cons (t := 7) rfl (.cons (t := 8) rfl (.cons (t := 15) rfl (.cons (t := 16) rfl (.cons (t := 18) rfl (.cons (t := 20) rfl (.cons (t := 21) rfl (.nil))))))))))), (by rw [← hidP_snoc hxi]; exact hw), by omega⟩, (by show (ptsL root d n p q g l nonce).length - (i + 1) < (ptsL root d n p q g l nonce).length - i; omega)⟩
    · obtain rfl : i = (ptsL root d n p q g l nonce).length := by have := of_bool_f h107; omega
      have e1 : (xsL (2 ^ d) n l).take (ptsL root d n p q g l nonce).length = xsL (2 ^ d) n l := by rw [hpl]; exact take_len (xsL_len hln)
      rw [e1] at hw
      have hF_ := hF
      have hw_ := hw
      obtain ⟨A20, c20, rfl, hle20_, _, _⟩ := hw.rd (i := 6) rfl
      have hF := hF_
      have hw := hw_
      refine wp_exit (go_then_e (go_then_e (go_exit ?_)))
      obtain ⟨_, _, hse_, _, hR20, _⟩ := hw.rd (i := 6) rfl
      injection hse_ with hA_ _ _
      subst hA_
      have hle20 := hle20_
      refine wp_seq (wp_region_lit ?_)
      refine t_net 0 3 (by kernel_rfl) rfl hF ?_
      refine net_cons rfl rfl (n_load rfl (ev rfl) (ldN hw (i := 1) (vs := _) rfl Try.isAgg28 Try.sizeOf28 rfl rfl)) ?_
      refine net_cons rfl rfl (n_move rfl (ev rfl)) ?_
      refine net_cons rfl rfl (n_ret rfl Try.call34 (.cons (ev rfl) (.cons (ev rfl) .nil)) (fun _ hx => (hid_int hp hq hg hz hok hln hvq (by rw [hpl]) hle20 _ (hR20.ext hx)))) ?_
      refine net_nil fun a w1 hF hx => ?_
      obtain ⟨s138, h_, hw⟩ := hw.ex hx (hF.at_ 138 _ rfl)
      replace hF := hF.now h_
      replace hF := hF.keep (.cons (t := 2) rfl (.cons (t := 5) rfl (.cons (t := 6) rfl (.cons (t := 7) rfl (.cons (t := 8) rfl (.cons (t := 15) rfl (.cons (t := 16) rfl (.cons (t := 18) rfl (.cons (t := 20) rfl (.cons (t := 21) rfl (.cons (t := 107) rfl (.cons (t := 138) rfl .nil))))))))))))
      obtain ⟨A138, c138, rfl, _, _, _⟩ := hw.rd (i := 7) rfl
      refine t_net 3 5 (by kernel_rfl) rfl hF ?_
      refine net_cons rfl rfl (n_move rfl (ev rfl)) ?_
      refine net_cons rfl rfl (n_extract rfl (ev rfl) rfl) ?_
      refine net_cons rfl rfl (n_extract rfl (ev rfl) rfl) ?_
      refine net_cons rfl rfl (n_assign rfl (ev rfl)) ?_
      refine net_cons rfl rfl (n_assign rfl (ev rfl)) ?_
      refine net_nil fun a w1 hF hx => ?_
      replace hw := hw.next hx
      replace hF := hF.keep (.cons (t := 2) rfl (.cons (t := 5) rfl (.cons (t := 6) rfl (.cons (t := 7) rfl (.cons (t := 8) rfl (.cons (t := 15) rfl (.cons (t := 16) rfl (.cons (t := 17) rfl (.cons (t := 18) rfl (.cons (t := 20) rfl (.cons (t := 21) rfl (.cons (t := 24) rfl (.cons (t := 107) rfl .nil)))))))))))))
      refine wpList_nil ?_
      try simp only [List.nil_append, List.cons_append, List.set_cons_zero, List.set_cons_succ] at hw
      obtain ⟨_, _, hse_, _, hR138, _⟩ := hw.rd (i := 7) rfl
      injection hse_ with hA_ _ _
      subst hA_
      refine wp_seq (reg_seq 8 (hF _ _) (by kernel_rfl) ?_)
      refine net_cons rfl rfl (n_load rfl (ev rfl) (ldN hw (i := 1) (vs := _) rfl Try.isAgg28 Try.sizeOf28 rfl rfl)) ?_
      refine net_cons rfl rfl (n_move rfl (ev rfl)) ?_
      refine net_cons rfl rfl (n_ret rfl Try.call33 (.cons (ev rfl) (.cons (ev rfl) (.cons evc .nil))) (fun _ hx => (val_g hp hq hg hz hG1 hG2 (x := 0) (by omega) _ (hR138.ext hx)))) ?_
      refine net_cons rfl rfl (n_move rfl (ev rfl)) ?_
      refine net_cons rfl rfl (n_extract rfl (ev rfl) rfl) ?_
      refine net_cons rfl rfl (n_extract rfl (ev rfl) rfl) ?_
      refine net_cons rfl rfl (n_assign rfl (ev rfl)) ?_
      refine net_cons rfl rfl (n_assign rfl (ev rfl)) ?_
      refine net_nil fun a w1 hF hx => ?_
      replace hw := hw.next hx
      replace hF := hF.keep (.cons (t := 2) rfl (.cons (t := 5) rfl (.cons (t := 6) rfl (.cons (t := 7) rfl (.cons (t := 8) rfl (.cons (t := 15) rfl (.cons (t := 16) rfl (.cons (t := 17) rfl (.cons (t := 18) rfl (.cons (t := 19) rfl (.cons (t := 20) rfl (.cons (t := 21) rfl (.cons (t := 24) rfl (.cons (t := 25) rfl (.cons (t := 107) rfl .nil)))))))))))))))
      refine wpList_nil ?_
      try simp only [List.nil_append, List.cons_append, List.set_cons_zero, List.set_cons_succ] at hw
      refine wp_seq ?_
      refine wp_seq (reg_seq 11 (hF _ _) (by kernel_rfl) ?_)
      refine net_cons rfl rfl (n_move rfl (ev rfl)) ?_
      refine net_cons rfl rfl (n_bin rfl (ev rfl) evc (r_neq (b := 0))) ?_
      refine net_cons rfl rfl (n_move rfl (ev rfl)) ?_
      refine net_if rfl rfl rfl rfl (fun hc => (n_move rfl (ev rfl))) ?_
      refine net_if rfl rfl rfl rfl (fun hc => (n_bin rfl (evi rfl hc) evc (r_neq (b := 0)))) ?_
      refine net_cons rfl rfl (n_pick_or rfl (ev rfl) (fun h => (evi rfl h))) ?_
      refine net_cons rfl rfl (n_move rfl (ev rfl)) ?_
      refine net_if rfl rfl rfl rfl (fun hc => (n_move rfl (ev rfl))) ?_
      refine net_if rfl rfl rfl rfl (fun hc => (n_move rfl (ev rfl))) ?_
      refine net_if rfl rfl rfl rfl (fun hc => (n_bin rfl (evi rfl hc) (evi rfl hc) r_neqN)) ?_
      refine net_cons rfl rfl (n_pick_or rfl (ev rfl) (fun h => (evi rfl h))) ?_
      refine net_nil fun a w1 hF hx => ?_
      replace hw := hw.next hx
      replace hF := hF.keep (.cons (t := 2) rfl (.cons (t := 5) rfl (.cons (t := 6) rfl (.cons (t := 7) rfl (.cons (t := 8) rfl (.cons (t := 15) rfl (.cons (t := 16) rfl (.cons (t := 17) rfl (.cons (t := 18) rfl (.cons (t := 19) rfl (.cons (t := 20) rfl (.cons (t := 21) rfl (.cons (t := 24) rfl (.cons (t := 25) rfl (.cons (t := 107) rfl (.cons (t := 157) rfl .nil))))))))))))))))
      refine wpList_nil ?_
      try simp only [List.nil_append, List.cons_append, List.set_cons_zero, List.set_cons_succ] at hw
      refine wp_cond_false ((hF.ev (ev rfl)).trans (congrArg Value.bool (by rw [hG3]; simp))) ?_
      refine wp_skip ?_
      refine wp_seq ?_
      refine wp_seq (reg_seq 1 (hF _ _) (by kernel_rfl) ?_)
      refine net_cons rfl rfl (n_assign rfl evc) ?_
      refine net_nil fun a w1 hF hx => ?_
      replace hw := hw.next hx
      replace hF := hF.keep (.cons (t := 2) rfl (.cons (t := 5) rfl (.cons (t := 6) rfl (.cons (t := 7) rfl (.cons (t := 8) rfl (.cons (t := 15) rfl (.cons (t := 16) rfl (.cons (t := 17) rfl (.cons (t := 18) rfl (.cons (t := 19) rfl (.cons (t := 20) rfl (.cons (t := 21) rfl (.cons (t := 24) rfl (.cons (t := 25) rfl (.cons (t := 26) rfl (.cons (t := 107) rfl (.cons (t := 157) rfl .nil)))))))))))))))))
      refine wpList_nil ?_
      try simp only [List.nil_append, List.cons_append, List.set_cons_zero, List.set_cons_succ] at hw
      refine wp_block ?_
      replace hw := hw.drop (.cons_cons _ (.cons_cons _ (.cons _ (.cons_cons _ (.cons_cons _ (.cons _ (.cons _ (.cons_cons _ .slnil))))))))
      refine wp_loop_ix (α := Nat) (fun i a w1 => FrV 279 [] [(2, .is (.slice A m c)) , (5, .is (U v)) , (6, .is (U y)) , (7, .is (ptr0 b7)) , (8, .is (ptr0 b8)) , (15, .is (.bool true)) , (16, .is (ptr0 b16)) , (24, .is (.slice A138 (intL q (hidP root n q v (xsL (2 ^ d) n l))).length c138)) , (26, .is (I (i : Int)))] a ∧ Own w w1 [.blk b7 23 (kc root), .blk b8 28 [B8 kd, I (d : Int), I (n : Int), U p, U q, U g], .row (.slice A77 (ptsL root d n p q g l nonce).length c77) 31 2 (ptsL root d n p q g l nonce).length (pc (ptsL root d n p q g l nonce)), .blk b16 45 (hcs (.slice none 0 0) (baseN root p q g nonce) (.slice A77 (ptsL root d n p q g l nonce).length c77) (boxK root n p q g session nonce) (derK session 53 0)), .row (.slice A138 (intL q (hidP root n q v (xsL (2 ^ d) n l))).length c138) 24 1 (intL q (hidP root n q v (xsL (2 ^ d) n l))).length ((intL q (hidP root n q v (xsL (2 ^ d) n l))).map U)] ∧ (i ≤ (ptsL root d n p q g l nonce).length)) (fun i => (ptsL root d n p q g l nonce).length - i) (0) ⟨hF.keep (.cons (t := 2) rfl (.cons (t := 5) rfl (.cons (t := 6) rfl (.cons (t := 7) rfl (.cons (t := 8) rfl (.cons (t := 15) rfl (.cons (t := 16) rfl (.cons (t := 24) rfl (.cons (t := 26) rfl (.nil)))))))))), hw, Nat.zero_le _⟩ ?_
      rintro i a w1 ⟨hF, hw, hi0⟩
      refine wp_seq ?_
      refine wp_seq (reg_seq 5 (hF _ _) (by kernel_rfl) ?_)
      refine net_cons rfl rfl (n_move rfl (ev rfl)) ?_
      refine net_cons rfl rfl (n_fieldAddrO (off' := 2) rfl (ev rfl) Try.runUnderlying45 rfl Try.sizeOf43 rfl) ?_
      refine net_cons rfl rfl (n_load rfl (ev rfl) (ld1 hw (i := 3) rfl Try.isAgg43 rfl)) ?_
      refine net_cons rfl rfl (n_len rfl (ev rfl) Try.underlying43) ?_
      refine net_cons rfl rfl (n_bin rfl (ev rfl) (ev rfl) r_lssN) ?_
      refine net_nil fun a w1 hF hx => ?_
      replace hw := hw.next hx
      replace hF := hF.keep (.cons (t := 2) rfl (.cons (t := 5) rfl (.cons (t := 6) rfl (.cons (t := 7) rfl (.cons (t := 8) rfl (.cons (t := 15) rfl (.cons (t := 16) rfl (.cons (t := 24) rfl (.cons (t := 26) rfl (.cons (t := 162) rfl .nil))))))))))
      refine wpList_nil ?_
      try simp only [List.nil_append, List.cons_append, List.set_cons_zero, List.set_cons_succ] at hw
      refine wp_cond_split (hF.ev (ev rfl)) (fun h162 => ?_) (fun h162 => ?_)
      · have hi : i < (ptsL root d n p q g l nonce).length := of_bool_t h162
        obtain ⟨z, hz0⟩ := some_at (l := (ptsL root d n p q g l nonce)) rfl hi
        obtain ⟨zx, hzx, hze⟩ := List.mem_map.1 (List.mem_of_getElem? hz0)
        have hzq := xsL_mem hok hln zx hzx
        subst hze
        have hfl := pc_len (ptsL root d n p q g l nonce)
        have hzv := Nat.mod_lt (pv (cfs root n q) zx) (show 0 < q by omega)
        obtain ⟨_, _, hse_, _, hR77, _⟩ := hw.rd (i := 2) rfl
        injection hse_ with hA_ _ _
        subst hA_
        have hF_ := hF
        have hw_ := hw
        obtain ⟨bX, oX, rfl, hcX⟩ := hR77.at_ (by omega)
        have hF := hF_
        have hw := hw_
        refine wp_skip ?_
        refine wp_seq (wp_block ?_)
        obtain ⟨_, _, hse_, _, hR138, _⟩ := hw.rd (i := 4) rfl
        injection hse_ with hA_ _ _
        subst hA_
        refine wp_seq (reg_draw 14 mixed (by kernel_rfl) (hF _ _) ?_)
        refine net_cons rfl rfl (n_load rfl (ev rfl) (ldN hw (i := 1) (vs := _) rfl Try.isAgg28 Try.sizeOf28 rfl rfl)) ?_
        refine net_cons rfl rfl (n_move rfl (ev rfl)) ?_
        refine net_cons rfl rfl (n_fieldAddrO (off' := 2) rfl (ev rfl) Try.runUnderlying45 rfl Try.sizeOf43 rfl) ?_
        refine net_cons rfl rfl (n_load rfl (ev rfl) (ld1 hw (i := 3) rfl Try.isAgg43 rfl)) ?_
        refine net_cons rfl rfl (n_move rfl (ev rfl)) ?_
        refine net_cons rfl rfl (n_indexS (off' := oX + (i) * 2) rfl (ev rfl) (ev rfl) Try.underlying43 Try.sizeOf31 (by omega) rfl) ?_
        refine net_cons rfl rfl (n_fieldAddrO (off' := oX + (i) * 2 + 0) rfl (ev rfl) Try.runUnderlying31 rfl Try.sizeOf24 rfl) ?_
        refine net_cons rfl rfl (n_load rfl (ev rfl) (fun w2 hx2 => ld1R hcX (pc_at0 hz0) Try.isAgg24 (by omega) w2 hx2)) ?_
        refine net_cons rfl rfl (n_ret rfl Try.call33 (.cons (ev rfl) (.cons (ev rfl) (.cons (ev rfl) .nil))) (fun _ hx => (val_g hp hq hg hz hG1 hG2 (x := zx) (by omega) _ (hR138.ext hx)))) ?_
        refine net_cons rfl rfl (n_move rfl (ev rfl)) ?_
        refine net_cons rfl rfl (n_extract rfl (ev rfl) rfl) ?_
        refine net_cons rfl rfl (n_extract rfl (ev rfl) rfl) ?_
        refine net_cons rfl rfl (n_assign rfl (ev rfl)) ?_
        refine net_cons rfl rfl (n_assign rfl (ev rfl)) ?_
        refine net_nil fun a w1 hF hx => ?_
        replace hw := hw.next hx
        replace hF := hF.keep (.cons (t := 2) rfl (.cons (t := 5) rfl (.cons (t := 6) rfl (.cons (t := 7) rfl (.cons (t := 8) rfl (.cons (t := 15) rfl (.cons (t := 16) rfl (.cons (t := 24) rfl (.cons (t := 26) rfl (.cons (t := 27) rfl (.cons (t := 28) rfl (.cons (t := 162) rfl .nil))))))))))))
        refine wpList_nil ?_
        try simp only [List.nil_append, List.cons_append, List.set_cons_zero, List.set_cons_succ] at hw
        refine wp_seq (reg_seq 12 (hF _ _) (by kernel_rfl) ?_)
        refine net_cons rfl rfl (n_fieldAddrO (off' := 1) rfl (ev rfl) Try.runUnderlying45 rfl Try.sizeOf24 rfl) ?_
        refine net_cons rfl rfl (n_load rfl (ev rfl) (ld1 hw (i := 3) rfl Try.isAgg24 rfl)) ?_
        refine net_cons rfl rfl (n_move rfl (ev rfl)) ?_
        refine net_cons rfl rfl (n_fieldAddrO (off' := 3) rfl (ev rfl) Try.runUnderlying28 rfl Try.sizeOf26 rfl) ?_
        refine net_cons rfl rfl (n_fieldAddrO (off' := 3) rfl (ev rfl) Try.runUnderlying26 rfl Try.sizeOf24 rfl) ?_
        refine net_cons rfl rfl (n_load rfl (ev rfl) (ld1 hw (i := 1) rfl Try.isAgg24 rfl)) ?_
        refine net_cons rfl rfl (n_ret rfl Try.call35 (.cons (ev rfl) (.cons (ev rfl) (.cons (ev rfl) .nil))) (fun _ hx => (pow_to (n := pv (cfs root n q) zx % q) (hG4 zx hzx) (by omega) (by omega) (by omega) (by omega) _))) ?_
        refine net_cons rfl rfl (n_move rfl (ev rfl)) ?_
        refine net_cons rfl rfl (n_extract rfl (ev rfl) rfl) ?_
        refine net_cons rfl rfl (n_extract rfl (ev rfl) rfl) ?_
        refine net_cons rfl rfl (n_assign rfl (ev rfl)) ?_
        refine net_cons rfl rfl (n_assign rfl (ev rfl)) ?_
        refine net_nil fun a w1 hF hx => ?_
        replace hw := hw.next hx
        replace hF := hF.keep (.cons (t := 2) rfl (.cons (t := 5) rfl (.cons (t := 6) rfl (.cons (t := 7) rfl (.cons (t := 8) rfl (.cons (t := 15) rfl (.cons (t := 16) rfl (.cons (t := 24) rfl (.cons (t := 26) rfl (.cons (t := 27) rfl (.cons (t := 28) rfl (.cons (t := 29) rfl (.cons (t := 30) rfl (.cons (t := 162) rfl .nil))))))))))))))
        refine wpList_nil ?_
        try simp only [List.nil_append, List.cons_append, List.set_cons_zero, List.set_cons_succ] at hw
        obtain ⟨_, _, hse_, _, hR77, _⟩ := hw.rd (i := 2) rfl
        injection hse_ with hA_ _ _
        subst hA_
        have hcX := hR77.cells
        refine wp_seq (reg_seq 16 (hF _ _) (by kernel_rfl) ?_)
        refine net_cons rfl rfl (n_move rfl (ev rfl)) ?_
        refine net_cons rfl rfl (n_bin rfl (ev rfl) evc (r_neq (b := 0))) ?_
        refine net_cons rfl rfl (n_move rfl (ev rfl)) ?_
        refine net_if rfl rfl rfl rfl (fun hc => (n_move rfl (ev rfl))) ?_
        refine net_if rfl rfl rfl rfl (fun hc => (n_bin rfl (evi rfl hc) evc (r_neq (b := 0)))) ?_
        refine net_cons rfl rfl (n_pick_or rfl (ev rfl) (fun h => (evi rfl h))) ?_
        refine net_cons rfl rfl (n_move rfl (ev rfl)) ?_
        refine net_if rfl rfl rfl rfl (fun hc => (n_move rfl (ev rfl))) ?_
        refine net_if rfl rfl rfl rfl (fun hc => (n_fieldAddrO (off' := 2) rfl (ev rfl) Try.runUnderlying45 rfl Try.sizeOf43 rfl)) ?_
        refine net_if rfl rfl rfl rfl (fun hc => (n_load rfl (evi rfl hc) (ld1 hw (i := 3) rfl Try.isAgg43 rfl))) ?_
        refine net_if rfl rfl rfl rfl (fun hc => (n_move rfl (ev rfl))) ?_
        refine net_if rfl rfl rfl rfl (fun hc => (n_indexS (off' := oX + (i) * 2) rfl (evi rfl hc) (evi rfl hc) Try.underlying43 Try.sizeOf31 (by omega) rfl)) ?_
        refine net_if rfl rfl rfl rfl (fun hc => (n_fieldAddrO (off' := oX + (i) * 2 + 1) rfl (evi rfl hc) Try.runUnderlying31 rfl Try.sizeOf24 rfl)) ?_
        refine net_if rfl rfl rfl rfl (fun hc => (n_load rfl (evi rfl hc) (fun w2 hx2 => ld1R hcX (pc_at1 hz0) Try.isAgg24 (by omega) w2 hx2))) ?_
        refine net_if rfl rfl rfl rfl (fun hc => (n_bin rfl (evi rfl hc) (evi rfl hc) r_neqN)) ?_
        refine net_cons rfl rfl (n_pick_or rfl (ev rfl) (fun h => (evi rfl h))) ?_
        refine net_nil fun a w1 hF hx => ?_
        replace hw := hw.next hx
        replace hF := hF.keep (.cons (t := 2) rfl (.cons (t := 5) rfl (.cons (t := 6) rfl (.cons (t := 7) rfl (.cons (t := 8) rfl (.cons (t := 15) rfl (.cons (t := 16) rfl (.cons (t := 24) rfl (.cons (t := 26) rfl (.cons (t := 27) rfl (.cons (t := 28) rfl (.cons (t := 29) rfl (.cons (t := 30) rfl (.cons (t := 162) rfl (.cons (t := 202) rfl .nil)))))))))))))))
        refine wpList_nil ?_
        try simp only [List.nil_append, List.cons_append, List.set_cons_zero, List.set_cons_succ] at hw
        refine wp_cond_false ((hF.ev (ev rfl)).trans (congrArg Value.bool (by simp [liftN]))) ?_
        refine wp_skip ?_
        refine reg_seq 3 (hF _ _) (by kernel_rfl) ?_
        refine net_cons rfl rfl (n_move rfl (ev rfl)) ?_
        refine net_cons rfl rfl (n_bin rfl (ev rfl) evc (r_inc (by omega))) ?_
        refine net_cons rfl rfl (n_assign rfl (ev rfl)) ?_
        refine net_nil fun a w1 hF hx => ?_
        replace hw := hw.next hx
        replace hF := hF.keep (.cons (t := 2) rfl (.cons (t := 5) rfl (.cons (t := 6) rfl (.cons (t := 7) rfl (.cons (t := 8) rfl (.cons (t := 15) rfl (.cons (t := 16) rfl (.cons (t := 24) rfl (.cons (t := 26) rfl (.cons (t := 27) rfl (.cons (t := 28) rfl (.cons (t := 29) rfl (.cons (t := 30) rfl (.cons (t := 162) rfl (.cons (t := 202) rfl .nil)))))))))))))))
        refine wpList_nil ?_
        try simp only [List.nil_append, List.cons_append, List.set_cons_zero, List.set_cons_succ] at hw
        exact ⟨i + 1, ⟨hF.keep (.cons (t := 2) rfl (.cons (t := 5) rfl (.cons (t := 6) rfl (.cons (t := 7) rfl (.cons (t := 8) rfl (.cons (t := 15) rfl (.cons (t := 16) rfl (.cons (t := 24) rfl (.cons (t := 26) rfl (.nil)))))))))), hw, by omega⟩, by omega⟩
      · refine wp_exit (go_then_e (go_then_e (go_exit ?_)))
        refine wp_seq ?_
        refine wp_seq (reg_seq 1 (hF _ _) (by kernel_rfl) ?_)
        refine net_cons rfl rfl (n_assign rfl evc) ?_
        refine net_nil fun a w1 hF hx => ?_
        replace hw := hw.next hx
        replace hF := hF.keep (.cons (t := 2) rfl (.cons (t := 5) rfl (.cons (t := 6) rfl (.cons (t := 7) rfl (.cons (t := 8) rfl (.cons (t := 15) rfl (.cons (t := 16) rfl (.cons (t := 24) rfl (.cons (t := 26) rfl (.cons (t := 31) rfl (.cons (t := 162) rfl .nil)))))))))))
        refine wpList_nil ?_
        try simp only [List.nil_append, List.cons_append, List.set_cons_zero, List.set_cons_succ] at hw
        refine wp_block ?_
        refine wp_loop_ix (α := Nat) (fun i a w1 => FrV 279 [] [(2, .is (.slice A m c)) , (5, .is (U v)) , (6, .is (U y)) , (7, .is (ptr0 b7)) , (8, .is (ptr0 b8)) , (15, .is (.bool true)) , (16, .is (ptr0 b16)) , (24, .is (.slice A138 (intL q (hidP root n q v (xsL (2 ^ d) n l))).length c138)) , (31, .is (I (i : Int)))] a ∧ Own w w1 [.blk b7 23 (kc root), .blk b8 28 [B8 kd, I (d : Int), I (n : Int), U p, U q, U g], .row (.slice A77 (ptsL root d n p q g l nonce).length c77) 31 2 (ptsL root d n p q g l nonce).length (pc (ptsL root d n p q g l nonce)), .blk b16 45 (hcs (.slice none 0 0) (baseN root p q g nonce) (.slice A77 (ptsL root d n p q g l nonce).length c77) (boxK root n p q g session nonce) (derK session 53 0)), .row (.slice A138 (intL q (hidP root n q v (xsL (2 ^ d) n l))).length c138) 24 1 (intL q (hidP root n q v (xsL (2 ^ d) n l))).length ((intL q (hidP root n q v (xsL (2 ^ d) n l))).map U)] ∧ (i ≤ m)) (fun i => m - i) (0) ⟨hF.keep (.cons (t := 2) rfl (.cons (t := 5) rfl (.cons (t := 6) rfl (.cons (t := 7) rfl (.cons (t := 8) rfl (.cons (t := 15) rfl (.cons (t := 16) rfl (.cons (t := 24) rfl (.cons (t := 31) rfl (.nil)))))))))), hw, Nat.zero_le _⟩ ?_
        rintro i a w1 ⟨hF, hw, hi0⟩
        refine wp_seq ?_
        refine wp_seq (reg_seq 4 (hF _ _) (by kernel_rfl) ?_)
        refine net_cons rfl rfl (n_move rfl (ev rfl)) ?_
        refine net_cons rfl rfl (n_move rfl (ev rfl)) ?_
        refine net_cons rfl rfl (n_len rfl (ev rfl) Try.underlying41) ?_
        refine net_cons rfl rfl (n_bin rfl (ev rfl) (ev rfl) r_lssN) ?_
        refine net_nil fun a w1 hF hx => ?_
        replace hw := hw.next hx
        replace hF := hF.keep (.cons (t := 2) rfl (.cons (t := 5) rfl (.cons (t := 6) rfl (.cons (t := 7) rfl (.cons (t := 8) rfl (.cons (t := 15) rfl (.cons (t := 16) rfl (.cons (t := 24) rfl (.cons (t := 31) rfl (.cons (t := 206) rfl .nil))))))))))
        refine wpList_nil ?_
        try simp only [List.nil_append, List.cons_append, List.set_cons_zero, List.set_cons_succ] at hw
        refine wp_cond_split (hF.ev (ev rfl)) (fun h206 => ?_) (fun h206 => ?_)
        · have hi : i < m := of_bool_t h206
          obtain ⟨x, hx0⟩ := some_at hl hi
          have hxm := okL_mem hok x (List.mem_of_getElem? hx0)
          obtain ⟨k, rfl⟩ := Int.eq_ofNat_of_zero_le hxm.1
          have hkd : k < 2 ^ d := by omega
          have hkx := (xsL_hit (n := n) hok hkd).2 (List.mem_of_getElem? hx0)
          have hF_ := hF
          have hw_ := hw
          obtain ⟨bY, oY, rfl, hcY⟩ := hR.at_ (by rw [List.length_map]; omega)
          have hF := hF_
          have hw := hw_
          refine wp_skip ?_
          refine wp_seq (wp_block ?_)
          refine wp_seq (reg_then (R := fun a w1 => ∃ b32, FrV 279 [] [(2, .is (.slice (some ⟨bY, oY, none⟩) m c)), (5, .is (U v)), (6, .is (U y)), (7, .is (ptr0 b7)), (8, .is (ptr0 b8)), (15, .is (.bool true)), (16, .is (ptr0 b16)), (24, .is (.slice A138 (intL q (hidP root n q v (xsL (2 ^ d) n l))).length c138)), (31, .is (I (i : Int))), (32, .is (ptr0 b32)), (33, .is (I 0))] a ∧ Own w w1 [.blk b7 23 (kc root), .blk b8 28 [B8 kd, I (d : Int), I (n : Int), U p, U q, U g], .row (.slice A77 (ptsL root d n p q g l nonce).length c77) 31 2 (ptsL root d n p q g l nonce).length (pc (ptsL root d n p q g l nonce)), .blk b16 45 (hcs (.slice none 0 0) (baseN root p q g nonce) (.slice A77 (ptsL root d n p q g l nonce).length c77) (boxK root n p q g session nonce) (derK session 53 0)), .row (.slice A138 (intL q (hidP root n q v (xsL (2 ^ d) n l))).length c138) 24 1 (intL q (hidP root n q v (xsL (2 ^ d) n l))).length ((intL q (hidP root n q v (xsL (2 ^ d) n l))).map U), .blk b32 33 [I (k : Int), .slice none 0 0, U (k + 1), U (pv (cfs root n q) (k + 1) % q)]]) (reg_float 11 9 10 mixed (by kernel_rfl) (hF _ _) ?_) ?_)
          · refine net_cons rfl rfl (n_load rfl (ev rfl) (ldN hw (i := 0) (vs := _) rfl Try.isAgg23 Try.sizeOf23 (kc_len _) (cut_whole (kc_len _)))) ?_
            refine net_cons rfl rfl (n_load rfl (ev rfl) (ldN hw (i := 1) (vs := _) rfl Try.isAgg28 Try.sizeOf28 rfl rfl)) ?_
            refine net_cons rfl rfl (n_move rfl (ev rfl)) ?_
            refine net_cons rfl rfl (n_move rfl (ev rfl)) ?_
            refine net_cons rfl rfl (n_indexS (off' := oY + (i)) rfl (ev rfl) (ev rfl) Try.underlying41 Try.sizeOf3 (by omega) (by omega)) ?_
            refine net_cons rfl rfl (n_load rfl (ev rfl) (fun w2 hx2 => ld1R hcY (map_at hx0) Try.isAgg3 (by omega) w2 (hw.ext.trans hx2))) ?_
            refine net_cons rfl rfl (n_ret rfl Try.call18 (.cons (ev rfl) (.cons (ev rfl) (.cons (ev rfl) .nil))) (fun _ hx => (sec_k hp hq hg hz hkd _))) ?_
            refine net_cons rfl rfl (n_move rfl (ev rfl)) ?_
            refine net_cons rfl rfl (n_extract rfl (ev rfl) rfl) ?_
            refine net_cons rfl rfl (n_extract rfl (ev rfl) rfl) ?_
            refine net_cons rfl rfl (n_alloc rfl Try.zeroValue33 rfl) ?_
            refine net_nil fun cc hc0 hc1 a w1 hF hx => ?_
            obtain rfl | rfl : cc = 9 ∨ cc = 10 := by omega
            · obtain ⟨b32, h_, hw⟩ := hw.blk hx (hF.at_ 32 _ rfl)
              replace hF := hF.now h_
              replace hF := hF.keep (.cons (t := 2) rfl (.cons (t := 5) rfl (.cons (t := 6) rfl (.cons (t := 7) rfl (.cons (t := 8) rfl (.cons (t := 15) rfl (.cons (t := 16) rfl (.cons (t := 24) rfl (.cons (t := 31) rfl (.cons (t := 32) rfl (.cons (t := 209) rfl (.cons (t := 217) rfl (.nil)))))))))))))
              refine t_store (i := 5) rfl rfl rfl hF hw rfl (ev rfl) (ev rfl) rfl one4 Try.sizeOf33 rfl (Nat.le_of_ble_eq_true rfl) rfl fun w1 hw => ?_
              refine t_netL 9 1 (by kernel_rfl) rfl hF ?_
              refine net_cons rfl rfl (n_extract rfl (ev rfl) rfl) ?_
              refine net_nil fun a w1 hF hx => ?_
              replace hw := hw.next hx
              replace hF := hF.keep (.cons (t := 2) rfl (.cons (t := 5) rfl (.cons (t := 6) rfl (.cons (t := 7) rfl (.cons (t := 8) rfl (.cons (t := 15) rfl (.cons (t := 16) rfl (.cons (t := 24) rfl (.cons (t := 31) rfl (.cons (t := 32) rfl (.cons (t := 218) rfl (.nil))))))))))))
              refine t_netL 12 1 (by kernel_rfl) rfl hF ?_
              refine net_cons rfl rfl (n_assign rfl (ev rfl)) ?_
              refine net_nil fun a w1 hF hx => ?_
              replace hw := hw.next hx
              refine wpList_nil ?_
              exact ⟨rfl, b32, hF.keep (.cons (t := 2) rfl (.cons (t := 5) rfl (.cons (t := 6) rfl (.cons (t := 7) rfl (.cons (t := 8) rfl (.cons (t := 15) rfl (.cons (t := 16) rfl (.cons (t := 24) rfl (.cons (t := 31) rfl (.cons (t := 32) rfl (.cons (t := 33) rfl (.nil)))))))))))), hw⟩
            · obtain ⟨b32, h_, hw⟩ := hw.blk hx (hF.at_ 32 _ rfl)
              replace hF := hF.now h_
              replace hF := hF.keep (.cons (t := 2) rfl (.cons (t := 5) rfl (.cons (t := 6) rfl (.cons (t := 7) rfl (.cons (t := 8) rfl (.cons (t := 15) rfl (.cons (t := 16) rfl (.cons (t := 24) rfl (.cons (t := 31) rfl (.cons (t := 32) rfl (.cons (t := 209) rfl (.cons (t := 217) rfl (.cons (t := 218) rfl (.nil))))))))))))))
              refine t_store (i := 5) rfl rfl rfl hF hw rfl (ev rfl) (ev rfl) rfl one4 Try.sizeOf33 rfl (Nat.le_of_ble_eq_true rfl) rfl fun w1 hw => ?_
              refine t_netL 12 1 (by kernel_rfl) rfl hF ?_
              refine net_cons rfl rfl (n_assign rfl (ev rfl)) ?_
              refine net_nil fun a w1 hF hx => ?_
              replace hw := hw.next hx
              refine wpList_nil ?_
              exact ⟨rfl, b32, hF.keep (.cons (t := 2) rfl (.cons (t := 5) rfl (.cons (t := 6) rfl (.cons (t := 7) rfl (.cons (t := 8) rfl (.cons (t := 15) rfl (.cons (t := 16) rfl (.cons (t := 24) rfl (.cons (t := 31) rfl (.cons (t := 32) rfl (.cons (t := 33) rfl (.nil)))))))))))), hw⟩
          rintro a w1 ⟨b32, hF, hw⟩
          try simp only [List.nil_append, List.cons_append, List.set_cons_zero, List.set_cons_succ] at hw
          obtain ⟨_, _, hse_, _, hR138, _⟩ := hw.rd (i := 4) rfl
          injection hse_ with hA_ _ _
          subst hA_
          refine wp_seq (reg_seq 11 (hF _ _) (by kernel_rfl) ?_)
          refine net_cons rfl rfl (n_load rfl (ev rfl) (ldN hw (i := 1) (vs := _) rfl Try.isAgg28 Try.sizeOf28 rfl rfl)) ?_
          refine net_cons rfl rfl (n_move rfl (ev rfl)) ?_
          refine net_cons rfl rfl (n_fieldAddrO (off' := 2) rfl (ev rfl) Try.runUnderlying33 rfl Try.sizeOf31 rfl) ?_
          refine net_cons rfl rfl (n_fieldAddrO (off' := 2) rfl (ev rfl) Try.runUnderlying31 rfl Try.sizeOf24 rfl) ?_
          refine net_cons rfl rfl (n_load rfl (ev rfl) (ld1 hw (i := 5) rfl Try.isAgg24 rfl)) ?_
          refine net_cons rfl rfl (n_ret rfl Try.call33 (.cons (ev rfl) (.cons (ev rfl) (.cons (ev rfl) .nil))) (fun _ hx => (val_g hp hq hg hz hG1 hG2 (x := k + 1) (by omega) _ (hR138.ext hx)))) ?_
          refine net_cons rfl rfl (n_move rfl (ev rfl)) ?_
          refine net_cons rfl rfl (n_extract rfl (ev rfl) rfl) ?_
          refine net_cons rfl rfl (n_extract rfl (ev rfl) rfl) ?_
          refine net_cons rfl rfl (n_assign rfl (ev rfl)) ?_
          refine net_cons rfl rfl (n_assign rfl (ev rfl)) ?_
          refine net_nil fun a w1 hF hx => ?_
          replace hw := hw.next hx
          replace hF := hF.keep (.cons (t := 2) rfl (.cons (t := 5) rfl (.cons (t := 6) rfl (.cons (t := 7) rfl (.cons (t := 8) rfl (.cons (t := 15) rfl (.cons (t := 16) rfl (.cons (t := 24) rfl (.cons (t := 31) rfl (.cons (t := 32) rfl (.cons (t := 33) rfl (.cons (t := 34) rfl (.cons (t := 35) rfl .nil)))))))))))))
          refine wpList_nil ?_
          try simp only [List.nil_append, List.cons_append, List.set_cons_zero, List.set_cons_succ] at hw
          refine wp_seq (reg_seq 13 (hF _ _) (by kernel_rfl) ?_)
          refine net_cons rfl rfl (n_move rfl (ev rfl)) ?_
          refine net_cons rfl rfl (n_bin rfl (ev rfl) evc (r_neq (b := 0))) ?_
          refine net_cons rfl rfl (n_move rfl (ev rfl)) ?_
          refine net_if rfl rfl rfl rfl (fun hc => (n_move rfl (ev rfl))) ?_
          refine net_if rfl rfl rfl rfl (fun hc => (n_bin rfl (evi rfl hc) evc (r_neq (b := 0)))) ?_
          refine net_cons rfl rfl (n_pick_or rfl (ev rfl) (fun h => (evi rfl h))) ?_
          refine net_cons rfl rfl (n_move rfl (ev rfl)) ?_
          refine net_if rfl rfl rfl rfl (fun hc => (n_move rfl (ev rfl))) ?_
          refine net_if rfl rfl rfl rfl (fun hc => (n_fieldAddrO (off' := 2) rfl (ev rfl) Try.runUnderlying33 rfl Try.sizeOf31 rfl)) ?_
          refine net_if rfl rfl rfl rfl (fun hc => (n_fieldAddrO (off' := 3) rfl (evi rfl hc) Try.runUnderlying31 rfl Try.sizeOf24 rfl)) ?_
          refine net_if rfl rfl rfl rfl (fun hc => (n_load rfl (evi rfl hc) (ld1 hw (i := 5) rfl Try.isAgg24 rfl))) ?_
          refine net_if rfl rfl rfl rfl (fun hc => (n_bin rfl (evi rfl hc) (evi rfl hc) r_neqN)) ?_
          refine net_cons rfl rfl (n_pick_or rfl (ev rfl) (fun h => (evi rfl h))) ?_
          refine net_nil fun a w1 hF hx => ?_
          replace hw := hw.next hx
          replace hF := hF.keep (.cons (t := 2) rfl (.cons (t := 5) rfl (.cons (t := 6) rfl (.cons (t := 7) rfl (.cons (t := 8) rfl (.cons (t := 15) rfl (.cons (t := 16) rfl (.cons (t := 24) rfl (.cons (t := 31) rfl (.cons (t := 32) rfl (.cons (t := 33) rfl (.cons (t := 34) rfl (.cons (t := 35) rfl (.cons (t := 240) rfl .nil))))))))))))))
          refine wpList_nil ?_
          try simp only [List.nil_append, List.cons_append, List.set_cons_zero, List.set_cons_succ] at hw
          refine wp_cond_false ((hF.ev (ev rfl)).trans (congrArg Value.bool (by rw [hG4 _ hkx]; simp))) ?_
          refine wp_skip ?_
          refine reg_seq 3 (hF _ _) (by kernel_rfl) ?_
          refine net_cons rfl rfl (n_move rfl (ev rfl)) ?_
          refine net_cons rfl rfl (n_bin rfl (ev rfl) evc (r_inc (by omega))) ?_
          refine net_cons rfl rfl (n_assign rfl (ev rfl)) ?_
          refine net_nil fun a w1 hF hx => ?_
          replace hw := hw.next hx
          replace hF := hF.keep (.cons (t := 2) rfl (.cons (t := 5) rfl (.cons (t := 6) rfl (.cons (t := 7) rfl (.cons (t := 8) rfl (.cons (t := 15) rfl (.cons (t := 16) rfl (.cons (t := 24) rfl (.cons (t := 31) rfl (.cons (t := 32) rfl (.cons (t := 33) rfl (.cons (t := 34) rfl (.cons (t := 35) rfl (.cons (t := 240) rfl .nil))))))))))))))
          refine wpList_nil ?_
          try simp only [List.nil_append, List.cons_append, List.set_cons_zero, List.set_cons_succ] at hw
          exact ⟨i + 1, ⟨hF.keep (.cons (t := 2) rfl (.cons (t := 5) rfl (.cons (t := 6) rfl (.cons (t := 7) rfl (.cons (t := 8) rfl (.cons (t := 15) rfl (.cons (t := 16) rfl (.cons (t := 24) rfl (.cons (t := 31) rfl (.nil)))))))))), (hw.drop (.cons_cons _ (.cons_cons _ (.cons_cons _ (.cons_cons _ (.cons_cons _ (.cons _ .slnil))))))), by omega⟩, by omega⟩
        · refine wp_exit (go_then_e (go_then_e (go_exit ?_)))
          refine wp_seq (reg_seq 12 (hF _ _) (by kernel_rfl) ?_)
          refine net_cons rfl rfl (n_fieldAddrO (off' := 1) rfl (ev rfl) Try.runUnderlying45 rfl Try.sizeOf24 rfl) ?_
          refine net_cons rfl rfl (n_load rfl (ev rfl) (ld1 hw (i := 3) rfl Try.isAgg24 rfl)) ?_
          refine net_cons rfl rfl (n_move rfl (ev rfl)) ?_
          refine net_cons rfl rfl (n_fieldAddrO (off' := 3) rfl (ev rfl) Try.runUnderlying28 rfl Try.sizeOf26 rfl) ?_
          refine net_cons rfl rfl (n_fieldAddrO (off' := 3) rfl (ev rfl) Try.runUnderlying26 rfl Try.sizeOf24 rfl) ?_
          refine net_cons rfl rfl (n_load rfl (ev rfl) (ld1 hw (i := 1) rfl Try.isAgg24 rfl)) ?_
          refine net_cons rfl rfl (n_ret rfl Try.call35 (.cons (ev rfl) (.cons (ev rfl) (.cons (ev rfl) .nil))) (fun _ hx => (pow_to (b := (baseN root p q g nonce)) (n := v) rfl (by omega) (by omega) (by omega) (by omega) _))) ?_
          refine net_cons rfl rfl (n_move rfl (ev rfl)) ?_
          refine net_cons rfl rfl (n_extract rfl (ev rfl) rfl) ?_
          refine net_cons rfl rfl (n_extract rfl (ev rfl) rfl) ?_
          refine net_cons rfl rfl (n_assign rfl (ev rfl)) ?_
          refine net_cons rfl rfl (n_assign rfl (ev rfl)) ?_
          refine net_nil fun a w1 hF hx => ?_
          replace hw := hw.next hx
          replace hF := hF.keep (.cons (t := 2) rfl (.cons (t := 5) rfl (.cons (t := 6) rfl (.cons (t := 7) rfl (.cons (t := 8) rfl (.cons (t := 15) rfl (.cons (t := 16) rfl (.cons (t := 17) rfl (.cons (t := 24) rfl (.cons (t := 31) rfl (.cons (t := 36) rfl (.cons (t := 206) rfl .nil))))))))))))
          refine wpList_nil ?_
          try simp only [List.nil_append, List.cons_append, List.set_cons_zero, List.set_cons_succ] at hw
          refine wp_seq (reg_seq 12 (hF _ _) (by kernel_rfl) ?_)
          refine net_cons rfl rfl (n_fieldAddrO (off' := 1) rfl (ev rfl) Try.runUnderlying45 rfl Try.sizeOf24 rfl) ?_
          refine net_cons rfl rfl (n_load rfl (ev rfl) (ld1 hw (i := 3) rfl Try.isAgg24 rfl)) ?_
          refine net_cons rfl rfl (n_move rfl (ev rfl)) ?_
          refine net_cons rfl rfl (n_fieldAddrO (off' := 3) rfl (ev rfl) Try.runUnderlying28 rfl Try.sizeOf26 rfl) ?_
          refine net_cons rfl rfl (n_fieldAddrO (off' := 3) rfl (ev rfl) Try.runUnderlying26 rfl Try.sizeOf24 rfl) ?_
          refine net_cons rfl rfl (n_load rfl (ev rfl) (ld1 hw (i := 1) rfl Try.isAgg24 rfl)) ?_
          refine net_cons rfl rfl (n_ret rfl Try.call35 (.cons (ev rfl) (.cons (ev rfl) (.cons (ev rfl) .nil))) (fun _ hx => (pow_to (b := (baseN root p q g nonce)) (n := y) rfl (by omega) (by omega) (by omega) (by omega) _))) ?_
          refine net_cons rfl rfl (n_move rfl (ev rfl)) ?_
          refine net_cons rfl rfl (n_extract rfl (ev rfl) rfl) ?_
          refine net_cons rfl rfl (n_extract rfl (ev rfl) rfl) ?_
          refine net_cons rfl rfl (n_assign rfl (ev rfl)) ?_
          refine net_cons rfl rfl (n_assign rfl (ev rfl)) ?_
          refine net_nil fun a w1 hF hx => ?_
          replace hw := hw.next hx
          replace hF := hF.keep (.cons (t := 2) rfl (.cons (t := 5) rfl (.cons (t := 6) rfl (.cons (t := 7) rfl (.cons (t := 8) rfl (.cons (t := 15) rfl (.cons (t := 16) rfl (.cons (t := 17) rfl (.cons (t := 19) rfl (.cons (t := 24) rfl (.cons (t := 31) rfl (.cons (t := 36) rfl (.cons (t := 37) rfl (.cons (t := 206) rfl .nil))))))))))))))
          refine wpList_nil ?_
          try simp only [List.nil_append, List.cons_append, List.set_cons_zero, List.set_cons_succ] at hw
          refine wp_seq (reg_seq 19 (hF _ _) (by kernel_rfl) ?_)
          refine net_cons rfl rfl (n_move rfl (ev rfl)) ?_
          refine net_cons rfl rfl (n_move rfl (ev rfl)) ?_
          refine net_if rfl rfl rfl rfl (fun hc => (n_move rfl (ev rfl))) ?_
          refine net_if rfl rfl rfl rfl (fun hc => (n_bin rfl (evi rfl hc) evc (r_eql (b := 0)))) ?_
          refine net_cons rfl rfl (n_pick_and rfl (ev rfl) (fun h => (evi rfl h))) ?_
          refine net_cons rfl rfl (n_move rfl (ev rfl)) ?_
          refine net_if rfl rfl rfl rfl (fun hc => (n_move rfl (ev rfl))) ?_
          refine net_if rfl rfl rfl rfl (fun hc => (n_bin rfl (evi rfl hc) evc (r_eql (b := 0)))) ?_
          refine net_cons rfl rfl (n_pick_and rfl (ev rfl) (fun h => (evi rfl h))) ?_
          refine net_cons rfl rfl (n_move rfl (ev rfl)) ?_
          refine net_if rfl rfl rfl rfl (fun hc => (n_move rfl (ev rfl))) ?_
          refine net_if rfl rfl rfl rfl (fun hc => (n_move rfl (ev rfl))) ?_
          refine net_if rfl rfl rfl rfl (fun hc => (n_bin rfl (evi rfl hc) (evi rfl hc) r_eqlN)) ?_
          refine net_if rfl rfl rfl rfl (fun hc => (n_move rfl (ev rfl))) ?_
          refine net_if rfl rfl rfl rfl (fun hc => (n_move rfl (ev rfl))) ?_
          refine net_if rfl rfl rfl rfl (fun hc => (n_bin rfl (evi rfl hc) (evi rfl hc) r_eqlN)) ?_
          refine net_if rfl rfl rfl rfl (fun hc => (n_bin rfl (evi rfl hc) (evi rfl hc) (r_eqb Try.runUnderlying4))) ?_
          refine net_cons rfl rfl (n_pick_and rfl (ev rfl) (fun h => (evi rfl h))) ?_
          refine net_cons rfl rfl (n_assign rfl (ev rfl)) ?_
          refine net_nil fun a w1 hF hx => ?_
          replace hw := hw.next hx
          replace hF := hF.keep (.cons (t := 2) rfl (.cons (t := 5) rfl (.cons (t := 6) rfl (.cons (t := 7) rfl (.cons (t := 8) rfl (.cons (t := 14) rfl (.cons (t := 15) rfl (.cons (t := 16) rfl (.cons (t := 17) rfl (.cons (t := 19) rfl (.cons (t := 24) rfl (.cons (t := 31) rfl (.cons (t := 36) rfl (.cons (t := 37) rfl (.cons (t := 206) rfl .nil)))))))))))))))
          refine wpList_nil ?_
          try simp only [List.nil_append, List.cons_append, List.set_cons_zero, List.set_cons_succ] at hw
          refine wp_ret (ret1 hF Try.results6 rfl ?_)
          exact ⟨_, rfl, hw.ext, (congrArg Value.bool (hid_fin ⟨fun h => base_inj hz6 hvq hwq h, fun h => by rw [h]⟩))⟩
end Go.Proofs.Ythgpojlcbbgaoaa

