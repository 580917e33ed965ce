/- punctured keys of many numbers: the helpers of two laws -/
import Derived.Test.YthgpojlcbbgaoaaAlive
import Derived.Test.YthgpojlcbbgaoaaPunG

set_option autoImplicit false
set_option maxRecDepth 100000
set_option linter.unusedVariables false
set_option linter.unusedSimpArgs false
set_option linter.unnecessarySimpa false
namespace Go.Proofs.Ythgpojlcbbgaoaa
open Go.RowKit


theorem n_extractE {P : Program} {wr : World} {E : Env} {o : Oper} {t i e sz n : Nat} {xs : List Value} {mk G : Value → Value} (ho : o.op = .extract (.tmp t) i) (hx : look E t = some (.ex e sz n xs mk)) (hm : ∀ v, ∃ vs, mk v = .tuple vs ∧ vs[i]? = some (G v)) : nstep P wr E o (.ex e sz n xs G) :=
  n_run fun a w _ hop => by
    obtain ⟨s, h1, h2⟩ := hop t (by simp [ho, Op.operands]) _ hx
    obtain ⟨vs, h3, h4⟩ := hm s
    have h5 : a.eval (.tmp t) = .tuple vs := by rw [← h3]; exact h2
    exact ⟨G s, w, by unfold execOp; rw [ho]; simp [Instr.extract, h5, h4], Ext.refl w, s, h1, rfl⟩
theorem n_extractC {P : Program} {wr : World} {E : Env} {o : Oper} {t i e sz n : Nat} {xs : List Value} {mk : Value → Value} {u : Value} (ho : o.op = .extract (.tmp t) i) (hx : look E t = some (.ex e sz n xs mk)) (hm : ∀ v, ∃ vs, mk v = .tuple vs ∧ vs[i]? = some u) : nstep P wr E o (.is u) :=
  n_run fun a w _ hop => by
    obtain ⟨s, h1, h2⟩ := hop t (by simp [ho, Op.operands]) _ hx
    obtain ⟨vs, h3, h4⟩ := hm s
    have h5 : a.eval (.tmp t) = .tuple vs := by rw [← h3]; exact h2
    exact ⟨u, w, by unfold execOp; rw [ho]; simp [Instr.extract, h5, h4], Ext.refl w, rfl⟩
theorem sh1n {P : Program} {t : TypeId} {d : Nat} (h6 : d ≤ 6) : R2 P .shl t (I 1) (I (d : Int)) (I ((2 ^ d : Nat) : Int)) := by
  have := sh1 (P := P) (t := t) (d := (d : Int)) (by omega) (by omega)
  rwa [Int.toNat_natCast] at this
theorem rem_n {P : Program} {t : TypeId} {a b : Nat} (h : 0 < b) : R2 P .rem t (I (a : Int)) (I (b : Int)) (I ((a % b : Nat) : Int)) := by
  have := r_rem (P := P) (t := t) (k := .i64) (a := (a : Int)) (b := (b : Int)) (by omega)
  rwa [Int.tmod_eq_emod_of_nonneg (Int.natCast_nonneg _), ← Int.natCast_emod] at this
theorem wrap_b {b : Nat} (h : b < 256) : IntKind.i64.wrap (b : Int) = (b : Int) := wrap_i64_id (by omega) (by omega)
theorem take_at {l : List Nat} {i x : Nat} (h : l[i]? = some x) : l.take (i + 1) = l.take i ++ [x] := by rw [List.take_add_one, h]; rfl
def hasI (d : Nat) (bs : List Nat) (m : Int) : Bool := bs.any fun b => decide (((b % 2 ^ d : Nat) : Int) = m)
theorem hasI_snoc (d : Nat) (bs : List Nat) (b : Nat) (m : Int) : hasI d (bs ++ [b]) m = (hasI d bs m || decide (((b % 2 ^ d : Nat) : Int) = m)) := by simp [hasI, List.any_append]
theorem hasI_step {d i x : Nat} {bs : List Nat} {m : Int} (h : hasI d (bs.take i) m = false) (hx : bs[i]? = some x) (hn : ((x % 2 ^ d : Nat) : Int) ≠ m) : hasI d (bs.take (i + 1)) m = false := by
  rw [take_at hx, hasI_snoc, h, decide_eq_false hn]; rfl
theorem hasI_hit {d i x : Nat} {bs : List Nat} {m : Int} (hx : bs[i]? = some x) (hn : ((x % 2 ^ d : Nat) : Int) = m) : hasI d bs m = true :=
  List.any_eq_true.2 ⟨x, List.mem_of_getElem? hx, decide_eq_true hn⟩
theorem hasI_nat {d : Nat} {bs : List Nat} {n : Nat} : hasI d bs (n : Int) = hasB d bs n := by
  unfold hasI hasB
  congr 1
  funext b
  rw [decide_eq_decide]
  omega
theorem mod_in {d : Nat} (b : Nat) : (decide (((b % 2 ^ d : Nat) : Int) < 0) || decide (((2 ^ d : Nat) : Int) ≤ ((b % 2 ^ d : Nat) : Int))) = false := by
  have := Nat.mod_lt b (Nat.two_pow_pos d)
  rw [decide_eq_false (by omega), decide_eq_false (by omega)]; rfl
section
variable {d : Nat} (hd : d ≤ 6) (k : Key) (w : World) {A : Option Addr} {c : Nat}
include hd
theorem fold_le (bs : List Nat) : (foldP d k bs).length ≤ 128 := count_le hd (fold_ok hd k bs)
theorem full_k : RetF Try.prog 45 [K k, I (d : Int)].toArray w (.ex 95 18 (foldP d k []).length ((foldP d k []).flatMap lc) (fun v => .tuple #[PuV d v, I 0])) := by
  have := Full_c k (d : Int) w
  have e : fullR k (d : Int) = ((d : Int), foldP d k [], 0) := by
    unfold fullR
    rw [decide_eq_false (by omega), decide_eq_false (by omega)]
    rfl
  rwa [e] at this
theorem pun_k {bs : List Nat} {i b : Nat} (hx : bs[i]? = some b) (hc : (foldP d k (bs.take i)).length ≤ c) (hR : Rd w A ((foldP d k (bs.take i)).flatMap lc)) : RetF Try.prog 50 [PuV d (.slice A (foldP d k (bs.take i)).length c), I ((b % 2 ^ d : Nat) : Int)].toArray w (.ex 95 18 (foldP d k (bs.take (i + 1))).length ((foldP d k (bs.take (i + 1))).flatMap lc) (fun v => .tuple #[PuV d v, I 0])) := by
  have h1 := fold_le hd k (bs.take i)
  have h2 := Nat.mod_lt b (Nat.two_pow_pos d)
  have h3 := pow_le64 hd
  have := Puncture_c (d : Int) _ c A (foldP d k (bs.take i)) rfl hc (by omega) ((b % 2 ^ d : Nat) : Int) (by omega) (by omega) w hR
  rwa [punR_ok (l := leafB d b) (fold_ok hd k _) (mod_in b) (by unfold leafB; omega), ← foldP_snoc, ← take_at hx] at this
theorem check_k {bs : List Nat} (hc : (foldP d k bs).length ≤ c) (hR : Rd w A ((foldP d k bs).flatMap lc)) : RetF Try.prog 48 [PuV d (.slice A (foldP d k bs).length c)].toArray w (.is (I 0)) := by
  have h1 := fold_le hd k bs
  have := CheckP_c (d : Int) _ c A (foldP d k bs) rfl hc (by omega) w hR
  rwa [fold_ok hd k bs] at this
theorem ev_k {bs : List Nat} (hc : (foldP d k bs).length ≤ c) (m : Int) (hm0 : -9223372036854775808 ≤ m) (hm1 : m < 9223372036854775808) (hR : Rd w A ((foldP d k bs).flatMap lc)) : RetF Try.prog 52 [PuV d (.slice A (foldP d k bs).length c), I m].toArray w (.is (.tuple #[K (evR d (foldP d k bs) m).1, I (evR d (foldP d k bs) m).2])) := by
  have h1 := fold_le hd k bs
  exact Evaluate_c (d : Int) _ c A (foldP d k bs) rfl hc (by omega) m hm0 hm1 w hR
end


set_option maxHeartbeats 2000000 in
theorem punctured_c (k : Key) (d : Nat) (hd : d ≤ 6) (n c : Nat) (A : Option Addr) (bs : List Nat) (hl : bs.length = n) (hn : n ≤ 9000) (hb : ∀ b ∈ bs, b < 256) (w : World) (hR : Rd w A (bs.map B8)) : RetF Try.prog 60 [K k, I (d : Int), .slice A n c].toArray w (.ex 95 18 (foldP d k bs).length ((foldP d k bs).flatMap lc) (fun v => .tuple #[PuV d v, .bool true])) := by
  refine enter Try.func60 rfl Try.ntmps60 rfl fun a hF => ?_
  have hw := Own.start w
  refine wp_seq (wp_region_lit ?_)
  refine t_net 0 1 (by kernel_rfl) rfl hF ?_
  refine net_cons rfl rfl (n_box rfl (ev rfl) rfl) ?_
  refine net_nil fun a w1 hF hx => ?_
  obtain ⟨b3, h_, hw⟩ := hw.blk hx (hF.at_ 3 _ rfl)
  replace hF := hF.now h_
  replace hF := hF.keep (.cons (t := 1) rfl (.cons (t := 2) rfl (.cons (t := 3) rfl .nil)))
  refine t_net 1 1 (by kernel_rfl) rfl hF ?_
  refine net_cons rfl rfl (n_alloc rfl Try.zeroValue83 rfl) ?_
  refine net_nil fun a w1 hF hx => ?_
  obtain ⟨b6, h_, hw⟩ := hw.blk hx (hF.at_ 6 _ rfl)
  replace hF := hF.now h_
  replace hF := hF.keep (.cons (t := 1) rfl (.cons (t := 2) rfl (.cons (t := 3) rfl (.cons (t := 6) rfl .nil))))
  refine t_net 2 1 (by kernel_rfl) rfl hF ?_
  refine net_cons rfl rfl (n_assign rfl evc) ?_
  refine net_nil fun a w1 hF hx => ?_
  replace hw := hw.next hx
  replace hF := hF.keep (.cons (t := 1) rfl (.cons (t := 2) rfl (.cons (t := 3) rfl (.cons (t := 6) rfl (.cons (t := 7) rfl .nil)))))
  refine wpList_nil ?_
  try simp only [List.nil_append, List.cons_append, List.set_cons_zero, List.set_cons_succ] at hw
  refine wp_seq (wp_region_lit ?_)
  refine t_net 0 3 (by kernel_rfl) rfl hF ?_
  refine net_cons rfl rfl (n_load rfl (ev rfl) (ldN hw (i := 0) (vs := _) rfl Try.isAgg23 Try.sizeOf23 (kc_len _) (cut_whole (kc_len _)))) ?_
  refine net_cons rfl rfl (n_move rfl (ev rfl)) ?_
  refine net_cons rfl rfl (n_ret rfl Try.call45 (.cons (ev rfl) (.cons (ev rfl) .nil)) (fun _ hx => (full_k hd k _))) ?_
  refine net_nil fun a w1 hF hx => ?_
  obtain ⟨s16, h_, hw⟩ := hw.ex hx (hF.at_ 16 _ rfl)
  replace hF := hF.now h_
  replace hF := hF.keep (.cons (t := 1) rfl (.cons (t := 2) rfl (.cons (t := 6) rfl (.cons (t := 7) rfl (.cons (t := 16) rfl .nil)))))
  obtain ⟨A16, c16, rfl, _, _, _⟩ := hw.rd (i := 2) rfl
  refine t_net 3 4 (by kernel_rfl) rfl hF ?_
  refine net_cons rfl rfl (n_move rfl (ev rfl)) ?_
  refine net_cons rfl rfl (n_extract rfl (ev rfl) rfl) ?_
  refine net_cons rfl rfl (n_extract rfl (ev rfl) rfl) ?_
  refine net_cons rfl rfl (n_alloc rfl Try.zeroValue83 rfl) ?_
  refine net_nil fun a w1 hF hx => ?_
  obtain ⟨b8, h_, hw⟩ := hw.blk hx (hF.at_ 8 _ rfl)
  replace hF := hF.now h_
  replace hF := hF.keep (.cons (t := 1) rfl (.cons (t := 2) rfl (.cons (t := 6) rfl (.cons (t := 7) rfl (.cons (t := 8) rfl (.cons (t := 17) rfl (.cons (t := 18) rfl .nil)))))))
  refine t_store (i := 3) rfl rfl rfl hF hw rfl (ev rfl) (ev rfl) rfl one_pu Try.sizeOf83 rfl (Nat.le_of_ble_eq_true rfl) rfl fun w1 hw => ?_
  refine t_net 8 1 (by kernel_rfl) rfl hF ?_
  refine net_cons rfl rfl (n_assign rfl (ev rfl)) ?_
  refine net_nil fun a w1 hF hx => ?_
  replace hw := hw.next hx
  replace hF := hF.keep (.cons (t := 1) rfl (.cons (t := 2) rfl (.cons (t := 6) rfl (.cons (t := 7) rfl (.cons (t := 8) rfl (.cons (t := 9) rfl .nil))))))
  refine wpList_nil ?_
  try simp only [List.nil_append, List.cons_append, List.set_cons_zero, List.set_cons_succ] at hw
  refine wp_seq ?_
  refine wp_seq (reg_seq 2 (hF _ _) (by kernel_rfl) ?_)
  refine net_cons rfl rfl (n_move rfl (ev rfl)) ?_
  refine net_cons rfl rfl (n_bin rfl (ev rfl) evc (r_neq (b := 0))) ?_
  refine net_nil fun a w1 hF hx => ?_
  replace hw := hw.next hx
  replace hF := hF.keep (.cons (t := 1) rfl (.cons (t := 2) rfl (.cons (t := 6) rfl (.cons (t := 7) rfl (.cons (t := 8) rfl (.cons (t := 20) rfl .nil))))))
  refine wpList_nil ?_
  try simp only [List.nil_append, List.cons_append, List.set_cons_zero, List.set_cons_succ] at hw
  refine wp_cond_false ((hF.ev (ev rfl)).trans (congrArg Value.bool (by simp))) ?_
  refine wp_skip ?_
  refine wp_seq ?_
  refine wp_seq (reg_seq 1 (hF _ _) (by kernel_rfl) ?_)
  refine net_cons rfl rfl (n_assign rfl evc) ?_
  refine net_nil fun a w1 hF hx => ?_
  replace hw := hw.next hx
  replace hF := hF.keep (.cons (t := 1) rfl (.cons (t := 2) rfl (.cons (t := 6) rfl (.cons (t := 7) rfl (.cons (t := 8) rfl (.cons (t := 10) rfl (.cons (t := 20) rfl .nil)))))))
  refine wpList_nil ?_
  try simp only [List.nil_append, List.cons_append, List.set_cons_zero, List.set_cons_succ] at hw
  refine wp_block ?_
  replace hw := (hw.front 3 rfl).drop (.cons_cons _ (.cons _ (.cons_cons _ (.cons_cons _ .slnil))))
  refine wp_loop_ix (α := Nat × Value) (fun ⟨i, v⟩ a w1 => FrV 51 [] [(1, .is (I (d : Int))) , (2, .is (.slice A n c)) , (6, .is (ptr0 b6)) , (8, .is (ptr0 b8)) , (10, .is (I (i : Int)))] a ∧ Own w w1 [.blk b8 83 [I (d : Int), v], .blk b6 83 [I 0, .slice none 0 0], .row v 95 18 (foldP d k (bs.take i)).length ((foldP d k (bs.take i)).flatMap lc)] ∧ (i ≤ n)) (fun ⟨i, v⟩ => n - i) ((0, _)) ⟨hF.keep (.cons (t := 1) rfl (.cons (t := 2) rfl (.cons (t := 6) rfl (.cons (t := 8) rfl (.cons (t := 10) rfl (.nil)))))), hw, Nat.zero_le _⟩ ?_
  rintro ⟨i, v⟩ a w1 ⟨hF, hw, hi0⟩
  obtain ⟨Av, cv, rfl, hlev, _, _⟩ := hw.rd (i := 2) rfl
  refine wp_seq ?_
  refine wp_seq (reg_seq 4 (hF _ _) (by kernel_rfl) ?_)
  refine net_cons rfl rfl (n_move rfl (ev rfl)) ?_
  refine net_cons rfl rfl (n_move rfl (ev rfl)) ?_
  refine net_cons rfl rfl (n_len rfl (ev rfl) Try.underlying108) ?_
  refine net_cons rfl rfl (n_bin rfl (ev rfl) (ev rfl) r_lssN) ?_
  refine net_nil fun a w1 hF hx => ?_
  replace hw := hw.next hx
  replace hF := hF.keep (.cons (t := 1) rfl (.cons (t := 2) rfl (.cons (t := 6) rfl (.cons (t := 8) rfl (.cons (t := 10) rfl (.cons (t := 25) rfl .nil))))))
  refine wpList_nil ?_
  try simp only [List.nil_append, List.cons_append, List.set_cons_zero, List.set_cons_succ] at hw
  refine wp_cond_split (hF.ev (ev rfl)) (fun h25 => ?_) (fun h25 => ?_)
  · have hi : i < n := of_bool_t h25
    obtain ⟨x, hx0⟩ := some_at hl hi
    have hxb := hb x (List.mem_of_getElem? hx0)
    have hF_ := hF
    have hw_ := hw
    obtain ⟨bX, oX, rfl, hcX⟩ := hR.at_ (by rw [List.length_map]; omega)
    have hF := hF_
    have hw := hw_
    refine wp_skip ?_
    refine wp_seq (wp_block ?_)
    obtain ⟨_, _, hse_, _, hRv, _⟩ := hw.rd (i := 2) rfl
    injection hse_ with hA_ _ _
    subst hA_
    refine wp_seq (reg_then (R := fun a w1 => ∃ A38 c38 b11, FrV 51 [] [(1, .is (I (d : Int))), (2, .is (.slice (some ⟨bX, oX, none⟩) n c)), (6, .is (ptr0 b6)), (8, .is (ptr0 b8)), (10, .is (I (i : Int))), (11, .is (ptr0 b11)), (12, .is (I 0))] a ∧ Own w w1 [.blk b8 83 [I (d : Int), .slice Av (foldP d k (bs.take i)).length cv], .blk b6 83 [I 0, .slice none 0 0], .row (.slice Av (foldP d k (bs.take i)).length cv) 95 18 (foldP d k (bs.take i)).length ((foldP d k (bs.take i)).flatMap lc), .row (.slice A38 (foldP d k (bs.take (i + 1))).length c38) 95 18 (foldP d k (bs.take (i + 1))).length ((foldP d k (bs.take (i + 1))).flatMap lc), .blk b11 83 [I (d : Int), (.slice A38 (foldP d k (bs.take (i + 1))).length c38)]]) (reg_float 14 12 13 mixed (by kernel_rfl) (hF _ _) ?_) ?_)
    · refine net_cons rfl rfl (n_load rfl (ev rfl) (ldN hw (i := 0) (vs := _) rfl Try.isAgg83 Try.sizeOf83 rfl rfl)) ?_
      refine net_cons rfl rfl (n_move rfl (ev rfl)) ?_
      refine net_cons rfl rfl (n_move rfl (ev rfl)) ?_
      refine net_cons rfl rfl (n_indexS (off' := oX + (i)) rfl (ev rfl) (ev rfl) Try.underlying108 Try.sizeOf5 (by omega) (by omega)) ?_
      refine net_cons rfl rfl (n_load rfl (ev rfl) (fun w2 hx2 => ld1R hcX (map_at (f := B8) hx0) Try.isAgg5 (by omega) w2 (hw.ext.trans hx2))) ?_
      refine net_cons rfl rfl (n_convT rfl (ev rfl) Try.underlying5 Try.underlying3 (wrap_b hxb)) ?_
      refine net_cons rfl rfl (n_move rfl (ev rfl)) ?_
      refine net_cons rfl rfl (n_bin rfl evc (ev rfl) (sh1n hd)) ?_
      refine net_cons rfl rfl (n_bin rfl (ev rfl) (ev rfl) (rem_n (Nat.two_pow_pos d))) ?_
      refine net_cons rfl rfl (n_ret rfl Try.call50 (.cons (ev rfl) (.cons (ev rfl) .nil)) (fun _ hx => (pun_k hd k _ hx0 hlev (hRv.ext hx)))) ?_
      refine net_cons rfl rfl (n_moveF rfl rfl) ?_
      refine net_cons rfl rfl (n_extractE (G := fun v => PuV d v) rfl rfl (fun v => ⟨_, rfl, rfl⟩)) ?_
      refine net_cons rfl rfl (n_extractC rfl rfl (fun v => ⟨_, rfl, rfl⟩)) ?_
      refine net_cons rfl rfl (n_alloc rfl Try.zeroValue83 rfl) ?_
      refine net_nil fun cc hc0 hc1 a w1 hF hx => ?_
      obtain rfl | rfl : cc = 12 ∨ cc = 13 := by omega
      · obtain ⟨s38, h38_, e38_⟩ := hF.at_ 39 _ rfl
        obtain ⟨b11, e11_, l11_, h11_⟩ := hF.at_ 11 _ rfl
        replace hw := hw.addAll hx (nrow h38_ (nblk l11_ h11_ .nil rfl) rfl)
        obtain ⟨s28, _, e28_⟩ := hF.at_ 28 _ rfl
        replace hF := ((hF.now e38_).now e11_).now e28_
        replace hF := hF.keep (.cons (t := 1) rfl (.cons (t := 2) rfl (.cons (t := 6) rfl (.cons (t := 8) rfl (.cons (t := 10) rfl (.cons (t := 11) rfl (.cons (t := 28) rfl (.cons (t := 39) rfl (.nil)))))))))
        obtain ⟨A38, c38, rfl, hle38, _, _⟩ := hw.rd (i := 3) rfl
        refine t_store (i := 4) rfl rfl rfl hF hw rfl (ev rfl) (ev rfl) rfl one_pu Try.sizeOf83 rfl (Nat.le_of_ble_eq_true rfl) rfl fun w1 hw => ?_
        refine t_netL 12 1 (by kernel_rfl) rfl hF ?_
        refine net_cons rfl rfl (n_extract rfl (ev rfl) rfl) ?_
        refine net_nil fun a w1 hF hx => ?_
        replace hw := hw.next hx
        replace hF := hF.keep (.cons (t := 1) rfl (.cons (t := 2) rfl (.cons (t := 6) rfl (.cons (t := 8) rfl (.cons (t := 10) rfl (.cons (t := 11) rfl (.cons (t := 40) rfl (.nil))))))))
        refine t_netL 15 1 (by kernel_rfl) rfl hF ?_
        refine net_cons rfl rfl (n_assign rfl (ev rfl)) ?_
        refine net_nil fun a w1 hF hx => ?_
        replace hw := hw.next hx
        refine wpList_nil ?_
        exact ⟨rfl, A38, c38, b11, hF.keep (.cons (t := 1) rfl (.cons (t := 2) rfl (.cons (t := 6) rfl (.cons (t := 8) rfl (.cons (t := 10) rfl (.cons (t := 11) rfl (.cons (t := 12) rfl (.nil)))))))), hw⟩
      · obtain ⟨s38, h38_, e38_⟩ := hF.at_ 39 _ rfl
        obtain ⟨b11, e11_, l11_, h11_⟩ := hF.at_ 11 _ rfl
        replace hw := hw.addAll hx (nrow h38_ (nblk l11_ h11_ .nil rfl) rfl)
        replace hF := ((hF.now e38_).now e11_)
        replace hF := hF.keep (.cons (t := 1) rfl (.cons (t := 2) rfl (.cons (t := 6) rfl (.cons (t := 8) rfl (.cons (t := 10) rfl (.cons (t := 11) rfl (.cons (t := 39) rfl (.cons (t := 40) rfl (.nil)))))))))
        obtain ⟨A38, c38, rfl, hle38, _, _⟩ := hw.rd (i := 3) rfl
        refine t_store (i := 4) rfl rfl rfl hF hw rfl (ev rfl) (ev rfl) rfl one_pu Try.sizeOf83 rfl (Nat.le_of_ble_eq_true rfl) rfl fun w1 hw => ?_
        refine t_netL 15 1 (by kernel_rfl) rfl hF ?_
        refine net_cons rfl rfl (n_assign rfl (ev rfl)) ?_
        refine net_nil fun a w1 hF hx => ?_
        replace hw := hw.next hx
        refine wpList_nil ?_
        exact ⟨rfl, A38, c38, b11, hF.keep (.cons (t := 1) rfl (.cons (t := 2) rfl (.cons (t := 6) rfl (.cons (t := 8) rfl (.cons (t := 10) rfl (.cons (t := 11) rfl (.cons (t := 12) rfl (.nil)))))))), hw⟩
    rintro a w1 ⟨A38, c38, b11, hF, hw⟩
    try simp only [List.nil_append, List.cons_append, List.set_cons_zero, List.set_cons_succ] at hw
    refine wp_seq ?_
    obtain ⟨_, _, hse_, hle38, hR38, _⟩ := hw.rd (i := 3) rfl
    injection hse_ with hA_ _ hc_
    subst hA_
    subst hc_
    refine wp_seq (reg_seq 7 (hF _ _) (by kernel_rfl) ?_)
    refine net_cons rfl rfl (n_move rfl (ev rfl)) ?_
    refine net_cons rfl rfl (n_bin rfl (ev rfl) evc (r_neq (b := 0))) ?_
    refine net_cons rfl rfl (n_move rfl (ev rfl)) ?_
    refine net_if rfl rfl rfl rfl (fun hc => (n_load rfl (ev rfl) (ldN hw (i := 4) (vs := _) rfl Try.isAgg83 Try.sizeOf83 rfl rfl))) ?_
    refine net_if rfl rfl rfl rfl (fun hc => (n_ret rfl Try.call48 (.cons (evi rfl hc) .nil) (fun _ hx => (check_k hd k _ hle38 (hR38.ext hx))))) ?_
    refine net_if rfl rfl rfl rfl (fun hc => (n_bin rfl (evi rfl hc) evc (r_neq (b := 0)))) ?_
    refine net_cons rfl rfl (n_pick_or rfl (ev rfl) (fun h => (evi rfl h))) ?_
    refine net_nil fun a w1 hF hx => ?_
    replace hw := hw.next hx
    replace hF := hF.keep (.cons (t := 1) rfl (.cons (t := 2) rfl (.cons (t := 6) rfl (.cons (t := 8) rfl (.cons (t := 10) rfl (.cons (t := 11) rfl (.cons (t := 12) rfl (.cons (t := 47) rfl .nil))))))))
    refine wpList_nil ?_
    try simp only [List.nil_append, List.cons_append, List.set_cons_zero, List.set_cons_succ] at hw
    refine wp_cond_false ((hF.ev (ev rfl)).trans (congrArg Value.bool (by simp))) ?_
    refine wp_skip ?_
    refine wp_region_lit ?_
    refine t_net 0 1 (by kernel_rfl) rfl hF ?_
    refine net_cons rfl rfl (n_load rfl (ev rfl) (ldN hw (i := 4) (vs := _) rfl Try.isAgg83 Try.sizeOf83 rfl rfl)) ?_
    refine net_nil fun a w1 hF hx => ?_
    replace hw := hw.next hx
    replace hF := hF.keep (.cons (t := 1) rfl (.cons (t := 2) rfl (.cons (t := 6) rfl (.cons (t := 8) rfl (.cons (t := 10) rfl (.cons (t := 11) rfl (.cons (t := 12) rfl (.cons (t := 47) rfl (.cons (t := 49) rfl .nil)))))))))
    refine t_store (i := 0) rfl rfl rfl hF hw rfl (ev rfl) (ev rfl) rfl one_pu Try.sizeOf83 rfl (Nat.le_of_ble_eq_true rfl) rfl fun w1 hw => ?_
    refine wpList_nil ?_
    try simp only [List.nil_append, List.cons_append, List.set_cons_zero, List.set_cons_succ] at hw
    refine reg_seq 3 (hF _ _) (by kernel_rfl) ?_
    refine net_cons rfl rfl (n_move rfl (ev rfl)) ?_
    refine net_cons rfl rfl (n_bin rfl (ev rfl) evc (r_inc (by omega))) ?_
    refine net_cons rfl rfl (n_assign rfl (ev rfl)) ?_
    refine net_nil fun a w1 hF hx => ?_
    replace hw := hw.next hx
    replace hF := hF.keep (.cons (t := 1) rfl (.cons (t := 2) rfl (.cons (t := 6) rfl (.cons (t := 8) rfl (.cons (t := 10) rfl (.cons (t := 11) rfl (.cons (t := 12) rfl (.cons (t := 47) rfl (.cons (t := 49) rfl .nil)))))))))
    refine wpList_nil ?_
    try simp only [List.nil_append, List.cons_append, List.set_cons_zero, List.set_cons_succ] at hw
    replace hw := hw.drop (.cons_cons _ (.cons_cons _ (.cons _ (.cons_cons _ (.cons _ .slnil)))))
    exact ⟨(i + 1, _), ⟨hF.keep (.cons (t := 1) rfl (.cons (t := 2) rfl (.cons (t := 6) rfl (.cons (t := 8) rfl (.cons (t := 10) rfl (.nil)))))), hw, by omega⟩, (by show n - (i + 1) < n - i; omega)⟩
  · obtain rfl : i = n := by have := of_bool_f h25; omega
    rw [show bs.take i = bs by rw [← hl]; exact List.take_length] at hw
    refine wp_exit (go_then_e (go_then_e (go_exit ?_)))
    refine wp_seq (wp_region_lit ?_)
    refine t_net 0 1 (by kernel_rfl) rfl hF ?_
    refine net_cons rfl rfl (n_load rfl (ev rfl) (ldN hw (i := 0) (vs := _) rfl Try.isAgg83 Try.sizeOf83 rfl rfl)) ?_
    refine net_nil fun a w1 hF hx => ?_
    replace hw := hw.next hx
    replace hF := hF.keep (.cons (t := 1) rfl (.cons (t := 2) rfl (.cons (t := 6) rfl (.cons (t := 8) rfl (.cons (t := 10) rfl (.cons (t := 25) rfl (.cons (t := 50) rfl .nil)))))))
    refine t_store (i := 1) rfl rfl rfl hF hw rfl (ev rfl) (ev rfl) rfl one_pu Try.sizeOf83 rfl (Nat.le_of_ble_eq_true rfl) rfl fun w1 hw => ?_
    refine t_net 2 1 (by kernel_rfl) rfl hF ?_
    refine net_cons rfl rfl (n_assign rfl evc) ?_
    refine net_nil fun a w1 hF hx => ?_
    replace hw := hw.next hx
    replace hF := hF.keep (.cons (t := 1) rfl (.cons (t := 2) rfl (.cons (t := 6) rfl (.cons (t := 7) rfl (.cons (t := 8) rfl (.cons (t := 10) rfl (.cons (t := 25) rfl .nil)))))))
    refine wpList_nil ?_
    try simp only [List.nil_append, List.cons_append, List.set_cons_zero, List.set_cons_succ] at hw
    refine wp_ret (retc2 hF Try.results60 rfl (ldN hw (i := 1) (vs := _) rfl Try.isAgg83 Try.sizeOf83 rfl rfl _ (Ext.refl _)) rfl ?_)
    exact ⟨_, rfl, hw.ext, _, hw.row (i := 2) rfl, rfl⟩

theorem has_c (d : Nat) (hd : d ≤ 6) (n c : Nat) (A : Option Addr) (bs : List Nat) (hl : bs.length = n) (hn : n ≤ 9000) (hb : ∀ b ∈ bs, b < 256) (m : Int) (w : World) (hR : Rd w A (bs.map B8)) : RetF Try.prog 61 [.slice A n c, I (d : Int), I m].toArray w (.is (.bool (hasI d bs m))) := by
  refine enter Try.func61 rfl Try.ntmps61 rfl fun a hF => ?_
  have hw := Own.start w
  refine wp_seq (reg_seq 1 (hF _ _) (by kernel_rfl) ?_)
  refine net_cons rfl rfl (n_assign rfl evc) ?_
  refine net_nil fun a w1 hF hx => ?_
  replace hw := hw.next hx
  replace hF := hF.keep (.cons (t := 0) rfl (.cons (t := 1) rfl (.cons (t := 2) rfl (.cons (t := 6) rfl .nil))))
  refine wpList_nil ?_
  refine wp_seq ?_
  refine wp_seq (reg_seq 1 (hF _ _) (by kernel_rfl) ?_)
  refine net_cons rfl rfl (n_assign rfl evc) ?_
  refine net_nil fun a w1 hF hx => ?_
  replace hw := hw.next hx
  replace hF := hF.keep (.cons (t := 0) rfl (.cons (t := 1) rfl (.cons (t := 2) rfl (.cons (t := 6) rfl (.cons (t := 7) rfl .nil)))))
  refine wpList_nil ?_
  refine wp_block ?_
  refine wp_loop_ix (α := Nat) (fun i a w1 => FrV 24 [] [(0, .is (.slice A n c)) , (1, .is (I (d : Int))) , (2, .is (I m)) , (7, .is (I (i : Int)))] a ∧ Own w w1 [] ∧ (i ≤ n) ∧ (hasI d (bs.take i) m = false)) (fun i => n - i) (0) ⟨hF.keep (.cons (t := 0) rfl (.cons (t := 1) rfl (.cons (t := 2) rfl (.cons (t := 7) rfl (.nil))))), hw, Nat.zero_le _, rfl⟩ ?_
  rintro i a w1 ⟨hF, hw, hi0, hq⟩
  refine wp_seq ?_
  refine wp_seq (reg_seq 4 (hF _ _) (by kernel_rfl) ?_)
  refine net_cons rfl rfl (n_move rfl (ev rfl)) ?_
  refine net_cons rfl rfl (n_move rfl (ev rfl)) ?_
  refine net_cons rfl rfl (n_len rfl (ev rfl) Try.underlying108) ?_
  refine net_cons rfl rfl (n_bin rfl (ev rfl) (ev rfl) r_lssN) ?_
  refine net_nil fun a w1 hF hx => ?_
  replace hw := hw.next hx
  replace hF := hF.keep (.cons (t := 0) rfl (.cons (t := 1) rfl (.cons (t := 2) rfl (.cons (t := 7) rfl (.cons (t := 11) rfl .nil)))))
  refine wpList_nil ?_
  refine wp_cond_split (hF.ev (ev rfl)) (fun h11 => ?_) (fun h11 => ?_)
  · have hi : i < n := of_bool_t h11
    obtain ⟨x, hx0⟩ := some_at hl hi
    have hxb := hb x (List.mem_of_getElem? hx0)
    have hF_ := hF
    have hw_ := hw
    obtain ⟨bX, oX, rfl, hcX⟩ := hR.at_ (by rw [List.length_map]; omega)
    have hF := hF_
    have hw := hw_
    refine wp_skip ?_
    refine wp_seq (wp_block ?_)
    refine wp_seq (reg_draw 10 mixed (by kernel_rfl) (hF _ _) ?_)
    refine net_cons rfl rfl (n_move rfl (ev rfl)) ?_
    refine net_cons rfl rfl (n_move rfl (ev rfl)) ?_
    refine net_cons rfl rfl (n_indexS (off' := oX + (i)) rfl (ev rfl) (ev rfl) Try.underlying108 Try.sizeOf5 (by omega) (by omega)) ?_
    refine net_cons rfl rfl (n_load rfl (ev rfl) (fun w2 hx2 => ld1R hcX (map_at (f := B8) hx0) Try.isAgg5 (by omega) w2 (hw.ext.trans hx2))) ?_
    refine net_cons rfl rfl (n_convT rfl (ev rfl) Try.underlying5 Try.underlying3 (wrap_b hxb)) ?_
    refine net_cons rfl rfl (n_move rfl (ev rfl)) ?_
    refine net_cons rfl rfl (n_bin rfl evc (ev rfl) (sh1n hd)) ?_
    refine net_cons rfl rfl (n_bin rfl (ev rfl) (ev rfl) (rem_n (Nat.two_pow_pos d))) ?_
    refine net_cons rfl rfl (n_move rfl (ev rfl)) ?_
    refine net_cons rfl rfl (n_bin rfl (ev rfl) (ev rfl) r_eql) ?_
    refine net_nil fun a w1 hF hx => ?_
    replace hw := hw.next hx
    replace hF := hF.keep (.cons (t := 0) rfl (.cons (t := 1) rfl (.cons (t := 2) rfl (.cons (t := 7) rfl (.cons (t := 11) rfl (.cons (t := 23) rfl .nil))))))
    refine wpList_nil ?_
    refine wp_cond_split (hF.ev (ev rfl)) (fun h23 => ?_) (fun h23 => ?_)
    · refine wp_seq (reg_seq 1 (hF _ _) (by kernel_rfl) ?_)
      refine net_cons rfl rfl (n_assign rfl evc) ?_
      refine net_nil fun a w1 hF hx => ?_
      replace hw := hw.next hx
      replace hF := hF.keep (.cons (t := 0) rfl (.cons (t := 1) rfl (.cons (t := 2) rfl (.cons (t := 6) rfl (.cons (t := 7) rfl (.cons (t := 11) rfl (.cons (t := 23) rfl .nil)))))))
      refine wpList_nil ?_
      refine wp_ret (go_block_r (go_then_r (go_then_r (go_block_r (go_then_r (ret1 hF Try.results61 rfl ?_))))))
      exact ⟨_, rfl, hw.ext, (by rw [hasI_hit hx0 (of_decide_eq_true h23)]; rfl)⟩
    · refine wp_skip ?_
      refine reg_seq 3 (hF _ _) (by kernel_rfl) ?_
      refine net_cons rfl rfl (n_move rfl (ev rfl)) ?_
      refine net_cons rfl rfl (n_bin rfl (ev rfl) evc (r_inc (by omega))) ?_
      refine net_cons rfl rfl (n_assign rfl (ev rfl)) ?_
      refine net_nil fun a w1 hF hx => ?_
      replace hw := hw.next hx
      replace hF := hF.keep (.cons (t := 0) rfl (.cons (t := 1) rfl (.cons (t := 2) rfl (.cons (t := 7) rfl (.cons (t := 11) rfl (.cons (t := 23) rfl .nil))))))
      refine wpList_nil ?_
      exact ⟨i + 1, ⟨hF.keep (.cons (t := 0) rfl (.cons (t := 1) rfl (.cons (t := 2) rfl (.cons (t := 7) rfl (.nil))))), hw, by omega, hasI_step hq hx0 (of_decide_eq_false h23)⟩, by omega⟩
  · obtain rfl : i = n := by have := of_bool_f h11; omega
    rw [show bs.take i = bs by rw [← hl]; exact List.take_length] at hq
    refine wp_exit (go_then_e (go_then_e (go_exit ?_)))
    refine wp_seq (reg_seq 1 (hF _ _) (by kernel_rfl) ?_)
    refine net_cons rfl rfl (n_assign rfl evc) ?_
    refine net_nil fun a w1 hF hx => ?_
    replace hw := hw.next hx
    replace hF := hF.keep (.cons (t := 0) rfl (.cons (t := 1) rfl (.cons (t := 2) rfl (.cons (t := 6) rfl (.cons (t := 7) rfl (.cons (t := 11) rfl .nil))))))
    refine wpList_nil ?_
    refine wp_ret (ret1 hF Try.results61 rfl ?_)
    exact ⟨_, rfl, hw.ext, (by rw [hq]; rfl)⟩
end Go.Proofs.Ythgpojlcbbgaoaa

