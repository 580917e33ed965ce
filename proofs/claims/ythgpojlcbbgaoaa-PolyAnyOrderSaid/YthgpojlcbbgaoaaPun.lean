/- punctured keys: the program -/
import Derived.Test.YthgpojlcbbgaoaaPunB

set_option autoImplicit false
set_option maxRecDepth 100000
set_option linter.unusedVariables false
namespace Go.Proofs.Ythgpojlcbbgaoaa
open Go.RowKit


theorem retc3 {P : Program} {w : World} {N : Nat} {E : Env} {a : Act} {fn : Func} {R : Ending → World → Prop} {t u s : Tmp} {ty : TypeId} {ad : Addr} {v v' v2 : Value} (hF : FrV N [] E a) (hr : fn.results = #[.cell t ty, .tmp u, .tmp s]) (ht : look E t = some (.is (.pointer (some ad)))) (hl : (loadVar ty ad).run P w = .ok v w)
    (hv' : look E u = some (.is v')) (hv2 : look E s = some (.is v2)) (h : R (.returned (.tuple #[v, v', v2])) w) : bodyPost P fn R .ret a w :=
  bodyPost_ret (v := .tuple #[v, v', v2]) (by
    have h1 : a.tmps.getD t undef = .pointer (some ad) := (hF 0 default).at_ t _ ht
    have h2 : a.tmps.getD u undef = v' := (hF 0 default).at_ u _ hv'
    have h3 : a.tmps.getD s undef = v2 := (hF 0 default).at_ s _ hv2
    simp only [Array.getD_eq_getD_getElem?] at h1 h2 h3
    simp [results, hr, h1, h2, h3, asAddr, hl]) (hF 0 default).defers h
/-- A call of a function of the program that writes into the caller's own blocks. -/
theorem t_callF {P : Program} {w : World} {ops : Array Oper} {rest : List Oper} {o : Oper} {a : Act} {Q : Exit → Act → World → Prop} {f : FuncId} {xs : Array Operand} {ts : Array TypeId} {vs : List Value} {N : Nat} {D : List Deferred} {E : Env} {K : Value → World → Prop}
    (hg : o.guard = none) (ho : o.op = .call { callee := .value (.func f), args := xs, argTypes := ts }) (hF : FrV N D E a)
    (hf : ∀ (args : Array Value) (w : World), (callFunc f args).run P w = .ok (.enter f args) w) (hx : Evs E xs.toList vs) (hd : ∀ d, o.dst = some d → d < N)
    (hc : Calls P f vs.toArray w fun e w' => ∃ v, e = .returned v ∧ K v w') (h : ∀ v a' w', FrV N D (putE E o.dst (.is v)) a' → K v w' → wpList P ops Q rest a' w') : wpList P ops Q (o :: rest) a w := by
  have key : ∀ (l : List Operand) (l' : List Value), Evs E l l' → l.map a.eval = l' := by
    intro l l' hf
    induction hf with
    | nil => rfl
    | cons h _ ih => rw [List.map_cons, ih, hF.ev h]
  have h1 : xs.map a.eval = vs.toArray := by
    apply Array.toList_inj.1
    rw [Array.toList_map]
    exact key _ _ hx
  have h2 : (execOp a.eval o).run P w = .ok (.enter f vs.toArray) w := by
    unfold execOp; rw [ho]; simp only [resolve, h1, Act.eval]
    simp [Deferred.ofValue, invoke, hf]
  refine wpList_plain hg fun K' hK => ?_
  unfold Oper.wp
  rw [h2]
  refine hc.mono fun e w' ⟨v, he, hk⟩ => ?_
  subst he
  exact hK _ _ (h v _ w' (fun B W => (hF B W).put (f := .is v) (Ext.refl W) hd rfl) hk)
theorem r_and1I {P : Program} {t : TypeId} {n : Nat} (h : n < 128) : R2 P .and t (I (n : Int)) (I 1) (I ((n % 2 : Nat) : Int)) := r2_int fun w => by
  have : ∀ n : Fin 128, bits .and .i64 (n.val : Int) 1 = ((n.val % 2 : Nat) : Int) := by decide +kernel
  rw [binOp_and, intBits_and, this ⟨n, h⟩]
  rfl
theorem r_xor1I {P : Program} {t : TypeId} {n : Nat} (h : n < 128) : R2 P .xor t (I (n : Int)) (I 1) (I ((n ^^^ 1 : Nat) : Int)) := r2_int fun w => by
  have : ∀ n : Fin 128, bits .xor .i64 (n.val : Int) 1 = ((n.val ^^^ 1 : Nat) : Int) := by decide +kernel
  rw [binOp_xor, intBits_xor, this ⟨n, h⟩]
  rfl
theorem sh2 {P : Program} {t : TypeId} {d : Nat} (h6 : d ≤ 6) : R2 P .shl t (I 2) (I (d : Int)) (I ((2 ^ (d + 1) : Nat) : Int)) := by
  have h := r_shl (P := P) (t := t) (k := .i64) (k' := .i64) (a := 2) (b := d) (by omega) (by simp [IntKind.bits]; omega)
  have h1 := pow_le128 h6
  rw [Int.toNat_natCast, show (2 : Int) * 2 ^ d = ((2 ^ (d + 1) : Nat) : Int) by rw [Nat.pow_succ, Int.natCast_mul, Int.natCast_pow, Int.mul_comm]; rfl, wrap_i64_nat (by omega)] at h
  exact h
/-- A punctured key. -/
abbrev PuV (d : Int) (v : Value) : Value := .agg [I d, v].toArray
theorem build_83_ (w : World) : (Instr.build 83 #[]).run Try.prog w = .ok (PuV 0 (.slice none 0 0)) w := by
  simp [Instr.build, Try.zeroValue83, Try.runUnderlying83, Array.mapM_eq_mapM_toList, Try.sizeOf3, Try.sizeOf29, Instr.fill, Value.cells]
theorem build_83_0_1 {d : Int} {A : Option Addr} {n c : Nat} (w : World) : (Instr.build 83 #[(0, I d), (1, .slice A n c)]).run Try.prog w = .ok (PuV d (.slice A n c)) w := by
  simp [Instr.build, Try.zeroValue83, Try.runUnderlying83, Array.mapM_eq_mapM_toList, List.mapM_cons, Try.sizeOf3, Try.sizeOf29, Instr.fill, Value.cells]
theorem build_95_0_2 {a : Int} {k : Key} (w : World) : (Instr.build 95 #[(0, I a), (2, K k)]).run Try.prog w = .ok (LabV (a, 0, k)) w := by
  simp only [Instr.build, Sem.run_bind, Try.zeroValue95, Try.runUnderlying95, Result.andThen_ok]
  simp [Array.mapM_eq_mapM_toList, List.mapM_cons, Try.sizeOf3, Try.sizeOf23, Value.cells]
  rw [fill_one (off := 0) (sz := 1) (c := [I a]) rfl rfl rfl (Nat.le_of_ble_eq_true rfl), fill_one (off := 2) (sz := 16) (c := kc k) rfl rfl (kc_len k) (Nat.le_of_ble_eq_true rfl)]
  rfl
theorem one_pu {d : Int} {A : Option Addr} {n c : Nat} : ∀ u ∈ [I d, .slice A n c], u.oneCell' = true := by
  intro u hu
  simp only [List.mem_cons, List.not_mem_nil, or_false] at hu
  rcases hu with rfl | rfl <;> rfl
theorem one_lab (l : Lab) : ∀ u ∈ lc l, u.oneCell' = true := fun u hu => one_lc [l] u (by simpa using hu)
theorem lc_at0 {L : List Lab} {i : Nat} {x : Lab} (h : L[i]? = some x) : (L.flatMap lc)[i * 18]? = some (I x.1) := by
  have h1 : ((L.flatMap lc).drop (i * 18)).take 18 = lc x := fm_at lc_len h
  have : (((L.flatMap lc).drop (i * 18)).take 18)[0]? = some (I x.1) := by rw [h1]; rfl
  rwa [List.getElem?_take, if_pos (by decide), List.getElem?_drop] at this


theorem Len64_c (x : Nat) (hx0 : x < 256) (w : World) : RetF Try.prog 144 [U x].toArray w (.is (I (lenT x : Int))) := by
  have hle := lenT_le hx0
  refine enter Try.func144 rfl Try.ntmps144 rfl fun a hF => ?_
  have hw := Own.start w
  refine wp_seq (reg_seq 1 (hF _ _) (by kernel_rfl) ?_)
  refine net_cons rfl rfl (n_assign rfl evc) ?_
  refine net_nil fun a w1 hF hx => ?_
  replace hw := hw.next hx
  replace hF := hF.keep (.cons (t := 0) rfl (.cons (t := 2) rfl .nil))
  refine wpList_nil ?_
  refine wp_seq ?_
  refine wp_seq (reg_seq 2 (hF _ _) (by kernel_rfl) ?_)
  refine net_cons rfl rfl (n_move rfl (ev rfl)) ?_
  refine net_cons rfl rfl (n_bin rfl (ev rfl) evc (r_geqN (b := 4294967296))) ?_
  refine net_nil fun a w1 hF hx => ?_
  replace hw := hw.next hx
  replace hF := hF.keep (.cons (t := 0) rfl (.cons (t := 2) rfl (.cons (t := 4) rfl .nil)))
  refine wpList_nil ?_
  refine wp_cond_false ((hF.ev (ev rfl)).trans (congrArg Value.bool (by simp; omega))) ?_
  refine wp_skip ?_
  refine wp_seq ?_
  refine wp_seq (reg_seq 2 (hF _ _) (by kernel_rfl) ?_)
  refine net_cons rfl rfl (n_move rfl (ev rfl)) ?_
  refine net_cons rfl rfl (n_bin rfl (ev rfl) evc (r_geqN (b := 65536))) ?_
  refine net_nil fun a w1 hF hx => ?_
  replace hw := hw.next hx
  replace hF := hF.keep (.cons (t := 0) rfl (.cons (t := 2) rfl (.cons (t := 4) rfl (.cons (t := 8) rfl .nil))))
  refine wpList_nil ?_
  refine wp_cond_false ((hF.ev (ev rfl)).trans (congrArg Value.bool (by simp; omega))) ?_
  refine wp_skip ?_
  refine wp_seq ?_
  refine wp_seq (reg_seq 2 (hF _ _) (by kernel_rfl) ?_)
  refine net_cons rfl rfl (n_move rfl (ev rfl)) ?_
  refine net_cons rfl rfl (n_bin rfl (ev rfl) evc (r_geqN (b := 256))) ?_
  refine net_nil fun a w1 hF hx => ?_
  replace hw := hw.next hx
  replace hF := hF.keep (.cons (t := 0) rfl (.cons (t := 2) rfl (.cons (t := 4) rfl (.cons (t := 8) rfl (.cons (t := 14) rfl .nil)))))
  refine wpList_nil ?_
  refine wp_cond_false ((hF.ev (ev rfl)).trans (congrArg Value.bool (by simp; omega))) ?_
  refine wp_skip ?_
  refine wp_seq (reg_seq 7 (hF _ _) (by kernel_rfl) ?_)
  refine net_cons rfl rfl (n_move rfl (ev rfl)) ?_
  refine net_cons rfl rfl (n_move rfl (ev rfl)) ?_
  refine net_cons rfl rfl (n_convT rfl (ev rfl) Try.underlying24 Try.underlying5 (wrap_u8_id (by omega) (by omega))) ?_
  refine net_cons rfl rfl (n_lenAt rfl (ev rfl) Try.underlying9 (by kernel_rfl) hx0) ?_
  refine net_cons rfl rfl (n_convT rfl (ev rfl) Try.underlying5 Try.underlying3 (wrap_i64_nat (by omega))) ?_
  refine net_cons rfl rfl (n_to (v' := I (lenT x : Int)) (n_bin rfl (ev rfl) (ev rfl) (r_addI (by omega) (by omega))) (congrArg (Value.int .i64) (by omega))) ?_
  refine net_cons rfl rfl (n_assign rfl (ev rfl)) ?_
  refine net_nil fun a w1 hF hx => ?_
  replace hw := hw.next hx
  replace hF := hF.keep (.cons (t := 0) rfl (.cons (t := 2) rfl (.cons (t := 4) rfl (.cons (t := 8) rfl (.cons (t := 14) rfl .nil)))))
  refine wpList_nil ?_
  refine wp_ret (ret1 hF Try.results144 rfl ?_)
  exact ⟨_, rfl, hw.ext, rfl⟩

theorem Len_c (x : Nat) (hx0 : x < 256) (w : World) : RetF Try.prog 115 [U x].toArray w (.is (I (lenT x : Int))) := by
  refine enter Try.func115 rfl Try.ntmps115 rfl fun a hF => ?_
  have hw := Own.start w
  refine wp_seq (reg_seq 1 (hF _ _) (by kernel_rfl) ?_)
  refine net_cons rfl rfl (n_assign rfl evc) ?_
  refine net_nil fun a w1 hF hx => ?_
  replace hw := hw.next hx
  replace hF := hF.keep (.cons (t := 0) rfl (.cons (t := 2) rfl .nil))
  refine wpList_nil ?_
  refine wp_seq ?_
  refine wp_cond_false (hF.ev evc) ?_
  refine wp_skip ?_
  refine wp_seq (reg_seq 3 (hF _ _) (by kernel_rfl) ?_)
  refine net_cons rfl rfl (n_move rfl (ev rfl)) ?_
  refine net_cons rfl rfl (n_ret rfl Try.call144 (.cons (ev rfl) .nil) (fun _ hx => (Len64_c x hx0 _))) ?_
  refine net_cons rfl rfl (n_assign rfl (ev rfl)) ?_
  refine net_nil fun a w1 hF hx => ?_
  replace hw := hw.next hx
  replace hF := hF.keep (.cons (t := 0) rfl (.cons (t := 2) rfl .nil))
  refine wpList_nil ?_
  refine wp_ret (ret1 hF Try.results115 rfl ?_)
  exact ⟨_, rfl, hw.ext, rfl⟩


theorem shr_nat {x a b : Nat} (h : (0 : Int) ≤ (a : Int) - (b : Int)) : (x : Int) / 2 ^ (((a : Int) - (b : Int)).toNat) = ((x / 2 ^ (a - b) : Nat) : Int) := by
  rw [show ((a : Int) - (b : Int)).toNat = a - b by omega]
  simp
theorem below_fin {B : Nat} {w : World} {x v : Nat} (hx : x < 128) (hv : v < 128) (hv1 : 1 ≤ v) : (Fact.is (.bool (belowN x v))).ok B (.bool (decide ((0 : Int) ≤ (lenT x : Int) - (lenT v : Int)) && decide (((x / 2 ^ (lenT x - lenT v) : Nat) : Int) = (v : Int)))) w := by
  show Value.bool _ = Value.bool _
  rw [← belT_eq hx hv hv1, belT]
  congr 2
  · rw [decide_eq_decide]; omega
  · rw [decide_eq_decide]; omega


theorem below_n (x v : Nat) (hx0 : x < 128) (hv0 : v < 128) (hv1 : 1 ≤ v) (w : World) : RetF Try.prog 103 [I (x : Int), I (v : Int)].toArray w (.is (.bool (belowN x v))) := by
  have hle := lenT_le (x := x) (by omega)
  have hle2 := lenT_le (x := v) (by omega)
  refine enter Try.func103 rfl Try.ntmps103 rfl fun a hF => ?_
  have hw := Own.start w
  refine wp_seq (reg_seq 1 (hF _ _) (by kernel_rfl) ?_)
  refine net_cons rfl rfl (n_assign rfl evc) ?_
  refine net_nil fun a w1 hF hx => ?_
  replace hw := hw.next hx
  replace hF := hF.keep (.cons (t := 0) rfl (.cons (t := 1) rfl (.cons (t := 4) rfl .nil)))
  refine wpList_nil ?_
  refine wp_seq (reg_seq 8 (hF _ _) (by kernel_rfl) ?_)
  refine net_cons rfl rfl (n_move rfl (ev rfl)) ?_
  refine net_cons rfl rfl (n_convT rfl (ev rfl) Try.underlying3 Try.underlying172 (wrap_u64_nat (by omega))) ?_
  refine net_cons rfl rfl (n_ret rfl Try.call115 (.cons (ev rfl) .nil) (fun _ hx => (Len_c x (by omega) _))) ?_
  refine net_cons rfl rfl (n_move rfl (ev rfl)) ?_
  refine net_cons rfl rfl (n_convT rfl (ev rfl) Try.underlying3 Try.underlying172 (wrap_u64_nat (by omega))) ?_
  refine net_cons rfl rfl (n_ret rfl Try.call115 (.cons (ev rfl) .nil) (fun _ hx => (Len_c v (by omega) _))) ?_
  refine net_cons rfl rfl (n_bin rfl (ev rfl) (ev rfl) (r_subI (by omega) (by omega))) ?_
  refine net_cons rfl rfl (n_assign rfl (ev rfl)) ?_
  refine net_nil fun a w1 hF hx => ?_
  replace hw := hw.next hx
  replace hF := hF.keep (.cons (t := 0) rfl (.cons (t := 1) rfl (.cons (t := 4) rfl (.cons (t := 5) rfl .nil))))
  refine wpList_nil ?_
  refine wp_seq (reg_seq 10 (hF _ _) (by kernel_rfl) ?_)
  refine net_cons rfl rfl (n_move rfl (ev rfl)) ?_
  refine net_cons rfl rfl (n_bin rfl (ev rfl) evc (r_geq (b := 0))) ?_
  refine net_cons rfl rfl (n_move rfl (ev rfl)) ?_
  refine net_if rfl rfl rfl rfl (fun hc => (n_move rfl (ev rfl))) ?_
  refine net_if rfl rfl rfl rfl (fun hc => (n_move rfl (ev rfl))) ?_
  refine net_if rfl rfl rfl rfl (fun hc => (n_to (v' := I ((x / 2 ^ (lenT x - lenT v) : Nat) : Int)) (n_bin rfl (evi rfl hc) (evi rfl hc) (r_shr (by have := of_decide_eq_true hc; omega) (by simp [IntKind.bits]; omega))) (congrArg (Value.int .i64) (shr_nat (of_decide_eq_true hc))))) ?_
  refine net_if rfl rfl rfl rfl (fun hc => (n_move rfl (ev rfl))) ?_
  refine net_if rfl rfl rfl rfl (fun hc => (n_bin rfl (evi rfl hc) (evi rfl hc) r_eql)) ?_
  refine net_cons rfl rfl (n_pick_and rfl (ev rfl) (fun h => (evi rfl h))) ?_
  refine net_cons rfl rfl (n_assign rfl (ev rfl)) ?_
  refine net_nil fun a w1 hF hx => ?_
  replace hw := hw.next hx
  replace hF := hF.keep (.cons (t := 0) rfl (.cons (t := 1) rfl (.cons (t := 4) rfl .nil)))
  refine wpList_nil ?_
  refine wp_ret (ret1 hF Try.results103 rfl ?_)
  exact ⟨_, rfl, hw.ext, (below_fin hx0 hv0 hv1)⟩


theorem below_c (x v : Int) (hx0 : 0 ≤ x) (hx1 : x < 128) (hv1 : 1 ≤ v) (hv0 : v < 128) (w : World) : RetF Try.prog 103 [I x, I v].toArray w (.is (.bool (bel x v))) := by
  obtain ⟨a, rfl⟩ := Int.eq_ofNat_of_zero_le hx0
  obtain ⟨b, rfl⟩ := Int.eq_ofNat_of_zero_le (show 0 ≤ v by omega)
  have := below_n a b (by omega) (by omega) (by omega) w
  simpa [bel] using this


theorem IndexFuncL_c (g : Nat) (cap : List Value) (pf : Int × Int × Key → Bool) (n c : Nat) (A : Option Addr) (l : List (Int × Int × Key)) (hl : l.length = n) (hn : n ≤ 9223372036854775800) (eg : ∀ (args : Array Value) (w : World), (callFunc g args).run Try.prog w = .ok (.enter g args) w) (w : World) (hR : Rd w A (l.flatMap lc)) (hcl : ∀ w2, Ext w w2 → ∀ x ∈ l, RetF Try.prog g ([LabV x] ++ cap).toArray w2 (.is (.bool (pf x)))) : RetF Try.prog 139 [.slice A n c, .func (.func g) #[] cap.toArray].toArray w (.is (I (idxF pf l))) := by
  refine enter Try.func139 rfl Try.ntmps139 rfl fun a hF => ?_
  have hw := Own.start w
  refine wp_seq (reg_seq 1 (hF _ _) (by kernel_rfl) ?_)
  refine net_cons rfl rfl (n_assign rfl evc) ?_
  refine net_nil fun a w1 hF hx => ?_
  replace hw := hw.next hx
  replace hF := hF.keep (.cons (t := 0) rfl (.cons (t := 1) rfl (.cons (t := 4) rfl .nil)))
  refine wpList_nil ?_
  refine wp_seq ?_
  refine wp_seq (reg_seq 3 (hF _ _) (by kernel_rfl) ?_)
  refine net_cons rfl rfl (n_move rfl (ev rfl)) ?_
  refine net_cons rfl rfl (n_len rfl (ev rfl) Try.underlying29) ?_
  refine net_cons rfl rfl (n_move rfl evc) ?_
  refine net_nil fun a w1 hF hx => ?_
  replace hw := hw.next hx
  replace hF := hF.keep (.cons (t := 0) rfl (.cons (t := 1) rfl (.cons (t := 4) rfl (.cons (t := 7) rfl (.cons (t := 8) rfl .nil)))))
  refine wpList_nil ?_
  refine wp_block ?_
  refine wp_loop_ix (α := Nat) (fun i a w1 => FrV 19 [] [(0, .is (.slice A n c)) , (1, .is (.func (.func g) #[] cap.toArray)) , (7, .is (I (n : Int))) , (8, .is (I (i : Int)))] a ∧ Own w w1 [] ∧ (i ≤ n) ∧ (∀ j y, j < i → l[j]? = some y → pf y = false)) (fun i => n - i) (0) ⟨hF.keep (.cons (t := 0) rfl (.cons (t := 1) rfl (.cons (t := 7) rfl (.cons (t := 8) rfl (.nil))))), hw, by omega, fun j y h => by omega⟩ ?_
  rintro i a w1 ⟨hF, hw, hi0, hbad⟩
  refine wp_seq (reg_seq 1 (hF _ _) (by kernel_rfl) ?_)
  refine net_cons rfl rfl (n_bin rfl (ev rfl) (ev rfl) r_lssN) ?_
  refine net_nil fun a w1 hF hx => ?_
  replace hw := hw.next hx
  replace hF := hF.keep (.cons (t := 0) rfl (.cons (t := 1) rfl (.cons (t := 7) rfl (.cons (t := 8) rfl (.cons (t := 9) rfl .nil)))))
  refine wpList_nil ?_
  refine wp_seq ?_
  refine wp_cond_split (hF.ev (ev rfl)) (fun h9 => ?_) (fun h9 => ?_)
  · have hi : i < n := of_bool_t h9
    obtain ⟨x, hx0⟩ := some_at hl hi
    have hF_ := hF
    have hw_ := hw
    obtain ⟨bX, oX, rfl, hcX⟩ := hR.at_ (by rw [fm_len lc_len]; omega)
    have hF := hF_
    have hw := hw_
    refine wp_skip ?_
    refine wp_seq (wp_block ?_)
    refine wp_seq (reg_seq 2 (hF _ _) (by kernel_rfl) ?_)
    refine net_cons rfl rfl (n_move rfl (ev rfl)) ?_
    refine net_cons rfl rfl (n_assign rfl (ev rfl)) ?_
    refine net_nil fun a w1 hF hx => ?_
    replace hw := hw.next hx
    replace hF := hF.keep (.cons (t := 0) rfl (.cons (t := 1) rfl (.cons (t := 5) rfl (.cons (t := 7) rfl (.cons (t := 8) rfl (.cons (t := 9) rfl .nil))))))
    refine wpList_nil ?_
    refine wp_seq (reg_seq 6 (hF _ _) (by kernel_rfl) ?_)
    refine net_cons rfl rfl (n_move rfl (ev rfl)) ?_
    refine net_cons rfl rfl (n_move rfl (ev rfl)) ?_
    refine net_cons rfl rfl (n_move rfl (ev rfl)) ?_
    refine net_cons rfl rfl (n_indexS (off' := oX + (i) * 18) rfl (ev rfl) (ev rfl) Try.underlying29 Try.sizeOf95 (by omega) rfl) ?_
    refine net_cons rfl rfl (n_load rfl (ev rfl) (fun w2 hx2 => ldNR hcX (fm_at lc_len hx0) (lc_len _) Try.isAgg95 Try.sizeOf95 (by omega) w2 (hw.ext.trans hx2))) ?_
    refine net_cons rfl rfl (n_retv rfl (ev rfl) eg (.cons (ev rfl) .nil) (fun w2 hx => hcl w2 (hw.ext.trans hx) x (List.mem_of_getElem? hx0))) ?_
    refine net_nil fun a w1 hF hx => ?_
    replace hw := hw.next hx
    replace hF := hF.keep (.cons (t := 0) rfl (.cons (t := 1) rfl (.cons (t := 5) rfl (.cons (t := 7) rfl (.cons (t := 8) rfl (.cons (t := 9) rfl (.cons (t := 16) rfl .nil)))))))
    refine wpList_nil ?_
    refine wp_cond_split (hF.ev (ev rfl)) (fun h16 => ?_) (fun h16 => ?_)
    · have hz := idxF_hit hbad hx0 h16
      refine wp_seq (reg_seq 2 (hF _ _) (by kernel_rfl) ?_)
      refine net_cons rfl rfl (n_move rfl (ev rfl)) ?_
      refine net_cons rfl rfl (n_assign rfl (ev rfl)) ?_
      refine net_nil fun a w1 hF hx => ?_
      replace hw := hw.next hx
      replace hF := hF.keep (.cons (t := 0) rfl (.cons (t := 1) rfl (.cons (t := 4) rfl (.cons (t := 5) rfl (.cons (t := 7) rfl (.cons (t := 8) rfl (.cons (t := 9) rfl (.cons (t := 16) rfl .nil))))))))
      refine wpList_nil ?_
      refine wp_ret (go_block_r (go_then_r (go_then_r (go_block_r (go_then_r (ret1 hF Try.results139 rfl ?_))))))
      exact ⟨_, rfl, hw.ext, (by rw [hz]; rfl)⟩
    · refine wp_skip ?_
      refine reg_seq 2 (hF _ _) (by kernel_rfl) ?_
      refine net_cons rfl rfl (n_bin rfl (ev rfl) evc (r_inc (by omega))) ?_
      refine net_cons rfl rfl (n_move rfl (ev rfl)) ?_
      refine net_nil fun a w1 hF hx => ?_
      replace hw := hw.next hx
      replace hF := hF.keep (.cons (t := 0) rfl (.cons (t := 1) rfl (.cons (t := 5) rfl (.cons (t := 7) rfl (.cons (t := 8) rfl (.cons (t := 9) rfl (.cons (t := 16) rfl .nil)))))))
      refine wpList_nil ?_
      exact ⟨i + 1, ⟨hF.keep (.cons (t := 0) rfl (.cons (t := 1) rfl (.cons (t := 7) rfl (.cons (t := 8) rfl (.nil))))), hw, by omega, up_ff hbad hx0 h16⟩, by omega⟩
  · obtain rfl : i = n := by have := of_bool_f h9; omega
    have hz := idxF_none hl hbad
    refine wp_exit (go_then_e (go_then_e (go_exit ?_)))
    refine wp_seq (reg_seq 1 (hF _ _) (by kernel_rfl) ?_)
    refine net_cons rfl rfl (n_assign rfl evc) ?_
    refine net_nil fun a w1 hF hx => ?_
    replace hw := hw.next hx
    replace hF := hF.keep (.cons (t := 0) rfl (.cons (t := 1) rfl (.cons (t := 4) rfl (.cons (t := 7) rfl (.cons (t := 8) rfl (.cons (t := 9) rfl .nil))))))
    refine wpList_nil ?_
    refine wp_ret (ret1 hF Try.results139 rfl ?_)
    exact ⟨_, rfl, hw.ext, (by rw [hz]; rfl)⟩

theorem ContainsFuncL_c (g : Nat) (cap : List Value) (pf : Int × Int × Key → Bool) (n c : Nat) (A : Option Addr) (l : List (Int × Int × Key)) (hl : l.length = n) (hn : n ≤ 9223372036854775800) (eg : ∀ (args : Array Value) (w : World), (callFunc g args).run Try.prog w = .ok (.enter g args) w) (w : World) (hR : Rd w A (l.flatMap lc)) (hcl : ∀ w2, Ext w w2 → ∀ x ∈ l, RetF Try.prog g ([LabV x] ++ cap).toArray w2 (.is (.bool (pf x)))) : RetF Try.prog 101 [.slice A n c, .func (.func g) #[] cap.toArray].toArray w (.is (.bool (l.any pf))) := by
  refine enter Try.func101 rfl Try.ntmps101 rfl fun a hF => ?_
  have hw := Own.start w
  refine wp_seq (reg_seq 1 (hF _ _) (by kernel_rfl) ?_)
  refine net_cons rfl rfl (n_assign rfl evc) ?_
  refine net_nil fun a w1 hF hx => ?_
  replace hw := hw.next hx
  replace hF := hF.keep (.cons (t := 0) rfl (.cons (t := 1) rfl (.cons (t := 4) rfl .nil)))
  refine wpList_nil ?_
  refine wp_seq (reg_seq 5 (hF _ _) (by kernel_rfl) ?_)
  refine net_cons rfl rfl (n_move rfl (ev rfl)) ?_
  refine net_cons rfl rfl (n_move rfl (ev rfl)) ?_
  refine net_cons rfl rfl (n_ret rfl Try.call139 (.cons (ev rfl) (.cons (ev rfl) .nil)) (fun _ hx => (IndexFuncL_c g cap pf n c A l hl hn eg _ (hR.ext (hw.ext.trans hx)) (fun w2 hx2 => hcl w2 ((hw.ext.trans hx).trans hx2))))) ?_
  refine net_cons rfl rfl (n_to (n_bin rfl (ev rfl) evc (r_geq (b := 0))) (congrArg Value.bool (idxF_ge pf l))) ?_
  refine net_cons rfl rfl (n_assign rfl (ev rfl)) ?_
  refine net_nil fun a w1 hF hx => ?_
  replace hw := hw.next hx
  replace hF := hF.keep (.cons (t := 4) rfl .nil)
  refine wpList_nil ?_
  refine wp_ret (ret1 hF Try.results101 rfl ?_)
  exact ⟨_, rfl, hw.ext, rfl⟩

theorem check1_c (y x : Lab) (b : Nat) (hy0 : 1 ≤ y.1) (hy1 : y.1 < 128) (hx0 : 1 ≤ x.1) (hx1 : x.1 < 128) (w : World) (hb : w.heap[b]? = some (.cells (lc x).toArray 95 (0, 0))) : RetF Try.prog 102 [LabV y, ptr0 b].toArray w (.is (.bool (bel x.1 y.1))) := by
  refine enter Try.func102 rfl Try.ntmps102 rfl fun a hF => ?_
  have hw := Own.start w
  refine wp_seq (wp_region_lit ?_)
  refine t_net 0 1 (by kernel_rfl) rfl hF ?_
  refine net_cons rfl rfl (n_box rfl (ev rfl) rfl) ?_
  refine net_nil fun a w1 hF hx => ?_
  obtain ⟨b2, h_, hw⟩ := hw.blk hx (hF.at_ 2 _ rfl)
  replace hF := hF.now h_
  replace hF := hF.keep (.cons (t := 1) rfl (.cons (t := 2) rfl .nil))
  refine t_net 1 1 (by kernel_rfl) rfl hF ?_
  refine net_cons rfl rfl (n_assign rfl evc) ?_
  refine net_nil fun a w1 hF hx => ?_
  replace hw := hw.next hx
  replace hF := hF.keep (.cons (t := 1) rfl (.cons (t := 2) rfl (.cons (t := 3) rfl .nil)))
  refine wpList_nil ?_
  refine wp_seq (reg_seq 6 (hF _ _) (by kernel_rfl) ?_)
  refine net_cons rfl rfl (n_fieldAddrO (off' := 0) rfl (ev rfl) Try.runUnderlying95 rfl Try.sizeOf3 rfl) ?_
  refine net_cons rfl rfl (n_load rfl (ev rfl) (fun w2 hx2 => ldH1 hb Try.isAgg3 rfl w2 (hw.ext.trans hx2))) ?_
  refine net_cons rfl rfl (n_fieldAddrO (off' := 0) rfl (ev rfl) Try.runUnderlying95 rfl Try.sizeOf3 rfl) ?_
  refine net_cons rfl rfl (n_load rfl (ev rfl) (ld1 hw (i := 0) rfl Try.isAgg3 rfl)) ?_
  refine net_cons rfl rfl (n_ret rfl Try.call103 (.cons (ev rfl) (.cons (ev rfl) .nil)) (fun _ hx => (below_c x.1 y.1 (by omega) hx1 hy0 hy1 _))) ?_
  refine net_cons rfl rfl (n_assign rfl (ev rfl)) ?_
  refine net_nil fun a w1 hF hx => ?_
  replace hw := hw.next hx
  replace hF := hF.keep (.cons (t := 3) rfl .nil)
  refine wpList_nil ?_
  refine wp_ret (ret1 hF Try.results102 rfl ?_)
  exact ⟨_, rfl, hw.ext, rfl⟩

theorem find1_c (y : Lab) (l : Int) (b : Nat) (hy0 : 1 ≤ y.1) (hy1 : y.1 < 128) (hx0 : 0 ≤ l) (hx1 : l < 128) (w : World) (hb : w.heap[b]? = some (.cells [I l].toArray 3 (0, 0))) : RetF Try.prog 140 [LabV y, ptr0 b].toArray w (.is (.bool (bel l y.1))) := by
  refine enter Try.func140 rfl Try.ntmps140 rfl fun a hF => ?_
  have hw := Own.start w
  refine wp_seq (wp_region_lit ?_)
  refine t_net 0 1 (by kernel_rfl) rfl hF ?_
  refine net_cons rfl rfl (n_box rfl (ev rfl) rfl) ?_
  refine net_nil fun a w1 hF hx => ?_
  obtain ⟨b2, h_, hw⟩ := hw.blk hx (hF.at_ 2 _ rfl)
  replace hF := hF.now h_
  replace hF := hF.keep (.cons (t := 1) rfl (.cons (t := 2) rfl .nil))
  refine t_net 1 1 (by kernel_rfl) rfl hF ?_
  refine net_cons rfl rfl (n_assign rfl evc) ?_
  refine net_nil fun a w1 hF hx => ?_
  replace hw := hw.next hx
  replace hF := hF.keep (.cons (t := 1) rfl (.cons (t := 2) rfl (.cons (t := 3) rfl .nil)))
  refine wpList_nil ?_
  refine wp_seq (reg_seq 5 (hF _ _) (by kernel_rfl) ?_)
  refine net_cons rfl rfl (n_load rfl (ev rfl) (fun w2 hx2 => ldH1 hb Try.isAgg3 rfl w2 (hw.ext.trans hx2))) ?_
  refine net_cons rfl rfl (n_fieldAddrO (off' := 0) rfl (ev rfl) Try.runUnderlying95 rfl Try.sizeOf3 rfl) ?_
  refine net_cons rfl rfl (n_load rfl (ev rfl) (ld1 hw (i := 0) rfl Try.isAgg3 rfl)) ?_
  refine net_cons rfl rfl (n_ret rfl Try.call103 (.cons (ev rfl) (.cons (ev rfl) .nil)) (fun _ hx => (below_c l y.1 hx0 hx1 hy0 hy1 _))) ?_
  refine net_cons rfl rfl (n_assign rfl (ev rfl)) ?_
  refine net_nil fun a w1 hF hx => ?_
  replace hw := hw.next hx
  replace hF := hF.keep (.cons (t := 3) rfl .nil)
  refine wpList_nil ?_
  refine wp_ret (ret1 hF Try.results140 rfl ?_)
  exact ⟨_, rfl, hw.ext, rfl⟩


theorem gd_range {d i : Nat} {L : List Lab} (hd : d ≤ 6) {x : Lab} (h : gdL d L i x = true) : 1 ≤ x.1 ∧ x.1 < 128 ∧ x.2.1 = 0 := by
  obtain ⟨h1, h2, h3⟩ := nodeOk_iff.1 (gdL_node h)
  have := pow_le128 hd
  omega
theorem ok_range {d i : Nat} {L : List Lab} (hd : d ≤ 6) (h : okPN d L = true) {x : Lab} (hx : L[i]? = some x) : 1 ≤ x.1 ∧ x.1 < 128 ∧ x.2.1 = 0 := gd_range hd (okPN_at h hx)
theorem nk_range {d : Nat} (hd : d ≤ 6) {x : Lab} (h : nodeOk d x = true) : 1 ≤ x.1 ∧ x.1 < 128 ∧ x.2.1 = 0 := by
  obtain ⟨h1, h2, h3⟩ := nodeOk_iff.1 h
  have := pow_le128 hd
  omega
theorem gd_before {d i n : Nat} {L : List Lab} (hd : d ≤ 6) (hl : L.length = n) (hi : i < n) (hb : ∀ j y, j < i → L[j]? = some y → gdL d L j y = true) : ∀ y ∈ L.take i, 1 ≤ y.1 ∧ y.1 < 128 := by
  intro y hy
  obtain ⟨j, hj, rfl⟩ := List.mem_iff_getElem.1 hy
  rw [List.length_take] at hj
  rw [List.getElem_take]
  have := gd_range hd (hb j _ (by omega) (List.getElem?_eq_getElem (by omega)))
  exact ⟨this.1, this.2.1⟩


theorem CheckP_c (d : Int) (n c : Nat) (A : Option Addr) (L : List Lab) (hl : L.length = n) (hcp : n ≤ c) (hn : n ≤ 9223372036854775800) (w : World) (hR : Rd w A (L.flatMap lc)) : RetF Try.prog 48 [PuV d (.slice A n c)].toArray w (.is (I (if okPN d L then 0 else 8))) := by
  refine enter Try.func48 rfl Try.ntmps48 rfl fun a hF => ?_
  have hw := Own.start w
  refine wp_seq (wp_region_lit ?_)
  refine t_net 0 1 (by kernel_rfl) rfl hF ?_
  refine net_cons rfl rfl (n_box rfl (ev rfl) rfl) ?_
  refine net_nil fun a w1 hF hx => ?_
  obtain ⟨b1, h_, hw⟩ := hw.blk hx (hF.at_ 1 _ rfl)
  replace hF := hF.now h_
  replace hF := hF.keep (.cons (t := 1) rfl .nil)
  refine t_net 1 1 (by kernel_rfl) rfl hF ?_
  refine net_cons rfl rfl (n_assign rfl evc) ?_
  refine net_nil fun a w1 hF hx => ?_
  replace hw := hw.next hx
  replace hF := hF.keep (.cons (t := 1) rfl (.cons (t := 2) rfl .nil))
  refine wpList_nil ?_
  refine wp_seq ?_
  refine wp_seq (reg_seq 8 (hF _ _) (by kernel_rfl) ?_)
  refine net_cons rfl rfl (n_fieldAddrO (off' := 0) rfl (ev rfl) Try.runUnderlying83 rfl Try.sizeOf3 rfl) ?_
  refine net_cons rfl rfl (n_load rfl (ev rfl) (ld1 hw (i := 0) rfl Try.isAgg3 rfl)) ?_
  refine net_cons rfl rfl (n_bin rfl (ev rfl) evc (r_lss (b := 0))) ?_
  refine net_cons rfl rfl (n_move rfl (ev rfl)) ?_
  refine net_if rfl rfl rfl rfl (fun hc => (n_fieldAddrO (off' := 0) rfl (ev rfl) Try.runUnderlying83 rfl Try.sizeOf3 rfl)) ?_
  refine net_if rfl rfl rfl rfl (fun hc => (n_load rfl (evi rfl hc) (ld1 hw (i := 0) rfl Try.isAgg3 rfl))) ?_
  refine net_if rfl rfl rfl rfl (fun hc => (n_bin rfl (evi rfl hc) evc (r_gtr (b := 6)))) ?_
  refine net_cons rfl rfl (n_pick_or rfl (ev rfl) (fun h => (evi rfl h))) ?_
  refine net_nil fun a w1 hF hx => ?_
  replace hw := hw.next hx
  replace hF := hF.keep (.cons (t := 1) rfl (.cons (t := 2) rfl (.cons (t := 12) rfl .nil)))
  refine wpList_nil ?_
  refine wp_cond_split (hF.ev (ev rfl)) (fun h12 => ?_) (fun h12 => ?_)
  · have hz := okPN_d (L := L) h12
    refine wp_seq (reg_seq 1 (hF _ _) (by kernel_rfl) ?_)
    refine net_cons rfl rfl (n_assign rfl evc) ?_
    refine net_nil fun a w1 hF hx => ?_
    replace hw := hw.next hx
    replace hF := hF.keep (.cons (t := 1) rfl (.cons (t := 2) rfl (.cons (t := 12) rfl .nil)))
    refine wpList_nil ?_
    refine wp_ret (go_then_r (ret1 hF Try.results48 rfl ?_))
    exact ⟨_, rfl, hw.ext, (by rw [hz]; rfl)⟩
  · obtain ⟨hd0, hd6⟩ := or_f h12
    obtain ⟨dn, rfl⟩ := Int.eq_ofNat_of_zero_le (show 0 ≤ d by omega)
    refine wp_skip ?_
    refine wp_seq ?_
    refine wp_seq (reg_seq 4 (hF _ _) (by kernel_rfl) ?_)
    refine net_cons rfl rfl (n_fieldAddrO (off' := 1) rfl (ev rfl) Try.runUnderlying83 rfl Try.sizeOf29 rfl) ?_
    refine net_cons rfl rfl (n_load rfl (ev rfl) (ld1 hw (i := 0) rfl Try.isAgg29 rfl)) ?_
    refine net_cons rfl rfl (n_len rfl (ev rfl) Try.underlying29) ?_
    refine net_cons rfl rfl (n_move rfl evc) ?_
    refine net_nil fun a w1 hF hx => ?_
    replace hw := hw.next hx
    replace hF := hF.keep (.cons (t := 1) rfl (.cons (t := 2) rfl (.cons (t := 12) rfl (.cons (t := 14) rfl (.cons (t := 15) rfl (.cons (t := 16) rfl .nil))))))
    refine wpList_nil ?_
    refine wp_block ?_
    refine wp_loop_ix (α := Nat) (fun i a w1 => FrV 60 [] [(1, .is (ptr0 b1)) , (14, .is (.slice A n c)) , (15, .is (I (n : Int))) , (16, .is (I (i : Int)))] a ∧ Own w w1 [.blk b1 83 [I (dn : Int), .slice A n c]] ∧ (i ≤ n) ∧ (∀ j y, j < i → L[j]? = some y → gdL dn L j y = true)) (fun i => n - i) (0) ⟨hF.keep (.cons (t := 1) rfl (.cons (t := 14) rfl (.cons (t := 15) rfl (.cons (t := 16) rfl (.nil))))), hw, by omega, fun j y h => by omega⟩ ?_
    rintro i a w1 ⟨hF, hw, hi0, hb⟩
    refine wp_seq (reg_seq 1 (hF _ _) (by kernel_rfl) ?_)
    refine net_cons rfl rfl (n_bin rfl (ev rfl) (ev rfl) r_lssN) ?_
    refine net_nil fun a w1 hF hx => ?_
    replace hw := hw.next hx
    replace hF := hF.keep (.cons (t := 1) rfl (.cons (t := 14) rfl (.cons (t := 15) rfl (.cons (t := 16) rfl (.cons (t := 17) rfl .nil)))))
    refine wpList_nil ?_
    refine wp_seq ?_
    refine wp_cond_split (hF.ev (ev rfl)) (fun h17 => ?_) (fun h17 => ?_)
    · have hi : i < n := of_bool_t h17
      obtain ⟨x, hx0⟩ := some_at hl hi
      obtain ⟨y, hy0⟩ := some_at hl (show i - 1 < n by omega)
      have hF_ := hF
      have hw_ := hw
      obtain ⟨bX, oX, rfl, hcX⟩ := hR.at_ (by rw [fm_len lc_len]; omega)
      have hF := hF_
      have hw := hw_
      refine wp_skip ?_
      refine wp_seq (wp_block ?_)
      refine wp_seq (wp_region_lit ?_)
      refine t_net 0 4 (by kernel_rfl) rfl hF ?_
      refine net_cons rfl rfl (n_move rfl (ev rfl)) ?_
      refine net_cons rfl rfl (n_indexS (off' := oX + (i) * 18) rfl (ev rfl) (ev rfl) Try.underlying29 Try.sizeOf95 (by omega) rfl) ?_
      refine net_cons rfl rfl (n_load rfl (ev rfl) (fun w2 hx2 => ldNR hcX (fm_at lc_len hx0) (lc_len _) Try.isAgg95 Try.sizeOf95 (by omega) w2 (hw.ext.trans hx2))) ?_
      refine net_cons rfl rfl (n_alloc rfl Try.zeroValue95 rfl) ?_
      refine net_nil fun a w1 hF hx => ?_
      obtain ⟨b4, h_, hw⟩ := hw.blk hx (hF.at_ 4 _ rfl)
      replace hF := hF.now h_
      replace hF := hF.keep (.cons (t := 1) rfl (.cons (t := 4) rfl (.cons (t := 14) rfl (.cons (t := 15) rfl (.cons (t := 16) rfl (.cons (t := 17) rfl (.cons (t := 18) rfl (.cons (t := 20) rfl .nil))))))))
      refine t_net 4 1 (by kernel_rfl) rfl hF ?_
      refine net_cons rfl rfl (n_assign rfl (ev rfl)) ?_
      refine net_nil fun a w1 hF hx => ?_
      replace hw := hw.next hx
      replace hF := hF.keep (.cons (t := 1) rfl (.cons (t := 3) rfl (.cons (t := 4) rfl (.cons (t := 14) rfl (.cons (t := 15) rfl (.cons (t := 16) rfl (.cons (t := 17) rfl (.cons (t := 20) rfl .nil))))))))
      refine t_store (i := 1) rfl rfl rfl hF hw rfl (ev rfl) (ev rfl) rfl (one_lab _) Try.sizeOf95 (lc_len _) (by first | decide | (rw [lc_len]; decide)) (seg_whole (by rw [lc_len] <;> rfl)) fun w1 hw => ?_
      refine wpList_nil ?_
      refine wp_seq ?_
      refine wp_seq (reg_draw 32 mixed (by kernel_rfl) (hF _ _) ?_)
      refine net_cons rfl rfl (n_fieldAddrO (off' := 1) rfl (ev rfl) Try.runUnderlying95 rfl Try.sizeOf3 rfl) ?_
      refine net_cons rfl rfl (n_load rfl (ev rfl) (ld1 hw (i := 1) rfl Try.isAgg3 rfl)) ?_
      refine net_cons rfl rfl (n_bin rfl (ev rfl) evc (r_neq (b := 0))) ?_
      refine net_cons rfl rfl (n_move rfl (ev rfl)) ?_
      refine net_if rfl rfl rfl rfl (fun hc => (n_fieldAddrO (off' := 0) rfl (ev rfl) Try.runUnderlying95 rfl Try.sizeOf3 rfl)) ?_
      refine net_if rfl rfl rfl rfl (fun hc => (n_load rfl (evi rfl hc) (ld1 hw (i := 1) rfl Try.isAgg3 rfl))) ?_
      refine net_if rfl rfl rfl rfl (fun hc => (n_bin rfl (evi rfl hc) evc (r_lss (b := 1)))) ?_
      refine net_cons rfl rfl (n_pick_or rfl (ev rfl) (fun h => (evi rfl h))) ?_
      refine net_cons rfl rfl (n_move rfl (ev rfl)) ?_
      refine net_if rfl rfl rfl rfl (fun hc => (n_fieldAddrO (off' := 0) rfl (ev rfl) Try.runUnderlying95 rfl Try.sizeOf3 rfl)) ?_
      refine net_if rfl rfl rfl rfl (fun hc => (n_load rfl (evi rfl hc) (ld1 hw (i := 1) rfl Try.isAgg3 rfl))) ?_
      refine net_if rfl rfl rfl rfl (fun hc => (n_fieldAddrO (off' := 0) rfl (ev rfl) Try.runUnderlying83 rfl Try.sizeOf3 rfl)) ?_
      refine net_if rfl rfl rfl rfl (fun hc => (n_load rfl (evi rfl hc) (ld1 hw (i := 0) rfl Try.isAgg3 rfl))) ?_
      refine net_if rfl rfl rfl rfl (fun hc => (n_bin rfl evc (evi rfl hc) (sh2 (by omega)))) ?_
      refine net_if rfl rfl rfl rfl (fun hc => (n_bin rfl (evi rfl hc) (evi rfl hc) r_geq)) ?_
      refine net_cons rfl rfl (n_pick_or rfl (ev rfl) (fun h => (evi rfl h))) ?_
      refine net_cons rfl rfl (n_move rfl (ev rfl)) ?_
      refine net_if rfl rfl rfl rfl (fun hc => (n_move rfl (ev rfl))) ?_
      refine net_if rfl rfl rfl rfl (fun hc => (n_bin rfl (evi rfl hc) evc (r_gtrN (b := 0)))) ?_
      refine net_if rfl rfl rfl rfl (fun hc => (n_move rfl (evi rfl hc))) ?_
      refine net_if2 rfl rfl rfl rfl (fun hc hc2 => (n_fieldAddrO (off' := 0) rfl (ev rfl) Try.runUnderlying95 rfl Try.sizeOf3 rfl)) ?_
      refine net_if2 rfl rfl rfl rfl (fun hc hc2 => (n_load rfl (evi rfl (nest2 hc hc2)) (ld1 hw (i := 1) rfl Try.isAgg3 rfl))) ?_
      refine net_if2 rfl rfl rfl rfl (fun hc hc2 => (n_fieldAddrO (off' := 1) rfl (ev rfl) Try.runUnderlying83 rfl Try.sizeOf29 rfl)) ?_
      refine net_if2 rfl rfl rfl rfl (fun hc hc2 => (n_load rfl (evi rfl (nest2 hc hc2)) (ld1 hw (i := 0) rfl Try.isAgg29 rfl))) ?_
      refine net_if2 rfl rfl rfl rfl (fun hc hc2 => (n_move rfl (ev rfl))) ?_
      refine net_if2 rfl rfl rfl rfl (fun hc hc2 => (n_to (v' := I ((i - 1 : Nat) : Int)) (n_bin rfl (evi rfl (nest2 hc hc2)) evc (r_subI (by omega) (by omega))) (congrArg (Value.int .i64) (by have := of_decide_eq_true hc2; omega)))) ?_
      refine net_if2 rfl rfl rfl rfl (fun hc hc2 => (n_indexS (off' := oX + (i - 1) * 18) rfl (evi rfl (nest2 hc hc2)) (evi rfl (nest2 hc hc2)) Try.underlying29 Try.sizeOf95 (by omega) rfl)) ?_
      refine net_if2 rfl rfl rfl rfl (fun hc hc2 => (n_fieldAddrO (off' := oX + (i - 1) * 18 + 0) rfl (evi rfl (nest2 hc hc2)) Try.runUnderlying95 rfl Try.sizeOf3 rfl)) ?_
      refine net_if2 rfl rfl rfl rfl (fun hc hc2 => (n_load rfl (evi rfl (nest2 hc hc2)) (fun w2 hx2 => ld1R hcX (lc_at0 hy0) Try.isAgg3 (by omega) w2 (hw.ext.trans hx2)))) ?_
      refine net_if2 rfl rfl rfl rfl (fun hc hc2 => (n_bin rfl (evi rfl (nest2 hc hc2)) (evi rfl (nest2 hc hc2)) r_leq)) ?_
      refine net_if rfl rfl rfl rfl (fun hc => (n_pick_and rfl (evi rfl hc) (fun h => (evi rfl (nest2 hc h))))) ?_
      refine net_cons rfl rfl (n_pick_or rfl (ev rfl) (fun h => (evi rfl h))) ?_
      refine net_nil fun a w1 hF hx => ?_
      replace hw := hw.next hx
      replace hF := hF.keep (.cons (t := 1) rfl (.cons (t := 3) rfl (.cons (t := 4) rfl (.cons (t := 14) rfl (.cons (t := 15) rfl (.cons (t := 16) rfl (.cons (t := 17) rfl (.cons (t := 20) rfl (.cons (t := 52) rfl .nil)))))))))
      refine wpList_nil ?_
      refine wp_cond_split (hF.ev (ev rfl)) (fun h52 => ?_) (fun h52 => ?_)
      · have hz := okPN_no hx0 (gd_bad (fun _ => hy0) hx0 h52)
        refine wp_seq (reg_seq 1 (hF _ _) (by kernel_rfl) ?_)
        refine net_cons rfl rfl (n_assign rfl evc) ?_
        refine net_nil fun a w1 hF hx => ?_
        replace hw := hw.next hx
        replace hF := hF.keep (.cons (t := 1) rfl (.cons (t := 2) rfl (.cons (t := 3) rfl (.cons (t := 4) rfl (.cons (t := 14) rfl (.cons (t := 15) rfl (.cons (t := 16) rfl (.cons (t := 17) rfl (.cons (t := 20) rfl (.cons (t := 52) rfl .nil))))))))))
        refine wpList_nil ?_
        refine wp_ret (go_then_r (go_block_r (go_then_r (go_then_r (go_block_r (go_then_r (ret1 hF Try.results48 rfl ?_)))))))
        exact ⟨_, rfl, hw.ext, (by rw [hz]; rfl)⟩
      · obtain ⟨hnk, hlast⟩ := gd_good hy0 h52
        have hlt := gd_step hb hx0 hnk hlast
        have hxr := nk_range (d := dn) (by omega) hnk
        have hyr := gd_before (d := dn) (by omega) hl hi hb
        refine wp_skip ?_
        refine wp_seq (reg_seq 6 (hF _ _) (by kernel_rfl) ?_)
        refine net_cons rfl rfl (n_fieldAddrO (off' := 1) rfl (ev rfl) Try.runUnderlying83 rfl Try.sizeOf29 rfl) ?_
        refine net_cons rfl rfl (n_load rfl (ev rfl) (ld1 hw (i := 0) rfl Try.isAgg29 rfl)) ?_
        refine net_cons rfl rfl (n_move rfl (ev rfl)) ?_
        refine net_cons rfl rfl (n_slTake rfl (ev rfl) (ev rfl) Try.underlying29 Try.sizeOf95 (by omega)) ?_
        refine net_cons rfl rfl (n_makeFunc rfl (vs := #[ptr0 b4]) (.cons (ev rfl) .nil)) ?_
        refine net_cons rfl rfl (n_ret rfl Try.call101 (.cons (ev rfl) (.cons (ev rfl) .nil)) (fun _ hx => (ContainsFuncL_c 102 [ptr0 b4] (fun y => bel x.1 y.1) i c _ (L.take i) (by rw [List.length_take]; omega) (by omega) Try.call102 _ (by rw [fm_take lc_len]; exact (hR.ext (hw.ext.trans hx)).take _) (fun w2 hx2 y hy => check1_c y x b4 (hyr y hy).1 (hyr y hy).2 hxr.1 hxr.2.1 w2 (hw.heap (i := 1) rfl (hx.trans hx2)))))) ?_
        refine net_nil fun a w1 hF hx => ?_
        replace hw := hw.next hx
        replace hF := hF.keep (.cons (t := 1) rfl (.cons (t := 3) rfl (.cons (t := 4) rfl (.cons (t := 14) rfl (.cons (t := 15) rfl (.cons (t := 16) rfl (.cons (t := 17) rfl (.cons (t := 20) rfl (.cons (t := 52) rfl (.cons (t := 58) rfl .nil))))))))))
        refine wpList_nil ?_
        refine wp_cond_split (hF.ev (ev rfl)) (fun h58 => ?_) (fun h58 => ?_)
        · have hz := okPN_no hx0 (gd_no (d := dn) h58)
          refine wp_seq (reg_seq 1 (hF _ _) (by kernel_rfl) ?_)
          refine net_cons rfl rfl (n_assign rfl evc) ?_
          refine net_nil fun a w1 hF hx => ?_
          replace hw := hw.next hx
          replace hF := hF.keep (.cons (t := 1) rfl (.cons (t := 2) rfl (.cons (t := 3) rfl (.cons (t := 4) rfl (.cons (t := 14) rfl (.cons (t := 15) rfl (.cons (t := 16) rfl (.cons (t := 17) rfl (.cons (t := 20) rfl (.cons (t := 52) rfl (.cons (t := 58) rfl .nil)))))))))))
          refine wpList_nil ?_
          refine wp_ret (go_block_r (go_then_r (go_then_r (go_block_r (go_then_r (ret1 hF Try.results48 rfl ?_))))))
          exact ⟨_, rfl, hw.ext, (by rw [hz]; rfl)⟩
        · refine wp_skip ?_
          refine reg_seq 2 (hF _ _) (by kernel_rfl) ?_
          refine net_cons rfl rfl (n_bin rfl (ev rfl) evc (r_inc (by omega))) ?_
          refine net_cons rfl rfl (n_move rfl (ev rfl)) ?_
          refine net_nil fun a w1 hF hx => ?_
          replace hw := hw.next hx
          replace hF := hF.keep (.cons (t := 1) rfl (.cons (t := 3) rfl (.cons (t := 4) rfl (.cons (t := 14) rfl (.cons (t := 15) rfl (.cons (t := 16) rfl (.cons (t := 17) rfl (.cons (t := 20) rfl (.cons (t := 52) rfl (.cons (t := 58) rfl .nil))))))))))
          refine wpList_nil ?_
          exact ⟨i + 1, ⟨hF.keep (.cons (t := 1) rfl (.cons (t := 14) rfl (.cons (t := 15) rfl (.cons (t := 16) rfl (.nil))))), (hw.drop (.cons_cons _ (.cons _ .slnil))), by omega, up_at hb hx0 (gd_yes hnk hlt h58)⟩, by omega⟩
    · obtain rfl : n = i := by have := of_bool_f h17; omega
      have hz := okPN_yes (show dn ≤ 6 by omega) hl hb
      refine wp_exit (go_then_e (go_then_e (go_exit ?_)))
      refine wp_seq (reg_seq 1 (hF _ _) (by kernel_rfl) ?_)
      refine net_cons rfl rfl (n_assign rfl evc) ?_
      refine net_nil fun a w1 hF hx => ?_
      replace hw := hw.next hx
      replace hF := hF.keep (.cons (t := 1) rfl (.cons (t := 2) rfl (.cons (t := 14) rfl (.cons (t := 15) rfl (.cons (t := 16) rfl (.cons (t := 17) rfl .nil))))))
      refine wpList_nil ?_
      refine wp_ret (ret1 hF Try.results48 rfl ?_)
      exact ⟨_, rfl, hw.ext, (by rw [hz]; rfl)⟩


def findR (d : Int) (L : List Lab) (n : Int) : (Int × Int) × Int :=
  if okPN d L then (if (decide (n < 0) || decide (((2 ^ d.toNat : Nat) : Int) ≤ n)) then ((0, 0), 2) else ((((2 ^ d.toNat : Nat) : Int) + n, idxF (fun x : Lab => bel (((2 ^ d.toNat : Nat) : Int) + n) x.1) L), 0)) else ((0, 0), 8)
section
variable {d : Int} {L : List Lab} {n : Int}
theorem findR_bad (h : okPN d L = false) : findR d L n = ((0, 0), 8) := by simp [findR, h]
theorem findR_arg (h : okPN d L = true) (h2 : (decide (n < 0) || decide (((2 ^ d.toNat : Nat) : Int) ≤ n)) = true) : findR d L n = ((0, 0), 2) := by simp only [findR, h, h2]; rfl
theorem findR_ok {k : Nat} (h : okPN (k : Int) L = true) (h2 : (decide (n < 0) || decide (((2 ^ k : Nat) : Int) ≤ n)) = false) : findR k L n = ((((2 ^ k : Nat) : Int) + n, idxF (fun x : Lab => bel (((2 ^ k : Nat) : Int) + n) x.1) L), 0) := by
  simp only [findR, Int.toNat_natCast, h, h2]; rfl
end
theorem okI {b : Bool} (h : (!decide ((if b then (0 : Int) else 8) = 0)) = true) : b = false := by cases b <;> simp_all
theorem okI2 {b : Bool} (h : (!decide ((if b then (0 : Int) else 8) = 0)) = false) : b = true := by cases b <;> simp_all
theorem all_range {d : Nat} {L : List Lab} (hd : d ≤ 6) (h : okPN d L = true) : ∀ y ∈ L, 1 ≤ y.1 ∧ y.1 < 128 ∧ y.2.1 = 0 := by
  intro y hy
  obtain ⟨i, hi, rfl⟩ := List.mem_iff_getElem.1 hy
  exact ok_range hd h (List.getElem?_eq_getElem hi)


theorem find_c (d : Int) (n c : Nat) (A : Option Addr) (L : List Lab) (hl : L.length = n) (hcp : n ≤ c) (hn : n ≤ 9223372036854775800) (m : Int) (hm0 : -9223372036854775808 ≤ m) (hm1 : m < 9223372036854775808) (w : World) (hR : Rd w A (L.flatMap lc)) : RetF Try.prog 104 [PuV d (.slice A n c), I m].toArray w (.is (.tuple #[I (findR d L m).1.1, I (findR d L m).1.2, I (findR d L m).2])) := by
  refine enter Try.func104 rfl Try.ntmps104 rfl fun a hF => ?_
  have hw := Own.start w
  refine wp_seq (wp_region_lit ?_)
  refine t_net 0 1 (by kernel_rfl) rfl hF ?_
  refine net_cons rfl rfl (n_box rfl (ev rfl) rfl) ?_
  refine net_nil fun a w1 hF hx => ?_
  obtain ⟨b2, h_, hw⟩ := hw.blk hx (hF.at_ 2 _ rfl)
  replace hF := hF.now h_
  replace hF := hF.keep (.cons (t := 1) rfl (.cons (t := 2) rfl .nil))
  refine t_net 1 1 (by kernel_rfl) rfl hF ?_
  refine net_cons rfl rfl (n_alloc rfl Try.zeroValue3 rfl) ?_
  refine net_nil fun a w1 hF hx => ?_
  obtain ⟨b4, h_, hw⟩ := hw.blk hx (hF.at_ 4 _ rfl)
  replace hF := hF.now h_
  replace hF := hF.keep (.cons (t := 1) rfl (.cons (t := 2) rfl (.cons (t := 4) rfl .nil)))
  refine t_net 2 2 (by kernel_rfl) rfl hF ?_
  refine net_cons rfl rfl (n_assign rfl evc) ?_
  refine net_cons rfl rfl (n_assign rfl evc) ?_
  refine net_nil fun a w1 hF hx => ?_
  replace hw := hw.next hx
  replace hF := hF.keep (.cons (t := 1) rfl (.cons (t := 2) rfl (.cons (t := 4) rfl (.cons (t := 5) rfl (.cons (t := 6) rfl .nil)))))
  refine wpList_nil ?_
  refine wp_seq ?_
  refine wp_seq (reg_seq 3 (hF _ _) (by kernel_rfl) ?_)
  refine net_cons rfl rfl (n_load rfl (ev rfl) (ldN hw (i := 0) (vs := _) rfl Try.isAgg83 Try.sizeOf83 rfl rfl)) ?_
  refine net_cons rfl rfl (n_ret rfl Try.call48 (.cons (ev rfl) .nil) (fun _ hx => (CheckP_c d n c A L hl hcp hn _ (hR.ext (hw.ext.trans hx))))) ?_
  refine net_cons rfl rfl (n_assign rfl (ev rfl)) ?_
  refine net_nil fun a w1 hF hx => ?_
  replace hw := hw.next hx
  replace hF := hF.keep (.cons (t := 1) rfl (.cons (t := 2) rfl (.cons (t := 4) rfl (.cons (t := 5) rfl (.cons (t := 6) rfl (.cons (t := 7) rfl .nil))))))
  refine wpList_nil ?_
  refine wp_seq (reg_seq 2 (hF _ _) (by kernel_rfl) ?_)
  refine net_cons rfl rfl (n_move rfl (ev rfl)) ?_
  refine net_cons rfl rfl (n_bin rfl (ev rfl) evc (r_neq (b := 0))) ?_
  refine net_nil fun a w1 hF hx => ?_
  replace hw := hw.next hx
  replace hF := hF.keep (.cons (t := 1) rfl (.cons (t := 2) rfl (.cons (t := 4) rfl (.cons (t := 5) rfl (.cons (t := 6) rfl (.cons (t := 7) rfl (.cons (t := 11) rfl .nil)))))))
  refine wpList_nil ?_
  refine wp_cond_split (hF.ev (ev rfl)) (fun h11 => ?_) (fun h11 => ?_)
  · have hz := okI h11
    refine wp_seq (wp_region_lit ?_)
    refine t_net 0 1 (by kernel_rfl) rfl hF ?_
    refine net_cons rfl rfl (n_move rfl (ev rfl)) ?_
    refine net_nil fun a w1 hF hx => ?_
    replace hw := hw.next hx
    replace hF := hF.keep (.cons (t := 1) rfl (.cons (t := 2) rfl (.cons (t := 4) rfl (.cons (t := 5) rfl (.cons (t := 6) rfl (.cons (t := 7) rfl (.cons (t := 11) rfl (.cons (t := 12) rfl .nil))))))))
    refine t_store (i := 1) rfl rfl rfl hF hw rfl (ev rfl) evc rfl one1 Try.sizeOf3 rfl (Nat.le_of_ble_eq_true rfl) rfl fun w1 hw => ?_
    refine t_net 2 2 (by kernel_rfl) rfl hF ?_
    refine net_cons rfl rfl (n_assign rfl evc) ?_
    refine net_cons rfl rfl (n_assign rfl (ev rfl)) ?_
    refine net_nil fun a w1 hF hx => ?_
    replace hw := hw.next hx
    replace hF := hF.keep (.cons (t := 1) rfl (.cons (t := 2) rfl (.cons (t := 4) rfl (.cons (t := 5) rfl (.cons (t := 6) rfl (.cons (t := 7) rfl (.cons (t := 11) rfl .nil)))))))
    refine wpList_nil ?_
    refine wp_ret (go_then_r (retc3 hF Try.results104 rfl (ld1 hw (i := 1) rfl Try.isAgg3 rfl _ (Ext.refl _)) rfl rfl ?_))
    exact ⟨_, rfl, hw.ext, (by rw [findR_bad hz]; simp [hz]; rfl)⟩
  · have hz := okI2 h11
    obtain ⟨hd0, hd6⟩ := okPN_depth hz
    refine wp_skip ?_
    refine wp_seq ?_
    refine wp_seq (reg_seq 9 (hF _ _) (by kernel_rfl) ?_)
    refine net_cons rfl rfl (n_move rfl (ev rfl)) ?_
    refine net_cons rfl rfl (n_bin rfl (ev rfl) evc (r_lss (b := 0))) ?_
    refine net_cons rfl rfl (n_move rfl (ev rfl)) ?_
    refine net_if rfl rfl rfl rfl (fun hc => (n_move rfl (ev rfl))) ?_
    refine net_if rfl rfl rfl rfl (fun hc => (n_fieldAddrO (off' := 0) rfl (ev rfl) Try.runUnderlying83 rfl Try.sizeOf3 rfl)) ?_
    refine net_if rfl rfl rfl rfl (fun hc => (n_load rfl (evi rfl hc) (ld1 hw (i := 0) rfl Try.isAgg3 rfl))) ?_
    refine net_if rfl rfl rfl rfl (fun hc => (n_bin rfl evc (evi rfl hc) (sh1 hd0 hd6))) ?_
    refine net_if rfl rfl rfl rfl (fun hc => (n_bin rfl (evi rfl hc) (evi rfl hc) r_geq)) ?_
    refine net_cons rfl rfl (n_pick_or rfl (ev rfl) (fun h => (evi rfl h))) ?_
    refine net_nil fun a w1 hF hx => ?_
    replace hw := hw.next hx
    replace hF := hF.keep (.cons (t := 1) rfl (.cons (t := 2) rfl (.cons (t := 4) rfl (.cons (t := 5) rfl (.cons (t := 6) rfl (.cons (t := 7) rfl (.cons (t := 11) rfl (.cons (t := 21) rfl .nil))))))))
    refine wpList_nil ?_
    refine wp_cond_split (hF.ev (ev rfl)) (fun h21 => ?_) (fun h21 => ?_)
    · refine wp_seq (wp_region_lit ?_)
      refine t_store (i := 1) rfl rfl rfl hF hw rfl (ev rfl) evc rfl one1 Try.sizeOf3 rfl (Nat.le_of_ble_eq_true rfl) rfl fun w1 hw => ?_
      refine t_net 1 2 (by kernel_rfl) rfl hF ?_
      refine net_cons rfl rfl (n_assign rfl evc) ?_
      refine net_cons rfl rfl (n_assign rfl evc) ?_
      refine net_nil fun a w1 hF hx => ?_
      replace hw := hw.next hx
      replace hF := hF.keep (.cons (t := 1) rfl (.cons (t := 2) rfl (.cons (t := 4) rfl (.cons (t := 5) rfl (.cons (t := 6) rfl (.cons (t := 7) rfl (.cons (t := 11) rfl (.cons (t := 21) rfl .nil))))))))
      refine wpList_nil ?_
      refine wp_ret (go_then_r (retc3 hF Try.results104 rfl (ld1 hw (i := 1) rfl Try.isAgg3 rfl _ (Ext.refl _)) rfl rfl ?_))
      exact ⟨_, rfl, hw.ext, (by rw [findR_arg hz h21]; rfl)⟩
    · obtain ⟨dn, rfl⟩ := Int.eq_ofNat_of_zero_le hd0
      simp only [Int.toNat_natCast] at h21
      obtain ⟨hm2, hm3⟩ := or_f h21
      have hpw := pow_le64 (d := dn) (by omega)
      have hpw0 := Int.natCast_nonneg (2 ^ dn)
      have har := all_range (d := dn) (by omega) hz
      refine wp_skip ?_
      refine wp_seq (wp_region_lit ?_)
      refine t_net 0 5 (by kernel_rfl) rfl hF ?_
      refine net_cons rfl rfl (n_fieldAddrO (off' := 0) rfl (ev rfl) Try.runUnderlying83 rfl Try.sizeOf3 rfl) ?_
      refine net_cons rfl rfl (n_load rfl (ev rfl) (ld1 hw (i := 0) rfl Try.isAgg3 rfl)) ?_
      refine net_cons rfl rfl (n_bin rfl evc (ev rfl) (sh1 (by omega) (by omega))) ?_
      refine net_cons rfl rfl (n_move rfl (ev rfl)) ?_
      refine net_cons rfl rfl (n_bin rfl (ev rfl) (ev rfl) (r_addI (by simp only [Int.toNat_natCast]; omega) (by simp only [Int.toNat_natCast]; omega))) ?_
      refine net_nil fun a w1 hF hx => ?_
      replace hw := hw.next hx
      replace hF := hF.keep (.cons (t := 1) rfl (.cons (t := 2) rfl (.cons (t := 4) rfl (.cons (t := 5) rfl (.cons (t := 6) rfl (.cons (t := 7) rfl (.cons (t := 11) rfl (.cons (t := 21) rfl (.cons (t := 26) rfl .nil)))))))))
      refine t_store (i := 1) rfl rfl rfl hF hw rfl (ev rfl) (ev rfl) rfl one1 Try.sizeOf3 rfl (Nat.le_of_ble_eq_true rfl) rfl fun w1 hw => ?_
      refine wpList_nil ?_
      simp only [Int.toNat_natCast] at hF hw
      refine wp_seq (reg_draw 5 mixed (by kernel_rfl) (hF _ _) ?_)
      refine net_cons rfl rfl (n_load rfl (ev rfl) (ld1 hw (i := 1) rfl Try.isAgg3 rfl)) ?_
      refine net_cons rfl rfl (n_fieldAddrO (off' := 1) rfl (ev rfl) Try.runUnderlying83 rfl Try.sizeOf29 rfl) ?_
      refine net_cons rfl rfl (n_load rfl (ev rfl) (ld1 hw (i := 0) rfl Try.isAgg29 rfl)) ?_
      refine net_cons rfl rfl (n_makeFunc rfl (vs := #[ptr0 b4]) (.cons (ev rfl) .nil)) ?_
      refine net_cons rfl rfl (n_ret rfl Try.call139 (.cons (ev rfl) (.cons (ev rfl) .nil)) (fun _ hx => (IndexFuncL_c 140 [ptr0 b4] (fun x : Lab => bel (((2 ^ dn : Nat) : Int) + m) x.1) n c A L hl hn Try.call140 _ (hR.ext (hw.ext.trans hx)) (fun w2 hx2 y hy => find1_c y (((2 ^ dn : Nat) : Int) + m) b4 (har y hy).1 (har y hy).2.1 (by omega) (by omega) w2 (hw.heap (i := 1) rfl (hx.trans hx2)))))) ?_
      refine net_nil fun a w1 hF hx => ?_
      replace hw := hw.next hx
      replace hF := hF.keep (.cons (t := 1) rfl (.cons (t := 2) rfl (.cons (t := 4) rfl (.cons (t := 5) rfl (.cons (t := 6) rfl (.cons (t := 7) rfl (.cons (t := 11) rfl (.cons (t := 21) rfl (.cons (t := 26) rfl (.cons (t := 27) rfl (.cons (t := 31) rfl .nil)))))))))))
      refine t_store (i := 1) rfl rfl rfl hF hw rfl (ev rfl) (ev rfl) rfl one1 Try.sizeOf3 rfl (Nat.le_of_ble_eq_true rfl) rfl fun w1 hw => ?_
      refine t_net 6 1 (by kernel_rfl) rfl hF ?_
      refine net_cons rfl rfl (n_assign rfl (ev rfl)) ?_
      refine net_nil fun a w1 hF hx => ?_
      replace hw := hw.next hx
      replace hF := hF.keep (.cons (t := 1) rfl (.cons (t := 2) rfl (.cons (t := 4) rfl (.cons (t := 5) rfl (.cons (t := 6) rfl (.cons (t := 7) rfl (.cons (t := 11) rfl (.cons (t := 21) rfl (.cons (t := 26) rfl .nil)))))))))
      refine t_net 7 1 (by kernel_rfl) rfl hF ?_
      refine net_cons rfl rfl (n_assign rfl evc) ?_
      refine net_nil fun a w1 hF hx => ?_
      replace hw := hw.next hx
      replace hF := hF.keep (.cons (t := 1) rfl (.cons (t := 2) rfl (.cons (t := 4) rfl (.cons (t := 5) rfl (.cons (t := 6) rfl (.cons (t := 7) rfl (.cons (t := 11) rfl (.cons (t := 21) rfl (.cons (t := 26) rfl .nil)))))))))
      refine wpList_nil ?_
      refine wp_ret (retc3 hF Try.results104 rfl (ld1 hw (i := 1) rfl Try.isAgg3 rfl _ (Ext.refl _)) rfl rfl ?_)
      exact ⟨_, rfl, hw.ext, (by rw [findR_ok hz h21]; rfl)⟩

theorem next_c (k : Key) (v : Nat) (hv : v < 128) (w : World) : RetF Try.prog 107 [K k, I (v : Int)].toArray w (.is (K (chK k v))) := by
  refine enter Try.func107 rfl Try.ntmps107 rfl fun a hF => ?_
  have hw := Own.start w
  refine wp_seq (wp_region_lit ?_)
  refine t_net 0 1 (by kernel_rfl) rfl hF ?_
  refine net_cons rfl rfl (n_box rfl (ev rfl) rfl) ?_
  refine net_nil fun a w1 hF hx => ?_
  obtain ⟨b2, h_, hw⟩ := hw.blk hx (hF.at_ 2 _ rfl)
  replace hF := hF.now h_
  replace hF := hF.keep (.cons (t := 1) rfl (.cons (t := 2) rfl .nil))
  refine t_net 1 1 (by kernel_rfl) rfl hF ?_
  refine net_cons rfl rfl (n_alloc rfl Try.zeroValue23 rfl) ?_
  refine net_nil fun a w1 hF hx => ?_
  obtain ⟨b4, h_, hw⟩ := hw.blk hx (hF.at_ 4 _ rfl)
  replace hF := hF.now h_
  replace hF := hF.keep (.cons (t := 1) rfl (.cons (t := 2) rfl (.cons (t := 4) rfl .nil)))
  refine wpList_nil ?_
  refine wp_seq (wp_region_lit ?_)
  refine t_net 0 6 (by kernel_rfl) rfl hF ?_
  refine net_cons rfl rfl (n_load rfl (ev rfl) (ldN hw (i := 0) (vs := _) rfl Try.isAgg23 Try.sizeOf23 (kc_len _) (cut_whole (kc_len _)))) ?_
  refine net_cons rfl rfl (n_move rfl (ev rfl)) ?_
  refine net_cons rfl rfl (n_bin rfl (ev rfl) evc (r_and1I hv)) ?_
  refine net_cons rfl rfl (n_convT rfl (ev rfl) Try.underlying3 Try.underlying5 (wrap_u8_id (by omega) (by omega))) ?_
  refine net_cons rfl rfl (n_to (v' := B8 (31 + v % 2)) (n_bin rfl evc (ev rfl) (r_add (a := 31))) (congrArg (Value.int .u8) ((wrap_u8_id (by omega) (by omega)).trans (by omega)))) ?_
  refine net_cons rfl rfl (n_ret rfl Try.call37 (.cons (ev rfl) (.cons (ev rfl) (.cons evc .nil))) (fun _ hx => (Derive_c k (31 + v % 2) 0 (by omega) (by decide) _))) ?_
  refine net_nil fun a w1 hF hx => ?_
  replace hw := hw.next hx
  replace hF := hF.keep (.cons (t := 4) rfl (.cons (t := 10) rfl .nil))
  refine t_store (i := 1) rfl rfl rfl hF hw rfl (ev rfl) (ev rfl) rfl (kc_one _) Try.sizeOf23 (kc_len _) (by first | decide | (rw [kc_len]; decide)) (seg_whole (by rw [kc_len]; rfl)) fun w1 hw => ?_
  refine wpList_nil ?_
  refine wp_ret (retc hF Try.results107 rfl (ldN hw (i := 1) (vs := _) rfl Try.isAgg23 Try.sizeOf23 (kc_len _) (cut_whole (kc_len _)) _ (Ext.refl _)) ?_)
  exact ⟨_, rfl, hw.ext, rfl⟩

theorem CloneL_c (n c : Nat) (A : Option Addr) (l : List Lab) (hl : l.length = n) (hn : n ≤ 4398046511000) (w : World) (hR : Rd w A (l.flatMap lc)) : RetF Try.prog 105 [.slice A n c].toArray w (.ex 95 18 n (l.flatMap lc) (fun v => v)) := by
  refine enter Try.func105 rfl Try.ntmps105 rfl fun a hF => ?_
  have hw := Own.start w
  refine wp_seq (reg_seq 1 (hF _ _) (by kernel_rfl) ?_)
  refine net_cons rfl rfl (n_assign rfl evc) ?_
  refine net_nil fun a w1 hF hx => ?_
  replace hw := hw.next hx
  replace hF := hF.keep (.cons (t := 0) rfl (.cons (t := 2) rfl .nil))
  refine wpList_nil ?_
  refine wp_seq ?_
  refine wp_seq (reg_seq 2 (hF _ _) (by kernel_rfl) ?_)
  refine net_cons rfl rfl (n_move rfl (ev rfl)) ?_
  refine net_cons rfl rfl (n_bin rfl (ev rfl) evc (r_eqlNil Try.underlying29)) ?_
  refine net_nil fun a w1 hF hx => ?_
  replace hw := hw.next hx
  replace hF := hF.keep (.cons (t := 0) rfl (.cons (t := 2) rfl (.cons (t := 4) rfl .nil)))
  refine wpList_nil ?_
  refine wp_cond_split (hF.ev (ev rfl)) (fun h4 => ?_) (fun h4 => ?_)
  · obtain rfl : A = none := by simpa using h4
    obtain rfl : l = [] := by { rcases hR with h | ⟨b, off, h, _⟩; exact List.eq_nil_of_length_eq_zero (by have := congrArg List.length h; rw [fm_len lc_len, List.length_nil] at this; omega); cases h }
    obtain rfl : n = 0 := hl.symm
    refine wp_seq (reg_seq 1 (hF _ _) (by kernel_rfl) ?_)
    refine net_cons rfl rfl (n_assign rfl evc) ?_
    refine net_nil fun a w1 hF hx => ?_
    replace hw := hw.next hx
    replace hF := hF.keep (.cons (t := 0) rfl (.cons (t := 2) rfl (.cons (t := 4) rfl .nil)))
    refine wpList_nil ?_
    refine wp_ret (go_then_r (ret1 hF Try.results105 rfl ?_))
    exact ⟨_, rfl, hw.ext, (⟨_, World.ownsRow_nil _ _ _ _, rfl⟩ : (Fact.ex 95 18 0 (List.flatMap lc []) (fun v => v)).ok _ _ _)⟩
  · refine wp_skip ?_
    refine wp_seq (wp_region_lit ?_)
    refine t_net 0 1 (by kernel_rfl) rfl hF ?_
    refine net_cons rfl rfl (n_bsl0 sl29 rfl) ?_
    refine net_nil fun a w1 hF hx => ?_
    obtain ⟨b5, h_, hw⟩ := hw.cap hx (hF.at_ 5 _ rfl)
    replace hF := hF.now (v := .slice (some ⟨b5, 0, none⟩) (0) (0)) h_
    replace hF := hF.keep (.cons (t := 0) rfl (.cons (t := 2) rfl (.cons (t := 4) rfl (.cons (t := 5) rfl .nil))))
    refine t_net 1 1 (by kernel_rfl) rfl hF ?_
    refine net_cons rfl rfl (n_move rfl (ev rfl)) ?_
    refine net_nil fun a w1 hF hx => ?_
    replace hw := hw.next hx
    replace hF := hF.keep (.cons (t := 0) rfl (.cons (t := 2) rfl (.cons (t := 4) rfl (.cons (t := 5) rfl (.cons (t := 6) rfl .nil)))))
    replace hw := hw.blkRow (i := 0) (sz := 18) (n := 0) (by rfl) (by rfl) (by decide)
    refine t_append (i := 0) sl29 rfl rfl rfl (by decide) hF hw rfl (ev rfl) (ev rfl) (hR.ext hw.ext) (by rw [fm_len lc_len, hl]) (one_lc l) (by simp only [maxLen]; omega) (by omega) fun v7 a w1 hF hw => ?_
    replace hF := hF.keep (.cons (t := 0) rfl (.cons (t := 2) rfl (.cons (t := 4) rfl (.cons (t := 7) rfl .nil))))
    rw [Nat.zero_add, List.nil_append] at hw
    obtain ⟨A7, c7, rfl, _, _, _⟩ := hw.rd (i := 0) rfl
    refine t_net 3 1 (by kernel_rfl) rfl hF ?_
    refine net_cons rfl rfl (n_assign rfl (ev rfl)) ?_
    refine net_nil fun a w1 hF hx => ?_
    replace hw := hw.next hx
    replace hF := hF.keep (.cons (t := 0) rfl (.cons (t := 2) rfl (.cons (t := 4) rfl .nil)))
    refine wpList_nil ?_
    refine wp_ret (ret1 hF Try.results105 rfl ?_)
    exact ⟨_, rfl, hw.ext, _, hw.row (i := 0) rfl, rfl⟩


def fullR (k : Key) (d : Int) : Int × List Lab × Int := if decide (d < 0) || decide (6 < d) then (0, [], 2) else (d, [(1, 0, k)], 0)
theorem puF_none {B : Nat} {w : World} {e : Int} {R : Int × List Lab × Int} (h : R = (0, [], e)) : (Fact.ex 95 18 R.2.1.length (R.2.1.flatMap lc) (fun v => .tuple #[PuV R.1 v, I R.2.2])).ok B (.tuple #[PuV 0 (.slice none 0 0), I e]) w := by
  subst h
  exact ⟨.slice none 0 0, World.ownsRow_nil w B 95 18, rfl⟩
theorem puF_ok {w0 w : World} {M : List Ent} {i n : Nat} {v : Value} {d : Int} {l : List Lab} {R : Int × List Lab × Int} (h : R = (d, l, 0)) (hl : l.length = n) (hw : Own w0 w M) (hi : M[i]? = some (.row v 95 18 n (l.flatMap lc))) :
    (Fact.ex 95 18 R.2.1.length (R.2.1.flatMap lc) (fun v => .tuple #[PuV R.1 v, I R.2.2])).ok w0.heap.size (.tuple #[PuV d v, I 0]) w := by
  subst h
  subst hl
  exact ⟨v, hw.row hi, rfl⟩


theorem Full_c (k : Key) (d : Int) (w : World) : RetF Try.prog 45 [K k, I d].toArray w (.ex 95 18 (fullR k d).2.1.length ((fullR k d).2.1.flatMap lc) (fun v => .tuple #[PuV (fullR k d).1 v, I (fullR k d).2.2])) := by
  refine enter Try.func45 rfl Try.ntmps45 rfl fun a hF => ?_
  have hw := Own.start w
  refine wp_seq (wp_region_lit ?_)
  refine t_net 0 1 (by kernel_rfl) rfl hF ?_
  refine net_cons rfl rfl (n_box rfl (ev rfl) rfl) ?_
  refine net_nil fun a w1 hF hx => ?_
  obtain ⟨b2, h_, hw⟩ := hw.blk hx (hF.at_ 2 _ rfl)
  replace hF := hF.now h_
  replace hF := hF.keep (.cons (t := 1) rfl (.cons (t := 2) rfl .nil))
  refine t_net 1 1 (by kernel_rfl) rfl hF ?_
  refine net_cons rfl rfl (n_alloc rfl Try.zeroValue83 rfl) ?_
  refine net_nil fun a w1 hF hx => ?_
  obtain ⟨b4, h_, hw⟩ := hw.blk hx (hF.at_ 4 _ rfl)
  replace hF := hF.now h_
  replace hF := hF.keep (.cons (t := 1) rfl (.cons (t := 2) rfl (.cons (t := 4) rfl .nil)))
  refine t_net 2 1 (by kernel_rfl) rfl hF ?_
  refine net_cons rfl rfl (n_assign rfl evc) ?_
  refine net_nil fun a w1 hF hx => ?_
  replace hw := hw.next hx
  replace hF := hF.keep (.cons (t := 1) rfl (.cons (t := 2) rfl (.cons (t := 4) rfl (.cons (t := 5) rfl .nil))))
  refine wpList_nil ?_
  refine wp_seq ?_
  refine wp_seq (reg_seq 6 (hF _ _) (by kernel_rfl) ?_)
  refine net_cons rfl rfl (n_move rfl (ev rfl)) ?_
  refine net_cons rfl rfl (n_bin rfl (ev rfl) evc (r_lss (b := 0))) ?_
  refine net_cons rfl rfl (n_move rfl (ev rfl)) ?_
  refine net_if rfl rfl rfl rfl (fun hc => (n_move rfl (ev rfl))) ?_
  refine net_if rfl rfl rfl rfl (fun hc => (n_bin rfl (evi rfl hc) evc (r_gtr (b := 6)))) ?_
  refine net_cons rfl rfl (n_pick_or rfl (ev rfl) (fun h => (evi rfl h))) ?_
  refine net_nil fun a w1 hF hx => ?_
  replace hw := hw.next hx
  replace hF := hF.keep (.cons (t := 1) rfl (.cons (t := 2) rfl (.cons (t := 4) rfl (.cons (t := 5) rfl (.cons (t := 11) rfl .nil)))))
  refine wpList_nil ?_
  refine wp_cond_split (hF.ev (ev rfl)) (fun h11 => ?_) (fun h11 => ?_)
  · refine wp_seq (wp_region_lit ?_)
    refine t_net 0 1 (by kernel_rfl) rfl hF ?_
    refine net_cons rfl rfl (n_build rfl .nil build_83_) ?_
    refine net_nil fun a w1 hF hx => ?_
    replace hw := hw.next hx
    replace hF := hF.keep (.cons (t := 1) rfl (.cons (t := 2) rfl (.cons (t := 4) rfl (.cons (t := 5) rfl (.cons (t := 11) rfl (.cons (t := 12) rfl .nil))))))
    refine t_store (i := 1) rfl rfl rfl hF hw rfl (ev rfl) (ev rfl) rfl one_pu Try.sizeOf83 rfl (Nat.le_of_ble_eq_true rfl) rfl fun w1 hw => ?_
    refine t_net 2 1 (by kernel_rfl) rfl hF ?_
    refine net_cons rfl rfl (n_assign rfl evc) ?_
    refine net_nil fun a w1 hF hx => ?_
    replace hw := hw.next hx
    replace hF := hF.keep (.cons (t := 1) rfl (.cons (t := 2) rfl (.cons (t := 4) rfl (.cons (t := 5) rfl (.cons (t := 11) rfl .nil)))))
    refine wpList_nil ?_
    refine wp_ret (go_then_r (retc2 hF Try.results45 rfl (ldN hw (i := 1) (vs := _) rfl Try.isAgg83 Try.sizeOf83 rfl rfl _ (Ext.refl _)) rfl ?_))
    exact ⟨_, rfl, hw.ext, (puF_none (by rw [fullR, h11]; rfl))⟩
  · refine wp_skip ?_
    refine wp_seq (wp_region_lit ?_)
    refine t_net 0 4 (by kernel_rfl) rfl hF ?_
    refine net_cons rfl rfl (n_move rfl (ev rfl)) ?_
    refine net_cons rfl rfl (n_load rfl (ev rfl) (ldN hw (i := 0) (vs := _) rfl Try.isAgg23 Try.sizeOf23 (kc_len _) (cut_whole (kc_len _)))) ?_
    refine net_cons rfl rfl (n_build rfl (.cons evc (.cons (ev rfl) .nil)) build_95_0_2) ?_
    refine net_cons rfl rfl (n_bsl sl29 rfl (.cons (ev rfl) .nil) (.cons rfl (lc_len _) .nil) rfl (by decide) (by decide)) ?_
    refine net_nil fun a w1 hF hx => ?_
    obtain ⟨b16, h_, hw⟩ := hw.cap hx (hF.at_ 16 _ rfl)
    replace hF := hF.now (v := .slice (some ⟨b16, 0, none⟩) (1) (1)) h_
    replace hF := hF.keep (.cons (t := 1) rfl (.cons (t := 4) rfl (.cons (t := 5) rfl (.cons (t := 11) rfl (.cons (t := 13) rfl (.cons (t := 16) rfl .nil))))))
    refine t_net 4 1 (by kernel_rfl) rfl hF ?_
    refine net_cons rfl rfl (n_build rfl (.cons (ev rfl) (.cons (ev rfl) .nil)) build_83_0_1) ?_
    refine net_nil fun a w1 hF hx => ?_
    replace hw := hw.next hx
    replace hF := hF.keep (.cons (t := 1) rfl (.cons (t := 4) rfl (.cons (t := 5) rfl (.cons (t := 11) rfl (.cons (t := 17) rfl .nil)))))
    refine t_store (i := 1) rfl rfl rfl hF hw rfl (ev rfl) (ev rfl) rfl one_pu Try.sizeOf83 rfl (Nat.le_of_ble_eq_true rfl) rfl fun w1 hw => ?_
    refine t_net 6 1 (by kernel_rfl) rfl hF ?_
    refine net_cons rfl rfl (n_assign rfl evc) ?_
    refine net_nil fun a w1 hF hx => ?_
    replace hw := hw.next hx
    replace hF := hF.keep (.cons (t := 1) rfl (.cons (t := 4) rfl (.cons (t := 5) rfl (.cons (t := 11) rfl .nil))))
    refine wpList_nil ?_
    refine wp_ret (retc2 hF Try.results45 rfl (ldN hw (i := 1) (vs := _) rfl Try.isAgg83 Try.sizeOf83 rfl rfl _ (Ext.refl _)) rfl ?_)
    replace hw := hw.blkRow (i := 2) (sz := 18) (n := 1) (by rfl) (by rw [List.append_nil, lc_len]) (by decide)
    exact ⟨_, rfl, hw.ext, puF_ok (i := 2) (show fullR k d = (d, [(1, 0, k)], 0) by rw [fullR, h11]; rfl) rfl hw rfl⟩
end Go.Proofs.Ythgpojlcbbgaoaa

