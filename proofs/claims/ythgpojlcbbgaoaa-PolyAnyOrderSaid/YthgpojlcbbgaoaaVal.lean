/- coefficients, values, interpolation: the program -/
import Derived.Test.YthgpojlcbbgaoaaOpn

set_option autoImplicit false
set_option maxRecDepth 100000
set_option linter.unusedVariables false
namespace Go.Proofs.Ythgpojlcbbgaoaa
open Go.RowKit


theorem retN {P : Program} {w : World} {N : Nat} {E : Env} {a : Act} {fn : Func} {R : Ending → World → Prop} {v : Value} (hF : FrV N [] E a) (hr : (results fn a.tmps).run P w = .ok v w) (h : R (.returned v) w) : bodyPostM Fence.wide 0 P fn R .ret a w := by
  have hd := (hF 0 default).defers
  show LeavesInM Fence.wide 0 P fn a.tmps R a.defers .returning w
  rw [hd]
  exact ⟨v, hr, h⟩
theorem retN1 {P : Program} {w : World} {N : Nat} {E : Env} {a : Act} {fn : Func} {R : Ending → World → Prop} {t : Tmp} {v : Value} (hF : FrV N [] E a) (hr : fn.results = #[.tmp t]) (hv : look E t = some (.is v)) (h : R (.returned v) w) : bodyPostM Fence.wide 0 P fn R .ret a w :=
  retN hF (by rw [results_tmp hr]; rw [show a.tmps.getD t undef = v from (hF 0 default).at_ t _ hv]) h
theorem retN2 {P : Program} {w : World} {N : Nat} {E : Env} {a : Act} {fn : Func} {R : Ending → World → Prop} {t u : Tmp} {v v' : Value} (hF : FrV N [] E a) (hr : fn.results = #[.tmp t, .tmp u]) (hv : look E t = some (.is v)) (hv' : look E u = some (.is v')) (h : R (.returned (.tuple #[v, v'])) w) : bodyPostM Fence.wide 0 P fn R .ret a w :=
  retN hF (by rw [results_tmp2 hr]; rw [show a.tmps.getD t undef = v from (hF 0 default).at_ t _ hv, show a.tmps.getD u undef = v' from (hF 0 default).at_ u _ hv']) h
theorem n_maxU {P : Program} {wr : World} {E : Env} {o : Oper} {x y : Operand} {t u : TypeId} {a b : Nat} (ho : o.op = .call { callee := .builtin .max, args := #[x, y], argTypes := #[t, u] }) (hx : Ev E x (U a)) (hy : Ev E y (U b)) : nstep P wr E o (.is (U (max a b))) :=
  n_run fun a' w hw hop => ⟨_, w, by
    have h1 := hx.eval (by simp [ho, Op.operands, Call.operands]) hop
    have h2 := hy.eval (by simp [ho, Op.operands, Call.operands]) hop
    unfold execOp; rw [ho]; simp [resolve, invoke, builtin, Builtin.max_, Builtin.max2, h1, h2]; rfl, Ext.refl w, by
    show Value.int .u64 _ = Value.int .u64 _
    congr 1
    split <;> omega⟩
/-! ### coefficients and values -/
def cofR (root : Key) (kd : Nat) (dp dg : Int) (p q g : Nat) : List Nat × Int := if okS kd dp dg p q g then (cfs root dg.toNat q, 0) else ([], 30)
theorem cofR_ok {root : Key} {kd : Nat} {dp dg : Int} {p q g n : Nat} (h : okS kd dp dg p q g = true) (hn : dg = (n : Int)) : cofR root kd dp dg p q g = (cfs root n q, 0) := by
  subst hn
  simp [cofR, h]
def mxN (l : List Nat) : Nat := l.foldl max 0
theorem mxN_take {l : List Nat} {i x : Nat} (h : l[i]? = some x) : max (mxN (l.take i)) x = mxN (l.take (i + 1)) := by
  rw [List.take_add_one, h]
  simp [mxN]
theorem mxN_one {l : List Nat} {x : Nat} (h : l[0]? = some x) : x = mxN (l.take 1) := by
  have := mxN_take h
  rw [← this]
  simp [mxN]
theorem mxN_le {q : Nat} (hq : 0 < q) (l : List Nat) : decide (q ≤ mxN l) = !l.all fun c => decide (c < q) := by
  have key : ∀ (l : List Nat) (m : Nat), m < q → decide (q ≤ l.foldl max m) = !l.all fun c => decide (c < q) := by
    intro l
    induction l with
    | nil => intro m hm; simp only [List.foldl_nil, List.all_nil, Bool.not_true]; exact decide_eq_false (by omega)
    | cons a l ih =>
      intro m hm
      rw [List.foldl_cons, List.all_cons]
      by_cases h : a < q
      · rw [ih (max m a) (by omega), decide_eq_true h, Bool.true_and]
      · rw [decide_eq_false h, Bool.false_and]
        have : ∀ (l : List Nat) (m : Nat), q ≤ m → q ≤ l.foldl max m := by
          intro l
          induction l with
          | nil => intro m hm; exact hm
          | cons b l ih2 => intro m hm; rw [List.foldl_cons]; exact ih2 _ (by omega)
        simp [this l (max m a) (by omega)]
  exact key l 0 hq
def polyOk (q : Nat) (dg : Int) (n : Nat) (l : List Nat) : Bool := decide ((n : Int) = dg + 1) && l.all fun c => decide (c < q)
def valR (kd : Nat) (dp dg : Int) (p q g n : Nat) (l : List Nat) (x : Nat) : Nat × Int :=
  if okS kd dp dg p q g then (if polyOk q dg n l && decide (x < q) then (pv l x % q, 0) else (0, 2)) else (0, 30)
section
variable {kd : Nat} {dp dg : Int} {p q g n : Nat} {l : List Nat} {x : Nat}
theorem valR_no (h : okS kd dp dg p q g = false) : valR kd dp dg p q g n l x = (0, 30) := by simp [valR, h]
theorem valR_bad (h : okS kd dp dg p q g = true) (h2 : (polyOk q dg n l && decide (x < q)) = false) : valR kd dp dg p q g n l x = (0, 2) := by simp only [valR, h, h2]; rfl
theorem valR_ok (h : okS kd dp dg p q g = true) (h2 : (polyOk q dg n l && decide (x < q)) = true) : valR kd dp dg p q g n l x = (pv l x % q, 0) := by simp only [valR, h, h2]; rfl
theorem polyOk_neg {b : Bool} (hq : 0 < q) (h : ((!decide ((n : Int) = dg + 1) || decide (q ≤ mxN l)) || decide (q ≤ x)) = b) : (polyOk q dg n l && decide (x < q)) = !b := by
  subst h
  rw [mxN_le hq, polyOk, Bool.not_or, Bool.not_or, Bool.not_not, Bool.not_not, ← decide_not]
  congr 1
  rw [decide_eq_decide]
  omega
theorem polyOk_all (h : (polyOk q dg n l && decide (x < q)) = true) : (n : Int) = dg + 1 ∧ (∀ c ∈ l, c < q) ∧ x < q := by
  simp only [polyOk, Bool.and_eq_true, decide_eq_true_eq, List.all_eq_true] at h
  exact ⟨h.1.1, h.1.2, h.2⟩
end
theorem and_t2 {a : Prop} [Decidable a] {b : Bool} (h : (decide a && b) = true) : a ∧ b = true := by simpa using h
/-! ### two lists of which the first gives place to the second, from behind -/
def mixL (a b : List Nat) (k : Nat) : List Nat := a.take k ++ b.drop k
theorem mixL_len {a b : List Nat} {k n : Nat} (ha : a.length = n) (hb : b.length = n) (hk : k ≤ n) : (mixL a b k).length = n := by
  rw [mixL, List.length_append, List.length_take, List.length_drop]
  omega
theorem mixL_lo {a b : List Nat} {k j n : Nat} (ha : a.length = n) (hj : j < k) (hk : k ≤ n) : (mixL a b k)[j]? = a[j]? := by
  rw [mixL, List.getElem?_append_left (by rw [List.length_take]; omega), List.getElem?_take, if_pos hj]
theorem mixL_full {a b : List Nat} {n : Nat} (ha : a.length = n) (hb : b.length = n) : mixL a b n = a := by
  rw [mixL, List.take_of_length_le (by omega), List.drop_of_length_le (by omega), List.append_nil]
theorem mixL_zero (a b : List Nat) : mixL a b 0 = b := by simp [mixL]
theorem mixL_step {a b : List Nat} {k n x : Nat} (ha : a.length = n) (hb : b.length = n) (hk : k < n) (hx : b[k]? = some x) : seg ((mixL a b (k + 1)).map U) k [U x] = (mixL a b k).map U := by
  rw [seg_one (by rw [List.length_map, mixL_len ha hb (by omega)]; exact hk), ← List.map_set]
  congr 1
  apply List.ext_getElem?
  intro j
  have e1 : (a.take (k + 1)).length = k + 1 := by rw [List.length_take]; omega
  have e2 : (a.take k).length = k := by rw [List.length_take]; omega
  simp only [mixL, List.getElem?_set, List.getElem?_append, e1, e2, List.length_append, List.length_drop, List.getElem?_take, List.getElem?_drop]
  by_cases h1 : k = j
  · subst h1
    rw [if_pos rfl, if_pos (by omega), if_neg (by omega), show k + (k - k) = k by omega, hx]
  · rw [if_neg h1]
    by_cases h2 : j < k
    · rw [if_pos (by omega), if_pos (by omega), if_pos h2, if_pos h2]
    · rw [if_neg (by omega), if_neg h2]
      congr 1
      omega
/-! ### interpolation -/
def dlN (q : Nat) (pts : List (Nat × Nat)) (s : Nat) : List Nat := (List.range pts.length).map (ddN q pts s)
theorem dlN_len {q n : Nat} {pts : List (Nat × Nat)} (s : Nat) (h : pts.length = n) : (dlN q pts s).length = n := by simp [dlN, h]
theorem dlN_at {q i n : Nat} {pts : List (Nat × Nat)} (s : Nat) (h : pts.length = n) (hi : i < n) : (dlN q pts s)[i]? = some (ddN q pts s i) := by simp [dlN, h, hi]
theorem dlN_mix {q s n : Nat} {pts : List (Nat × Nat)} (h : pts.length = n) (hs : s < n) : mixL (dlN q pts s) (dlN q pts (s + 1)) (s + 1) = dlN q pts (s + 1) := by
  apply List.ext_getElem?
  intro j
  by_cases hj : j < n
  · by_cases h2 : j < s + 1
    · rw [mixL_lo (dlN_len s h) h2 (by omega), dlN_at s h hj, dlN_at (s + 1) h hj, ddN, if_pos (by omega)]
    · rw [mixL, List.getElem?_append_right (by rw [List.length_take, dlN_len s h]; omega), List.getElem?_drop, List.length_take, dlN_len s h]
      congr 1
      omega
  · rw [List.getElem?_eq_none (by rw [mixL_len (dlN_len s h) (dlN_len (s + 1) h) (by omega)]; omega), List.getElem?_eq_none (by rw [dlN_len (s + 1) h]; omega)]
theorem dlN_zero {q : Nat} {pts : List (Nat × Nat)} : dlN q pts 0 = pts.map (·.2) := by
  apply List.ext_getElem?
  intro j
  by_cases hj : j < pts.length
  · rw [dlN_at 0 rfl hj, List.getElem?_map, List.getElem?_eq_getElem hj]
    simp [ddN, ptY, List.getD_eq_getElem?_getD, hj]
  · rw [List.getElem?_eq_none (by rw [dlN_len 0 rfl]; omega), List.getElem?_eq_none (by simp; omega)]
theorem ddN_go {q s k : Nat} {pts : List (Nat × Nat)} {x y : Nat × Nat} (hk : s + 1 ≤ k) (hx : pts[k]? = some x) (hy : pts[k - (s + 1)]? = some y) :
    divN q ((ddN q pts s k + q - ddN q pts s (k - 1)) % q) ((x.1 + q - y.1) % q) = ddN q pts (s + 1) k := by
  rw [ddN, if_neg (by omega)]
  simp only [ptX, List.getD_eq_getElem?_getD, hx, hy, Option.getD_some]
  rfl
theorem stepP_hi {q r c k x y : Nat} {p : List Nat} (hx : p[k]? = some x) (hy : p[k + 1]? = some y) : (stepP q r c p)[k + 1]? = some ((x + q - mulF q [y, r]) % q) := by
  rw [stepP, List.getElem?_zipWith, List.getElem?_cons_succ, hx, hy, mulF2]
theorem stepP_lo {q r c y : Nat} {p : List Nat} (hy : p[0]? = some y) : (stepP q r c p)[0]? = some ((c + q - mulF q [y, r]) % q) := by
  rw [stepP, List.getElem?_zipWith, List.getElem?_cons_zero, hy, mulF2]
def bdP (q : Nat) (x : Nat × Nat) : Bool := decide (q ≤ x.1) || decide (q ≤ x.2)
def rightL (q : Nat) (pts : List (Nat × Nat)) : Bool := !(pts.any (bdP q)) && distL pts
def intR (kd : Nat) (dp dg : Int) (p q g n : Nat) (pts : List (Nat × Nat)) : List Nat × Int :=
  if okS kd dp dg p q g then (if decide ((n : Int) = dg + 1) && rightL q pts then (intL q pts, 0) else ([], 2)) else ([], 30)
section
variable {kd : Nat} {dp dg : Int} {p q g n : Nat} {pts : List (Nat × Nat)}
theorem intR_no (h : okS kd dp dg p q g = false) : intR kd dp dg p q g n pts = ([], 30) := by simp [intR, h]
theorem intR_bad (h : okS kd dp dg p q g = true) (h2 : (decide ((n : Int) = dg + 1) && rightL q pts) = false) : intR kd dp dg p q g n pts = ([], 2) := by simp only [intR, h, h2]; rfl
theorem intR_ok (h : okS kd dp dg p q g = true) (h2 : (decide ((n : Int) = dg + 1) && rightL q pts) = true) : intR kd dp dg p q g n pts = (intL q pts, 0) := by simp only [intR, h, h2]; rfl
theorem right_neg {b : Bool} (h : ((!decide ((n : Int) = dg + 1) || pts.any (bdP q)) || !distL pts) = b) : (decide ((n : Int) = dg + 1) && rightL q pts) = !b := by
  subst h
  rw [rightL]
  cases decide ((n : Int) = dg + 1) <;> cases pts.any (bdP q) <;> cases distL pts <;> rfl
theorem right_all (h : rightL q pts = true) : (∀ x ∈ pts, x.1 < q ∧ x.2 < q) ∧ (pts.map (·.1)).Nodup := by
  simp only [rightL, Bool.and_eq_true, Bool.not_eq_true', List.any_eq_false, bdP, Bool.or_eq_true, decide_eq_true_eq, not_or] at h
  refine ⟨fun x hx => ?_, ?_⟩
  · have := h.1 x hx
    omega
  · have := h.2
    rw [distL_iff, decide_eq_true_eq] at this
    exact this
end



theorem rowF_nil {B : Nat} {w : World} {e : Int} {R : List Nat × Int} (h : R = ([], e)) : (Fact.ex 24 1 R.1.length (R.1.map U) (fun v => .tuple #[v, I R.2])).ok B (.tuple #[.slice none 0 0, I e]) w := by
  subst h
  exact ⟨.slice none 0 0, World.ownsRow_nil w B 24 1, rfl⟩
theorem rowF_ok {w0 w : World} {M : List Ent} {i n : Nat} {v : Value} {l : List Nat} {R : List Nat × Int} (h : R = (l, 0)) (hl : l.length = n) (hw : Own w0 w M) (hi : M[i]? = some (.row v 24 1 n (l.map U))) :
    (Fact.ex 24 1 R.1.length (R.1.map U) (fun v => .tuple #[v, I R.2])).ok w0.heap.size (.tuple #[v, I 0]) w := by
  subst h
  subst hl
  exact ⟨v, hw.row hi, rfl⟩


theorem Coefficients_c (root : Key) (kd : Nat) (dp dg : Int) (p q g : Nat) (hp : p < 18446744073709551616) (hq : q < 18446744073709551616) (hg : g < 18446744073709551616) (w : World) : RetF Try.prog 32 [K root, SV kd dp dg p q g].toArray w (.ex 24 1 (cofR root kd dp dg p q g).1.length ((cofR root kd dp dg p q g).1.map U) (fun v => .tuple #[v, I (cofR root kd dp dg p q g).2])) := by
  refine enter Try.func32 rfl Try.ntmps32 rfl fun a hF => ?_
  have hw := Own.start w
  refine wp_seq (wp_region_lit ?_)
  refine t_net 0 1 (by kernel_rfl) rfl hF ?_
  refine net_cons rfl rfl (n_box rfl (ev rfl) rfl) ?_
  refine net_nil fun a w1 hF hx => ?_
  obtain ⟨b2, h_, hw⟩ := hw.blk hx (hF.at_ 2 _ rfl)
  replace hF := hF.now h_
  replace hF := hF.keep (.cons (t := 1) rfl (.cons (t := 2) rfl .nil))
  refine t_net 1 1 (by kernel_rfl) rfl hF ?_
  refine net_cons rfl rfl (n_box rfl (ev rfl) rfl) ?_
  refine net_nil fun a w1 hF hx => ?_
  obtain ⟨b3, h_, hw⟩ := hw.blk hx (hF.at_ 3 _ rfl)
  replace hF := hF.now h_
  replace hF := hF.keep (.cons (t := 2) rfl (.cons (t := 3) rfl .nil))
  refine t_net 2 2 (by kernel_rfl) rfl hF ?_
  refine net_cons rfl rfl (n_assign rfl evc) ?_
  refine net_cons rfl rfl (n_assign rfl evc) ?_
  refine net_nil fun a w1 hF hx => ?_
  replace hw := hw.next hx
  replace hF := hF.keep (.cons (t := 2) rfl (.cons (t := 3) rfl (.cons (t := 4) rfl (.cons (t := 5) rfl .nil))))
  refine wpList_nil ?_
  refine wp_seq ?_
  refine wp_seq (reg_seq 3 (hF _ _) (by kernel_rfl) ?_)
  refine net_cons rfl rfl (n_load rfl (ev rfl) (ldN hw (i := 1) (vs := _) rfl Try.isAgg28 Try.sizeOf28 rfl rfl)) ?_
  refine net_cons rfl rfl (n_ret rfl Try.call63 (.cons (ev rfl) .nil) (fun _ hx => (valid_c _ _ _ _ _ _ hp hq hg _))) ?_
  refine net_cons rfl rfl (n_not rfl (ev rfl)) ?_
  refine net_nil fun a w1 hF hx => ?_
  replace hw := hw.next hx
  replace hF := hF.keep (.cons (t := 2) rfl (.cons (t := 3) rfl (.cons (t := 4) rfl (.cons (t := 5) rfl (.cons (t := 8) rfl .nil)))))
  refine wpList_nil ?_
  refine wp_cond_split (hF.ev (ev rfl)) (fun h8 => ?_) (fun h8 => ?_)
  · have hz : okS kd dp dg p q g = false := by simpa using h8
    refine wp_seq (reg_seq 2 (hF _ _) (by kernel_rfl) ?_)
    refine net_cons rfl rfl (n_assign rfl evc) ?_
    refine net_cons rfl rfl (n_assign rfl evc) ?_
    refine net_nil fun a w1 hF hx => ?_
    replace hw := hw.next hx
    replace hF := hF.keep (.cons (t := 2) rfl (.cons (t := 3) rfl (.cons (t := 4) rfl (.cons (t := 5) rfl (.cons (t := 8) rfl .nil)))))
    refine wpList_nil ?_
    refine wp_ret (go_then_r (ret2 hF Try.results32 rfl rfl ?_))
    exact ⟨_, rfl, hw.ext, (rowF_nil (by simp [cofR, hz]))⟩
  · have hz : okS kd dp dg p q g = true := by simpa using h8
    obtain ⟨hz1, hz2, hz3, hz4, hz5, hz6, hz7⟩ := okS_all hz
    obtain ⟨hz8, hz9, hz10, hz11, hz12⟩ := okG_q hz6
    obtain ⟨hpp, hqp, _⟩ := okG_all hz6
    obtain ⟨d, hde⟩ := Int.eq_ofNat_of_zero_le hz2
    obtain ⟨n, hne⟩ := Int.eq_ofNat_of_zero_le (show 0 ≤ dg by omega)
    refine wp_skip ?_
    rw [hde, hne] at hw
    refine wp_seq (wp_region_lit ?_)
    refine t_net 0 3 (by kernel_rfl) rfl hF ?_
    refine net_cons rfl rfl (n_load rfl (ev rfl) (ldN hw (i := 0) (vs := _) rfl Try.isAgg23 Try.sizeOf23 (kc_len _) (cut_whole (kc_len _)))) ?_
    refine net_cons rfl rfl (n_load rfl (ev rfl) (ldN hw (i := 1) (vs := _) rfl Try.isAgg28 Try.sizeOf28 rfl rfl)) ?_
    refine net_cons rfl rfl (n_ret rfl Try.call64 (.cons (ev rfl) (.cons (ev rfl) .nil)) (fun _ hx => (secret_c root kd d n p q g (by omega) (by omega) hq _))) ?_
    refine net_nil fun a w1 hF hx => ?_
    obtain ⟨s11, h_, hw⟩ := hw.ex hx (hF.at_ 11 _ rfl)
    replace hF := hF.now h_
    replace hF := hF.keep (.cons (t := 3) rfl (.cons (t := 4) rfl (.cons (t := 5) rfl (.cons (t := 8) rfl (.cons (t := 11) rfl .nil)))))
    obtain ⟨A11, c11, rfl, _, _, _⟩ := hw.rd (i := 2) rfl
    refine t_net 3 2 (by kernel_rfl) rfl hF ?_
    refine net_cons rfl rfl (n_assign rfl (ev rfl)) ?_
    refine net_cons rfl rfl (n_assign rfl evc) ?_
    refine net_nil fun a w1 hF hx => ?_
    replace hw := hw.next hx
    replace hF := hF.keep (.cons (t := 3) rfl (.cons (t := 4) rfl (.cons (t := 5) rfl (.cons (t := 8) rfl .nil))))
    refine wpList_nil ?_
    refine wp_ret (ret2 hF Try.results32 rfl rfl ?_)
    exact ⟨_, rfl, hw.ext, (rowF_ok (i := 2) (cofR_ok hz hne) (cfs_len _ _ _) hw rfl)⟩

theorem Max_c (n c : Nat) (A : Option Addr) (l : List Nat) (hl : l.length = n) (h0 : 0 < n) (hn : n ≤ 9223372036854775800) (w : World) (hR : Rd w A (l.map U)) : RetF Try.prog 87 [.slice A n c].toArray w (.is (U (mxN l))) := by
  refine enter Try.func87 rfl Try.ntmps87 rfl fun a hF => ?_
  have hw := Own.start w
  refine wp_seq (reg_seq 1 (hF _ _) (by kernel_rfl) ?_)
  refine net_cons rfl rfl (n_assign rfl evc) ?_
  refine net_nil fun a w1 hF hx => ?_
  replace hw := hw.next hx
  replace hF := hF.keep (.cons (t := 0) rfl (.cons (t := 2) rfl .nil))
  refine wpList_nil ?_
  refine wp_seq ?_
  refine wp_seq (reg_seq 3 (hF _ _) (by kernel_rfl) ?_)
  refine net_cons rfl rfl (n_move rfl (ev rfl)) ?_
  refine net_cons rfl rfl (n_len rfl (ev rfl) Try.underlying63) ?_
  refine net_cons rfl rfl (n_bin rfl (ev rfl) evc (r_lssN (b := 1))) ?_
  refine net_nil fun a w1 hF hx => ?_
  replace hw := hw.next hx
  replace hF := hF.keep (.cons (t := 0) rfl (.cons (t := 2) rfl (.cons (t := 7) rfl .nil)))
  refine wpList_nil ?_
  refine wp_cond_false ((hF.ev (ev rfl)).trans (congrArg Value.bool (by simp; omega))) ?_
  refine wp_skip ?_
  obtain ⟨x, hx0⟩ := some_at hl h0
  have hF_ := hF
  have hw_ := hw
  obtain ⟨bX, oX, rfl, hcX⟩ := hR.at_ (by rw [List.length_map]; omega)
  have hF := hF_
  have hw := hw_
  refine wp_seq (reg_seq 4 (hF _ _) (by kernel_rfl) ?_)
  refine net_cons rfl rfl (n_move rfl (ev rfl)) ?_
  refine net_cons rfl rfl (n_indexS (j := 0) (off' := oX + (0)) rfl (ev rfl) evc Try.underlying63 Try.sizeOf24 (by omega) (by omega)) ?_
  refine net_cons rfl rfl (n_load rfl (ev rfl) (fun w2 hx2 => ld1R hcX (map_at hx0) Try.isAgg24 (by omega) w2 (hw.ext.trans hx2))) ?_
  refine net_cons rfl rfl (n_assign rfl (ev rfl)) ?_
  refine net_nil fun a w1 hF hx => ?_
  replace hw := hw.next hx
  replace hF := hF.keep (.cons (t := 0) rfl (.cons (t := 2) rfl (.cons (t := 3) rfl (.cons (t := 7) rfl .nil))))
  refine wpList_nil ?_
  refine wp_seq ?_
  refine wp_seq (reg_seq 1 (hF _ _) (by kernel_rfl) ?_)
  refine net_cons rfl rfl (n_assign rfl evc) ?_
  refine net_nil fun a w1 hF hx => ?_
  replace hw := hw.next hx
  replace hF := hF.keep (.cons (t := 0) rfl (.cons (t := 2) rfl (.cons (t := 3) rfl (.cons (t := 4) rfl (.cons (t := 7) rfl .nil)))))
  refine wpList_nil ?_
  refine wp_block ?_
  refine wp_loop_ix (α := Nat) (fun i a w1 => FrV 25 [] [(0, .is (.slice (some ⟨bX, oX, none⟩) n c)) , (3, .is (U (mxN (l.take i)))) , (4, .is (I (i : Int)))] a ∧ Own w w1 [] ∧ (1 ≤ i) ∧ (i ≤ n)) (fun i => n - i) (1) ⟨(by rw [← mxN_one hx0]; exact hF.keep (.cons (t := 0) rfl (.cons (t := 3) rfl (.cons (t := 4) rfl .nil)))), hw, by omega, by omega⟩ ?_
  rintro i a w1 ⟨hF, hw, hi1, hi0⟩
  refine wp_seq ?_
  refine wp_seq (reg_seq 4 (hF _ _) (by kernel_rfl) ?_)
  refine net_cons rfl rfl (n_move rfl (ev rfl)) ?_
  refine net_cons rfl rfl (n_move rfl (ev rfl)) ?_
  refine net_cons rfl rfl (n_len rfl (ev rfl) Try.underlying63) ?_
  refine net_cons rfl rfl (n_bin rfl (ev rfl) (ev rfl) r_lssN) ?_
  refine net_nil fun a w1 hF hx => ?_
  replace hw := hw.next hx
  replace hF := hF.keep (.cons (t := 0) rfl (.cons (t := 3) rfl (.cons (t := 4) rfl (.cons (t := 15) rfl .nil))))
  refine wpList_nil ?_
  refine wp_cond_split (hF.ev (ev rfl)) (fun h15 => ?_) (fun h15 => ?_)
  · have hi : i < n := of_bool_t h15
    obtain ⟨y, hy0⟩ := some_at hl hi
    refine wp_skip ?_
    refine wp_seq (wp_block ?_)
    refine reg_seq 7 (hF _ _) (by kernel_rfl) ?_
    refine net_cons rfl rfl (n_move rfl (ev rfl)) ?_
    refine net_cons rfl rfl (n_move rfl (ev rfl)) ?_
    refine net_cons rfl rfl (n_move rfl (ev rfl)) ?_
    refine net_cons rfl rfl (n_indexS (off' := oX + (i)) rfl (ev rfl) (ev rfl) Try.underlying63 Try.sizeOf24 (by omega) (by omega)) ?_
    refine net_cons rfl rfl (n_load rfl (ev rfl) (fun w2 hx2 => ld1R hcX (map_at hy0) Try.isAgg24 (by omega) w2 (hw.ext.trans hx2))) ?_
    refine net_cons rfl rfl (n_to (n_maxU rfl (ev rfl) (ev rfl)) (congrArg (fun n : Nat => U n) (mxN_take hy0))) ?_
    refine net_cons rfl rfl (n_assign rfl (ev rfl)) ?_
    refine net_nil fun a w1 hF hx => ?_
    replace hw := hw.next hx
    replace hF := hF.keep (.cons (t := 0) rfl (.cons (t := 3) rfl (.cons (t := 4) rfl (.cons (t := 15) rfl .nil))))
    refine wpList_nil ?_
    refine reg_seq 3 (hF _ _) (by kernel_rfl) ?_
    refine net_cons rfl rfl (n_move rfl (ev rfl)) ?_
    refine net_cons rfl rfl (n_bin rfl (ev rfl) evc (r_inc (by omega))) ?_
    refine net_cons rfl rfl (n_assign rfl (ev rfl)) ?_
    refine net_nil fun a w1 hF hx => ?_
    replace hw := hw.next hx
    replace hF := hF.keep (.cons (t := 0) rfl (.cons (t := 3) rfl (.cons (t := 4) rfl (.cons (t := 15) rfl .nil))))
    refine wpList_nil ?_
    exact ⟨i + 1, ⟨hF.keep (.cons (t := 0) rfl (.cons (t := 3) rfl (.cons (t := 4) rfl (.nil)))), hw, by omega, by omega⟩, by omega⟩
  · obtain rfl : i = n := by have := of_bool_f h15; omega
    refine wp_exit (go_then_e (go_then_e (go_exit ?_)))
    refine wp_seq (reg_seq 2 (hF _ _) (by kernel_rfl) ?_)
    refine net_cons rfl rfl (n_move rfl (ev rfl)) ?_
    refine net_cons rfl rfl (n_assign rfl (ev rfl)) ?_
    refine net_nil fun a w1 hF hx => ?_
    replace hw := hw.next hx
    replace hF := hF.keep (.cons (t := 0) rfl (.cons (t := 2) rfl (.cons (t := 3) rfl (.cons (t := 4) rfl (.cons (t := 15) rfl .nil)))))
    refine wpList_nil ?_
    refine wp_ret (ret1 hF Try.results87 rfl ?_)
    exact ⟨_, rfl, hw.ext, (by show U _ = U _; rw [take_len hl])⟩

theorem PValue_c (kd : Nat) (dp dg : Int) (p q g : Nat) (hp : p < 18446744073709551616) (hq : q < 18446744073709551616) (hg : g < 18446744073709551616) (n cp : Nat) (A : Option Addr) (l : List Nat) (x : Nat) (hl : l.length = n) (hn : n ≤ 9223372036854775800) (w : World) (hR : Rd w A (l.map U)) : RetF Try.prog 33 [SV kd dp dg p q g, .slice A n cp, U x].toArray w (.is (.tuple #[U (valR kd dp dg p q g n l x).1, I (valR kd dp dg p q g n l x).2])) := by
  refine enter Try.func33 rfl Try.ntmps33 rfl fun a hF => ?_
  have hw := Own.start w
  refine wp_seq (wp_region_lit ?_)
  refine t_net 0 1 (by kernel_rfl) rfl hF ?_
  refine net_cons rfl rfl (n_box rfl (ev rfl) rfl) ?_
  refine net_nil fun a w1 hF hx => ?_
  obtain ⟨b3, h_, hw⟩ := hw.blk hx (hF.at_ 3 _ rfl)
  replace hF := hF.now h_
  replace hF := hF.keep (.cons (t := 1) rfl (.cons (t := 2) rfl (.cons (t := 3) rfl .nil)))
  refine t_net 1 2 (by kernel_rfl) rfl hF ?_
  refine net_cons rfl rfl (n_assign rfl evc) ?_
  refine net_cons rfl rfl (n_assign rfl evc) ?_
  refine net_nil fun a w1 hF hx => ?_
  replace hw := hw.next hx
  replace hF := hF.keep (.cons (t := 1) rfl (.cons (t := 2) rfl (.cons (t := 3) rfl (.cons (t := 6) rfl (.cons (t := 7) rfl .nil)))))
  refine wpList_nil ?_
  refine wp_seq ?_
  refine wp_seq (reg_seq 3 (hF _ _) (by kernel_rfl) ?_)
  refine net_cons rfl rfl (n_load rfl (ev rfl) (ldN hw (i := 0) (vs := _) rfl Try.isAgg28 Try.sizeOf28 rfl rfl)) ?_
  refine net_cons rfl rfl (n_ret rfl Try.call63 (.cons (ev rfl) .nil) (fun _ hx => (valid_c _ _ _ _ _ _ hp hq hg _))) ?_
  refine net_cons rfl rfl (n_not rfl (ev rfl)) ?_
  refine net_nil fun a w1 hF hx => ?_
  replace hw := hw.next hx
  replace hF := hF.keep (.cons (t := 1) rfl (.cons (t := 2) rfl (.cons (t := 3) rfl (.cons (t := 6) rfl (.cons (t := 7) rfl (.cons (t := 10) rfl .nil))))))
  refine wpList_nil ?_
  refine wp_cond_split (hF.ev (ev rfl)) (fun h10 => ?_) (fun h10 => ?_)
  · have hz : okS kd dp dg p q g = false := by simpa using h10
    refine wp_seq (reg_seq 2 (hF _ _) (by kernel_rfl) ?_)
    refine net_cons rfl rfl (n_assign rfl evc) ?_
    refine net_cons rfl rfl (n_assign rfl evc) ?_
    refine net_nil fun a w1 hF hx => ?_
    replace hw := hw.next hx
    replace hF := hF.keep (.cons (t := 1) rfl (.cons (t := 2) rfl (.cons (t := 3) rfl (.cons (t := 6) rfl (.cons (t := 7) rfl (.cons (t := 10) rfl .nil))))))
    refine wpList_nil ?_
    refine wp_ret (go_then_r (ret2 hF Try.results33 rfl rfl ?_))
    exact ⟨_, rfl, hw.ext, (by rw [valR_no hz]; rfl)⟩
  · have hz : okS kd dp dg p q g = true := by simpa using h10
    obtain ⟨hz1, hz2, hz3, hz4, hz5, hz6, hz7⟩ := okS_all hz
    obtain ⟨hz8, hz9, hz10, hz11, hz12⟩ := okG_q hz6
    obtain ⟨hpp, hqp, _⟩ := okG_all hz6
    refine wp_skip ?_
    refine wp_seq ?_
    refine wp_seq (reg_draw 21 mixed (by kernel_rfl) (hF _ _) ?_)
    refine net_cons rfl rfl (n_move rfl (ev rfl)) ?_
    refine net_cons rfl rfl (n_len rfl (ev rfl) Try.underlying63) ?_
    refine net_cons rfl rfl (n_fieldAddrO (off' := 2) rfl (ev rfl) Try.runUnderlying28 rfl Try.sizeOf3 rfl) ?_
    refine net_cons rfl rfl (n_load rfl (ev rfl) (ld1 hw (i := 0) rfl Try.isAgg3 rfl)) ?_
    refine net_cons rfl rfl (n_bin rfl (ev rfl) evc (r_addI (by omega) (by omega))) ?_
    refine net_cons rfl rfl (n_bin rfl (ev rfl) (ev rfl) r_neq) ?_
    refine net_cons rfl rfl (n_move rfl (ev rfl)) ?_
    refine net_if rfl rfl rfl rfl (fun hc => (n_move rfl (ev rfl))) ?_
    refine net_if rfl rfl rfl rfl (fun hc => (n_ret rfl Try.call87 (.cons (evi rfl hc) .nil) (fun _ hx => (Max_c n cp A l hl (by simp at hc; omega) (by omega) _ (hR.ext (hw.ext.trans hx)))))) ?_
    refine net_if rfl rfl rfl rfl (fun hc => (n_fieldAddrO (off' := 3) rfl (ev rfl) Try.runUnderlying28 rfl Try.sizeOf26 rfl)) ?_
    refine net_if rfl rfl rfl rfl (fun hc => (n_fieldAddrO (off' := 4) rfl (evi rfl hc) Try.runUnderlying26 rfl Try.sizeOf24 rfl)) ?_
    refine net_if rfl rfl rfl rfl (fun hc => (n_load rfl (evi rfl hc) (ld1 hw (i := 0) rfl Try.isAgg24 rfl))) ?_
    refine net_if rfl rfl rfl rfl (fun hc => (n_bin rfl (evi rfl hc) (evi rfl hc) (r_geqN))) ?_
    refine net_cons rfl rfl (n_pick_or rfl (ev rfl) (fun h => (evi rfl h))) ?_
    refine net_cons rfl rfl (n_move rfl (ev rfl)) ?_
    refine net_if rfl rfl rfl rfl (fun hc => (n_move rfl (ev rfl))) ?_
    refine net_if rfl rfl rfl rfl (fun hc => (n_fieldAddrO (off' := 3) rfl (ev rfl) Try.runUnderlying28 rfl Try.sizeOf26 rfl)) ?_
    refine net_if rfl rfl rfl rfl (fun hc => (n_fieldAddrO (off' := 4) rfl (evi rfl hc) Try.runUnderlying26 rfl Try.sizeOf24 rfl)) ?_
    refine net_if rfl rfl rfl rfl (fun hc => (n_load rfl (evi rfl hc) (ld1 hw (i := 0) rfl Try.isAgg24 rfl))) ?_
    refine net_if rfl rfl rfl rfl (fun hc => (n_bin rfl (evi rfl hc) (evi rfl hc) (r_geqN))) ?_
    refine net_cons rfl rfl (n_pick_or rfl (ev rfl) (fun h => (evi rfl h))) ?_
    refine net_nil fun a w1 hF hx => ?_
    replace hw := hw.next hx
    replace hF := hF.keep (.cons (t := 1) rfl (.cons (t := 2) rfl (.cons (t := 3) rfl (.cons (t := 6) rfl (.cons (t := 7) rfl (.cons (t := 10) rfl (.cons (t := 31) rfl .nil)))))))
    refine wpList_nil ?_
    refine wp_cond_split (hF.ev (ev rfl)) (fun h31 => ?_) (fun h31 => ?_)
    · have hpk := polyOk_neg (by omega) h31
      refine wp_seq (reg_seq 2 (hF _ _) (by kernel_rfl) ?_)
      refine net_cons rfl rfl (n_assign rfl evc) ?_
      refine net_cons rfl rfl (n_assign rfl evc) ?_
      refine net_nil fun a w1 hF hx => ?_
      replace hw := hw.next hx
      replace hF := hF.keep (.cons (t := 1) rfl (.cons (t := 2) rfl (.cons (t := 3) rfl (.cons (t := 6) rfl (.cons (t := 7) rfl (.cons (t := 10) rfl (.cons (t := 31) rfl .nil)))))))
      refine wpList_nil ?_
      refine wp_ret (go_then_r (ret2 hF Try.results33 rfl rfl ?_))
      exact ⟨_, rfl, hw.ext, (by rw [valR_bad hz hpk]; rfl)⟩
    · have hpk := polyOk_neg (by omega) h31
      obtain ⟨hpk1, hpk2, hpk3⟩ := polyOk_all hpk
      refine wp_skip ?_
      refine wp_seq (reg_seq 8 (hF _ _) (by kernel_rfl) ?_)
      refine net_cons rfl rfl (n_move rfl (ev rfl)) ?_
      refine net_cons rfl rfl (n_fieldAddrO (off' := 3) rfl (ev rfl) Try.runUnderlying28 rfl Try.sizeOf26 rfl) ?_
      refine net_cons rfl rfl (n_fieldAddrO (off' := 4) rfl (ev rfl) Try.runUnderlying26 rfl Try.sizeOf24 rfl) ?_
      refine net_cons rfl rfl (n_load rfl (ev rfl) (ld1 hw (i := 0) rfl Try.isAgg24 rfl)) ?_
      refine net_cons rfl rfl (n_move rfl (ev rfl)) ?_
      refine net_cons rfl rfl (n_ret rfl Try.call65 (.cons (ev rfl) (.cons (ev rfl) (.cons (ev rfl) .nil))) (fun _ hx => (at_c q x n cp A l (by omega) (by omega) hpk3 hpk2 hl (by omega) _ (hR.ext (hw.ext.trans hx))))) ?_
      refine net_cons rfl rfl (n_assign rfl (ev rfl)) ?_
      refine net_cons rfl rfl (n_assign rfl evc) ?_
      refine net_nil fun a w1 hF hx => ?_
      replace hw := hw.next hx
      replace hF := hF.keep (.cons (t := 1) rfl (.cons (t := 2) rfl (.cons (t := 3) rfl (.cons (t := 6) rfl (.cons (t := 7) rfl (.cons (t := 10) rfl (.cons (t := 31) rfl .nil)))))))
      refine wpList_nil ?_
      refine wp_ret (ret2 hF Try.results33 rfl rfl ?_)
      exact ⟨_, rfl, hw.ext, (by rw [valR_ok hz hpk]; rfl)⟩

theorem interp1_c (kd : Nat) (dp dg : Int) (p q g : Nat) (x : Nat × Nat) (b : Nat) (w : World) (hb : w.heap[b]? = some (.cells [B8 kd, I dp, I dg, U p, U q, U g].toArray 28 (0, 0))) : RetF Try.prog 89 [PtV x, ptr0 b].toArray w (.is (.bool (bdP q x))) := by
  refine enter Try.func89 rfl Try.ntmps89 rfl fun a hF => ?_
  have hw := Own.start w
  refine wp_seq (wp_region_lit ?_)
  refine t_net 0 1 (by kernel_rfl) rfl hF ?_
  refine net_cons rfl rfl (n_box rfl (ev rfl) rfl) ?_
  refine net_nil fun a w1 hF hx => ?_
  obtain ⟨b2, h_, hw⟩ := hw.blk hx (hF.at_ 2 _ rfl)
  replace hF := hF.now h_
  replace hF := hF.keep (.cons (t := 1) rfl (.cons (t := 2) rfl .nil))
  refine t_net 1 1 (by kernel_rfl) rfl hF ?_
  refine net_cons rfl rfl (n_assign rfl evc) ?_
  refine net_nil fun a w1 hF hx => ?_
  replace hw := hw.next hx
  replace hF := hF.keep (.cons (t := 1) rfl (.cons (t := 2) rfl (.cons (t := 3) rfl .nil)))
  refine wpList_nil ?_
  refine wp_seq (reg_seq 15 (hF _ _) (by kernel_rfl) ?_)
  refine net_cons rfl rfl (n_fieldAddrO (off' := 0) rfl (ev rfl) Try.runUnderlying31 rfl Try.sizeOf24 rfl) ?_
  refine net_cons rfl rfl (n_load rfl (ev rfl) (ld1 hw (i := 0) rfl Try.isAgg24 rfl)) ?_
  refine net_cons rfl rfl (n_fieldAddrO (off' := 3) rfl (ev rfl) Try.runUnderlying28 rfl Try.sizeOf26 rfl) ?_
  refine net_cons rfl rfl (n_fieldAddrO (off' := 4) rfl (ev rfl) Try.runUnderlying26 rfl Try.sizeOf24 rfl) ?_
  refine net_cons rfl rfl (n_load rfl (ev rfl) (fun w2 hx2 => ldH1 hb Try.isAgg24 rfl w2 (hw.ext.trans hx2))) ?_
  refine net_cons rfl rfl (n_bin rfl (ev rfl) (ev rfl) (r_geqN)) ?_
  refine net_cons rfl rfl (n_move rfl (ev rfl)) ?_
  refine net_if rfl rfl rfl rfl (fun hc => (n_fieldAddrO (off' := 1) rfl (ev rfl) Try.runUnderlying31 rfl Try.sizeOf24 rfl)) ?_
  refine net_if rfl rfl rfl rfl (fun hc => (n_load rfl (evi rfl hc) (ld1 hw (i := 0) rfl Try.isAgg24 rfl))) ?_
  refine net_if rfl rfl rfl rfl (fun hc => (n_fieldAddrO (off' := 3) rfl (ev rfl) Try.runUnderlying28 rfl Try.sizeOf26 rfl)) ?_
  refine net_if rfl rfl rfl rfl (fun hc => (n_fieldAddrO (off' := 4) rfl (evi rfl hc) Try.runUnderlying26 rfl Try.sizeOf24 rfl)) ?_
  refine net_if rfl rfl rfl rfl (fun hc => (n_load rfl (evi rfl hc) (fun w2 hx2 => ldH1 hb Try.isAgg24 rfl w2 (hw.ext.trans hx2)))) ?_
  refine net_if rfl rfl rfl rfl (fun hc => (n_bin rfl (evi rfl hc) (evi rfl hc) (r_geqN))) ?_
  refine net_cons rfl rfl (n_pick_or rfl (ev rfl) (fun h => (evi rfl h))) ?_
  refine net_cons rfl rfl (n_assign rfl (ev rfl)) ?_
  refine net_nil fun a w1 hF hx => ?_
  replace hw := hw.next hx
  replace hF := hF.keep (.cons (t := 3) rfl .nil)
  refine wpList_nil ?_
  refine wp_ret (ret1 hF Try.results89 rfl ?_)
  exact ⟨_, rfl, hw.ext, rfl⟩


theorem nwP_go {q n m : Nat} {pts : List (Nat × Nat)} (hl : pts.length = n) : nwP q pts (m + 1) = stepP q (ptX pts (n - 1 - m)) (ddN q pts (n - 1) (n - 1 - m)) (nwP q pts m) := by
  subst hl
  rfl
theorem ptX_at {pts : List (Nat × Nat)} {i : Nat} {x : Nat × Nat} (h : pts[i]? = some x) : ptX pts i = x.1 := by
  simp only [ptX, List.getD_eq_getElem?_getD, h, Option.getD_some]
theorem nw_new {q n m k u v : Nat} {pts : List (Nat × Nat)} {x : Nat × Nat} (hl : pts.length = n) (hx : pts[n - 1 - m]? = some x) (hk : 0 < k) (hu : (nwP q pts m)[k - 1]? = some u) (hv : (nwP q pts m)[k]? = some v) : (nwP q pts (m + 1))[k]? = some ((u + q - mulF q [v, x.1]) % q) := by
  rw [nwP_go hl, ptX_at hx]
  obtain ⟨j, rfl⟩ : ∃ j, k = j + 1 := ⟨k - 1, by omega⟩
  exact stepP_hi hu hv
theorem nw_new0 {q n m v : Nat} {pts : List (Nat × Nat)} {x : Nat × Nat} (hl : pts.length = n) (hx : pts[n - 1 - m]? = some x) (hv : (nwP q pts m)[0]? = some v) : (nwP q pts (m + 1))[0]? = some ((ddN q pts (n - 1) (n - 1 - m) + q - mulF q [v, x.1]) % q) := by
  rw [nwP_go hl, ptX_at hx]
  exact stepP_lo hv
theorem pts_ne {pts : List (Nat × Nat)} (hd : (pts.map (·.1)).Nodup) {i k : Nat} {x y : Nat × Nat} (hx : pts[i]? = some x) (hy : pts[k]? = some y) (hik : i ≠ k) : x.1 ≠ y.1 := by
  have := getD_ne hd i k (List.getElem?_eq_some_iff.1 hx).1 (List.getElem?_eq_some_iff.1 hy).1 hik
  rwa [ptX_at hx, ptX_at hy] at this
theorem mulF2_lt {q a b : Nat} (hq : 0 < q) : mulF q [a, b] < q := by rw [mulF2]; exact Nat.mod_lt _ hq


theorem Interpolate_c (kd : Nat) (dp dg : Int) (p q g : Nat) (hp : p < 18446744073709551616) (hq : q < 18446744073709551616) (hg : g < 18446744073709551616) (n c : Nat) (A : Option Addr) (pts : List (Nat × Nat)) (hl : pts.length = n) (hcp : n ≤ c) (hn : n ≤ 8796093021952) (w : World) (hR : Rd w A (pc pts)) : RetF Try.prog 34 [SV kd dp dg p q g, .slice A n c].toArray w (.ex 24 1 (intR kd dp dg p q g n pts).1.length ((intR kd dp dg p q g n pts).1.map U) (fun v => .tuple #[v, I (intR kd dp dg p q g n pts).2])) := by
  refine enterM Try.func34 rfl Try.ntmps34 rfl fun a hF => ?_
  have hw := Own.start w
  refine wp_seq (wp_region_lit ?_)
  refine t_net 0 1 (by kernel_rfl) rfl hF ?_
  refine net_cons rfl rfl (n_box rfl (ev rfl) rfl) ?_
  refine net_nil fun a w1 hF hx => ?_
  obtain ⟨b2, h_, hw⟩ := hw.blk hx (hF.at_ 2 _ rfl)
  replace hF := hF.now h_
  replace hF := hF.keep (.cons (t := 1) rfl (.cons (t := 2) rfl .nil))
  refine t_net 1 1 (by kernel_rfl) rfl hF ?_
  refine net_cons rfl rfl (n_box rfl (ev rfl) rfl) ?_
  refine net_nil fun a w1 hF hx => ?_
  obtain ⟨b3, h_, hw⟩ := hw.blk hx (hF.at_ 3 _ rfl)
  replace hF := hF.now h_
  replace hF := hF.keep (.cons (t := 2) rfl (.cons (t := 3) rfl .nil))
  refine t_net 2 2 (by kernel_rfl) rfl hF ?_
  refine net_cons rfl rfl (n_assign rfl evc) ?_
  refine net_cons rfl rfl (n_assign rfl evc) ?_
  refine net_nil fun a w1 hF hx => ?_
  replace hw := hw.next hx
  replace hF := hF.keep (.cons (t := 2) rfl (.cons (t := 3) rfl (.cons (t := 4) rfl (.cons (t := 5) rfl .nil))))
  refine wpList_nil ?_
  refine wp_seq ?_
  refine wp_seq (reg_seq 3 (hF _ _) (by kernel_rfl) ?_)
  refine net_cons rfl rfl (n_load rfl (ev rfl) (ldN hw (i := 0) (vs := _) rfl Try.isAgg28 Try.sizeOf28 rfl rfl)) ?_
  refine net_cons rfl rfl (n_ret rfl Try.call63 (.cons (ev rfl) .nil) (fun _ hx => (valid_c _ _ _ _ _ _ hp hq hg _))) ?_
  refine net_cons rfl rfl (n_not rfl (ev rfl)) ?_
  refine net_nil fun a w1 hF hx => ?_
  replace hw := hw.next hx
  replace hF := hF.keep (.cons (t := 2) rfl (.cons (t := 3) rfl (.cons (t := 4) rfl (.cons (t := 5) rfl (.cons (t := 18) rfl .nil)))))
  refine wpList_nil ?_
  refine wp_cond_split (hF.ev (ev rfl)) (fun h18 => ?_) (fun h18 => ?_)
  · have hz : okS kd dp dg p q g = false := by simpa using h18
    refine wp_seq (reg_seq 2 (hF _ _) (by kernel_rfl) ?_)
    refine net_cons rfl rfl (n_assign rfl evc) ?_
    refine net_cons rfl rfl (n_assign rfl evc) ?_
    refine net_nil fun a w1 hF hx => ?_
    replace hw := hw.next hx
    replace hF := hF.keep (.cons (t := 2) rfl (.cons (t := 3) rfl (.cons (t := 4) rfl (.cons (t := 5) rfl (.cons (t := 18) rfl .nil)))))
    refine wpList_nil ?_
    refine wp_ret (go_then_r (retN2 hF Try.results34 rfl rfl ?_))
    exact ⟨_, rfl, hw.ext, (rowF_nil (intR_no hz))⟩
  · have hz : okS kd dp dg p q g = true := by simpa using h18
    obtain ⟨hz1, hz2, hz3, hz4, hz5, hz6, hz7⟩ := okS_all hz
    obtain ⟨hz8, hz9, hz10, hz11, hz12⟩ := okG_q hz6
    obtain ⟨hpp, hqp, _⟩ := okG_all hz6
    refine wp_skip ?_
    refine wp_seq (wp_region_lit ?_)
    refine t_net 0 4 (by kernel_rfl) rfl hF ?_
    refine net_cons rfl rfl (n_fieldAddrO (off' := 3) rfl (ev rfl) Try.runUnderlying28 rfl Try.sizeOf26 rfl) ?_
    refine net_cons rfl rfl (n_fieldAddrO (off' := 4) rfl (ev rfl) Try.runUnderlying26 rfl Try.sizeOf24 rfl) ?_
    refine net_cons rfl rfl (n_load rfl (ev rfl) (ld1 hw (i := 0) rfl Try.isAgg24 rfl)) ?_
    refine net_cons rfl rfl (n_alloc rfl Try.zeroValue119 rfl) ?_
    refine net_nil fun a w1 hF hx => ?_
    obtain ⟨b6, h_, hw⟩ := hw.blk hx (hF.at_ 6 _ rfl)
    replace hF := hF.now h_
    replace hF := hF.keep (.cons (t := 2) rfl (.cons (t := 3) rfl (.cons (t := 4) rfl (.cons (t := 5) rfl (.cons (t := 6) rfl (.cons (t := 18) rfl (.cons (t := 21) rfl .nil)))))))
    refine t_store (i := 2) rfl rfl rfl hF hw rfl (ev rfl) (ev rfl) rfl one1 Try.sizeOf119 rfl (Nat.le_of_ble_eq_true rfl) rfl fun w1 hw => ?_
    refine wpList_nil ?_
    refine wp_seq ?_
    refine wp_seq (reg_seq 16 (hF _ _) (by kernel_rfl) ?_)
    refine net_cons rfl rfl (n_load rfl (ev rfl) (ld1 hw (i := 1) rfl Try.isAgg43 rfl)) ?_
    refine net_cons rfl rfl (n_len rfl (ev rfl) Try.underlying43) ?_
    refine net_cons rfl rfl (n_fieldAddrO (off' := 2) rfl (ev rfl) Try.runUnderlying28 rfl Try.sizeOf3 rfl) ?_
    refine net_cons rfl rfl (n_load rfl (ev rfl) (ld1 hw (i := 0) rfl Try.isAgg3 rfl)) ?_
    refine net_cons rfl rfl (n_bin rfl (ev rfl) evc (r_addI (by omega) (by omega))) ?_
    refine net_cons rfl rfl (n_bin rfl (ev rfl) (ev rfl) r_neq) ?_
    refine net_cons rfl rfl (n_move rfl (ev rfl)) ?_
    refine net_if rfl rfl rfl rfl (fun hc => (n_load rfl (ev rfl) (ld1 hw (i := 1) rfl Try.isAgg43 rfl))) ?_
    refine net_if rfl rfl rfl rfl (fun hc => (n_makeFunc rfl (vs := #[ptr0 b2]) (.cons (ev rfl) .nil))) ?_
    refine net_if rfl rfl rfl rfl (fun hc => (n_ret rfl Try.call88 (.cons (evi rfl hc) (.cons (evi rfl hc) .nil)) (fun _ hx => (ContainsFuncP_c 89 [ptr0 b2] (bdP q) n c A pts hl (by omega) Try.call89 _ (hR.ext (hw.ext.trans hx)) (fun w2 hx2 x hx_ => interp1_c kd dp dg p q g x b2 w2 (hw.heap (i := 0) rfl (hx.trans hx2))))))) ?_
    refine net_cons rfl rfl (n_pick_or rfl (ev rfl) (fun h => (evi rfl h))) ?_
    refine net_cons rfl rfl (n_move rfl (ev rfl)) ?_
    refine net_if rfl rfl rfl rfl (fun hc => (n_load rfl (ev rfl) (ld1 hw (i := 1) rfl Try.isAgg43 rfl))) ?_
    refine net_if rfl rfl rfl rfl (fun hc => (n_ret rfl Try.call75 (.cons (evi rfl hc) .nil) (fun _ hx => (distinct_c n c A pts hl hcp (by omega) _ (hR.ext (hw.ext.trans hx)))))) ?_
    refine net_if rfl rfl rfl rfl (fun hc => (n_not rfl (evi rfl hc))) ?_
    refine net_cons rfl rfl (n_pick_or rfl (ev rfl) (fun h => (evi rfl h))) ?_
    refine net_nil fun a w1 hF hx => ?_
    replace hw := hw.next hx
    replace hF := hF.keep (.cons (t := 2) rfl (.cons (t := 3) rfl (.cons (t := 4) rfl (.cons (t := 5) rfl (.cons (t := 6) rfl (.cons (t := 18) rfl (.cons (t := 21) rfl (.cons (t := 37) rfl .nil))))))))
    refine wpList_nil ?_
    refine wp_cond_split (hF.ev (ev rfl)) (fun h37 => ?_) (fun h37 => ?_)
    · have hrt := right_neg h37
      refine wp_seq (reg_seq 2 (hF _ _) (by kernel_rfl) ?_)
      refine net_cons rfl rfl (n_assign rfl evc) ?_
      refine net_cons rfl rfl (n_assign rfl evc) ?_
      refine net_nil fun a w1 hF hx => ?_
      replace hw := hw.next hx
      replace hF := hF.keep (.cons (t := 2) rfl (.cons (t := 3) rfl (.cons (t := 4) rfl (.cons (t := 5) rfl (.cons (t := 6) rfl (.cons (t := 18) rfl (.cons (t := 21) rfl (.cons (t := 37) rfl .nil))))))))
      refine wpList_nil ?_
      refine wp_ret (go_then_r (retN2 hF Try.results34 rfl rfl ?_))
      exact ⟨_, rfl, hw.ext, (rowF_nil (intR_bad hz hrt))⟩
    · have hrt : (decide ((n : Int) = dg + 1) && rightL q pts) = true := right_neg h37
      obtain ⟨hnd, hrr⟩ := and_t2 hrt
      obtain ⟨hxy, hnod⟩ := right_all hrr
      have hdd := ddN_lt (q := q) (show 0 < q by omega) (pts := pts) (fun i => (getD_lt (show 0 < q by omega) hxy i).2)
      have hF_ := hF
      have hw_ := hw
      obtain ⟨bX, oX, rfl, hcX⟩ := hR.at_ (by rw [pc_len]; omega)
      have hF := hF_
      have hw := hw_
      refine wp_skip ?_
      refine wp_seq (wp_region_lit ?_)
      refine t_net 0 3 (by kernel_rfl) rfl hF ?_
      refine net_cons rfl rfl (n_load rfl (ev rfl) (ld1 hw (i := 1) rfl Try.isAgg43 rfl)) ?_
      refine net_cons rfl rfl (n_len rfl (ev rfl) Try.underlying43) ?_
      refine net_cons rfl rfl (n_mkU (n := n) sl63 zU rfl (ev rfl) (ev rfl) (by omega) (by omega)) ?_
      refine net_nil fun a w1 hF hx => ?_
      obtain ⟨b40, h_, hw⟩ := hw.cap hx (hF.at_ 40 _ rfl)
      replace hF := hF.now (v := .slice (some ⟨b40, 0, none⟩) (n) (n)) h_
      replace hF := hF.keep (.cons (t := 2) rfl (.cons (t := 3) rfl (.cons (t := 4) rfl (.cons (t := 5) rfl (.cons (t := 6) rfl (.cons (t := 18) rfl (.cons (t := 21) rfl (.cons (t := 37) rfl (.cons (t := 40) rfl .nil)))))))))
      refine t_net 3 1 (by kernel_rfl) rfl hF ?_
      refine net_cons rfl rfl (n_assign rfl (ev rfl)) ?_
      refine net_nil fun a w1 hF hx => ?_
      replace hw := hw.next hx
      replace hF := hF.keep (.cons (t := 2) rfl (.cons (t := 3) rfl (.cons (t := 4) rfl (.cons (t := 5) rfl (.cons (t := 6) rfl (.cons (t := 7) rfl (.cons (t := 18) rfl (.cons (t := 21) rfl (.cons (t := 37) rfl .nil)))))))))
      refine wpList_nil ?_
      refine wp_seq ?_
      refine wp_seq (reg_seq 3 (hF _ _) (by kernel_rfl) ?_)
      refine net_cons rfl rfl (n_load rfl (ev rfl) (ld1 hw (i := 1) rfl Try.isAgg43 rfl)) ?_
      refine net_cons rfl rfl (n_len rfl (ev rfl) Try.underlying43) ?_
      refine net_cons rfl rfl (n_move rfl evc) ?_
      refine net_nil fun a w1 hF hx => ?_
      replace hw := hw.next hx
      replace hF := hF.keep (.cons (t := 2) rfl (.cons (t := 3) rfl (.cons (t := 4) rfl (.cons (t := 5) rfl (.cons (t := 6) rfl (.cons (t := 7) rfl (.cons (t := 18) rfl (.cons (t := 21) rfl (.cons (t := 37) rfl (.cons (t := 41) rfl (.cons (t := 42) rfl (.cons (t := 43) rfl .nil))))))))))))
      refine wpList_nil ?_
      refine wp_block ?_
      refine wp_loop_ix (α := Nat) (fun i a w1 => FrV 151 [] [(2, .is (ptr0 b2)) , (3, .is (ptr0 b3)) , (6, .is (ptr0 b6)) , (7, .is (.slice (some ⟨b40, 0, none⟩) n n)) , (41, .is (.slice (some ⟨bX, oX, none⟩) n c)) , (42, .is (I (n : Int))) , (43, .is (I (i : Int)))] a ∧ Own w w1 [.blk b2 28 [B8 kd, I dp, I dg, U p, U q, U g], .blk b3 43 [.slice (some ⟨bX, oX, none⟩) n c], .blk b6 119 [U q], .blk b40 24 (fillG (U 0) ((pts.map fun x : Nat × Nat => x.2).map U) i)] ∧ (i ≤ n)) (fun i => n - i) (0) ⟨hF.keep (.cons (t := 2) rfl (.cons (t := 3) rfl (.cons (t := 6) rfl (.cons (t := 7) rfl (.cons (t := 41) rfl (.cons (t := 42) rfl (.cons (t := 43) rfl (.nil)))))))), (by rw [fillG_zero _ (by rw [List.length_map, List.length_map, hl])]; exact hw), by omega⟩ ?_
      rintro i a w1 ⟨hF, hw, hi0⟩
      refine wp_seq (reg_seq 1 (hF _ _) (by kernel_rfl) ?_)
      refine net_cons rfl rfl (n_bin rfl (ev rfl) (ev rfl) r_lssN) ?_
      refine net_nil fun a w1 hF hx => ?_
      replace hw := hw.next hx
      replace hF := hF.keep (.cons (t := 2) rfl (.cons (t := 3) rfl (.cons (t := 6) rfl (.cons (t := 7) rfl (.cons (t := 41) rfl (.cons (t := 42) rfl (.cons (t := 43) rfl (.cons (t := 44) rfl .nil))))))))
      refine wpList_nil ?_
      refine wp_seq ?_
      refine wp_cond_split (hF.ev (ev rfl)) (fun h44 => ?_) (fun h44 => ?_)
      · have hi : i < n := of_bool_t h44
        obtain ⟨x, hx0⟩ := some_at hl hi
        refine wp_skip ?_
        refine wp_seq (wp_block ?_)
        refine wp_seq (wp_region_lit ?_)
        refine t_net 0 4 (by kernel_rfl) rfl hF ?_
        refine net_cons rfl rfl (n_move rfl (ev rfl)) ?_
        refine net_cons rfl rfl (n_indexS (off' := oX + (i) * 2) rfl (ev rfl) (ev rfl) Try.underlying43 Try.sizeOf31 (by omega) rfl) ?_
        refine net_cons rfl rfl (n_load rfl (ev rfl) (fun w2 hx2 => ldNR hcX (fm_at (f := fun p : Nat × Nat => [U p.1, U p.2]) (sz := 2) (fun _ => rfl) hx0) rfl Try.isAgg31 Try.sizeOf31 (by omega) w2 (hw.ext.trans hx2))) ?_
        refine net_cons rfl rfl (n_alloc rfl Try.zeroValue31 rfl) ?_
        refine net_nil fun a w1 hF hx => ?_
        obtain ⟨b9, h_, hw⟩ := hw.blk hx (hF.at_ 9 _ rfl)
        replace hF := hF.now h_
        replace hF := hF.keep (.cons (t := 2) rfl (.cons (t := 3) rfl (.cons (t := 6) rfl (.cons (t := 7) rfl (.cons (t := 9) rfl (.cons (t := 41) rfl (.cons (t := 42) rfl (.cons (t := 43) rfl (.cons (t := 44) rfl (.cons (t := 45) rfl (.cons (t := 47) rfl .nil)))))))))))
        refine t_net 4 1 (by kernel_rfl) rfl hF ?_
        refine net_cons rfl rfl (n_assign rfl (ev rfl)) ?_
        refine net_nil fun a w1 hF hx => ?_
        replace hw := hw.next hx
        replace hF := hF.keep (.cons (t := 2) rfl (.cons (t := 3) rfl (.cons (t := 6) rfl (.cons (t := 7) rfl (.cons (t := 8) rfl (.cons (t := 9) rfl (.cons (t := 41) rfl (.cons (t := 42) rfl (.cons (t := 43) rfl (.cons (t := 44) rfl (.cons (t := 47) rfl .nil)))))))))))
        refine t_store (i := 4) rfl rfl rfl hF hw rfl (ev rfl) (ev rfl) rfl (by intro u hu; simp only [List.mem_cons, List.append_nil, List.not_mem_nil, or_false] at hu; rcases hu with rfl | rfl <;> rfl) Try.sizeOf31 rfl (Nat.le_of_ble_eq_true rfl) rfl fun w1 hw => ?_
        refine wpList_nil ?_
        refine wp_region_lit ?_
        refine t_net 0 5 (by kernel_rfl) rfl hF ?_
        refine net_cons rfl rfl (n_move rfl (ev rfl)) ?_
        refine net_cons rfl rfl (n_move rfl (ev rfl)) ?_
        refine net_cons rfl rfl (n_fieldAddrO (off' := 1) rfl (ev rfl) Try.runUnderlying31 rfl Try.sizeOf24 rfl) ?_
        refine net_cons rfl rfl (n_load rfl (ev rfl) (ld1 hw (i := 4) rfl Try.isAgg24 rfl)) ?_
        refine net_cons rfl rfl (n_indexS (off' := i) rfl (ev rfl) (ev rfl) Try.underlying63 Try.sizeOf24 (by omega) (by omega)) ?_
        refine net_nil fun a w1 hF hx => ?_
        replace hw := hw.next hx
        replace hF := hF.keep (.cons (t := 2) rfl (.cons (t := 3) rfl (.cons (t := 6) rfl (.cons (t := 7) rfl (.cons (t := 8) rfl (.cons (t := 9) rfl (.cons (t := 41) rfl (.cons (t := 42) rfl (.cons (t := 43) rfl (.cons (t := 44) rfl (.cons (t := 47) rfl (.cons (t := 51) rfl (.cons (t := 52) rfl .nil)))))))))))))
        refine t_store (i := 3) rfl rfl rfl hF hw rfl (ev rfl) (ev rfl) rfl one1 Try.sizeOf24 rfl (by rw [fillG_len, List.length_map, List.length_map]; omega) (fillG_step (map_at (map_at hx0))) fun w1 hw => ?_
        refine wpList_nil ?_
        refine reg_seq 2 (hF _ _) (by kernel_rfl) ?_
        refine net_cons rfl rfl (n_bin rfl (ev rfl) evc (r_inc (by omega))) ?_
        refine net_cons rfl rfl (n_move rfl (ev rfl)) ?_
        refine net_nil fun a w1 hF hx => ?_
        replace hw := hw.next hx
        replace hF := hF.keep (.cons (t := 2) rfl (.cons (t := 3) rfl (.cons (t := 6) rfl (.cons (t := 7) rfl (.cons (t := 8) rfl (.cons (t := 9) rfl (.cons (t := 41) rfl (.cons (t := 42) rfl (.cons (t := 43) rfl (.cons (t := 44) rfl (.cons (t := 47) rfl (.cons (t := 51) rfl (.cons (t := 52) rfl .nil)))))))))))))
        refine wpList_nil ?_
        exact ⟨i + 1, ⟨hF.keep (.cons (t := 2) rfl (.cons (t := 3) rfl (.cons (t := 6) rfl (.cons (t := 7) rfl (.cons (t := 41) rfl (.cons (t := 42) rfl (.cons (t := 43) rfl (.nil)))))))), (hw.drop (.cons_cons _ (.cons_cons _ (.cons_cons _ (.cons_cons _ (.cons _ .slnil)))))), by omega⟩, by omega⟩
      · obtain rfl : n = i := by have := of_bool_f h44; omega
        rw [fillG_full _ (show ((pts.map fun x : Nat × Nat => x.2).map U).length = n by rw [List.length_map, List.length_map, hl]), show (pts.map fun x : Nat × Nat => x.2) = dlN q pts 0 from dlN_zero.symm] at hw
        refine wp_exit (go_then_e (go_then_e (go_exit ?_)))
        refine wp_seq ?_
        refine wp_seq (reg_seq 1 (hF _ _) (by kernel_rfl) ?_)
        refine net_cons rfl rfl (n_assign rfl evc) ?_
        refine net_nil fun a w1 hF hx => ?_
        replace hw := hw.next hx
        replace hF := hF.keep (.cons (t := 2) rfl (.cons (t := 3) rfl (.cons (t := 6) rfl (.cons (t := 7) rfl (.cons (t := 10) rfl (.cons (t := 41) rfl (.cons (t := 42) rfl (.cons (t := 43) rfl (.cons (t := 44) rfl .nil)))))))))
        refine wpList_nil ?_
        refine wp_block ?_
        refine wp_loop_ix (α := Nat) (fun s a w1 => FrV 151 [] [(2, .is (ptr0 b2)) , (3, .is (ptr0 b3)) , (6, .is (ptr0 b6)) , (7, .is (.slice (some ⟨b40, 0, none⟩) n n)) , (10, .is (I ((s + 1 : Nat) : Int)))] a ∧ Own w w1 [.blk b2 28 [B8 kd, I dp, I dg, U p, U q, U g], .blk b3 43 [.slice (some ⟨bX, oX, none⟩) n c], .blk b6 119 [U q], .blk b40 24 ((dlN q pts s).map U)] ∧ (s + 1 ≤ n)) (fun s => n - s) (0) ⟨hF.keep (.cons (t := 2) rfl (.cons (t := 3) rfl (.cons (t := 6) rfl (.cons (t := 7) rfl (.cons (t := 10) rfl (.nil)))))), hw, by omega⟩ ?_
        rintro s a w1 ⟨hF, hw, hs⟩
        refine wp_seq ?_
        refine wp_seq (reg_seq 4 (hF _ _) (by kernel_rfl) ?_)
        refine net_cons rfl rfl (n_move rfl (ev rfl)) ?_
        refine net_cons rfl rfl (n_move rfl (ev rfl)) ?_
        refine net_cons rfl rfl (n_len rfl (ev rfl) Try.underlying63) ?_
        refine net_cons rfl rfl (n_bin rfl (ev rfl) (ev rfl) r_lssN) ?_
        refine net_nil fun a w1 hF hx => ?_
        replace hw := hw.next hx
        replace hF := hF.keep (.cons (t := 2) rfl (.cons (t := 3) rfl (.cons (t := 6) rfl (.cons (t := 7) rfl (.cons (t := 10) rfl (.cons (t := 57) rfl .nil))))))
        refine wpList_nil ?_
        refine wp_cond_split (hF.ev (ev rfl)) (fun h57 => ?_) (fun h57 => ?_)
        · have hs2 : s + 1 < n := of_bool_t h57
          refine wp_skip ?_
          refine wp_seq (wp_block ?_)
          refine wp_seq (reg_seq 4 (hF _ _) (by kernel_rfl) ?_)
          refine net_cons rfl rfl (n_move rfl (ev rfl)) ?_
          refine net_cons rfl rfl (n_len rfl (ev rfl) Try.underlying63) ?_
          refine net_cons rfl rfl (n_to (v' := I ((n - 1 : Nat) : Int)) (n_bin rfl (ev rfl) evc (r_subI (by omega) (by omega))) (congrArg (Value.int .i64) (by omega))) ?_
          refine net_cons rfl rfl (n_assign rfl (ev rfl)) ?_
          refine net_nil fun a w1 hF hx => ?_
          replace hw := hw.next hx
          replace hF := hF.keep (.cons (t := 2) rfl (.cons (t := 3) rfl (.cons (t := 6) rfl (.cons (t := 7) rfl (.cons (t := 10) rfl (.cons (t := 11) rfl (.cons (t := 57) rfl .nil)))))))
          refine wpList_nil ?_
          refine wp_block ?_
          refine wp_loop_ix (α := Nat) (fun k a w1 => FrV 151 [] [(2, .is (ptr0 b2)) , (3, .is (ptr0 b3)) , (6, .is (ptr0 b6)) , (7, .is (.slice (some ⟨b40, 0, none⟩) n n)) , (10, .is (I ((s + 1 : Nat) : Int))) , (11, .is (I (k : Int)))] a ∧ Own w w1 [.blk b2 28 [B8 kd, I dp, I dg, U p, U q, U g], .blk b3 43 [.slice (some ⟨bX, oX, none⟩) n c], .blk b6 119 [U q], .blk b40 24 ((mixL (dlN q pts s) (dlN q pts (s + 1)) (k + 1)).map U)] ∧ (k < n) ∧ (s ≤ k)) (fun k => k) (n - 1) ⟨hF.keep (.cons (t := 2) rfl (.cons (t := 3) rfl (.cons (t := 6) rfl (.cons (t := 7) rfl (.cons (t := 10) rfl (.cons (t := 11) rfl (.nil))))))), (by rw [show n - 1 + 1 = n by omega, mixL_full (dlN_len s hl) (dlN_len (s + 1) hl)]; exact hw), by omega, by omega⟩ ?_
          rintro k a w1 ⟨hF, hw, hk, hks⟩
          refine wp_seq ?_
          refine wp_seq (reg_seq 3 (hF _ _) (by kernel_rfl) ?_)
          refine net_cons rfl rfl (n_move rfl (ev rfl)) ?_
          refine net_cons rfl rfl (n_move rfl (ev rfl)) ?_
          refine net_cons rfl rfl (n_bin rfl (ev rfl) (ev rfl) r_geq) ?_
          refine net_nil fun a w1 hF hx => ?_
          replace hw := hw.next hx
          replace hF := hF.keep (.cons (t := 2) rfl (.cons (t := 3) rfl (.cons (t := 6) rfl (.cons (t := 7) rfl (.cons (t := 10) rfl (.cons (t := 11) rfl (.cons (t := 65) rfl .nil)))))))
          refine wpList_nil ?_
          refine wp_cond_split (hF.ev (ev rfl)) (fun h65 => ?_) (fun h65 => ?_)
          · have hks2 : s + 1 ≤ k := by have := of_bool_t h65; omega
            obtain ⟨x, hx0⟩ := some_at hl hk
            obtain ⟨y, hy0⟩ := some_at hl (show k - (s + 1) < n by omega)
            obtain ⟨hxa, hxb⟩ := hxy x (List.mem_of_getElem? hx0)
            obtain ⟨hya, hyb⟩ := hxy y (List.mem_of_getElem? hy0)
            have hne_ := pts_ne hnod hx0 hy0 (by omega)
            have hd1 := (mixL_lo (b := dlN q pts (s + 1)) (dlN_len (q := q) s hl) (show k < k + 1 by omega) (by omega)).trans (dlN_at (q := q) s hl hk)
            have hd2 := (mixL_lo (b := dlN q pts (s + 1)) (dlN_len (q := q) s hl) (show k - 1 < k + 1 by omega) (by omega)).trans (dlN_at (q := q) s hl (show k - 1 < n by omega))
            refine wp_skip ?_
            refine wp_seq (wp_block ?_)
            refine reg_draw 30 mixed (by kernel_rfl) (hF _ _) ?_
            refine net_cons rfl rfl (n_move rfl (ev rfl)) ?_
            refine net_cons rfl rfl (n_move rfl (ev rfl)) ?_
            refine net_cons rfl rfl (n_load rfl (ev rfl) (ld1 hw (i := 2) rfl Try.isAgg119 rfl)) ?_
            refine net_cons rfl rfl (n_load rfl (ev rfl) (ld1 hw (i := 2) rfl Try.isAgg119 rfl)) ?_
            refine net_cons rfl rfl (n_move rfl (ev rfl)) ?_
            refine net_cons rfl rfl (n_move rfl (ev rfl)) ?_
            refine net_cons rfl rfl (n_indexS (off' := k) rfl (ev rfl) (ev rfl) Try.underlying63 Try.sizeOf24 (by omega) (by omega)) ?_
            refine net_cons rfl rfl (n_load rfl (ev rfl) (ld1 hw (i := 3) rfl Try.isAgg24 (map_at hd1))) ?_
            refine net_cons rfl rfl (n_move rfl (ev rfl)) ?_
            refine net_cons rfl rfl (n_move rfl (ev rfl)) ?_
            refine net_cons rfl rfl (n_to (v' := I ((k - 1 : Nat) : Int)) (n_bin rfl (ev rfl) evc (r_subI (by omega) (by omega))) (congrArg (Value.int .i64) (by omega))) ?_
            refine net_cons rfl rfl (n_indexS (off' := k - 1) rfl (ev rfl) (ev rfl) Try.underlying63 Try.sizeOf24 (by omega) (by omega)) ?_
            refine net_cons rfl rfl (n_load rfl (ev rfl) (ld1 hw (i := 3) rfl Try.isAgg24 (map_at hd2))) ?_
            refine net_cons rfl rfl (n_ret rfl Try.call77 (.cons (ev rfl) (.cons (ev rfl) (.cons (ev rfl) .nil))) (fun _ hx => (sub_c q (ddN q pts s k) (ddN q pts s (k - 1)) (by omega) (by omega) (hdd _ _) (hdd _ _) _))) ?_
            refine net_cons rfl rfl (n_load rfl (ev rfl) (ld1 hw (i := 2) rfl Try.isAgg119 rfl)) ?_
            refine net_cons rfl rfl (n_load rfl (ev rfl) (ld1 hw (i := 1) rfl Try.isAgg43 rfl)) ?_
            refine net_cons rfl rfl (n_move rfl (ev rfl)) ?_
            refine net_cons rfl rfl (n_indexS (off' := oX + (k) * 2) rfl (ev rfl) (ev rfl) Try.underlying43 Try.sizeOf31 (by omega) rfl) ?_
            refine net_cons rfl rfl (n_fieldAddrO (off' := oX + (k) * 2 + 0) rfl (ev rfl) Try.runUnderlying31 rfl Try.sizeOf24 rfl) ?_
            refine net_cons rfl rfl (n_load rfl (ev rfl) (fun w2 hx2 => ld1R hcX (pc_x hx0) Try.isAgg24 (by omega) w2 (hw.ext.trans hx2))) ?_
            refine net_cons rfl rfl (n_load rfl (ev rfl) (ld1 hw (i := 1) rfl Try.isAgg43 rfl)) ?_
            refine net_cons rfl rfl (n_move rfl (ev rfl)) ?_
            refine net_cons rfl rfl (n_move rfl (ev rfl)) ?_
            refine net_cons rfl rfl (n_to (v' := I ((k - (s + 1) : Nat) : Int)) (n_bin rfl (ev rfl) (ev rfl) (r_subI (by omega) (by omega))) (congrArg (Value.int .i64) (by omega))) ?_
            refine net_cons rfl rfl (n_indexS (off' := oX + (k - (s + 1)) * 2) rfl (ev rfl) (ev rfl) Try.underlying43 Try.sizeOf31 (by omega) rfl) ?_
            refine net_cons rfl rfl (n_fieldAddrO (off' := oX + (k - (s + 1)) * 2 + 0) rfl (ev rfl) Try.runUnderlying31 rfl Try.sizeOf24 rfl) ?_
            refine net_cons rfl rfl (n_load rfl (ev rfl) (fun w2 hx2 => ld1R hcX (pc_x hy0) Try.isAgg24 (by omega) w2 (hw.ext.trans hx2))) ?_
            refine net_cons rfl rfl (n_ret rfl Try.call77 (.cons (ev rfl) (.cons (ev rfl) (.cons (ev rfl) .nil))) (fun _ hx => (sub_c q x.1 y.1 (by omega) (by omega) (by omega) (by omega) _))) ?_
            refine net_cons rfl rfl (n_to (n_ret rfl Try.call78 (.cons (ev rfl) (.cons (ev rfl) (.cons (ev rfl) .nil))) (fun _ hx => div_c q _ _ (by omega) (by omega) (by have := Nat.mod_lt (ddN q pts s k + q - ddN q pts s (k - 1)) (show 0 < q by omega); omega) (by have := subN_lt (q := q) (x := x.1) (y := y.1) (by omega); omega) (gcd_of_ne hqp (sub_ne (by omega) (by omega) hne_)) _)) (congrArg (fun n : Nat => U n) (ddN_go hks2 hx0 hy0))) ?_
            refine net_cons rfl rfl (n_indexS (off' := k) rfl (ev rfl) (ev rfl) Try.underlying63 Try.sizeOf24 (by omega) (by omega)) ?_
            refine net_nil fun a w1 hF hx => ?_
            replace hw := hw.next hx
            replace hF := hF.keep (.cons (t := 2) rfl (.cons (t := 3) rfl (.cons (t := 6) rfl (.cons (t := 7) rfl (.cons (t := 10) rfl (.cons (t := 11) rfl (.cons (t := 65) rfl (.cons (t := 96) rfl (.cons (t := 97) rfl .nil)))))))))
            refine t_store (i := 3) rfl rfl rfl hF hw rfl (ev rfl) (ev rfl) rfl one1 Try.sizeOf24 rfl (by rw [List.length_map, mixL_len (dlN_len s hl) (dlN_len (s + 1) hl) (by omega)]; omega) (mixL_step (dlN_len s hl) (dlN_len (s + 1) hl) hk (dlN_at (s + 1) hl hk)) fun w1 hw => ?_
            refine wpList_nil ?_
            refine reg_seq 3 (hF _ _) (by kernel_rfl) ?_
            refine net_cons rfl rfl (n_move rfl (ev rfl)) ?_
            refine net_cons rfl rfl (n_to (v' := I ((k - 1 : Nat) : Int)) (n_bin rfl (ev rfl) evc (r_subI (by omega) (by omega))) (congrArg (Value.int .i64) (by omega))) ?_
            refine net_cons rfl rfl (n_assign rfl (ev rfl)) ?_
            refine net_nil fun a w1 hF hx => ?_
            replace hw := hw.next hx
            replace hF := hF.keep (.cons (t := 2) rfl (.cons (t := 3) rfl (.cons (t := 6) rfl (.cons (t := 7) rfl (.cons (t := 10) rfl (.cons (t := 11) rfl (.cons (t := 65) rfl (.cons (t := 96) rfl (.cons (t := 97) rfl .nil)))))))))
            refine wpList_nil ?_
            exact ⟨k - 1, ⟨hF.keep (.cons (t := 2) rfl (.cons (t := 3) rfl (.cons (t := 6) rfl (.cons (t := 7) rfl (.cons (t := 10) rfl (.cons (t := 11) rfl (.nil))))))), (by rw [show k - 1 + 1 = k by omega]; exact hw), by omega, by omega⟩, by omega⟩
          · obtain rfl : s = k := by have := of_bool_f h65; omega
            rw [dlN_mix hl (by omega)] at hw
            refine wp_exit (go_then_e (go_then_e (go_exit ?_)))
            refine reg_seq 3 (hF _ _) (by kernel_rfl) ?_
            refine net_cons rfl rfl (n_move rfl (ev rfl)) ?_
            refine net_cons rfl rfl (n_bin rfl (ev rfl) evc (r_inc (by omega))) ?_
            refine net_cons rfl rfl (n_assign rfl (ev rfl)) ?_
            refine net_nil fun a w1 hF hx => ?_
            replace hw := hw.next hx
            replace hF := hF.keep (.cons (t := 2) rfl (.cons (t := 3) rfl (.cons (t := 6) rfl (.cons (t := 7) rfl (.cons (t := 10) rfl (.cons (t := 11) rfl (.cons (t := 65) rfl .nil)))))))
            refine wpList_nil ?_
            exact ⟨s + 1, ⟨hF.keep (.cons (t := 2) rfl (.cons (t := 3) rfl (.cons (t := 6) rfl (.cons (t := 7) rfl (.cons (t := 10) rfl (.nil)))))), hw, by omega⟩, by omega⟩
        · obtain rfl : n - 1 = s := by have := of_bool_f h57; omega
          refine wp_exit (go_then_e (go_then_e (go_exit ?_)))
          refine wp_seq (wp_region_lit ?_)
          refine t_net 0 3 (by kernel_rfl) rfl hF ?_
          refine net_cons rfl rfl (n_move rfl (ev rfl)) ?_
          refine net_cons rfl rfl (n_len rfl (ev rfl) Try.underlying63) ?_
          refine net_cons rfl rfl (n_mkU (n := n) sl116 zU rfl (ev rfl) (ev rfl) (by omega) (by omega)) ?_
          refine net_nil fun a w1 hF hx => ?_
          obtain ⟨b100, h_, hw⟩ := hw.cap hx (hF.at_ 100 _ rfl)
          replace hF := hF.now (v := .slice (some ⟨b100, 0, none⟩) (n) (n)) h_
          replace hF := hF.keep (.cons (t := 2) rfl (.cons (t := 3) rfl (.cons (t := 6) rfl (.cons (t := 7) rfl (.cons (t := 10) rfl (.cons (t := 57) rfl (.cons (t := 100) rfl .nil)))))))
          refine t_net 3 1 (by kernel_rfl) rfl hF ?_
          refine net_cons rfl rfl (n_alloc rfl Try.zeroValue116 rfl) ?_
          refine net_nil fun a w1 hF hx => ?_
          obtain ⟨b12, h_, hw⟩ := hw.blk hx (hF.at_ 12 _ rfl)
          replace hF := hF.now h_
          replace hF := hF.keep (.cons (t := 2) rfl (.cons (t := 3) rfl (.cons (t := 6) rfl (.cons (t := 7) rfl (.cons (t := 10) rfl (.cons (t := 12) rfl (.cons (t := 57) rfl (.cons (t := 100) rfl .nil))))))))
          refine t_store (i := 5) rfl rfl rfl hF hw rfl (ev rfl) (ev rfl) rfl one1 Try.sizeOf116 rfl (Nat.le_of_ble_eq_true rfl) rfl fun w1 hw => ?_
          refine wpList_nil ?_
          refine wp_seq ?_
          refine wp_seq (reg_seq 2 (hF _ _) (by kernel_rfl) ?_)
          refine net_cons rfl rfl (n_move rfl (ev rfl)) ?_
          refine net_cons rfl rfl (n_ret rfl Try.call90 (.cons (ev rfl) .nil) (fun _ hx => BackU_c _ _ _ _)) ?_
          refine net_nil fun a w1 hF hx => ?_
          obtain ⟨b102, h_, hw⟩ := hw.cap hx (hF.at_ 102 _ rfl)
          replace hF := hF.now h_
          replace hF := hF.keep (.cons (t := 2) rfl (.cons (t := 3) rfl (.cons (t := 6) rfl (.cons (t := 7) rfl (.cons (t := 10) rfl (.cons (t := 12) rfl (.cons (t := 57) rfl (.cons (t := 100) rfl (.cons (t := 102) rfl .nil)))))))))
          refine wpList_nil ?_
          refine wp_block ?_
          refine wp_range (fun (i : Nat) => ([.blk b2 28 [B8 kd, I dp, I dg, U p, U q, U g], .blk b3 43 [.slice (some ⟨bX, oX, none⟩) n c], .blk b6 119 [U q], .blk b40 24 ((dlN q pts (n - 1)).map U), .blk b100 24 ((nwP q pts i).map U), .blk b12 116 [.slice (some ⟨b100, 0, none⟩) n n]] : List Ent)) (fun (i : Nat) => ([(2, .is (ptr0 b2)), (3, .is (ptr0 b3)), (6, .is (ptr0 b6)), (12, .is (ptr0 b12)), (13, .is (I ((n - 1 - i : Nat) : Int))), (14, .is (U ((dlN q pts (n - 1)).getD (n - 1 - i) 0)))] : Env)) (fun i => I ((n - 1 - i : Nat) : Int)) (fun i => U ((dlN q pts (n - 1)).getD (n - 1 - i) 0)) (by decide) (by decide) (by rw [show (nwP q pts 0).map U = List.replicate n (U 0) by rw [nwP, hl, List.map_replicate]]; exact hw) (ev rfl) Try.call135 (BackU_iter (some ⟨b40, 0, none⟩) n n (dlN q pts (n - 1)) (dlN_len (n - 1) hl) (by omega) b102 w) (fun _ _ _ hO => hO.rdWhole (i := 3) rfl) (hF.keep (.cons (t := 2) rfl (.cons (t := 3) rfl (.cons (t := 6) rfl (.cons (t := 12) rfl (.cons (t := 102) rfl (.nil))))))) (fun _ => rfl) (fun lp_ i a w1 K_ hF hK => ?_) (fun lp_ Z i a w1 hk hF hw => ?_) (fun r a w1 hF hw => ?_)
          · have hw := Own.start w1
            refine wpIn_seq (reg_seqIn (fw_round lp_) 1 (hF _ _) (by kernel_rfl) ?_)
            refine net_cons rfl rfl (n_assign rfl (ev rfl)) ?_
            refine net_nil fun a w1 hF hx => ?_
            replace hw := hw.next hx
            replace hF := hF.keep (.cons (t := 2) rfl (.cons (t := 3) rfl (.cons (t := 6) rfl (.cons (t := 12) rfl (.cons (t := 13) rfl (.cons (t := 102) rfl (.cons (t := 103) rfl (.cons (t := 104) rfl .nil))))))))
            refine wpListIn_nil ?_
            refine reg_seqIn (fw_round lp_) 1 (hF _ _) (by kernel_rfl) ?_
            refine net_cons rfl rfl (n_assign rfl (ev rfl)) ?_
            refine net_nil fun a w1 hF hx => ?_
            replace hw := hw.next hx
            replace hF := hF.keep (.cons (t := 2) rfl (.cons (t := 3) rfl (.cons (t := 6) rfl (.cons (t := 12) rfl (.cons (t := 13) rfl (.cons (t := 14) rfl (.cons (t := 102) rfl (.cons (t := 103) rfl (.cons (t := 104) rfl .nil)))))))))
            refine wpListIn_nil ?_
            exact hK _ _ (hF.keep (.cons (t := 2) rfl (.cons (t := 3) rfl (.cons (t := 6) rfl (.cons (t := 12) rfl (.cons (t := 13) rfl (.cons (t := 14) rfl (.nil)))))))) hw.ext
          · have hk0 := hk
            obtain ⟨x, hx0⟩ := some_at hl (show n - 1 - i < n by omega)
            obtain ⟨hxa, hxb⟩ := hxy x (List.mem_of_getElem? hx0)
            rw [show (dlN q pts (n - 1)).getD (n - 1 - i) 0 = ddN q pts (n - 1) (n - 1 - i) by rw [List.getD_eq_getElem?_getD, dlN_at (n - 1) hl (by omega)]; rfl] at hF
            have hnl : (nwP q pts i).length = n := by rw [nwP_len, hl]
            have hnl2 : (nwP q pts (i + 1)).length = n := by rw [nwP_len, hl]
            have hdl := hdd (n - 1) (n - 1 - i)
            refine wpIn_block ?_
            refine wpIn_seq ?_
            refine wpIn_seq (reg_seqIn (fw_round lp_) 4 (hF _ _) (by kernel_rfl) ?_)
            refine net_cons rfl rfl (n_load rfl (ev rfl) (ld1 hw (i := 5) rfl Try.isAgg116 rfl)) ?_
            refine net_cons rfl rfl (n_len rfl (ev rfl) Try.underlying116) ?_
            refine net_cons rfl rfl (n_to (v' := I ((n - 1 : Nat) : Int)) (n_bin rfl (ev rfl) evc (r_subI (by omega) (by omega))) (congrArg (Value.int .i64) (by omega))) ?_
            refine net_cons rfl rfl (n_assign rfl (ev rfl)) ?_
            refine net_nil fun a w1 hF hx => ?_
            replace hw := hw.next hx
            replace hF := hF.keep (.cons (t := 2) rfl (.cons (t := 3) rfl (.cons (t := 6) rfl (.cons (t := 12) rfl (.cons (t := 13) rfl (.cons (t := 14) rfl (.cons (t := 15) rfl .nil)))))))
            refine wpListIn_nil ?_
            refine wpIn_block ?_
            refine wpIn_loop_ix (α := Nat) (fun k a w1 => FrV 151 [] [(2, .is (ptr0 b2)) , (3, .is (ptr0 b3)) , (6, .is (ptr0 b6)) , (12, .is (ptr0 b12)) , (13, .is (I ((n - 1 - i : Nat) : Int))) , (14, .is (U (ddN q pts (n - 1) (n - 1 - i)))) , (15, .is (I (k : Int)))] a ∧ Own w w1 ([.blk b2 28 [B8 kd, I dp, I dg, U p, U q, U g], .blk b3 43 [.slice (some ⟨bX, oX, none⟩) n c], .blk b6 119 [U q], .blk b40 24 ((dlN q pts (n - 1)).map U), .blk b100 24 ((mixL (nwP q pts i) (nwP q pts (i + 1)) (k + 1)).map U), .blk b12 116 [.slice (some ⟨b100, 0, none⟩) n n]] ++ Z) ∧ (k < n)) (fun k => k) (n - 1) ⟨hF.keep (.cons (t := 2) rfl (.cons (t := 3) rfl (.cons (t := 6) rfl (.cons (t := 12) rfl (.cons (t := 13) rfl (.cons (t := 14) rfl (.cons (t := 15) rfl (.nil)))))))), (by rw [show n - 1 + 1 = n by omega, mixL_full (by rw [nwP_len, hl]) (by rw [nwP_len, hl])]; exact hw), by omega⟩ ?_
            rintro k a w1 ⟨hF, hw, hk⟩
            refine wpIn_seq ?_
            refine wpIn_seq (reg_seqIn (fw_round lp_) 2 (hF _ _) (by kernel_rfl) ?_)
            refine net_cons rfl rfl (n_move rfl (ev rfl)) ?_
            refine net_cons rfl rfl (n_bin rfl (ev rfl) evc (r_gtrN (b := 0))) ?_
            refine net_nil fun a w1 hF hx => ?_
            replace hw := hw.next hx
            replace hF := hF.keep (.cons (t := 2) rfl (.cons (t := 3) rfl (.cons (t := 6) rfl (.cons (t := 12) rfl (.cons (t := 13) rfl (.cons (t := 14) rfl (.cons (t := 15) rfl (.cons (t := 109) rfl .nil))))))))
            refine wpListIn_nil ?_
            refine wpIn_cond_split (hF.ev (ev rfl)) (fun h109 => ?_) (fun h109 => ?_)
            · have hk0 : 0 < k := of_bool_t h109
              obtain ⟨u, hu0⟩ := some_at hnl (show k - 1 < n by omega)
              obtain ⟨v, hv0⟩ := some_at hnl hk
              have huq := nwP_lt (q := q) (by omega) pts i u (List.mem_of_getElem? hu0)
              have hvq := nwP_lt (q := q) (by omega) pts i v (List.mem_of_getElem? hv0)
              have hp1 := (mixL_lo (b := nwP q pts (i + 1)) hnl (show k - 1 < k + 1 by omega) (by omega)).trans hu0
              have hp2 := (mixL_lo (b := nwP q pts (i + 1)) hnl (show k < k + 1 by omega) (by omega)).trans hv0
              have hml := mulF2_lt (q := q) (a := v) (b := x.1) (by omega)
              have hnew := nw_new hl hx0 hk0 hu0 hv0
              refine wpIn_skip ?_
              refine wpIn_seq (wpIn_block ?_)
              refine reg_drawIn (fw_round lp_) 22 mixed (by kernel_rfl) (hF _ _) ?_
              refine net_cons rfl rfl (n_load rfl (ev rfl) (ld1 hw (i := 5) rfl Try.isAgg116 rfl)) ?_
              refine net_cons rfl rfl (n_move rfl (ev rfl)) ?_
              refine net_cons rfl rfl (n_load rfl (ev rfl) (ld1 hw (i := 2) rfl Try.isAgg119 rfl)) ?_
              refine net_cons rfl rfl (n_load rfl (ev rfl) (ld1 hw (i := 5) rfl Try.isAgg116 rfl)) ?_
              refine net_cons rfl rfl (n_move rfl (ev rfl)) ?_
              refine net_cons rfl rfl (n_to (v' := I ((k - 1 : Nat) : Int)) (n_bin rfl (ev rfl) evc (r_subI (by omega) (by omega))) (congrArg (Value.int .i64) (by omega))) ?_
              refine net_cons rfl rfl (n_indexS (off' := k - 1) rfl (ev rfl) (ev rfl) Try.underlying116 Try.sizeOf24 (by omega) (by omega)) ?_
              refine net_cons rfl rfl (n_load rfl (ev rfl) (ld1 hw (i := 4) rfl Try.isAgg24 (map_at hp1))) ?_
              refine net_cons rfl rfl (n_load rfl (ev rfl) (ld1 hw (i := 2) rfl Try.isAgg119 rfl)) ?_
              refine net_cons rfl rfl (n_load rfl (ev rfl) (ld1 hw (i := 5) rfl Try.isAgg116 rfl)) ?_
              refine net_cons rfl rfl (n_move rfl (ev rfl)) ?_
              refine net_cons rfl rfl (n_indexS (off' := k) rfl (ev rfl) (ev rfl) Try.underlying116 Try.sizeOf24 (by omega) (by omega)) ?_
              refine net_cons rfl rfl (n_load rfl (ev rfl) (ld1 hw (i := 4) rfl Try.isAgg24 (map_at hp2))) ?_
              refine net_cons rfl rfl (n_load rfl (ev rfl) (ld1 hw (i := 1) rfl Try.isAgg43 rfl)) ?_
              refine net_cons rfl rfl (n_move rfl (ev rfl)) ?_
              refine net_cons rfl rfl (n_indexS (off' := oX + (n - 1 - i) * 2) rfl (ev rfl) (ev rfl) Try.underlying43 Try.sizeOf31 (by omega) rfl) ?_
              refine net_cons rfl rfl (n_fieldAddrO (off' := oX + (n - 1 - i) * 2 + 0) rfl (ev rfl) Try.runUnderlying31 rfl Try.sizeOf24 rfl) ?_
              refine net_cons rfl rfl (n_load rfl (ev rfl) (fun w2 hx2 => ld1R hcX (pc_x hx0) Try.isAgg24 (by omega) w2 (hw.ext.trans hx2))) ?_
              refine net_cons rfl rfl (n_bsl sl63 rfl (.cons (ev rfl) (.cons (ev rfl) .nil)) (.cons rfl rfl (.cons rfl rfl .nil)) rfl (by decide) (by decide)) ?_
              refine net_cons rfl rfl (n_retC (k := 1) rfl Try.call76 rfl rfl (.cons (ev rfl) .nil) .nil (fun _ b_ hx hR_ => (mul_c q 2 2 _ [v, x.1] (by omega) (by omega) (by intro z hz; simp only [List.mem_cons, List.not_mem_nil, or_false] at hz; omega) rfl (by decide) _ hR_))) ?_
              refine net_cons rfl rfl (n_ret rfl Try.call77 (.cons (ev rfl) (.cons (ev rfl) (.cons (ev rfl) .nil))) (fun _ hx => (sub_c q u (mulF q [v, x.1]) (by omega) (by omega) (by omega) hml _))) ?_
              refine net_cons rfl rfl (n_indexS (off' := k) rfl (ev rfl) (ev rfl) Try.underlying116 Try.sizeOf24 (by omega) (by omega)) ?_
              refine net_nil fun a w1 hF hx => ?_
              replace hw := hw.next hx
              replace hF := hF.keep (.cons (t := 2) rfl (.cons (t := 3) rfl (.cons (t := 6) rfl (.cons (t := 12) rfl (.cons (t := 13) rfl (.cons (t := 14) rfl (.cons (t := 15) rfl (.cons (t := 109) rfl (.cons (t := 132) rfl (.cons (t := 133) rfl .nil))))))))))
              refine t_storeIn (fw_round lp_) (i := 4) rfl rfl rfl hF hw rfl (ev rfl) (ev rfl) rfl one1 Try.sizeOf24 rfl (by rw [List.length_map, mixL_len hnl hnl2 (by omega)]; omega) (mixL_step hnl hnl2 hk hnew) fun w1 hw => ?_
              refine wpListIn_nil ?_
              refine reg_seqIn (fw_round lp_) 3 (hF _ _) (by kernel_rfl) ?_
              refine net_cons rfl rfl (n_move rfl (ev rfl)) ?_
              refine net_cons rfl rfl (n_to (v' := I ((k - 1 : Nat) : Int)) (n_bin rfl (ev rfl) evc (r_subI (by omega) (by omega))) (congrArg (Value.int .i64) (by omega))) ?_
              refine net_cons rfl rfl (n_assign rfl (ev rfl)) ?_
              refine net_nil fun a w1 hF hx => ?_
              replace hw := hw.next hx
              replace hF := hF.keep (.cons (t := 2) rfl (.cons (t := 3) rfl (.cons (t := 6) rfl (.cons (t := 12) rfl (.cons (t := 13) rfl (.cons (t := 14) rfl (.cons (t := 15) rfl (.cons (t := 109) rfl (.cons (t := 132) rfl (.cons (t := 133) rfl .nil))))))))))
              refine wpListIn_nil ?_
              exact ⟨k - 1, ⟨hF.keep (.cons (t := 2) rfl (.cons (t := 3) rfl (.cons (t := 6) rfl (.cons (t := 12) rfl (.cons (t := 13) rfl (.cons (t := 14) rfl (.cons (t := 15) rfl (.nil)))))))), (by rw [show k - 1 + 1 = k by omega]; exact hw), by omega⟩, by omega⟩
            · obtain rfl : k = 0 := by have := of_bool_f h109; omega
              obtain ⟨v, hv0⟩ := some_at hnl hk
              have hvq := nwP_lt (q := q) (by omega) pts i v (List.mem_of_getElem? hv0)
              have hp2 := (mixL_lo (b := nwP q pts (i + 1)) hnl (show 0 < 0 + 1 by omega) (by omega)).trans hv0
              have hml := mulF2_lt (q := q) (a := v) (b := x.1) (by omega)
              have hnew := nw_new0 hl hx0 hv0
              refine wpIn_exit (go_then_e (go_then_e (go_exit ?_)))
              refine reg_drawIn (fw_round lp_) 16 mixed (by kernel_rfl) (hF _ _) ?_
              refine net_cons rfl rfl (n_load rfl (ev rfl) (ld1 hw (i := 5) rfl Try.isAgg116 rfl)) ?_
              refine net_cons rfl rfl (n_load rfl (ev rfl) (ld1 hw (i := 2) rfl Try.isAgg119 rfl)) ?_
              refine net_cons rfl rfl (n_move rfl (ev rfl)) ?_
              refine net_cons rfl rfl (n_load rfl (ev rfl) (ld1 hw (i := 2) rfl Try.isAgg119 rfl)) ?_
              refine net_cons rfl rfl (n_load rfl (ev rfl) (ld1 hw (i := 5) rfl Try.isAgg116 rfl)) ?_
              refine net_cons rfl rfl (n_indexS (j := 0) (off' := 0) rfl (ev rfl) evc Try.underlying116 Try.sizeOf24 (by omega) (by omega)) ?_
              refine net_cons rfl rfl (n_load rfl (ev rfl) (ld1 hw (i := 4) rfl Try.isAgg24 (map_at hp2))) ?_
              refine net_cons rfl rfl (n_load rfl (ev rfl) (ld1 hw (i := 1) rfl Try.isAgg43 rfl)) ?_
              refine net_cons rfl rfl (n_move rfl (ev rfl)) ?_
              refine net_cons rfl rfl (n_indexS (off' := oX + (n - 1 - i) * 2) rfl (ev rfl) (ev rfl) Try.underlying43 Try.sizeOf31 (by omega) rfl) ?_
              refine net_cons rfl rfl (n_fieldAddrO (off' := oX + (n - 1 - i) * 2 + 0) rfl (ev rfl) Try.runUnderlying31 rfl Try.sizeOf24 rfl) ?_
              refine net_cons rfl rfl (n_load rfl (ev rfl) (fun w2 hx2 => ld1R hcX (pc_x hx0) Try.isAgg24 (by omega) w2 (hw.ext.trans hx2))) ?_
              refine net_cons rfl rfl (n_bsl sl63 rfl (.cons (ev rfl) (.cons (ev rfl) .nil)) (.cons rfl rfl (.cons rfl rfl .nil)) rfl (by decide) (by decide)) ?_
              refine net_cons rfl rfl (n_retC (k := 1) rfl Try.call76 rfl rfl (.cons (ev rfl) .nil) .nil (fun _ b_ hx hR_ => (mul_c q 2 2 _ [v, x.1] (by omega) (by omega) (by intro z hz; simp only [List.mem_cons, List.not_mem_nil, or_false] at hz; omega) rfl (by decide) _ hR_))) ?_
              refine net_cons rfl rfl (n_ret rfl Try.call77 (.cons (ev rfl) (.cons (ev rfl) (.cons (ev rfl) .nil))) (fun _ hx => (sub_c q (ddN q pts (n - 1) (n - 1 - i)) (mulF q [v, x.1]) (by omega) (by omega) (by omega) hml _))) ?_
              refine net_cons rfl rfl (n_indexS (j := 0) (off' := 0) rfl (ev rfl) evc Try.underlying116 Try.sizeOf24 (by omega) (by omega)) ?_
              refine net_nil fun a w1 hF hx => ?_
              replace hw := hw.next hx
              replace hF := hF.keep (.cons (t := 2) rfl (.cons (t := 3) rfl (.cons (t := 6) rfl (.cons (t := 12) rfl (.cons (t := 13) rfl (.cons (t := 14) rfl (.cons (t := 15) rfl (.cons (t := 109) rfl (.cons (t := 148) rfl (.cons (t := 149) rfl .nil))))))))))
              refine t_storeIn (fw_round lp_) (i := 4) rfl rfl rfl hF hw rfl (ev rfl) (ev rfl) rfl one1 Try.sizeOf24 rfl (by rw [List.length_map, mixL_len hnl hnl2 (by omega)]; omega) (mixL_step hnl hnl2 hk hnew) fun w1 hw => ?_
              refine wpListIn_nil ?_
              rw [mixL_zero] at hw
              exact ⟨rfl, hw⟩
          · rw [show nwP q pts n = intL q pts by rw [intL, hl]] at hw
            refine wp_seq (reg_seq 3 (hF _ _) (by kernel_rfl) ?_)
            refine net_cons rfl rfl (n_load rfl (ev rfl) (ld1 hw (i := 6) rfl Try.isAgg116 rfl)) ?_
            refine net_cons rfl rfl (n_assign rfl (ev rfl)) ?_
            refine net_cons rfl rfl (n_assign rfl evc) ?_
            refine net_nil fun a w1 hF hx => ?_
            replace hw := hw.next hx
            replace hF := hF.keep (.cons (t := 2) rfl (.cons (t := 3) rfl (.cons (t := 4) rfl (.cons (t := 5) rfl (.cons (t := 6) rfl (.cons (t := 12) rfl (.cons (t := 102) rfl .nil)))))))
            refine wpList_nil ?_
            refine wp_ret (retM2 hF hw Try.results34 rfl rfl fun w1 hw => ?_)
            replace hw := hw.blkRow (i := 4) (sz := 1) (n := n) (by rfl) (len_U _ ((intL_len _ _).trans hl)) (by simp only [maxLen]; omega)
            exact ⟨_, rfl, hw.ext, rowF_ok (i := 4) (intR_ok hz hrt) ((intL_len _ _).trans hl) hw rfl⟩
end Go.Proofs.Ythgpojlcbbgaoaa

