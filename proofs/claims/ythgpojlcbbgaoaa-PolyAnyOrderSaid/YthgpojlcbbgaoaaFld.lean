/- Numbers modulo a prime as a field; polynomials; Newton's and Lagrange's form are the same; the exponents of Open. No program in sight. -/
import Derived.Test.YthgpojlcbbgaoaaPoly
set_option autoImplicit false
set_option linter.unusedVariables false
namespace Go.Proofs.Ythgpojlcbbgaoaa

/-! ### numbers modulo q as a ring -/
section
variable {q : Nat} [NeZero q]
def cst (q : Nat) [NeZero q] (n : Nat) : Fin q := Fin.ofNat q n
theorem cst_val (n : Nat) : (cst q n).val = n % q := rfl
theorem cst_eq {a b : Nat} : cst q a = cst q b ↔ a % q = b % q := by
  rw [Fin.ext_iff, cst_val, cst_val]
theorem cst_inj {a b : Nat} (ha : a < q) (hb : b < q) (h : cst q a = cst q b) : a = b := by
  rw [cst_eq, Nat.mod_eq_of_lt ha, Nat.mod_eq_of_lt hb] at h
  exact h
theorem cst_mod (a : Nat) : cst q (a % q) = cst q a := by rw [cst_eq, Nat.mod_mod]
theorem cst_add (a b : Nat) : cst q (a + b) = cst q a + cst q b := by
  rw [Fin.ext_iff, Fin.val_add, cst_val, cst_val, cst_val, ← Nat.add_mod]
theorem cst_mul (a b : Nat) : cst q (a * b) = cst q a * cst q b := by
  rw [Fin.ext_iff, Fin.val_mul, cst_val, cst_val, cst_val, ← Nat.mul_mod]
theorem cst_zero : cst q 0 = 0 := by
  rw [Fin.ext_iff, cst_val, Fin.val_zero, Nat.zero_mod]
theorem cst_q : cst q q = 0 := by
  rw [Fin.ext_iff, cst_val, Fin.val_zero, Nat.mod_self]
theorem cst_self (a : Fin q) : cst q a.val = a := by
  rw [Fin.ext_iff, cst_val, Nat.mod_eq_of_lt a.isLt]
theorem cst_one (_ : 2 ≤ q) : cst q 1 = 1 := rfl
theorem cst_sub {a b : Nat} (h : b ≤ a) : cst q (a - b) = cst q a - cst q b := by
  have e : cst q (a - b) + cst q b = cst q a := by rw [← cst_add, Nat.sub_add_cancel h]
  rw [← e]
  grind
/-- A difference as the program and the reference write it. -/
theorem cst_minus {a b : Nat} (h : b ≤ q) : cst q ((a + q - b) % q) = cst q a - cst q b := by
  rw [cst_mod, cst_sub (by omega), cst_add, cst_q]
  grind
theorem cst_ne {a b : Nat} (ha : a < q) (hb : b < q) (h : a ≠ b) : cst q a ≠ cst q b := fun e => h (cst_inj ha hb e)
end

/-! ### a prime q: a field -/
theorem isP_gcd {q a : Nat} (h : isP q = true) (h0 : 0 < a) (h1 : a < q) : Nat.gcd a q = 1 := by
  have h2 := isP_two h
  have hd := Nat.gcd_dvd_right a q
  have hl := Nat.le_of_dvd h0 (Nat.gcd_dvd_left a q)
  have hp := Nat.gcd_pos_of_pos_left q h0
  obtain ⟨k, hk⟩ := hd
  generalize Nat.gcd a q = g at *
  rcases Nat.lt_or_ge g 2 with hg | hg
  · omega
  · exfalso
    have hk2 : 2 ≤ k := by
      rcases Nat.lt_or_ge k 2 with h3 | h3
      · have : k = 0 ∨ k = 1 := by omega
        rcases this with rfl | rfl <;> omega
      · exact h3
    rcases Nat.le_total g k with h3 | h3
    · exact isP_div h hg (by rw [hk]; exact Nat.mul_le_mul_left _ h3) (by rw [hk]; exact Nat.mul_mod_right _ _)
    · exact isP_div h hk2 (by rw [hk]; exact Nat.mul_le_mul_right _ h3) (by rw [hk]; exact Nat.mul_mod_left _ _)
/-- An inverse in whole numbers. -/
theorem inv_of_gcd {a m : Nat} (hm : 2 ≤ m) (hg : Nat.gcd a m = 1) : ∃ y, y < m ∧ a * y % m = 1 := by
  have key : ∀ (n a m : Nat), a ≤ n → Nat.gcd a m = 1 → ∃ s t : Int, s * a + t * m = 1 := by
    intro n
    induction n with
    | zero =>
      intro a m ha hg
      obtain rfl : a = 0 := by omega
      rw [Nat.gcd_zero_left] at hg
      subst hg
      exact ⟨0, 1, by simp⟩
    | succ n ih =>
      intro a m ha hg
      rcases Nat.eq_zero_or_pos a with rfl | h0
      · rw [Nat.gcd_zero_left] at hg
        subst hg
        exact ⟨0, 1, by simp⟩
      · have hlt := Nat.mod_lt m h0
        obtain ⟨s, t, h⟩ := ih (m % a) a (by omega) (by rw [← Nat.gcd_rec]; exact hg)
        have e := Nat.div_add_mod m a
        have e2 : ((a * (m / a) + m % a : Nat) : Int) = (m : Int) := by rw [e]
        rw [Int.natCast_add, Int.natCast_mul] at e2
        exact ⟨t - s * ((m / a : Nat) : Int), s, by rw [← e2, ← h]; grind⟩
  obtain ⟨s, t, h⟩ := key a a m (Nat.le_refl _) hg
  have h5 := Int.emod_nonneg s (show (m : Int) ≠ 0 by omega)
  have h6 := Int.emod_lt_of_pos s (show (0 : Int) < m by omega)
  have h7 := Int.emod_add_mul_ediv s m
  refine ⟨(s % m).toNat, by omega, ?_⟩
  have e : ((a * (s % m).toNat : Nat) : Int) = 1 + m * (-t - s / m * a) := by
    rw [Int.natCast_mul, Int.toNat_of_nonneg h5]
    have : s % m = s - m * (s / m) := by omega
    rw [this]
    grind
  have e2 : ((a * (s % m).toNat % m : Nat) : Int) = 1 := by
    rw [Int.natCast_emod, e, Int.add_mul_emod_self_left, Int.emod_eq_of_lt (by decide) (by omega)]
  omega
theorem invN_spec {a q : Nat} (h : isP q = true) (h0 : a % q ≠ 0) : invN a q < q ∧ a * invN a q % q = 1 := by
  have h2 := isP_two h
  have hm := Nat.mod_lt a (show 0 < q by omega)
  obtain ⟨y, h3, h4⟩ := inv_of_gcd h2 (isP_gcd h (a := a % q) (by omega) hm)
  have h5 : a * y % q = 1 := by rw [Nat.mul_mod, ← Nat.mod_mod a q, ← Nat.mul_mod]; exact h4
  rw [invN_eq h3 h5]
  exact ⟨h3, h5⟩
theorem gcd_of_ne {a q : Nat} (h : isP q = true) (h0 : a % q ≠ 0) : Nat.gcd a q = 1 := by
  have h2 := isP_two h
  have hm := Nat.mod_lt a (show 0 < q by omega)
  rw [Nat.gcd_comm, Nat.gcd_rec]
  exact isP_gcd h (by omega) hm

section
variable {q : Nat} [NeZero q]
theorem cst_ne_zero {a : Nat} (h : cst q a ≠ 0) : a % q ≠ 0 := fun e => h (by rw [Fin.ext_iff, cst_val, e, Fin.val_zero])
/-- The inverse, in the field. -/
theorem cst_inv {a : Nat} (h : isP q = true) (h0 : cst q a ≠ 0) : cst q a * cst q (invN a q) = 1 := by
  rw [← cst_mul, ← cst_one (isP_two h), cst_eq, (invN_spec h (cst_ne_zero h0)).2, Nat.mod_eq_of_lt (isP_two h)]
theorem fld_inv (h : isP q = true) {a : Fin q} (ha : a ≠ 0) : ∃ b, a * b = 1 := by
  refine ⟨cst q (invN a.val q), ?_⟩
  have := cst_inv h (a := a.val) (by rw [cst_self]; exact ha)
  rwa [cst_self] at this
theorem fld_zero (h : isP q = true) {a b : Fin q} (hab : a * b = 0) : a = 0 ∨ b = 0 := by
  by_cases ha : a = 0
  · exact .inl ha
  · obtain ⟨c, hc⟩ := fld_inv h ha
    refine .inr ?_
    have : b = c * (a * b) := by grind
    rw [this, hab]
    grind
theorem fld_cancel (h : isP q = true) {a b c : Fin q} (hc : c ≠ 0) (hab : a * c = b * c) : a = b := by
  have : (a - b) * c = 0 := by grind
  rcases fld_zero h this with h | h
  · grind
  · exact absurd h hc
theorem fld_one (h : isP q = true) : (1 : Fin q) ≠ 0 := by
  rw [← cst_one (isP_two h), ← cst_zero]
  exact cst_ne (by have := isP_two h; omega) (by have := isP_two h; omega) (by decide)

/-! ### polynomials over the field -/
def evF (l : List (Fin q)) (x : Fin q) : Fin q := l.foldr (fun c acc => c + x * acc) 0
theorem ev_nil (x : Fin q) : evF [] x = 0 := rfl
theorem ev_cons (c : Fin q) (l : List (Fin q)) (x : Fin q) : evF (c :: l) x = c + x * evF l x := rfl
theorem cst_pv (l : List Nat) (x : Nat) : cst q (pv l x) = evF (l.map (cst q)) (cst q x) := by
  induction l with
  | nil => exact cst_zero
  | cons c l ih =>
    rw [List.map_cons, ev_cons, ← ih, ← cst_mul, ← cst_add]
    rfl
/-- The values of the parts behind each coefficient. -/
def quo (r : Fin q) : List (Fin q) → List (Fin q)
  | [] => []
  | [_] => []
  | _ :: c :: l => evF (c :: l) r :: quo r (c :: l)
theorem quo_len (r : Fin q) : ∀ l : List (Fin q), (quo r l).length = l.length - 1
  | [] => rfl
  | [_] => rfl
  | _ :: c :: l => by
    rw [quo, List.length_cons, quo_len r (c :: l)]
    simp
theorem quo_ev (r x : Fin q) : ∀ l : List (Fin q), evF l x = evF l r + (x - r) * evF (quo r l) x
  | [] => by simp only [quo, ev_nil]; grind
  | [a] => by simp only [quo, ev_nil, ev_cons]; grind
  | a :: c :: l => by
    have ih := quo_ev r x (c :: l)
    rw [quo, ev_cons, ev_cons a, ev_cons (evF (c :: l) r), ih]
    grind
theorem quo_zero (r : Fin q) : ∀ l : List (Fin q), evF l r = 0 → (∀ c ∈ quo r l, c = 0) → ∀ c ∈ l, c = 0
  | [], _, _ => fun c h => by cases h
  | [a], h, _ => fun c hc => by
    rw [List.mem_singleton] at hc
    subst hc
    rw [ev_cons, ev_nil] at h
    grind
  | a :: b :: l, h, hq => fun c hc => by
    have h1 : evF (b :: l) r = 0 := hq _ (by rw [quo]; exact List.mem_cons_self)
    have h2 := quo_zero r (b :: l) h1 (fun c hc => hq c (by rw [quo]; exact List.mem_cons_of_mem _ hc))
    rcases List.mem_cons.1 hc with rfl | hc
    · rw [ev_cons, h1] at h
      grind
    · exact h2 c hc
/-- As many roots as coefficients: it is zero. -/
theorem roots_zero (h : isP q = true) : ∀ (xs l : List (Fin q)), l.length = xs.length → xs.Nodup → (∀ x ∈ xs, evF l x = 0) → ∀ c ∈ l, c = 0
  | [], l, hl, _, _ => by
    obtain rfl := List.eq_nil_of_length_eq_zero hl
    intro c hc
    cases hc
  | r :: xs, l, hl, hn, hx => by
    rw [List.nodup_cons] at hn
    have hr := hx r List.mem_cons_self
    refine quo_zero r l hr (roots_zero h xs (quo r l) (by rw [quo_len, hl]; simp) hn.2 fun x hxm => ?_)
    have h1 := hx x (List.mem_cons_of_mem _ hxm)
    rw [quo_ev r x l, hr] at h1
    have h2 : (x - r) * evF (quo r l) x = 0 := by grind
    rcases fld_zero h h2 with h3 | h3
    · exact absurd (by have : x = r := by grind
                       rw [← this]; exact hxm) hn.1
    · exact h3
theorem ev_zip (l m : List (Fin q)) (x : Fin q) (hl : l.length = m.length) : evF (List.zipWith (fun a b => a - b) l m) x = evF l x - evF m x := by
  induction l generalizing m with
  | nil =>
    obtain rfl := List.eq_nil_of_length_eq_zero (l := m) (by simpa using hl.symm)
    simp only [List.zipWith_nil_left, ev_nil]
    grind
  | cons a l ih =>
    cases m with
    | nil => cases hl
    | cons b m =>
      rw [List.zipWith_cons_cons, ev_cons, ev_cons, ev_cons, ih m (by simpa using hl)]
      grind
/-- Only one polynomial through as many points as it has coefficients. -/
theorem ev_unique (h : isP q = true) {xs l m : List (Fin q)} (hl : l.length = xs.length) (hm : m.length = xs.length) (hn : xs.Nodup) (he : ∀ x ∈ xs, evF l x = evF m x) : l = m := by
  have hz := roots_zero h xs (List.zipWith (fun a b => a - b) l m) (by rw [List.length_zipWith, hl, hm]; exact Nat.min_self _) hn (fun x hx => by
    rw [ev_zip l m x (by omega), he x hx]; grind)
  apply List.ext_getElem (by omega)
  intro i h1 h2
  have := hz (l[i] - m[i]) (List.mem_iff_getElem.2 ⟨i, by rw [List.length_zipWith]; omega, by rw [List.getElem_zipWith]⟩)
  grind
end
/-- .. of numbers below q. -/
theorem pv_unique {q : Nat} (h : isP q = true) {xs l m : List Nat} (hl : l.length = xs.length) (hm : m.length = xs.length) (hxs : ∀ x ∈ xs, x < q) (hlq : ∀ x ∈ l, x < q) (hmq : ∀ x ∈ m, x < q) (hn : xs.Nodup)
    (he : ∀ x ∈ xs, pv l x % q = pv m x % q) : l = m := by
  haveI : NeZero q := ⟨by have := isP_two h; omega⟩
  have hmap : ∀ {a b : List Nat}, (∀ x ∈ a, x < q) → (∀ x ∈ b, x < q) → a.map (cst q) = b.map (cst q) → a = b := by
    intro a b ha hb hab
    have hlen : a.length = b.length := by simpa using congrArg List.length hab
    apply List.ext_getElem hlen
    intro i h1 h2
    refine cst_inj (q := q) (ha _ (List.getElem_mem h1)) (hb _ (List.getElem_mem h2)) ?_
    have := congrArg (fun l => l[i]?) hab
    simpa [h1, h2] using this
  refine hmap hlq hmq (ev_unique h (xs := xs.map (cst q)) (by simpa using hl) (by simpa using hm) ?_ ?_)
  · refine List.pairwise_map.2 (List.Pairwise.imp_of_mem (fun {a b} ha hb hab => cst_ne (hxs a ha) (hxs b hb) hab) hn)
  · intro x hx
    obtain ⟨y, hy, rfl⟩ := List.mem_map.1 hx
    rw [← cst_pv, ← cst_pv, cst_eq]
    exact he y hy
/-! ### Newton's form, over any commutative ring of numbers modulo q -/
section
variable {q : Nat} [NeZero q] (X : Nat → Fin q) (D : Nat → Nat → Fin q)
def nwW (a : Nat) : Nat → Fin q → Fin q
  | 0, _ => 1
  | m + 1, x => nwW a m x * (x - X (a + m))
def nwS (a : Nat) : Nat → Fin q → Fin q
  | 0, _ => D a 0
  | m + 1, x => nwS a m x + D (a + m + 1) (m + 1) * nwW X a (m + 1) x
theorem nwW_front (a m : Nat) (x : Fin q) : nwW X a (m + 1) x = (x - X a) * nwW X (a + 1) m x := by
  induction m with
  | zero => simp only [nwW, Nat.add_zero]; grind
  | succ m ih =>
    rw [nwW, ih, nwW, show a + 1 + m = a + (m + 1) by omega]
    grind
variable {X D}
theorem nw_key {n : Nat} (h : ∀ i s, s ≤ i → i + 1 < n → D (i + 1) (s + 1) * (X (i + 1) - X (i - s)) = D (i + 1) s - D i s) :
    ∀ (m a : Nat), a + m + 1 < n → ∀ x, nwS X D (a + 1) m x - nwS X D a m x = (D (a + m + 1) m - D (a + m) m) * nwW X (a + 1) m x
  | 0, a, hb, x => by simp only [nwS, nwW, Nat.add_zero]; grind
  | m + 1, a, hb, x => by
    have ih := nw_key h m a (by omega) x
    have hr := h (a + m) m (by omega) (by omega)
    rw [show a + m - m = a by omega] at hr
    rw [nwS, nwS, nwW_front X a m x, nwW, show a + 1 + m + 1 = a + m + 2 by omega, show a + 1 + m = a + m + 1 by omega, show a + (m + 1) + 1 = a + m + 2 by omega, show a + (m + 1) = a + m + 1 by omega]
    rw [← hr] at ih
    generalize nwW X (a + 1) m x = W at *
    generalize nwS X D (a + 1) m x = S1 at *
    generalize nwS X D a m x = S0 at *
    generalize D (a + m + 1) (m + 1) = d1 at *
    generalize D (a + m + 2) (m + 1) = d2 at *
    generalize X (a + m + 1) = xb at *
    generalize X a = xa at *
    grind
theorem nw_at {n : Nat} (h : ∀ i s, s ≤ i → i + 1 < n → D (i + 1) (s + 1) * (X (i + 1) - X (i - s)) = D (i + 1) s - D i s) :
    ∀ (m a : Nat), a + m < n → nwS X D a m (X (a + m)) = D (a + m) 0
  | 0, a, _ => rfl
  | m + 1, a, hb => by
    have hk := nw_key h m a (by omega) (X (a + (m + 1)))
    have ih := nw_at h m (a + 1) (by omega)
    have hr := h (a + m) m (by omega) (by omega)
    rw [show a + m - m = a by omega] at hr
    rw [show a + 1 + m = a + (m + 1) by omega] at ih
    rw [nwS, nwW_front, ← ih]
    rw [show a + (m + 1) = a + m + 1 by omega] at *
    generalize nwW X (a + 1) m (X (a + m + 1)) = W at *
    generalize nwS X D (a + 1) m (X (a + m + 1)) = S1 at *
    generalize nwS X D a m (X (a + m + 1)) = S0 at *
    grind
/-- The product form. -/
theorem nw_nest {n : Nat} (N : Nat → Fin q → Fin q) (hN : ∀ i, i < n → ∀ x, N i x = D i i + (x - X i) * N (i + 1) x) : ∀ b, b < n → ∀ x, N 0 x = nwS X D 0 b x + nwW X 0 (b + 1) x * N (b + 1) x
  | 0, hb, x => by
    rw [hN 0 hb x, nwS, nwW, nwW, Nat.zero_add]
    grind
  | b + 1, hb, x => by
    rw [nw_nest N hN b (by omega) x, hN (b + 1) hb x, nwS, show nwW X 0 (b + 1 + 1) x = nwW X 0 (b + 1) x * (x - X (0 + (b + 1))) from rfl, Nat.zero_add, Nat.zero_add]
    generalize nwW X 0 (b + 1) x = W
    grind
theorem nw_right {n : Nat} (h : ∀ i s, s ≤ i → i + 1 < n → D (i + 1) (s + 1) * (X (i + 1) - X (i - s)) = D (i + 1) s - D i s) (N : Nat → Fin q → Fin q) (hN : ∀ i, i < n → ∀ x, N i x = D i i + (x - X i) * N (i + 1) x)
    {b : Nat} (hb : b < n) : N 0 (X b) = D b 0 := by
  rw [nw_nest N hN b hb, nwW, Nat.zero_add]
  have := nw_at h b 0 (by omega)
  rw [Nat.zero_add] at this
  rw [this]
  grind
end
/-! ### what Interpolate computes -/
def subN (q a b : Nat) : Nat := (a + q - b) % q
def divN (q a b : Nat) : Nat := a * invN b q % q
abbrev ptX (pts : List (Nat × Nat)) (i : Nat) : Nat := (pts.getD i (0, 0)).1
abbrev ptY (pts : List (Nat × Nat)) (i : Nat) : Nat := (pts.getD i (0, 0)).2
/-- Divided differences. -/
def ddN (q : Nat) (pts : List (Nat × Nat)) : Nat → Nat → Nat
  | 0, i => ptY pts i
  | s + 1, i => if i ≤ s then ddN q pts s i else divN q (subN q (ddN q pts s i) (ddN q pts s (i - 1))) (subN q (ptX pts i) (ptX pts (i - (s + 1))))
theorem ddN_stay (q : Nat) (pts : List (Nat × Nat)) (i s : Nat) (h : i ≤ s) : ddN q pts s i = ddN q pts i i := by
  induction s with
  | zero => obtain rfl : i = 0 := by omega
            rfl
  | succ s ih =>
    by_cases e : i = s + 1
    · rw [e]
    · rw [ddN, if_pos (by omega), ih (by omega)]
theorem ddN_lt {q : Nat} (hq : 0 < q) {pts : List (Nat × Nat)} (hy : ∀ i, ptY pts i < q) : ∀ s i, ddN q pts s i < q
  | 0, i => hy i
  | s + 1, i => by
    rw [ddN]
    split
    · exact ddN_lt hq hy s i
    · exact Nat.mod_lt _ hq
/-- times (x - r), plus c -/
def stepP (q r c : Nat) (p : List Nat) : List Nat := List.zipWith (fun a b => (a + q - b * r % q) % q) (c :: p) p
theorem stepP_len (q r c : Nat) (p : List Nat) : (stepP q r c p).length = p.length := by
  rw [stepP, List.length_zipWith, List.length_cons]
  omega
theorem stepP_lt {q : Nat} (hq : 0 < q) (r c : Nat) (p : List Nat) : ∀ x ∈ stepP q r c p, x < q := by
  intro x hx
  obtain ⟨i, h, rfl⟩ := List.mem_iff_getElem.1 hx
  simp only [stepP, List.getElem_zipWith]
  exact Nat.mod_lt _ hq
def nwP (q : Nat) (pts : List (Nat × Nat)) : Nat → List Nat
  | 0 => List.replicate pts.length 0
  | m + 1 => stepP q (ptX pts (pts.length - 1 - m)) (ddN q pts (pts.length - 1) (pts.length - 1 - m)) (nwP q pts m)
def intL (q : Nat) (pts : List (Nat × Nat)) : List Nat := nwP q pts pts.length
theorem nwP_len (q : Nat) (pts : List (Nat × Nat)) (m : Nat) : (nwP q pts m).length = pts.length := by
  induction m with
  | zero => simp [nwP]
  | succ m ih => rw [nwP, stepP_len, ih]
theorem nwP_lt {q : Nat} (hq : 0 < q) (pts : List (Nat × Nat)) (m : Nat) : ∀ x ∈ nwP q pts m, x < q := by
  cases m with
  | zero =>
    intro x hx
    rw [nwP, List.mem_replicate] at hx
    omega
  | succ m => exact stepP_lt hq _ _ _
theorem stepP_drop (q r c : Nat) (p : List Nat) (hq : 0 < q) (m : Nat) (h : ∀ i, m ≤ i → p.getD i 0 = 0) : ∀ i, m + 1 ≤ i → (stepP q r c p).getD i 0 = 0 := by
  intro i hi
  rcases Nat.lt_or_ge i p.length with hl | hl
  · have h1 := h i (by omega)
    have h2 := h (i - 1) (by omega)
    obtain ⟨k, rfl⟩ : ∃ k, i = k + 1 := ⟨i - 1, by omega⟩
    have h3 : k < p.length := by omega
    simp only [Nat.add_sub_cancel] at h2
    simp only [List.getD_eq_getElem?_getD, List.getElem?_eq_getElem hl, List.getElem?_eq_getElem h3, Option.getD_some] at h1 h2
    have h4 : k + 1 < (stepP q r c p).length := by rw [stepP_len]; exact hl
    simp only [List.getD_eq_getElem?_getD, List.getElem?_eq_getElem h4, Option.getD_some]
    simp [stepP, List.getElem_zipWith, h1, h2]
  · rw [List.getD_eq_getElem?_getD, List.getElem?_eq_none (by rw [stepP_len]; exact hl)]
    rfl
theorem nwP_drop {q : Nat} (hq : 0 < q) (pts : List (Nat × Nat)) (m : Nat) : ∀ i, m ≤ i → (nwP q pts m).getD i 0 = 0 := by
  induction m with
  | zero =>
    intro i _
    rw [nwP, List.getD_eq_getElem?_getD, List.getElem?_replicate]
    split <;> rfl
  | succ m ih => exact stepP_drop _ _ _ _ hq m ih
section
variable {q : Nat} [NeZero q]
theorem ev_step (r : Nat) (x : Fin q) : ∀ (p : List Nat) (c : Nat), (c :: p).getLast (by simp) = 0 → (stepP q r c p).map (cst q) = (stepP q r c p).map (cst q) ∧ evF ((stepP q r c p).map (cst q)) x = cst q c + (x - cst q r) * evF (p.map (cst q)) x
  | [], c, h => by
    refine ⟨rfl, ?_⟩
    simp only [List.getLast_singleton] at h
    subst h
    simp only [stepP, List.zipWith_nil_right, List.map_nil, ev_nil, cst_zero]
    grind
  | b :: p, c, h => by
    have ih := (ev_step r x p b (by rw [List.getLast_cons (by simp)] at h; exact h)).2
    refine ⟨rfl, ?_⟩
    have e : stepP q r c (b :: p) = (c + q - b * r % q) % q :: stepP q r b p := rfl
    rw [e, List.map_cons, ev_cons, ih, List.map_cons, ev_cons, cst_minus (Nat.le_of_lt (Nat.mod_lt _ (Nat.pos_of_ne_zero (NeZero.ne q)))), cst_mod, cst_mul]
    grind
theorem getLast_getD {l : List Nat} (h : l ≠ []) : l.getLast h = l.getD (l.length - 1) 0 := by
  rw [List.getLast_eq_getElem, List.getD_eq_getElem?_getD, List.getElem?_eq_getElem (by have := List.length_pos_iff.2 h; omega)]
  rfl
theorem intL_fld (h : isP q = true) {pts : List (Nat × Nat)} (hx : ∀ i, ptX pts i < q) (hy : ∀ i, ptY pts i < q) (hd : ∀ i k, i < pts.length → k < i → ptX pts i ≠ ptX pts k) {k : Nat} (hk : k < pts.length) :
    evF ((intL q pts).map (cst q)) (cst q (ptX pts k)) = cst q (ptY pts k) := by
  have hq : 0 < q := by have := isP_two h; omega
  have hD := ddN_lt hq (pts := pts) hy
  refine nw_right (X := fun i => cst q (ptX pts i)) (D := fun i s => cst q (ddN q pts s i)) (n := pts.length) (fun i s hs hi => ?_) (fun i x => evF ((nwP q pts (pts.length - i)).map (cst q)) x) (fun i hi x => ?_) hk
  · have h1 : ddN q pts (s + 1) (i + 1) = divN q (subN q (ddN q pts s (i + 1)) (ddN q pts s i)) (subN q (ptX pts (i + 1)) (ptX pts (i - s))) := by
      rw [ddN, if_neg (by omega), show i + 1 - 1 = i by omega, show i + 1 - (s + 1) = i - s by omega]
    have e1 := cst_minus (q := q) (a := ddN q pts s (i + 1)) (b := ddN q pts s i) (Nat.le_of_lt (hD s i))
    have e2 := cst_minus (q := q) (a := ptX pts (i + 1)) (b := ptX pts (i - s)) (Nat.le_of_lt (hx _))
    have hne : cst q (ptX pts (i + 1)) ≠ cst q (ptX pts (i - s)) := cst_ne (hx _) (hx _) (hd _ _ (by omega) (by omega))
    have h2 : cst q (subN q (ptX pts (i + 1)) (ptX pts (i - s))) ≠ 0 := by
      rw [subN, e2]
      intro e
      exact hne (by grind)
    have h3 := cst_inv h h2
    skip
    rw [h1, divN, cst_mod, cst_mul]
    have e3 : cst q (subN q (ptX pts (i + 1)) (ptX pts (i - s))) = cst q (ptX pts (i + 1)) - cst q (ptX pts (i - s)) := e2
    have e4 : cst q (subN q (ddN q pts s (i + 1)) (ddN q pts s i)) = cst q (ddN q pts s (i + 1)) - cst q (ddN q pts s i) := e1
    rw [e3] at h3
    rw [e4]
    generalize cst q (invN _ _) = v at *
    grind
  · skip
    obtain ⟨m, hm⟩ : ∃ m, pts.length - i = m + 1 := ⟨pts.length - i - 1, by omega⟩
    have hi2 : pts.length - 1 - m = i := by omega
    rw [show pts.length - (i + 1) = m by omega, hm, nwP, hi2, ddN_stay q pts i (pts.length - 1) (by omega)]
    refine (ev_step _ x (nwP q pts m) _ ?_).2
    rw [List.getLast_cons (by intro e; have := nwP_len q pts m; rw [e] at this; simp at this; omega), getLast_getD]
    refine nwP_drop hq pts m _ ?_
    rw [nwP_len]
    omega
end
theorem intL_len (q : Nat) (pts : List (Nat × Nat)) : (intL q pts).length = pts.length := nwP_len _ _ _
theorem intL_lt {q : Nat} (hq : 0 < q) (pts : List (Nat × Nat)) : ∀ x ∈ intL q pts, x < q := nwP_lt hq _ _
/-- The points lie on it. -/
theorem intL_at {q : Nat} (h : isP q = true) {pts : List (Nat × Nat)} (hx : ∀ p ∈ pts, p.1 < q ∧ p.2 < q) (hd : (pts.map (·.1)).Nodup) {p : Nat × Nat} (hp : p ∈ pts) : pv (intL q pts) p.1 % q = p.2 := by
  have hq : 0 < q := by have := isP_two h; omega
  haveI : NeZero q := ⟨by omega⟩
  have hg : ∀ i, (pts.getD i (0, 0)).1 < q ∧ (pts.getD i (0, 0)).2 < q := fun i => by
    rw [List.getD_eq_getElem?_getD]
    cases hi : pts[i]? with
    | none => exact ⟨hq, hq⟩
    | some p => exact hx p (List.mem_of_getElem? hi)
  obtain ⟨k, hk, rfl⟩ := List.mem_iff_getElem.1 hp
  have h1 := intL_fld h (fun i => (hg i).1) (fun i => (hg i).2) (fun i k hi hk e => by
    have hk2 : k < pts.length := by omega
    simp only [ptX, List.getD_eq_getElem?_getD, List.getElem?_eq_getElem hi, List.getElem?_eq_getElem hk2, Option.getD_some] at e
    have := List.pairwise_iff_getElem.1 hd k i (by simpa using hk2) (by simpa using hi) hk
    simp [e] at this) hk
  have e : pts.getD k (0, 0) = pts[k] := by rw [List.getD_eq_getElem?_getD, List.getElem?_eq_getElem hk]; rfl
  simp only [ptX, ptY, e] at h1
  rw [← cst_pv, cst_eq] at h1
  rw [h1, Nat.mod_eq_of_lt (hx _ hp).2]
/-- What lies on the points is it. -/
theorem intL_unique {q : Nat} (h : isP q = true) {pts : List (Nat × Nat)} (hx : ∀ p ∈ pts, p.1 < q ∧ p.2 < q) (hd : (pts.map (·.1)).Nodup) {l : List Nat} (hl : l.length = pts.length) (hlq : ∀ x ∈ l, x < q) (he : ∀ p ∈ pts, pv l p.1 % q = p.2) : l = intL q pts := by
  have hq : 0 < q := by have := isP_two h; omega
  refine pv_unique h (xs := pts.map (·.1)) (by simpa using hl) (by simpa using intL_len q pts) (fun x hxm => ?_) hlq (intL_lt hq pts) hd (fun x hxm => ?_)
  · obtain ⟨p, hp, rfl⟩ := List.mem_map.1 hxm
    exact (hx p hp).1
  · obtain ⟨p, hp, rfl⟩ := List.mem_map.1 hxm
    rw [he p hp, intL_at h hx hd hp]
/-! ### what the reference computes for Interpolate -/
def linN (q : Nat) (l : List Nat) (r : Nat) : List Nat := stepP q r 0 (l ++ [0])
theorem linN_len (q : Nat) (l : List Nat) (r : Nat) : (linN q l r).length = l.length + 1 := by rw [linN, stepP_len]; simp
def lagP (q : Nat) (pts : List (Nat × Nat)) (j : Nat) : Nat → List Nat
  | 0 => [ptY pts j]
  | i + 1 => if i = j then lagP q pts j i else (linN q (lagP q pts j i) (ptX pts i)).map fun c => c * invN (subN q (ptX pts j) (ptX pts i)) q % q
def lagO (q : Nat) (pts : List (Nat × Nat)) : Nat → List Nat
  | 0 => List.replicate pts.length 0
  | j + 1 => List.zipWith (fun a b => (a + b) % q) (lagO q pts j) (lagP q pts j pts.length)
theorem lagP_len (q : Nat) (pts : List (Nat × Nat)) (j : Nat) : ∀ i, (lagP q pts j i).length = if i ≤ j then i + 1 else i
  | 0 => by simp [lagP]
  | i + 1 => by
    rw [lagP]
    have ih := lagP_len q pts j i
    split
    · rw [ih]
      split <;> split <;> omega
    · rw [List.length_map, linN_len, ih]
      split <;> split <;> omega
theorem lagP_lt {q : Nat} (hq : 0 < q) {pts : List (Nat × Nat)} (hy : ∀ i, ptY pts i < q) (j : Nat) : ∀ i, ∀ x ∈ lagP q pts j i, x < q
  | 0 => fun x hx => by
    rw [lagP, List.mem_singleton] at hx
    subst hx
    exact hy j
  | i + 1 => fun x hx => by
    rw [lagP] at hx
    split at hx
    · exact lagP_lt hq hy j i x hx
    · obtain ⟨c, _, rfl⟩ := List.mem_map.1 hx
      exact Nat.mod_lt _ hq
theorem lagO_len (q : Nat) (pts : List (Nat × Nat)) : ∀ j, j ≤ pts.length → (lagO q pts j).length = pts.length
  | 0, _ => by simp [lagO]
  | j + 1, h => by
    rw [lagO, List.length_zipWith, lagO_len q pts j (by omega), lagP_len, if_neg (by omega)]
    omega
theorem lagO_lt {q : Nat} (hq : 0 < q) (pts : List (Nat × Nat)) (j : Nat) : ∀ x ∈ lagO q pts j, x < q := by
  cases j with
  | zero =>
    intro x hx
    rw [lagO, List.mem_replicate] at hx
    omega
  | succ j =>
    intro x hx
    rw [lagO] at hx
    obtain ⟨i, h, rfl⟩ := List.mem_iff_getElem.1 hx
    rw [List.getElem_zipWith]
    exact Nat.mod_lt _ hq
section
variable {q : Nat} [NeZero q]
theorem ev_snoc0 (l : List (Fin q)) (x : Fin q) : evF (l ++ [0]) x = evF l x := by
  induction l with
  | nil => simp only [List.nil_append, ev_cons, ev_nil]; grind
  | cons a l ih => rw [List.cons_append, ev_cons, ih, ev_cons]
theorem ev_lin (l : List Nat) (r : Nat) (x : Fin q) : evF ((linN q l r).map (cst q)) x = (x - cst q r) * evF (l.map (cst q)) x := by
  rw [linN, (ev_step r x (l ++ [0]) 0 (by rw [List.getLast_cons (by simp)]; simp)).2, List.map_append, List.map_cons, List.map_nil, cst_zero, ev_snoc0]
  grind
theorem ev_scale (l : List Nat) (v : Nat) (x : Fin q) : evF ((l.map fun c => c * v % q).map (cst q)) x = evF (l.map (cst q)) x * cst q v := by
  induction l with
  | nil => simp only [List.map_nil, ev_nil]; grind
  | cons a l ih =>
    rw [List.map_cons, List.map_cons, ev_cons, ih, List.map_cons, ev_cons, cst_mod, cst_mul]
    grind
theorem ev_add (l m : List Nat) (hl : l.length = m.length) (x : Fin q) : evF ((List.zipWith (fun a b => (a + b) % q) l m).map (cst q)) x = evF (l.map (cst q)) x + evF (m.map (cst q)) x := by
  induction l generalizing m with
  | nil =>
    obtain rfl := List.eq_nil_of_length_eq_zero (l := m) (by simpa using hl.symm)
    simp only [List.zipWith_nil_left, List.map_nil, ev_nil]
    grind
  | cons a l ih =>
    cases m with
    | nil => cases hl
    | cons b m =>
      rw [List.zipWith_cons_cons, List.map_cons, ev_cons, ih m (by simpa using hl), List.map_cons, ev_cons, List.map_cons, ev_cons, cst_mod, cst_add]
      grind
theorem ev_rep (n : Nat) (x : Fin q) : evF ((List.replicate n 0).map (cst q)) x = 0 := by
  induction n with
  | zero => rfl
  | succ n ih =>
    rw [List.replicate_succ, List.map_cons, ev_cons, ih, cst_zero]
    grind
variable (h : isP q = true) {pts : List (Nat × Nat)} (hx : ∀ i, ptX pts i < q) (hd : ∀ i k, i < pts.length → k < pts.length → i ≠ k → ptX pts i ≠ ptX pts k)
include h hx hd
theorem lagP_self {j : Nat} (hj : j < pts.length) : ∀ i, i ≤ pts.length → evF ((lagP q pts j i).map (cst q)) (cst q (ptX pts j)) = cst q (ptY pts j)
  | 0, _ => by
    simp only [lagP, List.map_cons, List.map_nil, ev_cons, ev_nil]
    grind
  | i + 1, hi => by
    have ih := lagP_self hj i (by omega)
    rw [lagP]
    split
    · exact ih
    · rename_i hne
      rw [ev_scale, ev_lin, ih]
      have e := cst_minus (q := q) (a := ptX pts j) (b := ptX pts i) (Nat.le_of_lt (hx i))
      have hn : cst q (ptX pts j) ≠ cst q (ptX pts i) := cst_ne (hx _) (hx _) (hd _ _ hj (by omega) (fun e => hne e.symm))
      have h2 : cst q (subN q (ptX pts j) (ptX pts i)) ≠ 0 := by
        rw [subN, e]
        intro e
        exact hn (by grind)
      have h3 := cst_inv h h2
      have e2 : cst q (subN q (ptX pts j) (ptX pts i)) = cst q (ptX pts j) - cst q (ptX pts i) := e
      rw [e2] at h3
      generalize cst q (invN _ _) = v at *
      grind
omit h hx hd in
theorem lagP_other {j k : Nat} (hjk : k ≠ j) : ∀ i, k < i → evF ((lagP q pts j i).map (cst q)) (cst q (ptX pts k)) = 0
  | 0, hk => by omega
  | i + 1, hk => by
    rw [lagP]
    by_cases e : k = i
    · subst e
      rw [if_neg hjk, ev_scale, ev_lin]
      grind
    · have ih := lagP_other hjk i (by omega)
      split
      · exact ih
      · rw [ev_scale, ev_lin, ih]
        grind
theorem lagO_ev {k : Nat} (hk : k < pts.length) : ∀ j, j ≤ pts.length → evF ((lagO q pts j).map (cst q)) (cst q (ptX pts k)) = if k < j then cst q (ptY pts k) else 0
  | 0, _ => by
    rw [lagO, ev_rep]
    simp
  | j + 1, hj => by
    have ih := lagO_ev hk j (by omega)
    rw [lagO, ev_add _ _ (by rw [lagO_len q pts j (by omega), lagP_len, if_neg (by omega)]), ih]
    by_cases e : k = j
    · subst e
      rw [lagP_self h hx hd hk _ (Nat.le_refl _), if_neg (by omega), if_pos (by omega)]
      grind
    · rw [lagP_other e _ hk]
      by_cases e2 : k < j
      · rw [if_pos e2, if_pos (by omega)]; grind
      · rw [if_neg e2, if_neg (by omega)]; grind
end
theorem getD_lt {q : Nat} (hq : 0 < q) {pts : List (Nat × Nat)} (hx : ∀ p ∈ pts, p.1 < q ∧ p.2 < q) (i : Nat) : ptX pts i < q ∧ ptY pts i < q := by
  simp only [ptX, ptY, List.getD_eq_getElem?_getD]
  cases hi : pts[i]? with
  | none => exact ⟨hq, hq⟩
  | some p => exact hx p (List.mem_of_getElem? hi)
theorem getD_ne {pts : List (Nat × Nat)} (hd : (pts.map (·.1)).Nodup) (i k : Nat) (hi : i < pts.length) (hk : k < pts.length) (hik : i ≠ k) : ptX pts i ≠ ptX pts k := by
  intro e
  simp only [ptX, List.getD_eq_getElem?_getD, List.getElem?_eq_getElem hi, List.getElem?_eq_getElem hk, Option.getD_some] at e
  rcases Nat.lt_or_ge i k with h | h
  · have := List.pairwise_iff_getElem.1 hd i k (by simpa using hi) (by simpa using hk) h
    simp [e] at this
  · have := List.pairwise_iff_getElem.1 hd k i (by simpa using hk) (by simpa using hi) (by omega)
    simp [e] at this
/-- Both are the same. -/
theorem lag_int {q : Nat} (h : isP q = true) {pts : List (Nat × Nat)} (hx : ∀ p ∈ pts, p.1 < q ∧ p.2 < q) (hd : (pts.map (·.1)).Nodup) : lagO q pts pts.length = intL q pts := by
  have hq : 0 < q := by have := isP_two h; omega
  haveI : NeZero q := ⟨by omega⟩
  refine intL_unique h hx hd (lagO_len _ _ _ (Nat.le_refl _)) (lagO_lt hq _ _) fun p hp => ?_
  obtain ⟨k, hk, rfl⟩ := List.mem_iff_getElem.1 hp
  have h1 := lagO_ev h (fun i => (getD_lt hq hx i).1) (getD_ne hd) hk pts.length (Nat.le_refl _)
  have e : pts.getD k (0, 0) = pts[k] := by rw [List.getD_eq_getElem?_getD, List.getElem?_eq_getElem hk]; rfl
  rw [if_pos hk] at h1
  simp only [ptX, ptY, e] at h1
  rw [← cst_pv, cst_eq] at h1
  rw [h1, Nat.mod_eq_of_lt (hx _ hp).2]
/-! ### the exponents of Open -/
def facA (q : Nat) (xs : List Nat) (j : Nat) : Nat → Nat
  | 0 => 1
  | i + 1 => if i = j then facA q xs j i else facA q xs j i * xs.getD i 0 % q
def facU (q : Nat) (xs : List Nat) (j : Nat) : Nat → Nat
  | 0 => 1
  | i + 1 => if i = j then facU q xs j i else facU q xs j i * subN q (xs.getD i 0) (xs.getD j 0) % q
def facR (q : Nat) (xs : List Nat) (j : Nat) : Nat → Nat
  | 0 => 1
  | i + 1 => if i = j then facR q xs j i else facR q xs j i * xs.getD i 0 % q * invN (subN q (xs.getD i 0) (xs.getD j 0)) q % q
theorem facA_lt {q : Nat} (hq : 2 ≤ q) (xs : List Nat) (j : Nat) : ∀ i, facA q xs j i < q
  | 0 => hq
  | i + 1 => by rw [facA]; split; exact facA_lt hq xs j i; exact Nat.mod_lt _ (by omega)
theorem facU_lt {q : Nat} (hq : 2 ≤ q) (xs : List Nat) (j : Nat) : ∀ i, facU q xs j i < q
  | 0 => hq
  | i + 1 => by rw [facU]; split; exact facU_lt hq xs j i; exact Nat.mod_lt _ (by omega)
theorem facR_lt {q : Nat} (hq : 2 ≤ q) (xs : List Nat) (j : Nat) : ∀ i, facR q xs j i < q
  | 0 => hq
  | i + 1 => by rw [facR]; split; exact facR_lt hq xs j i; exact Nat.mod_lt _ (by omega)
section
variable {q : Nat} [NeZero q] (h : isP q = true) {xs : List Nat} (hx : ∀ i, xs.getD i 0 < q) {j : Nat} (hd : ∀ i, i < xs.length → i ≠ j → xs.getD i 0 ≠ xs.getD j 0)
include h hx hd
theorem fac_all : ∀ i, i ≤ xs.length → cst q (facA q xs j i) = cst q (facR q xs j i) * cst q (facU q xs j i) ∧ cst q (facU q xs j i) ≠ 0
  | 0, _ => by
    simp only [facA, facR, facU, cst_one (isP_two h)]
    exact ⟨by grind, fld_one h⟩
  | i + 1, hi => by
    obtain ⟨h1, h2⟩ := fac_all i (by omega)
    rw [facA, facR, facU]
    by_cases e : i = j
    · rw [if_pos e, if_pos e, if_pos e]
      exact ⟨h1, h2⟩
    · rw [if_neg e, if_neg e, if_neg e]
      have e1 := cst_minus (q := q) (a := xs.getD i 0) (b := xs.getD j 0) (Nat.le_of_lt (hx j))
      have hn : cst q (xs.getD i 0) ≠ cst q (xs.getD j 0) := cst_ne (hx _) (hx _) (hd _ (by omega) e)
      have h3 : cst q (subN q (xs.getD i 0) (xs.getD j 0)) ≠ 0 := by
        rw [subN, e1]
        intro e
        exact hn (by grind)
      have h4 := cst_inv h h3
      rw [cst_mod, cst_mod, cst_mod, cst_mul, cst_mul, cst_mul, cst_mod, cst_mul, h1]
      generalize cst q (subN q (xs.getD i 0) (xs.getD j 0)) = s at *
      generalize cst q (invN _ _) = v at *
      refine ⟨by grind, fun e => ?_⟩
      rcases fld_zero h e with e | e
      · exact h2 e
      · exact h3 e
end
theorem fac_eq {q : Nat} (h : isP q = true) {xs : List Nat} (hx : ∀ x ∈ xs, x < q) (hd : xs.Nodup) {j : Nat} (hj : j < xs.length) :
    facU q xs j xs.length % q ≠ 0 ∧ facA q xs j xs.length * invN (facU q xs j xs.length) q % q = facR q xs j xs.length := by
  have hq : 0 < q := by have := isP_two h; omega
  haveI : NeZero q := ⟨by omega⟩
  have hg : ∀ i, xs.getD i 0 < q := fun i => by
    rw [List.getD_eq_getElem?_getD]
    cases hi : xs[i]? with
    | none => exact hq
    | some p => exact hx p (List.mem_of_getElem? hi)
  obtain ⟨h1, h2⟩ := fac_all h hg (j := j) (fun i hi hij e => by
    simp only [List.getD_eq_getElem?_getD, List.getElem?_eq_getElem hi, List.getElem?_eq_getElem hj, Option.getD_some] at e
    exact hij ((List.getElem_inj hd).1 e)) xs.length (Nat.le_refl _)
  refine ⟨cst_ne_zero h2, ?_⟩
  refine cst_inj (q := q) (Nat.mod_lt _ hq) (facR_lt (isP_two h) _ _ _) ?_
  have h3 := cst_inv h h2
  rw [cst_mod, cst_mul, h1]
  grind
end Go.Proofs.Ythgpojlcbbgaoaa
