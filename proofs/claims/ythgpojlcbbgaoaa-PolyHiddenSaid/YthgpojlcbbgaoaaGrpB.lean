/- The group of a scheme: powers of its base. Plain arithmetic. -/
import Derived.Test.YthgpojlcbbgaoaaSeal
import Derived.Test.YthgpojlcbbgaoaaFld
set_option autoImplicit false
set_option maxRecDepth 100000
set_option linter.unusedVariables false
set_option linter.unusedSimpArgs false
namespace Go.Proofs.Ythgpojlcbbgaoaa
theorem pw1 {p a : Nat} (hp : 2 ≤ p) (h : a % p = 1) (n : Nat) : a ^ n % p = 1 := by
  rw [Nat.pow_mod, h, Nat.one_pow, Nat.mod_eq_of_lt (by omega)]
theorem ord_ne {p q b e : Nat} (hp : 2 ≤ p) (hq : isP q = true) (h1 : b ^ q % p = 1) (h2 : b % p ≠ 1) (he : 1 ≤ e) (heq : e < q) : b ^ e % p ≠ 1 := by
  intro h
  have hu := (invN_spec (a := e) hq (by rw [Nat.mod_eq_of_lt heq]; omega)).2
  generalize invN e q = u at hu
  have hv : e * u = q * (e * u / q) + 1 := by have := Nat.div_add_mod (e * u) q; omega
  have h3 : b ^ (e * u) % p = 1 := by rw [Nat.pow_mul]; exact pw1 hp h u
  rw [hv, Nat.pow_succ, Nat.mul_mod, Nat.pow_mul, pw1 hp h1, Nat.one_mul, Nat.mod_mod] at h3
  exact h2 h3
theorem ord_inj {p q b v w : Nat} (hp : 2 ≤ p) (hq : isP q = true) (h1 : b ^ q % p = 1) (h2 : b % p ≠ 1) (hv : v < q) (hw : w < q) (h : b ^ v % p = b ^ w % p) : v = w := by
  have key : ∀ v w, v < w → w < q → b ^ v % p = b ^ w % p → False := by
    intro v w hvw hw h
    have h3 : b ^ (q - v) * b ^ v % p = b ^ (q - v) * b ^ w % p := by rw [Nat.mul_mod, h, ← Nat.mul_mod]
    rw [← Nat.pow_add, ← Nat.pow_add, show q - v + v = q by omega, h1, show q - v + w = q + (w - v) by omega, Nat.pow_add, Nat.mul_mod, h1, Nat.one_mul, Nat.mod_mod] at h3
    exact ord_ne hp hq h1 h2 (show 1 ≤ w - v by omega) (by omega) h3.symm
  rcases Nat.lt_trichotomy v w with hc | hc | hc
  · exact (key v w hc hw h).elim
  · exact hc
  · exact (key w v hc hv h.symm).elim
section
variable {p q g : Nat} {root : Key} {nonce : Nat}
theorem base_q (h : okG p q g = true) : baseN root p q g nonce ^ q % p = 1 := by
  obtain ⟨h1, h2, h3, h4, h5, h6⟩ := okG_all h
  rw [baseN, ← Nat.pow_mod, ← Nat.pow_mul, Nat.mul_comm, Nat.pow_mul]
  exact pw1 (isP_two h1) h6 _
theorem base_two (h : okG p q g = true) : 2 ≤ baseN root p q g nonce := by
  obtain ⟨h1, h2, h3, h4, h5, h6⟩ := okG_all h
  have hb := base_q (root := root) (nonce := nonce) h
  have hq := isP_two h2
  have hp := isP_two h1
  have hr := numK_le (derK root 41 nonce) 0 (q - 1)
  have hr2 : numK (derK root 41 nonce) 0 (q - 1) < q - 1 ∨ q - 1 = 0 := by
    rcases Nat.eq_zero_or_pos (q - 1) with h0 | h0
    · exact .inr h0
    · exact .inl (numK_lt _ _ h0)
  have h7 : baseN root p q g nonce ≠ 1 := ord_ne hp h2 h6 (by rw [Nat.mod_eq_of_lt h5]; omega) (show 1 ≤ rN root q nonce by unfold rN; omega) (by unfold rN; omega)
  have h8 : baseN root p q g nonce ≠ 0 := fun e => by
    rw [e, Nat.zero_pow (by omega), Nat.zero_mod] at hb
    cases hb
  omega
theorem base_lt (h : okG p q g = true) : baseN root p q g nonce < p := by
  obtain ⟨h1, _⟩ := okG_all h
  exact Nat.mod_lt _ (by have := isP_two h1; omega)
theorem lift_q (h : okG p q g = true) (cs : List Nat) (x : Nat) : liftN p q (baseN root p q g nonce) cs x ^ q % p = 1 := by
  rw [liftN, ← Nat.pow_mod, ← Nat.pow_mul, Nat.mul_comm, Nat.pow_mul]
  exact pw1 (isP_two (okG_all h).1) (base_q h) _
theorem base_inj (h : okG p q g = true) {v w : Nat} (hv : v < q) (hw : w < q) (he : baseN root p q g nonce ^ v % p = baseN root p q g nonce ^ w % p) : v = w := by
  have hb := base_lt (root := root) (nonce := nonce) h
  have h2 := base_two (root := root) (nonce := nonce) h
  exact ord_inj (isP_two (okG_all h).1) (okG_all h).2.1 (base_q h) (by rw [Nat.mod_eq_of_lt hb]; omega) hv hw he
end
end Go.Proofs.Ythgpojlcbbgaoaa
