/- A header opens: the exponents of its points add up to the polynomial's value at nought. Plain arithmetic. -/
import Derived.Test.YthgpojlcbbgaoaaGrpB
import Derived.Test.YthgpojlcbbgaoaaOpn
import Derived.Test.YthgpojlcbbgaoaaDec
set_option autoImplicit false
set_option maxRecDepth 100000
set_option linter.unusedVariables false
set_option linter.unusedSimpArgs false
set_option linter.unnecessarySimpa false
namespace Go.Proofs.Ythgpojlcbbgaoaa
theorem getD_fst (pts : List (Nat × Nat)) (i : Nat) : (pts.map (·.1)).getD i 0 = ptX pts i := by
  simp only [ptX, List.getD_eq_getElem?_getD, List.getElem?_map]
  cases pts[i]? <;> rfl
def expS (q : Nat) (pts : List (Nat × Nat)) (n : Nat) : Nat → Nat
  | 0 => 0
  | j + 1 => expS q pts n j + ptY pts j * facR q (pts.map (·.1)) j n
section
variable {q : Nat} [NeZero q] (h : isP q = true) {pts : List (Nat × Nat)} (hx : ∀ i, ptX pts i < q) (hd : ∀ i k, i < pts.length → k < pts.length → i ≠ k → ptX pts i ≠ ptX pts k)
include h hx hd
theorem lagP_zero {j : Nat} (hj : j < pts.length) : ∀ i, i ≤ pts.length → evF ((lagP q pts j i).map (cst q)) (cst q 0) = cst q (ptY pts j) * cst q (facR q (pts.map (·.1)) j i)
  | 0, _ => by
    simp only [lagP, facR, List.map_cons, List.map_nil, ev_cons, ev_nil, cst_one (isP_two h)]
    grind
  | i + 1, hi => by
    have ih := lagP_zero hj i (by omega)
    rw [lagP, facR]
    split
    · exact ih
    · rename_i hne
      rw [ev_scale, ev_lin, ih, getD_fst, getD_fst]
      have e := cst_minus (q := q) (a := ptX pts j) (b := ptX pts i) (Nat.le_of_lt (hx i))
      have e' := cst_minus (q := q) (a := ptX pts i) (b := ptX pts j) (Nat.le_of_lt (hx j))
      have hn : cst q (ptX pts j) ≠ cst q (ptX pts i) := cst_ne (hx _) (hx _) (hd _ _ hj (by omega) (fun e => hne e.symm))
      have h2 : cst q (subN q (ptX pts j) (ptX pts i)) ≠ 0 := by
        rw [subN, e]
        intro e
        exact hn (by grind)
      have h2' : cst q (subN q (ptX pts i) (ptX pts j)) ≠ 0 := by
        rw [subN, e']
        intro e
        exact hn (by grind)
      have h3 := cst_inv h h2
      have h3' := cst_inv h h2'
      have e2 : cst q (subN q (ptX pts j) (ptX pts i)) = cst q (ptX pts j) - cst q (ptX pts i) := e
      have e2' : cst q (subN q (ptX pts i) (ptX pts j)) = cst q (ptX pts i) - cst q (ptX pts j) := e'
      rw [e2] at h3
      rw [e2'] at h3'
      rw [cst_mod, cst_mul, cst_mod, cst_mul, cst_zero]
      generalize cst q (invN (subN q (ptX pts j) (ptX pts i)) q) = v at *
      generalize cst q (invN (subN q (ptX pts i) (ptX pts j)) q) = v' at *
      have hv : v' = 0 - v := by grind
      rw [hv]
      grind
theorem lagO_zero : ∀ j, j ≤ pts.length → evF ((lagO q pts j).map (cst q)) (cst q 0) = cst q (expS q pts pts.length j)
  | 0, _ => by
    rw [lagO, ev_rep, expS, cst_zero]
  | j + 1, hj => by
    have ih := lagO_zero j (by omega)
    rw [lagO, ev_add _ _ (by rw [lagO_len q pts j (by omega), lagP_len, if_neg (by omega)]), ih, lagP_zero h hx hd (by omega) _ (Nat.le_refl _), expS, cst_add, cst_mul]
end
/-- The exponents add up to the value at nought. -/
theorem expS_zero {q : Nat} (h : isP q = true) {pts : List (Nat × Nat)} (hx : ∀ p ∈ pts, p.1 < q ∧ p.2 < q) (hd : (pts.map (·.1)).Nodup) {l : List Nat} (hl : l.length = pts.length) (hlq : ∀ x ∈ l, x < q) (he : ∀ p ∈ pts, pv l p.1 % q = p.2) :
    expS q pts pts.length pts.length % q = pv l 0 % q := by
  have hq : 0 < q := by have := isP_two h; omega
  haveI : NeZero q := ⟨by omega⟩
  have h1 := lagO_zero h (fun i => (getD_lt hq hx i).1) (getD_ne hd) pts.length (Nat.le_refl _)
  rw [lag_int h hx hd, ← intL_unique h hx hd hl hlq he, ← cst_pv, cst_eq] at h1
  exact h1.symm
theorem zP_exp {p q b n : Nat} (hp : 2 ≤ p) {all pts : List (Nat × Nat)} (hm : all = pts.map fun x => (x.1, b ^ x.2 % p)) : ∀ j, j ≤ pts.length → zP p q all n j = b ^ expS q pts n j % p
  | 0, _ => by rw [zP, expS, Nat.pow_zero, Nat.mod_eq_of_lt (by omega)]
  | j + 1, hj => by
    have ih := zP_exp (q := q) (n := n) hp hm j (by omega)
    have hy : ptY all j = b ^ ptY pts j % p := by
      subst hm
      simp only [ptY, List.getD_eq_getElem?_getD, List.getElem?_map, List.getElem?_eq_getElem (show j < pts.length by omega), Option.map_some, Option.getD_some]
    have hxs : all.map (·.1) = pts.map (·.1) := by
      subst hm
      simp
    rw [zP, expS, ih, hy, hxs, Nat.pow_add, ← Nat.pow_mod, ← Nat.pow_mul, ← Nat.mul_mod]
theorem pow_red {p q b e : Nat} (hp : 2 ≤ p) (h : b ^ q % p = 1) : b ^ e % p = b ^ (e % q) % p := by
  conv => lhs; rw [← Nat.div_add_mod e q, Nat.pow_add, Nat.pow_mul, Nat.mul_mod, pw1 hp h, Nat.one_mul, Nat.mod_mod]
end Go.Proofs.Ythgpojlcbbgaoaa
