/- Decryption takes back encryption. Plain theorems. -/
import Derived.Test.YthgpojlcbbgaoaaRef2
set_option autoImplicit false
namespace Go.Proofs.Ythgpojlcbbgaoaa
theorem rotr_rot {x : BitVec 64} {n m : Nat} (h : n + m = 64) (h0 : 0 < n) (h1 : 0 < m) : rotr (rotr x n) m = x := by
  unfold rotr
  apply BitVec.eq_of_getLsbD_eq
  intro i hi
  simp only [BitVec.getLsbD_or, BitVec.getLsbD_ushiftRight, BitVec.getLsbD_shiftLeft]
  by_cases h2 : i < 64 - m
  · have e1 : decide (m + i < 64) = true := by simp; omega
    have e2 : decide (i < 64 - m) = true := by simp; omega
    have e3 : n + (m + i) ≥ 64 := by omega
    have e4 : ¬ (m + i < 64 - n) := by omega
    simp [e1, e4, e2, BitVec.getLsbD_of_ge _ _ e3, show m + i - (64 - n) = i by omega]
  · have e3 : i - (64 - m) + n = i := by omega
    have e1 : ¬ (m + i < 64) := by omega
    have e5 : i - (64 - m) < 64 - n := by omega
    have e6 : i - (64 - m) < 64 := by omega
    have e7 : m + i - (64 - n) = i := by omega
    have e8 : n + (i - (64 - m)) = i := by omega
    have e9 : 64 ≤ n + (m + i) := by omega
    simp [h2, e1, e5, e6, e7, e8, hi, BitVec.getLsbD_of_ge _ _ e9]
theorem xor_back (a k : BitVec 64) : (a ^^^ k) ^^^ k = a := by rw [BitVec.xor_assoc, BitVec.xor_self, BitVec.xor_zero]
theorem bck_rnd (p : BitVec 64 × BitVec 64) (k : BitVec 64) : bck (rnd p k) k = p := by
  have e1 : (rnd p k).1 ^^^ (rnd p k).2 = rotr p.2 (64 - 3) := by
    show ((rotl p.1 (rotn (-8)) + p.2) ^^^ k) ^^^ (rotl p.2 (rotn 3) ^^^ ((rotl p.1 (rotn (-8)) + p.2) ^^^ k)) = _
    rw [rotl3, BitVec.xor_comm (rotr p.2 _), ← BitVec.xor_assoc, BitVec.xor_self, BitVec.zero_xor]
  have e2 : (rnd p k).1 ^^^ k = rotr p.1 8 + p.2 := by
    show (_ ^^^ k) ^^^ k = _
    rw [rotr8, xor_back]
  unfold bck
  rw [e1, e2, rotr3, rotl8, rotr_rot (by decide) (by decide) (by decide), BitVec.add_sub_cancel, rotr_rot (by decide) (by decide) (by decide)]
theorem ds_es (k m : Key) : ∀ i, i ≤ 32 → dsK k (encK k m) i = esK k m (32 - i)
  | 0, _ => rfl
  | i + 1, h => by
    rw [dsK, ds_es k m i (by omega), show 32 - i = (31 - i) + 1 by omega, esK, bck_rnd, show 32 - (i + 1) = 31 - i by omega]
theorem dec_enc (k m : Key) : decK k (encK k m) = m := by
  unfold decK
  rw [ds_es k m 32 (Nat.le_refl _)]
  rfl
end Go.Proofs.Ythgpojlcbbgaoaa
