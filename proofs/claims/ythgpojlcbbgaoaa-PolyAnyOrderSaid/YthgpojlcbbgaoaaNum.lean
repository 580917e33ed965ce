/- Operators on numbers, over the calculus of 'Net': on natural numbers, on words, on whole numbers in range. Plain theorems. -/
import Derived.Test.YthgpojlcbbgaoaaMem
set_option autoImplicit false
namespace Go.Proofs.Ythgpojlcbbgaoaa
open Go.RowKit

abbrev U (n : Nat) : Value := .int .u64 (n : Int)
abbrev W (x : BitVec 64) : Value := .int .u64 (x.toNat : Int)
abbrev I (z : Int) : Value := .int .i64 z
abbrev B8 (n : Nat) : Value := .int .u8 (n : Int)

theorem wrap_u64_id {z : Int} (h0 : 0 ≤ z) (h : z < 18446744073709551616) : IntKind.u64.wrap z = z := by rw [IntKind.wrap_u64]; omega
theorem wrap_u8_id {z : Int} (h0 : 0 ≤ z) (h : z < 256) : IntKind.u8.wrap z = z := by rw [IntKind.wrap_u8]; omega
theorem wrap_i64_id {z : Int} (h0 : -9223372036854775808 ≤ z) (h : z < 9223372036854775808) : IntKind.i64.wrap z = z := by rw [IntKind.wrap_i64]; omega

section
variable {P : Program} {t : TypeId}
theorem r2_int {op : BinOp} {k k' : IntKind} {a b : Int} {r : Value} (h : ∀ w, (binOp op t (.int k a) (.int k' b)).run P w = .ok r w) : R2 P op t (.int k a) (.int k' b) r := by
  intro x y w
  rw [eqGuard_at_int]
  simp [h]
theorem r_add {k : IntKind} {a b : Int} : R2 P .add t (.int k a) (.int k b) (.int k (k.wrap (a + b))) := r2_int fun w => by rw [binOp_add]; rfl
theorem r_sub {k : IntKind} {a b : Int} : R2 P .sub t (.int k a) (.int k b) (.int k (k.wrap (a - b))) := r2_int fun w => by rw [binOp_sub]; rfl
theorem r_mul {k : IntKind} {a b : Int} : R2 P .mul t (.int k a) (.int k b) (.int k (k.wrap (a * b))) := r2_int fun w => by rw [binOp_mul]; rfl
theorem r_quo {k : IntKind} {a b : Int} (h : b ≠ 0) : R2 P .quo t (.int k a) (.int k b) (.int k (k.wrap (a.tdiv b))) := r2_int fun w => by rw [binOp_quo]; simp [Op.intDiv, h]
theorem r_rem {k : IntKind} {a b : Int} (h : b ≠ 0) : R2 P .rem t (.int k a) (.int k b) (.int k (a.tmod b)) := r2_int fun w => by rw [binOp_rem]; simp [Op.intDiv, h]
theorem r_lss {k : IntKind} {a b : Int} : R2 P .lss t (.int k a) (.int k b) (.bool (decide (a < b))) := r2_int fun w => by rw [binOp_lss]; rfl
theorem r_leq {k : IntKind} {a b : Int} : R2 P .leq t (.int k a) (.int k b) (.bool (decide (a ≤ b))) := r2_int fun w => by rw [binOp_leq]; rfl
theorem r_gtr {k : IntKind} {a b : Int} : R2 P .gtr t (.int k a) (.int k b) (.bool (decide (b < a))) := r2_int fun w => by rw [binOp_gtr]; rfl
theorem r_geq {k : IntKind} {a b : Int} : R2 P .geq t (.int k a) (.int k b) (.bool (decide (b ≤ a))) := r2_int fun w => by rw [binOp_geq]; rfl
theorem r_eql {k : IntKind} {a b : Int} : R2 P .eql t (.int k a) (.int k b) (.bool (decide (a = b))) := r2_int fun w => by
  rw [binOp_eql]
  by_cases h : a = b <;> simp [h]
theorem r_neq {k : IntKind} {a b : Int} : R2 P .neq t (.int k a) (.int k b) (.bool (!decide (a = b))) := r2_int fun w => by
  rw [binOp_neq]
  by_cases h : a = b <;> simp [h]
theorem r_shl {k k' : IntKind} {a b : Int} (h0 : 0 ≤ b) (h1 : b ≤ k.bits) : R2 P .shl t (.int k a) (.int k' b) (.int k (k.wrap (a * 2 ^ b.toNat))) := r2_int fun w => by rw [binOp_shl, shift_shl k k' a b h0 h1]; rfl
theorem r_shr {k k' : IntKind} {a b : Int} (h0 : 0 ≤ b) (h1 : b ≤ k.bits) : R2 P .shr t (.int k a) (.int k' b) (.int k (a / 2 ^ b.toNat)) := r2_int fun w => by rw [binOp_shr, shift_shr k k' a b h0 h1]; rfl
theorem r_eqb {a b : Bool} (ht : ∀ w, (underlying t).run P w = .ok .bool w) : R2 P .eql t (.bool a) (.bool b) (.bool (a == b)) := by
  intro x y w
  rw [eqGuard_at_bool]
  have h : ∀ d : Nat, (Op.equalIn (d + 1) t (.bool a) (.bool b)).run P w = .ok (a == b) w := fun d => by simp [Op.equalIn, ht]
  simp only [binOp]
  simp [Op.equal, Op.maxDepth, h 9999]
theorem r_neb {a b : Bool} (ht : ∀ w, (underlying t).run P w = .ok .bool w) : R2 P .neq t (.bool a) (.bool b) (.bool (!(a == b))) := by
  intro x y w
  rw [eqGuard_at_bool]
  have h : ∀ d : Nat, (Op.equalIn (d + 1) t (.bool a) (.bool b)).run P w = .ok (a == b) w := fun d => by simp [Op.equalIn, ht]
  simp only [binOp]
  simp [Op.equal, Op.maxDepth, h 9999]

/-! natural numbers -/
theorem r_addN {a b : Nat} (h : a + b < 18446744073709551616) : R2 P .add t (U a) (U b) (U (a + b)) := by
  have := r_add (P := P) (t := t) (k := .u64) (a := a) (b := b)
  rwa [wrap_u64_id (by omega) (by omega)] at this
theorem r_subN {a b : Nat} (h : b ≤ a) (ha : a < 18446744073709551616) : R2 P .sub t (U a) (U b) (U (a - b)) := by
  have := r_sub (P := P) (t := t) (k := .u64) (a := a) (b := b)
  rwa [wrap_u64_id (by omega) (by omega), show ((a : Int) - (b : Int)) = ((a - b : Nat) : Int) by omega] at this
theorem r_mulN {a b : Nat} (h : a * b < 18446744073709551616) : R2 P .mul t (U a) (U b) (U (a * b)) := by
  have := r_mul (P := P) (t := t) (k := .u64) (a := a) (b := b)
  rwa [show ((a : Int) * (b : Int)) = ((a * b : Nat) : Int) by simp, wrap_u64_id (by omega) (by omega)] at this
theorem r_remN {a b : Nat} (h : 0 < b) : R2 P .rem t (U a) (U b) (U (a % b)) := by
  have := r_rem (P := P) (t := t) (k := .u64) (a := a) (b := b) (by omega)
  rwa [show ((a : Int).tmod (b : Int)) = ((a % b : Nat) : Int) by rw [Int.tmod_eq_emod_of_nonneg (Int.natCast_nonneg a)]; rfl] at this
theorem r_quoN {a b : Nat} (h : 0 < b) (ha : a < 18446744073709551616) : R2 P .quo t (U a) (U b) (U (a / b)) := by
  have := r_quo (P := P) (t := t) (k := .u64) (a := a) (b := b) (by omega)
  have hle := Nat.div_le_self a b
  rw [show ((a : Int).tdiv (b : Int)) = ((a / b : Nat) : Int) by rw [Int.tdiv_eq_ediv_of_nonneg (Int.natCast_nonneg a)]; rfl] at this
  generalize a / b = c at this hle ⊢
  rwa [wrap_u64_id (by omega) (by omega)] at this
theorem r_lssN {k : IntKind} {a b : Nat} : R2 P .lss t (.int k a) (.int k b) (.bool (decide (a < b))) := by
  have := r_lss (P := P) (t := t) (k := k) (a := a) (b := b)
  rwa [show decide ((a : Int) < (b : Int)) = decide (a < b) by simp] at this
theorem r_leqN {k : IntKind} {a b : Nat} : R2 P .leq t (.int k a) (.int k b) (.bool (decide (a ≤ b))) := by
  have := r_leq (P := P) (t := t) (k := k) (a := a) (b := b)
  rwa [show decide ((a : Int) ≤ (b : Int)) = decide (a ≤ b) by simp] at this
theorem r_gtrN {k : IntKind} {a b : Nat} : R2 P .gtr t (.int k a) (.int k b) (.bool (decide (b < a))) := by
  have := r_gtr (P := P) (t := t) (k := k) (a := a) (b := b)
  rwa [show decide ((b : Int) < (a : Int)) = decide (b < a) by simp] at this
theorem r_geqN {k : IntKind} {a b : Nat} : R2 P .geq t (.int k a) (.int k b) (.bool (decide (b ≤ a))) := by
  have := r_geq (P := P) (t := t) (k := k) (a := a) (b := b)
  rwa [show decide ((b : Int) ≤ (a : Int)) = decide (b ≤ a) by simp] at this
theorem r_eqlN {k : IntKind} {a b : Nat} : R2 P .eql t (.int k a) (.int k b) (.bool (decide (a = b))) := by
  have := r_eql (P := P) (t := t) (k := k) (a := a) (b := b)
  rwa [show decide ((a : Int) = (b : Int)) = decide (a = b) by rw [decide_eq_decide]; omega] at this
theorem r_neqN {k : IntKind} {a b : Nat} : R2 P .neq t (.int k a) (.int k b) (.bool (!decide (a = b))) := by
  have := r_neq (P := P) (t := t) (k := k) (a := a) (b := b)
  rwa [show decide ((a : Int) = (b : Int)) = decide (a = b) by rw [decide_eq_decide]; omega] at this

/-! words -/
theorem r_addB {x y : BitVec 64} : R2 P .add t (W x) (W y) (W (x + y)) := by
  have := r_add (P := P) (t := t) (k := .u64) (a := x.toNat) (b := y.toNat)
  rwa [IntKind.wrap_u64, show (((x.toNat : Int) + (y.toNat : Int)) % 18446744073709551616) = (((x + y).toNat : Nat) : Int) by rw [BitVec.toNat_add]; omega] at this
theorem r_subB {x y : BitVec 64} : R2 P .sub t (W x) (W y) (W (x - y)) := by
  have := r_sub (P := P) (t := t) (k := .u64) (a := x.toNat) (b := y.toNat)
  rwa [IntKind.wrap_u64, show (((x.toNat : Int) - (y.toNat : Int)) % 18446744073709551616) = (((x - y).toNat : Nat) : Int) by rw [BitVec.toNat_sub]; have := x.isLt; have := y.isLt; omega] at this
theorem r_xorB {x y : BitVec 64} : R2 P .xor t (W x) (W y) (W (x ^^^ y)) := r2_int fun w => by
  rw [binOp_xor, intBits_xor, u64_xor_nat _ _ x.isLt y.isLt, ← BitVec.toNat_xor]; rfl
theorem r_orB {x y : BitVec 64} : R2 P .or t (W x) (W y) (W (x ||| y)) := r2_int fun w => by
  rw [binOp_or, intBits_or, u64_or_nat _ _ x.isLt y.isLt, ← BitVec.toNat_or]; rfl
theorem r_andB {x y : BitVec 64} : R2 P .and t (W x) (W y) (W (x &&& y)) := r2_int fun w => by
  rw [binOp_and, intBits_and, u64_and_nat _ _ x.isLt y.isLt, ← BitVec.toNat_and]; rfl
theorem W_ofNat {c : Nat} (hc : c < 18446744073709551616) : W (BitVec.ofNat 64 c) = .int .u64 (c : Int) := by
  show Value.int .u64 _ = _
  rw [BitVec.toNat_ofNat, Nat.mod_eq_of_lt (by simpa using hc)]
theorem r_andC {x : BitVec 64} (c : Nat) (hc : Nat.ble 18446744073709551616 c = false) : R2 P .and t (W x) (.int .u64 (c : Int)) (W (x &&& BitVec.ofNat 64 c)) := by
  have hc : c < 18446744073709551616 := by
    rcases Nat.lt_or_ge c 18446744073709551616 with h | h
    · exact h
    · rw [Nat.ble_eq_true_of_le h] at hc; cases hc
  have := r_andB (P := P) (t := t) (x := x) (y := BitVec.ofNat 64 c)
  rwa [W_ofNat hc] at this
theorem r_shlB {k : IntKind} {x : BitVec 64} {n : Nat} (h : n ≤ 64) : R2 P .shl t (W x) (.int k (n : Int)) (W (x <<< n)) := by
  have := r_shl (P := P) (t := t) (k := .u64) (k' := k) (a := x.toNat) (b := n) (by omega) (by simp [IntKind.bits]; omega)
  rw [Int.toNat_natCast, IntKind.wrap_u64] at this
  rwa [show (((x.toNat : Int) * 2 ^ n) % 18446744073709551616) = (((x <<< n).toNat : Nat) : Int) by
    rw [BitVec.toNat_shiftLeft, Nat.shiftLeft_eq]
    simp] at this
theorem r_shrB {k : IntKind} {x : BitVec 64} {n : Nat} (h : n ≤ 64) : R2 P .shr t (W x) (.int k (n : Int)) (W (x >>> n)) := by
  have := r_shr (P := P) (t := t) (k := .u64) (k' := k) (a := x.toNat) (b := n) (by omega) (by simp [IntKind.bits]; omega)
  rw [Int.toNat_natCast] at this
  rwa [show ((x.toNat : Int) / 2 ^ n) = (((x >>> n).toNat : Nat) : Int) by
    rw [BitVec.toNat_ushiftRight, Nat.shiftRight_eq_div_pow]
    simp] at this

/-! whole numbers in range -/
theorem r_addI {a b : Int} (h0 : -9223372036854775808 ≤ a + b) (h : a + b < 9223372036854775808) : R2 P .add t (I a) (I b) (I (a + b)) := by
  have := r_add (P := P) (t := t) (k := .i64) (a := a) (b := b)
  rwa [wrap_i64_id h0 h] at this
theorem r_subI {a b : Int} (h0 : -9223372036854775808 ≤ a - b) (h : a - b < 9223372036854775808) : R2 P .sub t (I a) (I b) (I (a - b)) := by
  have := r_sub (P := P) (t := t) (k := .i64) (a := a) (b := b)
  rwa [wrap_i64_id h0 h] at this
theorem r_mulI {a b : Int} (h0 : -9223372036854775808 ≤ a * b) (h : a * b < 9223372036854775808) : R2 P .mul t (I a) (I b) (I (a * b)) := by
  have := r_mul (P := P) (t := t) (k := .i64) (a := a) (b := b)
  rwa [wrap_i64_id h0 h] at this
/-- a counter -/
theorem r_inc {n : Nat} (h : n < 9223372036854775807) : R2 P .add t (I (n : Int)) (I 1) (I ((n + 1 : Nat) : Int)) := by
  have := r_addI (P := P) (t := t) (a := n) (b := 1) (by omega) (by omega)
  rwa [show ((n : Int) + 1) = ((n + 1 : Nat) : Int) by omega] at this
end
section
variable {P : Program} {wr : World} {E : Env} {o : Oper}
/-- a conversion, by what the wrap comes to -/
theorem n_convT {src dst : TypeId} {x : Operand} {k k' : IntKind} {n m : Int} {d : TypeDesc} (ho : o.op = .convert src dst x) (hx : Ev E x (.int k' n)) (hs : P.underlying src = some d) (hd : P.underlying dst = some (.int k)) (hm : k.wrap n = m) :
    nstep P wr E o (.is (.int k m)) := by
  subst hm
  exact n_conv ho hx (by rw [hs]; rfl) hd
end
end Go.Proofs.Ythgpojlcbbgaoaa
