/- Keys of 16 bytes as two words: the plain mathematics. No program in sight but for the values. -/
import Derived.Test.YthgpojlcbbgaoaaCtl
set_option autoImplicit false
namespace Go.Proofs.Ythgpojlcbbgaoaa
open Go.RowKit

structure Key where
  x : BitVec 64
  y : BitVec 64
deriving DecidableEq

def byteN (x : BitVec 64) (i : Nat) : Nat := (x >>> (56 - 8 * i)).toNat % 256
def kb (k : Key) : List Nat := (List.range 8).map (byteN k.x) ++ (List.range 8).map (byteN k.y)
def kc (k : Key) : List Value := (kb k).map B8
abbrev K (k : Key) : Value := .agg (kc k).toArray
theorem kb_len (k : Key) : (kb k).length = 16 := by simp [kb]
theorem kc_len (k : Key) : (kc k).length = 16 := by simp [kc, kb]
theorem kc_x (k : Key) (i : Nat) (h : i < 8) : (kc k)[i]? = some (B8 (byteN k.x i)) := by
  simp [kc, kb, List.getElem?_append, h]
theorem kc_y (k : Key) (i : Nat) (h : i < 8) : (kc k)[8 + i]? = some (B8 (byteN k.y i)) := by
  have h1 : ¬ 8 + i < 8 := by omega
  simp [kc, kb, List.getElem?_append, h]
theorem kc_one (k : Key) : ∀ u ∈ kc k, u.oneCell' = true := by
  intro u hu
  obtain ⟨n, _, rfl⟩ := List.mem_map.1 hu
  rfl

/-- The first i bytes. -/
def pre (x : BitVec 64) (i : Nat) : BitVec 64 := x >>> (64 - 8 * i)
theorem pre_zero (x : BitVec 64) : pre x 0 = 0#64 := by
  apply BitVec.eq_of_toNat_eq
  simp only [pre, BitVec.toNat_ushiftRight, Nat.shiftRight_eq_div_pow]
  have := x.isLt
  simp
  omega
theorem pre_full (x : BitVec 64) : pre x 8 = x := by simp [pre]
theorem low_byte (y : BitVec 64) : ((y >>> 8) <<< 8) ||| BitVec.ofNat 64 (y.toNat % 256) = y := by
  apply BitVec.eq_of_toNat_eq
  rw [BitVec.toNat_or, BitVec.toNat_shiftLeft, BitVec.toNat_ushiftRight, BitVec.toNat_ofNat, Nat.shiftRight_eq_div_pow]
  have hy := y.isLt
  have h1 : ((y.toNat / 2 ^ 8) <<< 8) % 2 ^ 64 = (y.toNat / 2 ^ 8) <<< 8 := Nat.mod_eq_of_lt (by rw [Nat.shiftLeft_eq]; omega)
  have h2 : y.toNat % 256 % 2 ^ 64 = y.toNat % 256 := Nat.mod_eq_of_lt (by omega)
  rw [h1, h2, ← Nat.shiftLeft_add_eq_or_of_lt (by omega : y.toNat % 256 < 2 ^ 8), Nat.shiftLeft_eq]
  omega
theorem pre_step (x : BitVec 64) (i : Nat) (h : i < 8) : (pre x i <<< 8) ||| BitVec.ofNat 64 (byteN x i) = pre x (i + 1) := by
  have e1 : pre x i = (x >>> (56 - 8 * i)) >>> 8 := by
    unfold pre
    rw [← BitVec.shiftRight_add]
    congr 1
    omega
  have e2 : pre x (i + 1) = x >>> (56 - 8 * i) := by
    unfold pre
    congr 1
    omega
  rw [e1, e2]
  exact low_byte _
theorem byteN_lt (x : BitVec 64) (i : Nat) : byteN x i < 256 := Nat.mod_lt _ (by decide)
theorem conv_byte {b : Nat} (h : b < 256) : IntKind.u64.wrap (b : Int) = ((BitVec.ofNat 64 b).toNat : Int) := by
  rw [wrap_u64_nat (by omega), BitVec.toNat_ofNat, Nat.mod_eq_of_lt (by omega)]

/-- The words of some bytes. -/
def wordOf (l : List Nat) : BitVec 64 := l.foldl (fun a b => (a <<< 8) ||| BitVec.ofNat 64 b) 0#64
def keyOf (l : List Nat) : Key := ⟨wordOf (l.take 8), wordOf (l.drop 8)⟩
end Go.Proofs.Ythgpojlcbbgaoaa
