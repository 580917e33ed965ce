/- Equality of keys, points and labels. Plain theorems. -/
import Derived.Test.YthgpojlcbbgaoaaNumb
import Derived.Laws.StructEq
set_option autoImplicit false
set_option maxRecDepth 100000
set_option linter.unusedVariables false
namespace Go.Proofs.Ythgpojlcbbgaoaa
open Go.RowKit

def eqIdx (d : Nat) (e : TypeId) (n : Nat) (xs ys : Array Value) : List Nat → Sem Bool
  | [] => pure true
  | i :: is => do
    let a ← part e xs (i * n)
    let b ← part e ys (i * n)
    let r ← Op.equalIn d e a b
    if (!r) = true then pure false else eqIdx d e n xs ys is
theorem run_equalIn_array {P : Program} (w : World) (d : Nat) {t e : TypeId} {len n : Nat} (xs ys : Array Value) (ht : ∀ w, (underlying t).run P w = .ok (.array len e) w) (hz : ∀ w, (sizeOf e).run P w = .ok n w) :
    (Op.equalIn (d + 1) t (.agg xs) (.agg ys)).run P w = (eqIdx d e n xs ys (List.range' 0 len)).run P w := by
  simp only [Op.equalIn, Sem.run_bind, ht, hz, Result.andThen_ok]
  rw [Std.Legacy.Range.forIn_eq_forIn_range']
  have : Std.Legacy.Range.size [0:len] = len := by simp [Std.Legacy.Range.size]
  rw [this]
  show Result.andThen (Sem.run P (forIn (List.range' 0 len 1) _ _) w) _ = _
  generalize List.range' 0 len = is
  induction is generalizing w with
  | nil => simp [eqIdx]
  | cons i is ih =>
    simp only [List.forIn_cons, eqIdx, Sem.run_bind, Sem.run_ite]
    generalize (part e xs (i * n)).run P w = r1
    cases r1 with
    | ok a w1 =>
      simp only [Result.andThen_ok]
      generalize (part e ys (i * n)).run P w1 = r2
      cases r2 with
      | ok b w2 =>
        simp only [Result.andThen_ok]
        generalize (Op.equalIn d e a b).run P w2 = r3
        cases r3 with
        | ok r w3 =>
          cases r
          · simp only [Result.andThen_ok, Bool.not_false, if_true, Sem.run_pure]
          · simp only [Result.andThen_ok, Bool.not_true, Bool.false_eq_true, if_false, Sem.run_pure]
            exact ih w3
        | halt x w3 => simp [Result.andThen]
      | halt x w2 => simp [Result.andThen]
    | halt x w1 => simp [Result.andThen]
theorem run_eqIdx_b8 (w : World) (d : Nat) (l l' : List Nat) : ∀ (m i : Nat), i + m = l.length → l'.length = l.length → (eqIdx (d + 1) 5 1 (l.map B8).toArray (l'.map B8).toArray (List.range' i m)).run Try.prog w = .ok (decide (l.drop i = l'.drop i)) w
  | 0, i, h, h' => by
    have e1 : l.drop i = [] := List.drop_eq_nil_of_le (by omega)
    have e2 : l'.drop i = [] := List.drop_eq_nil_of_le (by omega)
    simp [eqIdx, e1, e2]
  | m + 1, i, h, h' => by
    have hi : i < l.length := by omega
    have hi' : i < l'.length := by omega
    have p1 : ∀ w, (part 5 (l.map B8).toArray (i * 1)).run Try.prog w = .ok (B8 l[i]) w := part1 Try.isAgg5 (by simp [hi])
    have p2 : ∀ w, (part 5 (l'.map B8).toArray (i * 1)).run Try.prog w = .ok (B8 l'[i]) w := part1 Try.isAgg5 (by simp [hi'])
    have p3 : (Op.equalIn (d + 1) 5 (B8 l[i]) (B8 l'[i])).run Try.prog w = .ok (decide (l[i] = l'[i])) w := by
      rw [run_equalIn_int w d 5 .u8 .u8 _ _ Try.underlying5]
      congr 1
      rw [Bool.eq_iff_iff]
      simp only [beq_iff_eq, decide_eq_true_eq]
      omega
    rw [List.range'_succ]
    simp only [eqIdx, Sem.run_bind, p1, p2, p3, Result.andThen_ok]
    have e1 := List.drop_eq_getElem_cons hi
    have e2 := List.drop_eq_getElem_cons hi'
    have e3 : decide (l.drop i = l'.drop i) = (decide (l[i] = l'[i]) && decide (l.drop (i + 1) = l'.drop (i + 1))) := by
      rw [e1, e2, Bool.eq_iff_iff]
      simp only [List.cons.injEq, decide_eq_true_eq, Bool.and_eq_true]
    rw [e3]
    have ih := run_eqIdx_b8 w d l l' m (i + 1) (by omega) h'
    by_cases he : l[i] = l'[i]
    · simp [he, ih]
    · simp [he]
theorem kb_inj {k k' : Key} (h : kb k = kb k') : k = k' := by
  have h1 : bl k.x = bl k'.x := by
    have := congrArg (List.take 8) h
    simpa [kb, bl] using this
  have h2 : bl k.y = bl k'.y := by
    have := congrArg (List.drop 8) h
    simpa [kb, bl] using this
  have e1 := congrArg valW h1
  have e2 := congrArg valW h2
  rw [valW_bl, valW_bl] at e1 e2
  cases k
  cases k'
  simp_all
theorem eqKey (w : World) (d : Nat) (k k' : Key) : (Op.equalIn (d + 2) 23 (K k) (K k')).run Try.prog w = .ok (decide (k = k')) w := by
  rw [run_equalIn_array w (d + 1) _ _ Try.runUnderlying23 Try.sizeOf5]
  have := run_eqIdx_b8 w d (kb k) (kb k') 16 0 (by rw [kb_len]) (by rw [kb_len, kb_len])
  rw [show (kc k).toArray = ((kb k).map B8).toArray from rfl, show (kc k').toArray = ((kb k').map B8).toArray from rfl, this]
  congr 1
  rw [Bool.eq_iff_iff]
  simp only [List.drop_zero, decide_eq_true_eq]
  exact ⟨kb_inj, fun h => by rw [h]⟩
theorem guard23 : Try.prog.eqGuardType Try.prog.depth 23 = false := by kernel_rfl
theorem guard31 : Try.prog.eqGuardType Try.prog.depth 31 = false := by kernel_rfl
theorem guard95 : Try.prog.eqGuardType Try.prog.depth 95 = false := by kernel_rfl
theorem r_agg {t : TypeId} {xs ys : Array Value} {b : Bool} (hm : Try.prog.eqGuardType Try.prog.depth t = false) (h : ∀ w, (Op.equalIn 10000 t (.agg xs) (.agg ys)).run Try.prog w = .ok b w) :
    R2 Try.prog .eql t (.agg xs) (.agg ys) (.bool b) ∧ R2 Try.prog .neq t (.agg xs) (.agg ys) (.bool (!b)) := by
  constructor
  · intro x y w
    simp only [Sem.run_bind, run_eqGuard_agg w .eql t x y xs ys hm, Result.andThen_ok, run_eql_struct, h]
  · intro x y w
    simp only [Sem.run_bind, run_eqGuard_agg w .neq t x y xs ys hm, Result.andThen_ok, run_neq_struct, h]
theorem r_eqKey {k k' : Key} : R2 Try.prog .eql 23 (K k) (K k') (.bool (decide (k = k'))) := (r_agg guard23 fun w => eqKey w 9998 k k').1
theorem r_neKey {k k' : Key} : R2 Try.prog .neq 23 (K k) (K k') (.bool (!decide (k = k'))) := (r_agg guard23 fun w => eqKey w 9998 k k').2
theorem fields31 : Try.prog.underlying 31 = some (.struct (Try.prog.fieldsOf 31)) := by unfold Program.fieldsOf; rw [Try.underlying31]
theorem fields95 : Try.prog.underlying 95 = some (.struct (Try.prog.fieldsOf 95)) := by unfold Program.fieldsOf; rw [Try.underlying95]
theorem held31 : Try.prog.stoodInHeld 31 = false := by kernel_rfl
theorem held95 : Try.prog.stoodInHeld 95 = false := by kernel_rfl
/-- A point, and a label. -/
abbrev PtV (p : Nat × Nat) : Value := .agg [U p.1, U p.2].toArray
def lc (l : Int × Int × Key) : List Value := [I l.1, I l.2.1] ++ kc l.2.2
abbrev LabV (l : Int × Int × Key) : Value := .agg (lc l).toArray
theorem lc_len (l : Int × Int × Key) : (lc l).length = 18 := by simp [lc, kc_len]
theorem fieldsOf31 : Try.prog.fieldsOf 31 = #[⟨"X", 24, 0, false, "", "", 0⟩, ⟨"Y", 24, 1, false, "", "", 8⟩] := by unfold Program.fieldsOf; rw [Try.underlying31]
theorem eqPt (w : World) (d : Nat) (p q : Nat × Nat) : (Op.equalIn (d + 2) 31 (PtV p) (PtV q)).run Try.prog w = .ok (decide (p = q)) w := by
  rw [run_equalIn_struct w (d + 1) 31 _ _ fields31 held31, fieldsOf31]
  have p1 : ∀ (a b : Nat) w, (part 24 [U a, U b].toArray 0).run Try.prog w = .ok (U a) w := fun a b => part1 Try.isAgg24 rfl
  have p2 : ∀ (a b : Nat) w, (part 24 [U a, U b].toArray 1).run Try.prog w = .ok (U b) w := fun a b => part1 Try.isAgg24 rfl
  have e : ∀ (a b : Nat) w, (Op.equalIn (d + 1) 24 (U a) (U b)).run Try.prog w = .ok (decide (a = b)) w := fun a b w => by
    rw [run_equalIn_int w d 24 .u64 .u64 _ _ Try.underlying24]
    congr 1
    rw [Bool.eq_iff_iff]
    simp only [beq_iff_eq, decide_eq_true_eq]
    omega
  rw [show (#[⟨"X", 24, 0, false, "", "", 0⟩, ⟨"Y", 24, 1, false, "", "", 8⟩] : Array Field).toList = [⟨"X", 24, 0, false, "", "", 0⟩, ⟨"Y", 24, 1, false, "", "", 8⟩] from rfl]
  by_cases h1 : p.1 = q.1 <;> by_cases h2 : p.2 = q.2 <;> simp [Op.eqFields, p1, p2, e, h1, h2, Prod.ext_iff]
theorem r_eqPt {p q : Nat × Nat} : R2 Try.prog .eql 31 (PtV p) (PtV q) (.bool (decide (p = q))) := (r_agg guard31 fun w => eqPt w 9998 p q).1
theorem r_nePt {p q : Nat × Nat} : R2 Try.prog .neq 31 (PtV p) (PtV q) (.bool (!decide (p = q))) := (r_agg guard31 fun w => eqPt w 9998 p q).2
theorem fieldsOf95 : Try.prog.fieldsOf 95 = #[⟨"Node", 3, 0, false, "", "", 0⟩, ⟨"Minus", 3, 1, false, "", "", 8⟩, ⟨"Key", 23, 2, false, "", "", 16⟩] := by unfold Program.fieldsOf; rw [Try.underlying95]
theorem eqLab (w : World) (d : Nat) (p q : Int × Int × Key) : (Op.equalIn (d + 3) 95 (LabV p) (LabV q)).run Try.prog w = .ok (decide (p = q)) w := by
  rw [run_equalIn_struct w (d + 2) 95 _ _ fields95 held95, fieldsOf95]
  have p1 : ∀ p w, (part 3 (lc p).toArray 0).run Try.prog w = .ok (I p.1) w := fun p => part1 Try.isAgg3 rfl
  have p2 : ∀ p w, (part 3 (lc p).toArray 1).run Try.prog w = .ok (I p.2.1) w := fun p => part1 Try.isAgg3 rfl
  have p3 : ∀ p w, (part 23 (lc p).toArray 2).run Try.prog w = .ok (K p.2.2) w := fun p => partN Try.isAgg23 Try.sizeOf23 (by simp only [lc, List.cons_append, List.nil_append, List.drop_succ_cons, List.drop_zero]; exact take_len (kc_len _))
  have e : ∀ (a b : Int) w, (Op.equalIn (d + 2) 3 (I a) (I b)).run Try.prog w = .ok (decide (a = b)) w := fun a b w => by
    rw [run_equalIn_int w (d + 1) 3 .i64 .i64 _ _ Try.underlying3]
    congr 1
  rw [show (#[⟨"Node", 3, 0, false, "", "", 0⟩, ⟨"Minus", 3, 1, false, "", "", 8⟩, ⟨"Key", 23, 2, false, "", "", 16⟩] : Array Field).toList = [⟨"Node", 3, 0, false, "", "", 0⟩, ⟨"Minus", 3, 1, false, "", "", 8⟩, ⟨"Key", 23, 2, false, "", "", 16⟩] from rfl]
  by_cases h1 : p.1 = q.1 <;> by_cases h2 : p.2.1 = q.2.1 <;> by_cases h3 : p.2.2 = q.2.2 <;> simp [Op.eqFields, p1, p2, p3, e, eqKey, h1, h2, h3, Prod.ext_iff]
theorem r_neLab {p q : Int × Int × Key} : R2 Try.prog .neq 95 (LabV p) (LabV q) (.bool (!decide (p = q))) := (r_agg guard95 fun w => eqLab w 9997 p q).2
end Go.Proofs.Ythgpojlcbbgaoaa
