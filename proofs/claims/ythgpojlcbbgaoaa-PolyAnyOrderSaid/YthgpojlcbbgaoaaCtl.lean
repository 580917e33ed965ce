/- Loops, exits, fields, lengths: what else a printed walk names. Plain theorems. -/
import Derived.Test.YthgpojlcbbgaoaaPhase
import Derived.Deep.LoopGhost
set_option autoImplicit false
namespace Go.Proofs.Ythgpojlcbbgaoaa
open Go.RowKit

theorem wp_loop_ix {P : Program} {Q : Exit → Act → World → Prop} {a : Act} {w : World} {c : Code} {α : Type} (Inv : α → Act → World → Prop) (m : α → Nat) (x0 : α) (h0 : Inv x0 a w)
    (round : ∀ x a w, Inv x a w → c.wp P (Exit.then (fun a' w' => ∃ x', Inv x' a' w' ∧ m x' < m x) Q) a w) : (Code.loop c).wp P Q a w := by
  refine wp_loop_ghost (fun n a w => ∃ x, m x = n ∧ Inv x a w) (m x0) ⟨x0, rfl, h0⟩ ?_
  rintro n a w ⟨x, rfl, hx⟩
  refine Code.wp_mono ?_ (round x a w hx)
  intro e a' w' hq
  cases e with
  | normal => obtain ⟨x', h1, h2⟩ := hq; exact ⟨m x', h2, x', rfl, h1⟩
  | _ => exact hq

theorem go_exit {id : Nat} {Q : Exit → Act → World → Prop} {a : Act} {w : World} (h : Q .normal a w) : Exit.inBlock id Q (.exit id) a w := by
  simp only [Exit.inBlock, if_true]
  exact h
theorem go_exit_ne {id id' : Nat} {Q : Exit → Act → World → Prop} {a : Act} {w : World} (hne : id' ≠ id) (h : Q (.exit id') a w) : Exit.inBlock id Q (.exit id') a w := by
  simp only [Exit.inBlock, if_neg hne]
  exact h
theorem go_then_e {id : Nat} {K : Act → World → Prop} {Q : Exit → Act → World → Prop} {a : Act} {w : World} (h : Q (.exit id) a w) : Exit.then K Q (.exit id) a w := h
theorem go_then_r {K : Act → World → Prop} {Q : Exit → Act → World → Prop} {a : Act} {w : World} (h : Q .ret a w) : Exit.then K Q .ret a w := h
theorem go_block_r {id : Nat} {Q : Exit → Act → World → Prop} {a : Act} {w : World} (h : Q .ret a w) : Exit.inBlock id Q .ret a w := h
theorem of_bool_t {p : Prop} [Decidable p] (h : decide p = true) : p := of_decide_eq_true h
theorem of_bool_f {p : Prop} [Decidable p] (h : decide p = false) : ¬ p := of_decide_eq_false h

theorem one1 {v : Value} (h : v.oneCell' = true := by rfl) : ∀ u ∈ [v], u.oneCell' = true := by
  intro u hu
  rw [List.mem_singleton] at hu
  rw [hu]
  exact h

theorem wrap_u64_nat {n : Nat} (h : n < 18446744073709551616) : IntKind.u64.wrap (n : Int) = (n : Int) := wrap_u64_id (by omega) (by omega)
theorem wrap_i64_nat {n : Nat} (h : n < 9223372036854775808) : IntKind.i64.wrap (n : Int) = (n : Int) := wrap_i64_id (by omega) (by omega)

section
variable {P : Program} {wr : World} {E : Env} {o : Oper}
theorem n_fieldAddrO {s : TypeId} {x : Operand} {f : Nat} {b off off' : Nat} {fs : Array Field} {fd : Field} {n : Nat} (ho : o.op = .fieldAddr s x f) (hx : Ev E x (.pointer (some ⟨b, off, none⟩)))
    (hs : ∀ w, (underlying s).run P w = .ok (.struct fs) w) (hf : fs[f]? = some fd) (hz : ∀ w, (sizeOf fd.type).run P w = .ok (n + 1) w) (ho' : off + fd.offset = off') : nstep P wr E o (.is (.pointer (some ⟨b, off', none⟩))) := by
  subst ho'
  exact n_fieldAddr ho hx hs hf hz
theorem n_fieldAddrP {s : TypeId} {x : Operand} {f k : Nat} {ad : Addr} {fs : Array Field} {fd : Field} {n : Nat} (ho : o.op = .fieldAddr s x f) (hx : Ev E x (.pointer (some ad)))
    (hs : ∀ w, (underlying s).run P w = .ok (.struct fs) w) (hf : fs[f]? = some fd) (hz : ∀ w, (sizeOf fd.type).run P w = .ok (n + 1) w) (hk : fd.offset = k) : nstep P wr E o (.is (.pointer (some (ad.add k)))) :=
  n_run fun a w hw hop => ⟨_, w, by
    have h1 := hx.eval (by simp [ho, Op.operands]) hop
    unfold execOp; rw [ho]; simp [Instr.fieldAt, Instr.sureAddr, h1, hs, hf, fieldPlace, hz, hk], Ext.refl w, rfl⟩
theorem part1 {t : TypeId} {cs : List Value} {off : Nat} {v : Value} (ha : ∀ w, (isAgg t).run P w = .ok false w) (hc : cs[off]? = some v) : ∀ w, (part t cs.toArray off).run P w = .ok v w := fun w => by
  simp [part, ha, hc]
theorem partN {t : TypeId} {cs vs : List Value} {off n : Nat} (ha : ∀ w, (isAgg t).run P w = .ok true w) (hz : ∀ w, (sizeOf t).run P w = .ok n w) (hc : (cs.drop off).take n = vs) : ∀ w, (part t cs.toArray off).run P w = .ok (.agg vs.toArray) w := fun w => by
  subst hc
  simp [part, ha, hz]
theorem n_len {x : Operand} {t e : TypeId} {A : Option Addr} {n c : Nat} (ho : o.op = .call { callee := .builtin .len, args := #[x], argTypes := #[t] }) (hx : Ev E x (.slice A n c)) (ht : P.underlying t = some (.slice e)) :
    nstep P wr E o (.is (I (n : Int))) :=
  n_run fun a w hw hop => ⟨_, w, by
    have h1 := hx.eval (by simp [ho, Op.operands, Call.operands]) hop
    unfold execOp; rw [ho]; simp [resolve, invoke, builtin, Builtin.len_, h1, run_underlying ht, goInt], Ext.refl w, rfl⟩
end

theorem own2 {w0 w w' : World} {M : List Ent} (h : Own w0 w M) (hx : Ext w w') {t t' : TypeId} {cs cs' : List Value} {v v' : Value} (hf : (Fact.blk t cs).ok w.heap.size v w') (hf' : (Fact.blk t' cs').ok w.heap.size v' w') (hne : t ≠ t') :
    ∃ b b', v = .pointer (some ⟨b, 0, none⟩) ∧ v' = .pointer (some ⟨b', 0, none⟩) ∧ Own w0 w' (M ++ [.blk b t cs, .blk b' t' cs']) := by
  obtain ⟨b, h1, h2, h3⟩ := hf
  obtain ⟨b', h1', h2', h3'⟩ := hf'
  exact ⟨b, b', h1, h1', h.add2 hx (m := .blk b t cs) (m' := .blk b' t' cs') ⟨h2, h3⟩ ⟨h2', h3'⟩ rfl rfl hne⟩

theorem cut_whole {cs : List Value} {n : Nat} (h : cs.length = n) : (cs.drop 0).take n = cs := by
  rw [List.drop_zero, List.take_of_length_le (by omega)]
theorem seg_whole {cs vs : List Value} (h : cs.length = vs.length) : seg cs 0 vs = vs := by
  simp [seg, List.drop_of_length_le (show cs.length ≤ vs.length by omega)]

section
variable {P : Program} {wr : World} {E : Env} {o : Oper}
/-- The address of an element of an array that is a variable. -/
theorem n_indexA {t e : TypeId} {x y : Operand} {b off off' n j sz : Nat} {k : IntKind} (ho : o.op = .indexAddr t x y) (hx : Ev E x (.pointer (some ⟨b, off, none⟩))) (hy : Ev E y (.int k (j : Int)))
    (ht : ∀ w, (underlying t).run P w = .ok (.array n e) w) (hz : ∀ w, (sizeOf e).run P w = .ok sz w) (hj : j < n) (ho' : off + j * sz = off') : nstep P wr E o (.is (.pointer (some ⟨b, off', none⟩))) :=
  n_run fun a w hw hop => ⟨_, w, by
    have h1 := hx.eval (by simp [ho, Op.operands]) hop
    have h2 := hy.eval (by simp [ho, Op.operands]) hop
    subst ho'
    unfold execOp; rw [ho]; simp [Instr.indexAt, h1, h2, asIntOf, ht, Instr.sureAddr, hj, hz, add_loc], Ext.refl w, rfl⟩
/-- An element of an array by value. -/
theorem n_indexV {t e : TypeId} {x y : Operand} {cs : List Value} {n j sz : Nat} {k : IntKind} {v : Value} (ho : o.op = .index t x y) (hx : Ev E x (.agg cs.toArray)) (hy : Ev E y (.int k (j : Int)))
    (ht : ∀ w, (underlying t).run P w = .ok (.array n e) w) (hz : ∀ w, (sizeOf e).run P w = .ok sz w) (hj : j < n) (hp : ∀ w, (part e cs.toArray (j * sz)).run P w = .ok v w) : nstep P wr E o (.is v) :=
  n_run fun a w hw hop => ⟨_, w, by
    have h1 := hx.eval (by simp [ho, Op.operands]) hop
    have h2 := hy.eval (by simp [ho, Op.operands]) hop
    unfold execOp; rw [ho]; simp [Instr.index, h1, h2, asIntOf, ht, hj, hz, hp], Ext.refl w, rfl⟩
end

/-- A store as a phase. -/
theorem ts_store {P : Program} {W : Nat → World → Prop} {m : Nat} {E : Env} {o : Oper} {ty : TypeId} {tx tv : Nat} {w0 : World} {M : List Ent} {n i b off : Nat} {t : TypeId} {cs vs cs' : List Value} {v : Value}
    (ho : o.op = .store ty (.tmp tx) (.tmp tv)) (hW : ∀ w, W m w → Own w0 w M) (hi : M[i]? = some (.blk b t cs)) (hx : look E tx = some (.is (.pointer (some ⟨b, off, none⟩)))) (hy : look E tv = some (.is v))
    (hv : v.cells = vs.toArray) (h1 : ∀ u ∈ vs, u.oneCell' = true) (hz : ∀ w, (sizeOf ty).run P w = .ok n w) (hn : vs.length = n) (hlen : off + n ≤ cs.length) (hcs : seg cs off vs = cs')
    (h : ∀ w', Own w0 w' (M.set i (.blk b t cs')) → W (m + 1) w') : tstep P W m E o := by
  intro a w hw hop
  have hO := hW w hw
  have hb := (hO.ok _ (List.mem_of_getElem? hi)).2
  obtain ⟨w', hr, hh, e1, e2, e3, e4, e5⟩ := run_storeCells (P := P) vs w off 0 cs.toArray hb h1 (by simp; omega)
  have hx' : a.eval (.tmp tx) = .pointer (some ⟨b, off, none⟩) := hop tx (by simp [ho, Op.operands]) _ hx
  have hy' : a.eval (.tmp tv) = v := hop tv (by simp [ho, Op.operands]) _ hy
  refine ⟨w', ?_, ?_⟩
  · unfold execOp
    rw [ho]
    simp only [Instr.storeAt, Instr.sureAddr, hx', hy', storeVar, hv]
    simp [hz, hn, hr]
  · subst hcs
    exact h w' (hO.stored hi (by simpa using hh) e1 e2 e3 e4 e5)
end Go.Proofs.Ythgpojlcbbgaoaa
