/- One lemma for each kind of operation, over the calculus of 'Net'. Plain theorems. -/
import Derived.Test.YthgpojlcbbgaoaaNet
import Derived.Laws.Slices
import Derived.Laws.MakeOwn
import Derived.Laws.OwnMore
import Derived.Laws.BitsAllLaws
import Derived.Laws.BitsLemmas
import Derived.Maps.AppendAt
set_option autoImplicit false
namespace Go.Proofs.Ythgpojlcbbgaoaa
open Go.RowKit

/-! ### operands -/
def Ev (E : Env) : Operand → Value → Prop
  | .tmp t, v => look E t = some (.is v) ∨ ∃ c b, look E t = some (.iff c b v) ∧ c = b
  | .const u, v => u = v
  | .global g, v => .pointer (some ⟨g, 0, none⟩) = v
  | .func f, v => .func (.func f) #[] #[] = v
theorem ev {E : Env} {t : Nat} {v : Value} (h : look E t = some (.is v)) : Ev E (.tmp t) v := .inl h
theorem evi {E : Env} {t : Nat} {v : Value} {c b : Bool} (h : look E t = some (.iff c b v)) (hc : c = b) : Ev E (.tmp t) v := .inr ⟨c, b, h, hc⟩
theorem eval_const (a : Act) (v : Value) : a.eval (.const v) = v := rfl
inductive Evs (E : Env) : List Operand → List Value → Prop
  | nil : Evs E [] []
  | cons {x : Operand} {v : Value} {xs : List Operand} {vs : List Value} (h : Ev E x v) (r : Evs E xs vs) : Evs E (x :: xs) (v :: vs)
inductive EvP (E : Env) : List (Nat × Operand) → List (Nat × Value) → Prop
  | nil : EvP E [] []
  | cons {i : Nat} {x : Operand} {v : Value} {xs : List (Nat × Operand)} {vs : List (Nat × Value)} (h : Ev E x v) (r : EvP E xs vs) : EvP E ((i, x) :: xs) ((i, v) :: vs)
theorem evc {E : Env} {v : Value} : Ev E (.const v) v := rfl

section
variable {P : Program} {wr : World} {E : Env} {o : Oper} {a : Act} {w : World}
theorem Ev.eval {x : Operand} {v : Value} (h : Ev E x v) (hx : x ∈ o.op.operands)
    (hop : ∀ t, Operand.tmp t ∈ o.op.operands → ∀ g, look E t = some g → g.ok wr.heap.size (a.tmps.getD t undef) w) : a.eval x = v := by
  cases x with
  | tmp t =>
    rcases h with h | ⟨c, b, h, hc⟩
    · exact hop t hx _ h
    · have := hop t hx _ h
      simp only [Fact.ok, hc, Bool.xor_self, cond_false] at this
      exact this
  | const u => exact h
  | global g => exact h
  | func f => exact h

/-- What the operation yields, the operands being read. -/
theorem n_run {f : Fact} (h : ∀ (a : Act) (w : World), Ext wr w → (∀ t, Operand.tmp t ∈ o.op.operands → ∀ g, look E t = some g → g.ok wr.heap.size (a.tmps.getD t undef) w) →
    ∃ v w', (execOp a.eval o).run P w = .ok (.value v) w' ∧ Ext w w' ∧ f.ok wr.heap.size v w') : nstep P wr E o f := by
  intro a w hx hop
  obtain ⟨v, w', hr, h1, h2⟩ := h a w hx hop
  rw [hr]
  exact ⟨h1, h2⟩

theorem n_move {x : Operand} {v : Value} (ho : o.op = .move x) (hx : Ev E x v) : nstep P wr E o (.is v) :=
  n_run fun a w _ hop => ⟨_, w, by unfold execOp; rw [ho]; rfl, Ext.refl w, by simpa [Fact.ok] using hx.eval (by simp [ho, Op.operands]) hop⟩
theorem n_assign {x : Operand} {v : Value} (ho : o.op = .assign x) (hx : Ev E x v) : nstep P wr E o (.is v) :=
  n_run fun a w _ hop => ⟨_, w, by unfold execOp; rw [ho]; rfl, Ext.refl w, by simpa [Fact.ok] using hx.eval (by simp [ho, Op.operands]) hop⟩
/-- .. of a block or a row that the region itself has made. -/
theorem n_moveF {t : Nat} {f : Fact} (ho : o.op = .move (.tmp t)) (hx : look E t = some f) : nstep P wr E o f :=
  n_run fun a w _ hop => ⟨_, w, by unfold execOp; rw [ho]; rfl, Ext.refl w, hop t (by simp [ho, Op.operands]) _ hx⟩
theorem n_assignF {t : Nat} {f : Fact} (ho : o.op = .assign (.tmp t)) (hx : look E t = some f) : nstep P wr E o f :=
  n_run fun a w _ hop => ⟨_, w, by unfold execOp; rw [ho]; rfl, Ext.refl w, hop t (by simp [ho, Op.operands]) _ hx⟩

theorem n_pick_or {c y : Operand} {b q : Bool} (ho : o.op = .pick c (.const (.bool true)) y) (hc : Ev E c (.bool b)) (hy : b = false → Ev E y (.bool q)) : nstep P wr E o (.is (.bool (b || q))) :=
  n_run fun a w _ hop => by
    have h1 := hc.eval (by simp [ho, Op.operands]) hop
    cases b with
    | true => exact ⟨.bool true, w, by unfold execOp; rw [ho]; simp only [h1, eval_const]; rfl, Ext.refl w, rfl⟩
    | false =>
      have h2 := (hy rfl).eval (by simp [ho, Op.operands]) hop
      exact ⟨.bool q, w, by unfold execOp; rw [ho]; simp only [h1, h2]; rfl, Ext.refl w, rfl⟩
theorem n_pick_and {c x : Operand} {b p : Bool} (ho : o.op = .pick c x (.const (.bool false))) (hc : Ev E c (.bool b)) (hx : b = true → Ev E x (.bool p)) : nstep P wr E o (.is (.bool (b && p))) :=
  n_run fun a w _ hop => by
    have h1 := hc.eval (by simp [ho, Op.operands]) hop
    cases b with
    | false => exact ⟨.bool false, w, by unfold execOp; rw [ho]; simp only [h1, eval_const]; rfl, Ext.refl w, rfl⟩
    | true =>
      have h2 := (hx rfl).eval (by simp [ho, Op.operands]) hop
      exact ⟨.bool p, w, by unfold execOp; rw [ho]; simp only [h1, h2]; rfl, Ext.refl w, rfl⟩

theorem n_alloc {ty : TypeId} {z : Value} {cs : List Value} (ho : o.op = .alloc ty) (hz : ∀ w, (zeroValue ty).run P w = .ok z w) (hc : z.cells = cs.toArray) : nstep P wr E o (.blk ty cs) :=
  n_run fun a w hx _ => ⟨.pointer (some ⟨w.heap.size, 0, none⟩), w.alloc (.cells cs.toArray ty), by
    unfold execOp; rw [ho]; simp [Instr.alloc, hz, newVar, newRow, hc], (Ext.refl w).alloc _, ⟨_, rfl, hx.size, heap_alloc_new w _⟩⟩
theorem n_box {ty : TypeId} {x : Operand} {v : Value} {cs : List Value} (ho : o.op = .box ty x) (hx : Ev E x v) (hc : v.cells = cs.toArray) : nstep P wr E o (.blk ty cs) :=
  n_run fun a w hw hop => ⟨.pointer (some ⟨w.heap.size, 0, none⟩), w.alloc (.cells cs.toArray ty), by
    have h1 := hx.eval (by simp [ho, Op.operands]) hop
    unfold execOp; rw [ho]; simp [Instr.box, newVar, newRow, h1, hc], (Ext.refl w).alloc _, ⟨_, rfl, hw.size, heap_alloc_new w _⟩⟩
theorem n_build {ty : TypeId} {ps : Array (Nat × Operand)} {vs : Array (Nat × Value)} {v : Value} (ho : o.op = .build ty ps) (hx : EvP E ps.toList vs.toList)
    (hr : ∀ w, (Instr.build ty vs).run P w = .ok v w) : nstep P wr E o (.is v) :=
  n_run fun a w hw hop => ⟨v, w, by
    have key : ∀ (l : List (Nat × Operand)) (l' : List (Nat × Value)), (∀ p ∈ l, p.2 ∈ o.op.operands) → EvP E l l' → (l.map fun p => (p.1, a.eval p.2)) = l' := by
      intro l l' hm hf
      induction hf with
      | nil => rfl
      | cons h _ ih =>
        rw [List.map_cons, ih (fun p hp => hm p (List.mem_cons_of_mem _ hp)), h.eval (hm _ List.mem_cons_self) hop]
    have h1 := key ps.toList vs.toList (fun p hp => by rw [ho]; simp only [Op.operands, List.mem_toArray, List.mem_map]; exact ⟨p, hp, rfl⟩) hx
    have h2 : (ps.map fun (i, x) => (i, a.eval x)) = vs := by
      apply Array.toList_inj.1
      rw [Array.toList_map, ← h1]
    unfold execOp; rw [ho]; simp only [h2]; simp [hr], Ext.refl w, rfl⟩

/-- A load, by what it yields in every world that may have come. -/
theorem n_load {ty : TypeId} {x : Operand} {ad : Addr} {v : Value} (ho : o.op = .load ty x) (hx : Ev E x (.pointer (some ad))) (hr : ∀ w, Ext wr w → (loadVar ty ad).run P w = .ok v w) : nstep P wr E o (.is v) :=
  n_run fun a w hw hop => ⟨v, w, by
    have h1 := hx.eval (by simp [ho, Op.operands]) hop
    unfold execOp; rw [ho]; simp [Instr.loadAt, Instr.sureAddr, h1, hr w hw], Ext.refl w, rfl⟩
theorem n_fieldAddr {s : TypeId} {x : Operand} {f : Nat} {b off : Nat} {fs : Array Field} {fd : Field} {n : Nat} (ho : o.op = .fieldAddr s x f) (hx : Ev E x (.pointer (some ⟨b, off, none⟩)))
    (hs : ∀ w, (underlying s).run P w = .ok (.struct fs) w) (hf : fs[f]? = some fd) (hz : ∀ w, (sizeOf fd.type).run P w = .ok (n + 1) w) : nstep P wr E o (.is (.pointer (some ⟨b, off + fd.offset, none⟩))) :=
  n_run fun a w hw hop => ⟨_, w, by
    have h1 := hx.eval (by simp [ho, Op.operands]) hop
    have ha : (⟨b, off, none⟩ : Addr).add fd.offset = ⟨b, off + fd.offset, none⟩ := by unfold Addr.add; split <;> simp_all
    unfold execOp; rw [ho]; simp [Instr.fieldAt, Instr.sureAddr, h1, hs, hf, fieldPlace, hz, ha], Ext.refl w, rfl⟩
theorem n_field {s : TypeId} {x : Operand} {f : Nat} {cs : Array Value} {fs : Array Field} {fd : Field} {v : Value} (ho : o.op = .field s x f) (hx : Ev E x (.agg cs))
    (hs : ∀ w, (underlying s).run P w = .ok (.struct fs) w) (hf : fs[f]? = some fd) (hp : ∀ w, (part fd.type cs fd.offset).run P w = .ok v w) : nstep P wr E o (.is v) :=
  n_run fun a w hw hop => ⟨v, w, by
    have h1 := hx.eval (by simp [ho, Op.operands]) hop
    unfold execOp; rw [ho]; simp [Instr.field, h1, hs, hf, hp, asAgg], Ext.refl w, rfl⟩
theorem n_extract {x : Operand} {i : Nat} {vs : Array Value} {v : Value} (ho : o.op = .extract x i) (hx : Ev E x (.tuple vs)) (hi : vs[i]? = some v) : nstep P wr E o (.is v) :=
  n_run fun a w hw hop => ⟨v, w, by
    have h1 := hx.eval (by simp [ho, Op.operands]) hop
    unfold execOp; rw [ho]; simp [Instr.extract, h1, hi], Ext.refl w, rfl⟩
theorem n_makeFunc {fn : Fn} {cap : Array Operand} {vs : Array Value} (ho : o.op = .makeFunc fn #[] cap) (hx : Evs E cap.toList vs.toList) : nstep P wr E o (.is (.func fn #[] vs)) :=
  n_run fun a w hw hop => ⟨_, w, by
    have key : ∀ (l : List Operand) (l' : List Value), (∀ p ∈ l, p ∈ o.op.operands) → Evs E l l' → l.map a.eval = l' := by
      intro l l' hm hf
      induction hf with
      | nil => rfl
      | cons h _ ih => rw [List.map_cons, ih (fun p hp => hm p (List.mem_cons_of_mem _ hp)), h.eval (hm _ List.mem_cons_self) hop]
    have h1 : cap.map a.eval = vs := by
      apply Array.toList_inj.1
      rw [Array.toList_map]
      exact key _ _ (fun p hp => by rw [ho]; simpa [Op.operands] using hp) hx
    unfold execOp; rw [ho]; simp [Instr.makeFunc, h1], Ext.refl w, rfl⟩

/-- What an operator yields of two values. -/
def R2 (P : Program) (op : BinOp) (t : TypeId) (u v r : Value) : Prop := ∀ x y w, (do eqGuard op t x y u v; binOp op t u v : Sem Value).run P w = .ok r w
theorem n_bin {op : BinOp} {t yt : TypeId} {x y : Operand} {u v r : Value} (ho : o.op = .binOp op t x y yt) (hx : Ev E x u) (hy : Ev E y v) (hr : R2 P op t u v r) : nstep P wr E o (.is r) :=
  n_run fun a w hw hop => ⟨r, w, by
    have h1 := hx.eval (by simp [ho, Op.operands]) hop
    have h2 := hy.eval (by simp [ho, Op.operands]) hop
    have h3 := hr x y w
    unfold execOp; rw [ho]; simp only [h1, h2]
    simp only [Sem.run_bind] at h3 ⊢
    rw [h3]; rfl, Ext.refl w, rfl⟩
theorem n_not {t : TypeId} {x : Operand} {b : Bool} (ho : o.op = .unOp .not t x) (hx : Ev E x (.bool b)) : nstep P wr E o (.is (.bool (!b))) :=
  n_run fun a w hw hop => ⟨_, w, by
    have h1 := hx.eval (by simp [ho, Op.operands]) hop
    unfold execOp; rw [ho]; simp [Op.unary, h1], Ext.refl w, rfl⟩
theorem n_conv {src dst : TypeId} {x : Operand} {k k' : IntKind} {n : Int} (ho : o.op = .convert src dst x) (hx : Ev E x (.int k' n)) (hs : (P.underlying src).isSome = true) (hd : P.underlying dst = some (.int k)) :
    nstep P wr E o (.is (.int k (k.wrap n))) :=
  n_run fun a w hw hop => ⟨_, w, by
    have h1 := hx.eval (by simp [ho, Op.operands]) hop
    obtain ⟨d, hd'⟩ := Option.isSome_iff_exists.1 hs
    unfold execOp; rw [ho]; simp [convert, h1, run_underlying hd', run_underlying hd, Conv.intToInt], Ext.refl w, rfl⟩

/-- A call: what its contract says in every world that may have come. -/
theorem n_call {f : FuncId} {xs : Array Operand} {ts : Array TypeId} {vs : Array Value} {g : Fact} (ho : o.op = .call { callee := .value (.func f), args := xs, argTypes := ts })
    (hf : ∀ (args : Array Value) (w : World), (callFunc f args).run P w = .ok (.enter f args) w) (hx : Evs E xs.toList vs.toList)
    (hc : ∀ w, Ext wr w → Calls P f vs w fun e w' => ∃ v, e = .returned v ∧ Ext w w' ∧ g.ok wr.heap.size v w') : nstep P wr E o g := by
  intro a w hw hop
  have key : ∀ (l : List Operand) (l' : List Value), (∀ p ∈ l, p ∈ o.op.operands) → Evs E l l' → l.map a.eval = l' := by
    intro l l' hm hf
    induction hf with
    | nil => rfl
    | cons h _ ih => rw [List.map_cons, ih (fun p hp => hm p (List.mem_cons_of_mem _ hp)), h.eval (hm _ List.mem_cons_self) hop]
  have h1 : xs.map a.eval = vs := by
    apply Array.toList_inj.1
    rw [Array.toList_map]
    exact key _ _ (fun p hp => by rw [ho]; simp only [Op.operands, Call.operands, Array.mem_append]; exact .inr (Array.mem_toList_iff.1 hp)) hx
  have h2 : (execOp a.eval o).run P w = .ok (.enter f vs) w := by
    unfold execOp; rw [ho]; simp only [resolve, h1]
    simp [Deferred.ofValue, Act.eval, invoke, hf]
  rw [h2]
  exact hc w hw
/-- .. of a function value. -/
theorem n_callv {t : Nat} {f : FuncId} {cap : Array Value} {xs : Array Operand} {ts : Array TypeId} {vs : Array Value} {g : Fact} (ho : o.op = .call { callee := .value (.tmp t), args := xs, argTypes := ts })
    (ht : Ev E (.tmp t) (.func (.func f) #[] cap)) (hf : ∀ (args : Array Value) (w : World), (callFunc f args).run P w = .ok (.enter f args) w) (hx : Evs E xs.toList vs.toList)
    (hc : ∀ w, Ext wr w → Calls P f (vs ++ cap) w fun e w' => ∃ v, e = .returned v ∧ Ext w w' ∧ g.ok wr.heap.size v w') : nstep P wr E o g := by
  intro a w hw hop
  have key : ∀ (l : List Operand) (l' : List Value), (∀ p ∈ l, p ∈ o.op.operands) → Evs E l l' → l.map a.eval = l' := by
    intro l l' hm hf
    induction hf with
    | nil => rfl
    | cons h _ ih => rw [List.map_cons, ih (fun p hp => hm p (List.mem_cons_of_mem _ hp)), h.eval (hm _ List.mem_cons_self) hop]
  have h1 : xs.map a.eval = vs := by
    apply Array.toList_inj.1
    rw [Array.toList_map]
    exact key _ _ (fun p hp => by rw [ho]; simp only [Op.operands, Call.operands, Array.mem_append]; exact .inr (Array.mem_toList_iff.1 hp)) hx
  have h0 : a.eval (.tmp t) = .func (.func f) #[] cap := ht.eval (by rw [ho]; simp [Op.operands, Call.operands]) hop
  have h2 : (execOp a.eval o).run P w = .ok (.enter f (vs ++ cap)) w := by
    unfold execOp; rw [ho]; simp only [resolve, h1, h0]
    simp [Deferred.ofValue, invoke, hf]
  rw [h2]
  exact hc w hw

/-- A contract's shape: it returns what 'g' says, all that was there being as it was. -/
def RetF (P : Program) (f : FuncId) (vs : Array Value) (w : World) (g : Fact) : Prop := Calls P f vs w fun e w' => ∃ v, e = .returned v ∧ Ext w w' ∧ g.ok w.heap.size v w'
theorem RetF.at_ {f : FuncId} {vs : Array Value} {g : Fact} (h : RetF P f vs w g) (hx : Ext wr w) : Calls P f vs w fun e w' => ∃ v, e = .returned v ∧ Ext w w' ∧ g.ok wr.heap.size v w' :=
  Calls.mono h fun _ _ ⟨v, h1, h2, h3⟩ => ⟨v, h1, h2, Fact.ok_mono h3 hx.size⟩
theorem n_ret {f : FuncId} {xs : Array Operand} {ts : Array TypeId} {vs : List Value} {g : Fact} (ho : o.op = .call { callee := .value (.func f), args := xs, argTypes := ts })
    (hf : ∀ (args : Array Value) (w : World), (callFunc f args).run P w = .ok (.enter f args) w) (hx : Evs E xs.toList vs) (hc : ∀ w, Ext wr w → RetF P f vs.toArray w g) : nstep P wr E o g :=
  n_call ho hf (vs := vs.toArray) (by simpa using hx) fun w hw => (hc w hw).at_ hw
theorem n_retv {t : Nat} {f : FuncId} {cap : List Value} {xs : Array Operand} {ts : Array TypeId} {vs : List Value} {g : Fact} (ho : o.op = .call { callee := .value (.tmp t), args := xs, argTypes := ts })
    (ht : Ev E (.tmp t) (.func (.func f) #[] cap.toArray)) (hf : ∀ (args : Array Value) (w : World), (callFunc f args).run P w = .ok (.enter f args) w) (hx : Evs E xs.toList vs)
    (hc : ∀ w, Ext wr w → RetF P f (vs ++ cap).toArray w g) : nstep P wr E o g :=
  n_callv ho ht hf (vs := vs.toArray) (by simpa using hx) fun w hw => by have := (hc w hw).at_ hw; simpa using this
end
end Go.Proofs.Ythgpojlcbbgaoaa
