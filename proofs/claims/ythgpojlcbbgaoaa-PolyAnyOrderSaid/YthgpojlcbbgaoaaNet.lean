/- A small calculus over the kit's 'Code.wp': a region's operations are met one by one, in the order of the text, whatever order is drawn; facts on slots stand in a list. Plain theorems. -/
import Derived.Orders
import Derived.Still
import Derived.Tactics
import Derived.Below
import Derived.Laws.Rows
import Derived.Laws.AppendOwn
import Derived.KernelRfl
set_option autoImplicit false
namespace Go.Proofs.Ythgpojlcbbgaoaa
open Go.RowKit

/-- Whatever was there is there as it was. -/
abbrev Ext (w w' : World) : Prop := Below w.heap.size w w'
theorem Ext.refl (w : World) : Ext w w := Below.refl _ _
theorem Ext.trans {a b c : World} (h : Ext a b) (k : Ext b c) : Ext a c := Below.trans h (Below.mono k h.size)
theorem Ext.drawn (w : World) (n : Nat) : Ext w { w with drawn := n } := ⟨rfl, rfl, rfl, Nat.le_refl _, fun _ _ => rfl⟩
theorem Ext.alloc {a w : World} (h : Ext a w) (o : Obj) : Ext a (w.alloc o) := Below.alloc h h.size o
theorem Ext.heap {w w' : World} (h : Ext w w') {b : Nat} {o : Obj} (ho : w.heap[b]? = some o) : w'.heap[b]? = some o := by
  rw [h.block b (Array.getElem?_eq_some_iff.1 ho).1]; exact ho
theorem Ext.cell {w w' : World} (h : Ext w w') {a : Addr} {v : Value} (hc : w.cell? a = some v) : w'.cell? a = some v := by
  have hb := block_lt_of_cell hc
  rw [Below.cell h hb]; exact hc
theorem Ext.row {w w' : World} (h : Ext w w') {B : Nat} {e : TypeId} {sz n : Nat} {v : Value} {xs : List Value} (hr : w.ownsRow B e sz v n xs) : w'.ownsRow B e sz v n xs :=
  hr.kept (row := none) ⟨h.os, h.tape, h.output, h.size, fun k hk _ => h.block k hk⟩ (by cases v.ownBlock <;> simp)

/-- What is known of a slot. -/
inductive Fact
  | is (v : Value)
  | blk (t : TypeId) (cs : List Value)
  | ex (e : TypeId) (sz n : Nat) (xs : List Value) (mk : Value → Value)
  | iff (c b : Bool) (v : Value)
  | cap (t : TypeId) (cs : List Value) (mk : Value → Value)
  | ex2 (e sz n : Nat) (xs : List Value) (e2 sz2 n2 : Nat) (xs2 : List Value) (mk : Value → Value → Value)

def Fact.ok (B : Nat) : Fact → Value → World → Prop
  | .is u, v, _ => v = u
  | .blk t cs, v, w => ∃ b, v = .pointer (some ⟨b, 0, none⟩) ∧ B ≤ b ∧ w.heap[b]? = some (.cells cs.toArray t (0, 0))
  | .ex e sz n xs mk, v, w => ∃ s, w.ownsRow B e sz s n xs ∧ v = mk s
  | .iff c b u, v, _ => v = bif Bool.xor c b then undef else u
  | .cap t cs mk, v, w => ∃ b, v = mk (.pointer (some ⟨b, 0, none⟩)) ∧ B ≤ b ∧ w.heap[b]? = some (.cells cs.toArray t (0, 0))
  | .ex2 e sz n xs e2 sz2 n2 xs2 mk, v, w => ∃ s s2, w.ownsRow B e sz s n xs ∧ w.ownsRow B e2 sz2 s2 n2 xs2 ∧ v = mk s s2

theorem Fact.ok_ext {B : Nat} {f : Fact} {v : Value} {w w' : World} (h : f.ok B v w) (hx : Ext w w') : f.ok B v w' := by
  cases f with
  | is u => exact h
  | blk t cs => obtain ⟨b, h1, h2, h3⟩ := h; exact ⟨b, h1, h2, hx.heap h3⟩
  | ex e sz n xs mk => obtain ⟨s, h1, h2⟩ := h; exact ⟨s, Ext.row hx h1, h2⟩
  | iff c b u => exact h
  | cap t cs mk => obtain ⟨b, h1, h2, h3⟩ := h; exact ⟨b, h1, h2, hx.heap h3⟩
  | ex2 e sz n xs e2 sz2 n2 xs2 mk => obtain ⟨s, s2, h1, h2, h3⟩ := h; exact ⟨s, s2, Ext.row hx h1, Ext.row hx h2, h3⟩

theorem ownsRow_mono {w : World} {B B' : Nat} {e : TypeId} {sz n : Nat} {v : Value} {xs : List Value} (h : w.ownsRow B e sz v n xs) (hB : B' ≤ B) : w.ownsRow B' e sz v n xs := by
  obtain ⟨h1, h2⟩ := h
  refine ⟨h1, ?_⟩
  rcases h2 with h2 | ⟨g, cap, cur, hv, hg, r⟩
  · exact .inl h2
  · exact .inr ⟨g, cap, cur, hv, by omega, r⟩
theorem Fact.ok_mono {B B' : Nat} {f : Fact} {v : Value} {w : World} (h : f.ok B v w) (hB : B' ≤ B) : f.ok B' v w := by
  cases f with
  | is u => exact h
  | blk t cs => obtain ⟨b, h1, h2, h3⟩ := h; exact ⟨b, h1, by omega, h3⟩
  | ex e sz n xs mk => obtain ⟨s, h1, h2⟩ := h; exact ⟨s, ownsRow_mono h1 hB, h2⟩
  | iff c b u => exact h
  | cap t cs mk => obtain ⟨b, h1, h2, h3⟩ := h; exact ⟨b, h1, by omega, h3⟩
  | ex2 e sz n xs e2 sz2 n2 xs2 mk => obtain ⟨s, s2, h1, h2, h3⟩ := h; exact ⟨s, s2, ownsRow_mono h1 hB, ownsRow_mono h2 hB, h3⟩

abbrev Env := List (Nat × Fact)
def look : Env → Nat → Option Fact
  | [], _ => none
  | (d, f) :: r, t => bif Nat.beq d t then some f else look r t
theorem look_cons (d : Nat) (f : Fact) (r : Env) (t : Nat) : look ((d, f) :: r) t = if d = t then some f else look r t := by
  by_cases h : d = t
  · subst h; simp [look]
  · rw [if_neg h]; simp only [look]; cases hb : Nat.beq d t
    · rfl
    · exact absurd (Nat.eq_of_beq_eq_true hb) h
def putE (E : Env) (d : Option Nat) (f : Fact) : Env := match d with
  | some d => (d, f) :: E
  | none => E

/-- The frame fits the list. -/
structure Fr (N : Nat) (D : List Deferred) (B : Nat) (E : Env) (a : Act) (w : World) : Prop where
  defers : a.defers = D
  size : a.tmps.size = N
  at_ : ∀ t f, look E t = some f → f.ok B (a.tmps.getD t undef) w

theorem Fr.ext {N B : Nat} {D : List Deferred} {E : Env} {a : Act} {w w' : World} (h : Fr N D B E a w) (hx : Ext w w') : Fr N D B E a w' :=
  ⟨h.defers, h.size, fun t f hf => Fact.ok_ext (h.at_ t f hf) hx⟩

theorem getD_put_same (a : Act) (d : Nat) (v : Value) (h : d < a.tmps.size) : (a.put (some d) v).tmps.getD d undef = v := by
  simp [Act.put, h]
theorem getD_put_ne (a : Act) (o : Option Nat) (t : Nat) (v : Value) (h : o ≠ some t) : (a.put o v).tmps.getD t undef = a.tmps.getD t undef := by
  cases o with
  | none => rfl
  | some d =>
    have : d ≠ t := fun e => h (by rw [e])
    simp [Act.put, Array.getElem?_setIfInBounds_ne this]
theorem size_put (a : Act) (o : Option Nat) (v : Value) : (a.put o v).tmps.size = a.tmps.size := by
  cases o <;> simp [Act.put]
theorem defers_put (a : Act) (o : Option Nat) (v : Value) : (a.put o v).defers = a.defers := by
  cases o <;> rfl

theorem Fr.put {N B : Nat} {D : List Deferred} {E : Env} {a : Act} {w w' : World} (h : Fr N D B E a w) (hx : Ext w w') {d : Option Nat} {f : Fact} {v : Value} (hd : ∀ t, d = some t → t < N) (hf : f.ok B v w') :
    Fr N D B (putE E d f) (a.put d v) w' := by
  refine ⟨by rw [defers_put]; exact h.defers, by rw [size_put]; exact h.size, fun t g hg => ?_⟩
  cases d with
  | none => exact Fact.ok_ext (h.at_ t g hg) hx
  | some d =>
    simp only [putE] at hg
    rw [look_cons] at hg
    by_cases e : d = t
    · subst e
      rw [if_pos rfl] at hg
      injection hg with hg
      subst hg
      rw [getD_put_same a d v (by rw [h.size]; exact hd d rfl)]
      exact hf
    · rw [if_neg e] at hg
      rw [getD_put_ne a (some d) t v (fun h => e (Option.some.inj h))]
      exact Fact.ok_ext (h.at_ t g hg) hx

/-! ### one operation -/
def nup (P : Program) (B : Nat) (f : Fact) (w : World) : Result Next → Prop
  | .ok (.value v) w' => Ext w w' ∧ f.ok B v w'
  | .ok .skip w' => Ext w w' ∧ f.ok B undef w'
  | .ok (.enter g args) w' => Calls P g args w' fun e w'' => ∃ v, e = .returned v ∧ Ext w w'' ∧ f.ok B v w''
  | _ => False

/-- From every world that the region may have come to, the operation leaves what 'f' says. -/
def nstep (P : Program) (wr : World) (E : Env) (o : Oper) (f : Fact) : Prop :=
  ∀ (a : Act) (w : World), Ext wr w → (∀ t, Operand.tmp t ∈ o.op.operands → ∀ g, look E t = some g → g.ok wr.heap.size (a.tmps.getD t undef) w) →
    nup P wr.heap.size f w ((execOp a.eval o).run P w)

def guardSlot (ops : Array Oper) (j : Nat) : Option Nat := (ops[j]?).bind (·.dst)

/-- With its guard. -/
def gstep (P : Program) (ops : Array Oper) (wr : World) (E : Env) (o : Oper) (f : Fact) : Prop :=
  match o.guard with
  | none => nstep P wr E o f
  | some (j, b) => ∃ s g y, guardSlot ops j = some s ∧ look E s = some g ∧ (∀ B v w, g.ok B v w → (v = .bool b ∧ y = true) ∨ ((v = .bool (!b) ∨ v = undef) ∧ y = false)) ∧
      (y = true → nstep P wr E o f) ∧ (y = false → ∀ w, f.ok wr.heap.size undef w)

def net (P : Program) (ops : Array Oper) (wr : World) (fin : Env → Prop) : List Oper → Env → Prop
  | [], E => fin E
  | o :: rest, E => ∃ f, gstep P ops wr E o f ∧ net P ops wr fin rest (putE E o.dst f)

section
variable {P : Program} {ops : Array Oper} {wr : World} {fin : Env → Prop}
theorem net_nil {E : Env} (h : fin E) : net P ops wr fin [] E := h
theorem net_cons {o : Oper} {rest : List Oper} {E : Env} {f : Fact} {d : Nat} (hg : o.guard = none) (hd : o.dst = some d) (h : nstep P wr E o f) (hr : net P ops wr fin rest ((d, f) :: E)) : net P ops wr fin (o :: rest) E :=
  ⟨f, by unfold gstep; rw [hg]; exact h, by rw [hd]; exact hr⟩
/-- A guard that is decided: the operation is carried out. -/
theorem net_on {o : Oper} {rest : List Oper} {E : Env} {f : Fact} {j s d : Nat} {b : Bool} (hg : o.guard = some (j, b)) (hs : guardSlot ops j = some s) (hd : o.dst = some d) (hl : look E s = some (.is (.bool b))) (h : nstep P wr E o f)
    (hr : net P ops wr fin rest ((d, f) :: E)) : net P ops wr fin (o :: rest) E :=
  ⟨f, by unfold gstep; rw [hg]; exact ⟨s, _, true, hs, hl, (fun B v w hv => .inl ⟨hv, rfl⟩), (fun _ => h), (fun e => by cases e)⟩, by rw [hd]; exact hr⟩
/-- .. it is passed over. -/
theorem net_off {o : Oper} {rest : List Oper} {E : Env} {j s d : Nat} {b : Bool} (hg : o.guard = some (j, b)) (hs : guardSlot ops j = some s) (hd : o.dst = some d) (hl : look E s = some (.is (.bool (!b))))
    (hr : net P ops wr fin rest ((d, .is undef) :: E)) : net P ops wr fin (o :: rest) E :=
  ⟨.is undef, by unfold gstep; rw [hg]; exact ⟨s, _, false, hs, hl, (fun B v w hv => .inr ⟨.inl hv, rfl⟩), (fun e => by cases e), fun _ _ => rfl⟩, by rw [hd]; exact hr⟩
theorem nstep_iff {o : Oper} {E : Env} {v : Value} {c b : Bool} (hc : c = b) (h : nstep P wr E o (.is v)) : nstep P wr E o (.iff c b v) := by
  have hv : ∀ u w, (Fact.is v).ok wr.heap.size u w → (Fact.iff c b v).ok wr.heap.size u w := fun u w hu => by
    subst hc
    simp only [Fact.ok] at hu ⊢
    simpa using hu
  intro a w hx hop
  have hn := h a w hx hop
  revert hn
  generalize (execOp a.eval o).run P w = r
  intro hn
  cases r with
  | ok n w' =>
    cases n <;> simp only [nup] at hn ⊢
    case value u => exact ⟨hn.1, hv _ _ hn.2⟩
    case skip => exact ⟨hn.1, hv _ _ hn.2⟩
    case enter g args => exact hn.mono fun e w'' ⟨u, he, h1, h2⟩ => ⟨u, he, h1, hv _ _ h2⟩
  | halt h w' => simp only [nup] at hn
/-- A guard that is not decided. -/
theorem net_if {o : Oper} {rest : List Oper} {E : Env} {v : Value} {j s d : Nat} {c b : Bool} (hg : o.guard = some (j, b)) (hs : guardSlot ops j = some s) (hd : o.dst = some d) (hl : look E s = some (.is (.bool c))) (h : c = b → nstep P wr E o (.is v))
    (hr : net P ops wr fin rest ((d, .iff c b v) :: E)) : net P ops wr fin (o :: rest) E := by
  refine ⟨.iff c b v, ?_, by rw [hd]; exact hr⟩
  unfold gstep
  rw [hg]
  refine ⟨s, _, c == b, hs, hl, fun B u w hu => ?_, fun hc => ?_, fun hc w => ?_⟩
  · have hu' : u = .bool c := hu
    subst hu'
    cases c <;> cases b <;> simp
  · have hcb : c = b := by simpa using hc
    exact nstep_iff hcb (h hcb)
  · have hcb : ¬ c = b := by simpa using hc
    cases c <;> cases b <;> simp_all [Fact.ok]
/-- A guard that stands under a guard itself. -/
theorem net_if2 {o : Oper} {rest : List Oper} {E : Env} {v : Value} {j s d : Nat} {c0 b0 c b : Bool} (hg : o.guard = some (j, b)) (hs : guardSlot ops j = some s) (hd : o.dst = some d) (hl : look E s = some (.iff c0 b0 (.bool c))) (h : c0 = b0 → c = b → nstep P wr E o (.is v))
    (hr : net P ops wr fin rest ((d, .iff ((c0 == b0) && (c == b)) true v) :: E)) : net P ops wr fin (o :: rest) E := by
  refine ⟨.iff ((c0 == b0) && (c == b)) true v, ?_, by rw [hd]; exact hr⟩
  unfold gstep
  rw [hg]
  refine ⟨s, _, (c0 == b0) && (c == b), hs, hl, fun B u w hu => ?_, fun hc => ?_, fun hc w => ?_⟩
  · simp only [Fact.ok] at hu
    subst hu
    cases c0 <;> cases b0 <;> cases c <;> cases b <;> simp
  · have h1 : c0 = b0 ∧ c = b := by simpa using hc
    exact nstep_iff hc (h h1.1 h1.2)
  · rw [hc]
    simp [Fact.ok]
end

/-! ### a region in the order of the text -/
section
variable {P : Program} {ops : Array Oper} {wr : World} {N : Nat} {D : List Deferred} {Q : Exit → Act → World → Prop} {fin : Env → Prop}

theorem yielded_of {j s : Nat} {c : Bool} {tmps : Array Value} (hs : guardSlot ops j = some s) (hv : tmps.getD s undef = .bool c) (hsz : s < tmps.size) : yielded ops tmps j = some c := by
  unfold yielded
  unfold guardSlot at hs
  rw [hs]
  have : tmps[s]? = some (.bool c) := by
    rw [Array.getElem?_eq_getElem hsz]
    simp [Array.getD, hsz] at hv
    rw [hv]
  simp [this]

theorem yielded_none {j s : Nat} {tmps : Array Value} (hs : guardSlot ops j = some s) (hv : tmps.getD s undef = undef) : yielded ops tmps j = none := by
  unfold yielded
  unfold guardSlot at hs
  rw [hs]
  simp only [Option.bind_some]
  cases ht : tmps[s]? with
  | none => rfl
  | some v =>
    have : v = undef := by
      rw [← hv]
      simp [Array.getD_eq_getD_getElem?, ht]
    subst this
    rfl

/-- One operation comes up. -/
theorem op_of_gstep {o : Oper} {f : Fact} {E : Env} {a : Act} {w : World} {K : Act → World → Prop} {i : Nat} (hi : ops[i]? = some o) (hg : gstep P ops wr E o f) (hx : Ext wr w)
    (hgs : ∀ j b s, o.guard = some (j, b) → guardSlot ops j = some s → s < a.tmps.size)
    (hgf : ∀ j b s, o.guard = some (j, b) → guardSlot ops j = some s → ∀ g, look E s = some g → g.ok wr.heap.size (a.tmps.getD s undef) w)
    (hop : ∀ t, Operand.tmp t ∈ o.op.operands → ∀ g, look E t = some g → g.ok wr.heap.size (a.tmps.getD t undef) w)
    (hK : ∀ v w', Ext w w' → f.ok wr.heap.size v w' → K (a.put o.dst v) w') : wpOp P ops Q i K a w := by
  have hn : nstep P wr E o f → o.wp P a w K Q := fun h => by
    have h3 := h a w hx hop
    unfold Oper.wp
    revert h3
    generalize (execOp a.eval o).run P w = r
    intro h3
    cases r with
    | ok n w' =>
      cases n <;> simp only [nup] at h3 <;> simp only [Oper.upon]
      case value u => exact hK _ _ h3.1 h3.2
      case skip => exact hK _ _ h3.1 h3.2
      case enter g args => exact h3.mono fun e w'' ⟨u, he, h1, h2⟩ => by subst he; exact hK _ _ h1 h2
    | halt h w' => simp only [nup] at h3
  unfold wpOp
  rw [hi]
  dsimp only
  unfold gstep at hg
  cases hgd : o.guard with
  | none =>
    rw [hgd] at hg
    rw [if_pos (by simp [Region.wanted, hgd])]
    exact .inl (hn hg)
  | some p =>
    obtain ⟨j, b⟩ := p
    rw [hgd] at hg
    obtain ⟨s, gf, y, hs, hl, hgv, h1, h2⟩ := hg
    rcases hgv _ _ _ (hgf j b s hgd hs _ hl) with ⟨hv, hcb⟩ | ⟨hv, hcb⟩
    · have hy := yielded_of hs hv (hgs j b s hgd hs)
      rw [if_pos (by simp [Region.wanted, hgd, hy])]
      exact .inl (hn (h1 hcb))
    · have hy : yielded ops a.tmps j ≠ some b := by
        rcases hv with hv | hv
        · rw [yielded_of hs hv (hgs j b s hgd hs)]
          cases b <;> simp
        · rw [yielded_none hs hv]
          simp
      rw [if_neg (by simp [Region.wanted, hgd, hy])]
      exact hK _ _ (Ext.refl _) (h2 hcb w)

/-- slots that are written lie in the frame; so do those of the guards -/
def dstOk (N : Nat) (ops : Array Oper) : Bool := ops.toList.all fun o => match o.dst with
  | some d => Nat.blt d N
  | none => true
theorem dstOk_spec (h : dstOk N ops = true) {i : Nat} {o : Oper} (hi : ops[i]? = some o) : ∀ t, o.dst = some t → t < N := by
  intro t ht
  unfold dstOk at h
  have := List.all_eq_true.1 h o (Array.mem_toList_iff.2 (Array.mem_of_getElem? hi))
  rw [ht] at this
  simpa [Nat.blt_eq] using this
theorem guardSlot_lt (h : dstOk N ops = true) {j s : Nat} (hs : guardSlot ops j = some s) : s < N := by
  unfold guardSlot at hs
  cases hj : ops[j]? with
  | none => rw [hj] at hs; cases hs
  | some o => rw [hj] at hs; exact dstOk_spec h hj s hs

theorem net_list (hd : dstOk N ops = true) : ∀ (l : List Oper) (k : Nat) (E : Env) (a : Act) (w : World), (∀ j, j < l.length → l[j]? = ops[k + j]?) → ∀ (tail : List Oper),
    net P ops wr fin l E → Fr N D wr.heap.size E a w → Ext wr w → (∀ E' a' w', fin E' → Fr N D wr.heap.size E' a' w' → Ext wr w' → wpList P ops Q tail a' w') → wpList P ops Q (l ++ tail) a w
  | [], _, E, a, w, _, tail, h, hF, hx, hq => hq E a w h hF hx
  | o :: l, k, E, a, w, hl, tail, h, hF, hx, hq => by
    obtain ⟨f, hg, hr⟩ := h
    have h0 : ops[k]? = some o := by simpa using (hl 0 (by simp)).symm
    have hW : wpOp P ops Q k (wpList P ops Q (l ++ tail)) a w := by
      refine op_of_gstep h0 hg hx (fun j b s _ hs => by rw [hF.size]; exact guardSlot_lt hd hs) (fun j b s _ _ g hg' => hF.at_ s g hg') (fun t _ g hg' => hF.at_ t g hg') ?_
      intro v w' hx' hf
      exact net_list hd l (k + 1) (putE E o.dst f) _ w' (fun j hj => by have := hl (j + 1) (by simpa using hj); simpa [Nat.add_assoc, Nat.add_comm 1 j] using this) tail hr
        (hF.put hx' (dstOk_spec hd h0) hf) (hx.trans hx') hq
    unfold wpOp at hW
    rw [h0] at hW
    exact hW

/-- A region that draws nothing: as far as its first n operations; the rest one by one. -/
theorem reg_seq {id : Nat} {l : List Oper} {E : Env} {a : Act} {w : World} (n : Nat) (hF : Fr N D w.heap.size E a w) (hd : dstOk N l.toArray = true)
    (h : net P l.toArray w (fun E' => ∀ a' w', Fr N D w.heap.size E' a' w' → Ext w w' → wpList P l.toArray Q (l.drop n) a' w') (l.take n) E) : (Code.region id l.toArray false).wp P Q a w := by
  refine wp_region_lit ?_
  have := net_list (Q := Q) hd (l.take n) 0 E a w (fun j hj => by
    have hj' : j < n := by rw [List.length_take] at hj; omega
    simp [hj']) (l.drop n) h hF (Ext.refl w) (fun E' a' w' hE hF' hx' => hE a' w' hF' hx')
  rwa [List.take_append_drop] at this
end

/-! ### a region whose order is drawn -/
section
variable {P : Program} {ops : Array Oper} {wr : World} {N : Nat} {D : List Deferred} {Q : Exit → Act → World → Prop} {fin : Env → Prop}

def envF (ops : Array Oper) (F : Nat → Fact) (k : Nat) (E : Env) : Nat → Env
  | 0 => E
  | j + 1 => putE (envF ops F k E j) (guardSlot ops (k + j)) (F (k + j))

theorem envF_congr {F F' : Nat → Fact} {k : Nat} (h : ∀ i, k ≤ i → F i = F' i) (E : Env) : ∀ j, envF ops F k E j = envF ops F' k E j
  | 0 => rfl
  | j + 1 => by simp only [envF]; rw [envF_congr h E j, h (k + j) (by omega)]

theorem envF_shift (F : Nat → Fact) (k : Nat) (E : Env) : ∀ j, envF ops F k E (j + 1) = envF ops F (k + 1) (putE E (guardSlot ops k) (F k)) j
  | 0 => rfl
  | j + 1 => by
    rw [envF, envF_shift F k E j]
    conv => rhs; rw [envF]
    rw [show k + 1 + j = k + (j + 1) by omega]

theorem net_facts : ∀ (l : List Oper) (k : Nat) (E : Env), (∀ j, j < l.length → l[j]? = ops[k + j]?) → net P ops wr fin l E →
    ∃ F : Nat → Fact, (∀ j o, j < l.length → ops[k + j]? = some o → gstep P ops wr (envF ops F k E j) o (F (k + j))) ∧ fin (envF ops F k E l.length)
  | [], _, E, _, h => ⟨fun _ => .is undef, fun j o hj => absurd hj (by simp), h⟩
  | o :: l, k, E, hl, h => by
    obtain ⟨f, hg, hr⟩ := h
    have h0 : ops[k]? = some o := by simpa using (hl 0 (by simp)).symm
    have hgs : guardSlot ops k = o.dst := by simp [guardSlot, h0]
    obtain ⟨F', h1, h2⟩ := net_facts l (k + 1) (putE E o.dst f) (fun j hj => by have := hl (j + 1) (by simpa using hj); simpa [Nat.add_assoc, Nat.add_comm 1 j] using this) hr
    refine ⟨fun i => if i = k then f else F' i, fun j o' hj ho' => ?_, ?_⟩
    · cases j with
      | zero =>
        have : o' = o := Option.some.inj (ho'.symm.trans (by simpa using h0))
        subst this
        simpa [envF] using hg
      | succ j =>
        rw [envF_shift, hgs]
        simp only [if_true]
        rw [envF_congr (F' := F') (fun i hi => if_neg (by omega)) _ j, if_neg (by omega)]
        have := h1 j o' (by simpa using hj) (by rw [← ho']; congr 1; omega)
        rwa [show k + 1 + j = k + (j + 1) by omega] at this
    · rw [List.length_cons, envF_shift, hgs]
      simp only [if_true]
      rw [envF_congr (F' := F') (fun i hi => if_neg (by omega)) _ _]
      exact h2

/-- The last that wrote slot t among the first j, or nobody. -/
theorem look_envF (F : Nat → Fact) (E : Env) (t : Nat) : ∀ j, (∃ i, i < j ∧ guardSlot ops i = some t ∧ look (envF ops F 0 E j) t = some (F i)) ∨
    ((∀ i, i < j → guardSlot ops i ≠ some t) ∧ look (envF ops F 0 E j) t = look E t)
  | 0 => .inr ⟨fun i hi => absurd hi (by omega), rfl⟩
  | j + 1 => by
    simp only [envF, Nat.zero_add]
    by_cases hj : guardSlot ops j = some t
    · exact .inl ⟨j, by omega, hj, by rw [hj]; simp [putE, look_cons]⟩
    · have hlk : look (putE (envF ops F 0 E j) (guardSlot ops j) (F j)) t = look (envF ops F 0 E j) t := by
        cases hg : guardSlot ops j with
        | none => rfl
        | some d =>
          have : d ≠ t := fun e => hj (by rw [hg, e])
          simp only [putE]
          rw [look_cons, if_neg this]
      rw [hlk]
      rcases look_envF F E t j with ⟨i, h1, h2, h3⟩ | ⟨h1, h2⟩
      · exact .inl ⟨i, by omega, h2, h3⟩
      · refine .inr ⟨fun i hi => ?_, h2⟩
        by_cases e : i = j
        · rw [e]; exact hj
        · exact h1 i (by omega)

def waits (ops : Array Oper) (j i : Nat) : Bool := match ops[j]? with
  | some oj => oj.after.toList.any fun e => Region.binds .any e && Nat.beq e.on i
  | none => false
theorem waits_spec {j i : Nat} (h : waits ops j i = true) : ∃ oj, ops[j]? = some oj ∧ ∃ e ∈ oj.after, Region.binds .any e = true ∧ e.on = i := by
  unfold waits at h
  split at h
  · rename_i oj hj
    obtain ⟨e, he, hb⟩ := List.any_eq_true.1 h
    simp only [Bool.and_eq_true] at hb
    exact ⟨oj, hj, e, Array.mem_toList_iff.1 he, hb.1, Nat.eq_of_beq_eq_true hb.2⟩
  · cases h

/-- What an operation waits for, directly or through others (they all lie ahead of it). -/
def up (ops : Array Oper) (n : Nat) : Nat → List Nat
  | 0 => [n]
  | t + 1 => bif (up ops n t).any fun k => waits ops k (n - 1 - t) then (n - 1 - t) :: up ops n t else up ops n t
theorem up_spec {ops : Array Oper} {n : Nat} {L : Nat → Prop} (h0 : ∀ i, waits ops n i = true → L i) (hc : ∀ j i, L j → waits ops j i = true → L i) : ∀ t i, i ∈ up ops n t → i = n ∨ L i := by
  intro t
  induction t with
  | zero => intro i hi; exact .inl (List.mem_singleton.1 hi)
  | succ t ih =>
    intro i hi
    unfold up at hi
    cases hb : (up ops n t).any fun k => waits ops k (n - 1 - t) with
    | false =>
      rw [hb] at hi
      exact ih i hi
    | true =>
      rw [hb] at hi
      rcases List.mem_cons.1 hi with rfl | h
      · obtain ⟨k, hk, hw⟩ := List.any_eq_true.1 hb
        rcases ih k hk with rfl | hk'
        · exact .inr (h0 _ hw)
        · exact .inr (hc _ _ hk' hw)
      · exact ih i h

def slotsOf (ops : Array Oper) (o : Oper) : List Nat :=
  (o.op.operands.toList.filterMap fun | .tmp t => some t | _ => none) ++ (match o.guard with | some (g, _) => (guardSlot ops g).toList | none => [])

def below (n : Nat) (p : Nat → Bool) : Bool := (List.range n).all p
theorem below_spec {n : Nat} {p : Nat → Bool} (h : below n p = true) {i : Nat} (hi : i < n) : p i = true := List.all_eq_true.1 h i (List.mem_range.2 hi)

/-- What is asked of a region's edges: 'n' operations, then a chain that waits for them all. -/
def drawOk (N n : Nat) (ops : Array Oper) : Bool :=
  dstOk N ops && Nat.ble n ops.size &&
  (below ops.size fun j => match ops[j]? with | some o => o.after.toList.all fun e => !Region.binds .any e || Nat.blt e.on j | none => true) &&
  (below n fun j => match ops[j]? with
    | some o => (slotsOf ops o).all fun t => below n fun i => Nat.beq i j || (match guardSlot ops i with | some d => !Nat.beq d t || (bif Nat.blt i j then waits ops j i else waits ops i j) | none => true)
    | none => true) &&
  (below n fun j => match guardSlot ops j with
    | some t => below j fun i => match guardSlot ops i with | some d => !Nat.beq d t | none => true
    | none => true) &&
  (below ops.size fun t => Nat.blt t n || bif Nat.beq t n then (Nat.blt t n || below n fun i => waits ops n i || (up ops n n).any fun k => Nat.beq k i) else waits ops t (t - 1))

structure Heads (N n : Nat) (ops : Array Oper) : Prop where
  dst : dstOk N ops = true
  le : n ≤ ops.size
  back : ∀ j o, ops[j]? = some o → ∀ e ∈ o.after, Region.binds .any e = true → e.on < j
  slots : ∀ j o, j < n → ops[j]? = some o → ∀ t ∈ slotsOf ops o, ∀ i, i < n → i ≠ j → guardSlot ops i = some t → if i < j then waits ops j i = true else waits ops i j = true
  one : ∀ i j t, i < j → j < n → guardSlot ops i = some t → guardSlot ops j ≠ some t
structure DrawOk (N n : Nat) (ops : Array Oper) : Prop extends Heads N n ops where
  sink : n < ops.size → ∀ i, i < n → (waits ops n i || (up ops n n).any fun k => Nat.beq k i) = true
  chain : ∀ t, n < t → t < ops.size → waits ops t (t - 1) = true

theorem DrawOk.sunk {N n : Nat} {ops : Array Oper} {listed : Array Bool} (ok : DrawOk N n ops) (hn : n < ops.size) {i : Nat} (hi : i < n) (h0 : ∀ i, waits ops n i = true → listed.getD i false = true)
    (hc : ∀ j o, ops[j]? = some o → listed.getD j false = true → ∀ e ∈ o.after, Region.binds .any e = true → listed.getD e.on false = true) : listed.getD i false = true := by
  have h := ok.sink hn i hi
  rw [Bool.or_eq_true] at h
  rcases h with h | h
  · exact h0 i h
  · obtain ⟨k, hk, he⟩ := List.any_eq_true.1 h
    have : k = i := Nat.eq_of_beq_eq_true he
    subst this
    rcases up_spec (L := fun i => listed.getD i false = true) h0 (fun j i hj hw => by
      obtain ⟨oj, hoj, e, he, hb, hon⟩ := waits_spec hw
      exact hon ▸ hc j oj hoj hj e he hb) n k hk with e | e
    · omega
    · exact e

theorem drawOk_spec {n : Nat} (h : drawOk N n ops = true) : DrawOk N n ops := by
  simp only [drawOk, Bool.and_eq_true] at h
  obtain ⟨⟨⟨⟨⟨h1, h2⟩, h3⟩, h4⟩, h5⟩, h6⟩ := h
  refine ⟨⟨h1, Nat.le_of_ble_eq_true h2, fun j o hj e he hb => ?_, fun j o hjn hj t ht i hi hij hg => ?_, fun i j t hij hj hgi hgj => ?_⟩, fun hn i hi => ?_, fun t ht hts => ?_⟩
  · have h := below_spec h3 (Array.getElem?_eq_some_iff.1 hj).1
    rw [hj] at h
    dsimp only at h
    have := List.all_eq_true.1 h e (Array.mem_toList_iff.2 he)
    simp only [hb, Bool.not_true, Bool.false_or] at this
    simpa [Nat.blt_eq] using this
  · have h := below_spec h4 hjn
    rw [hj] at h
    dsimp only at h
    have h := below_spec (List.all_eq_true.1 h t ht) hi
    rw [hg] at h
    have hne : Nat.beq i j = false := by
      cases hb : Nat.beq i j
      · rfl
      · exact absurd (Nat.eq_of_beq_eq_true hb) hij
    have htt : Nat.beq t t = true := Nat.beq_refl t
    simp only [hne, htt, Bool.not_true, Bool.false_or] at h
    by_cases hlt : i < j
    · rw [if_pos hlt]
      have : Nat.blt i j = true := by simpa [Nat.blt_eq] using hlt
      rwa [this] at h
    · rw [if_neg hlt]
      have : Nat.blt i j = false := by
        cases hb : Nat.blt i j
        · rfl
        · exact absurd (by simpa [Nat.blt_eq] using hb) hlt
      rwa [this] at h
  · have h := below_spec h5 hj
    rw [hgj] at h
    have h := below_spec h hij
    rw [hgi] at h
    simp [Nat.beq_refl] at h
  · have h := below_spec h6 hn
    have : Nat.blt n n = false := by
      cases hb : Nat.blt n n
      · rfl
      · simp at hb
    simp only [this, Nat.beq_refl, Bool.false_or, cond_true] at h
    exact below_spec h hi
  · have h := below_spec h6 hts
    have ha : Nat.blt t n = false := by
      cases hb : Nat.blt t n
      · rfl
      · have : t < n := by simpa [Nat.blt_eq] using hb
        omega
    have hb : Nat.beq t n = false := by
      cases hb : Nat.beq t n
      · rfl
      · have := Nat.eq_of_beq_eq_true hb
        omega
    simpa only [ha, hb, Bool.false_or, cond_false] using h

/-- What holds when the operations in 'listed' have come up. -/
structure Inv (wr : World) (ops : Array Oper) (N : Nat) (D : List Deferred) (n : Nat) (F : Nat → Fact) (E : Env) (listed : Array Bool) (a : Act) (w : World) : Prop where
  ext : Ext wr w
  defers : a.defers = D
  size : a.tmps.size = N
  lsize : listed.size = ops.size
  closed : ∀ j o, ops[j]? = some o → listed.getD j false = true → ∀ e ∈ o.after, Region.binds .any e = true → listed.getD e.on false = true
  tail : ∀ t, n ≤ t → listed.getD t false = false
  done : ∀ j t, listed.getD j false = true → guardSlot ops j = some t → (F j).ok wr.heap.size (a.tmps.getD t undef) w
  old : ∀ t f, look E t = some f → (∀ j, listed.getD j false = true → guardSlot ops j ≠ some t) → f.ok wr.heap.size (a.tmps.getD t undef) w

theorem getD_true_false {listed : Array Bool} {i : Nat} (h : listed.getD i true = false) : listed.getD i false = false := by
  rcases Nat.lt_or_ge i listed.size with h' | h'
  · simp [h'] at h ⊢; exact h
  · simp [Array.getElem?_eq_none h'] at h
theorem getD_false_true {listed : Array Bool} {i : Nat} (hi : i < listed.size) (h : listed.getD i false = false) : listed.getD i true = false := by
  simp [hi] at h ⊢; exact h
theorem getD_set_self {listed : Array Bool} {i : Nat} (hi : i < listed.size) : (listed.setIfInBounds i true).getD i false = true := by
  simp [hi]

section
variable {n : Nat} {F : Nat → Fact} {E : Env} {listed : Array Bool} {a : Act} {w : World}
/-- An operation that is among the heads and not listed: the facts of the text's order hold of the slots that it looks at. -/
theorem Inv.look (inv : Inv wr ops N D n F E listed a w) (ok : Heads N n ops) {j : Nat} {o : Oper} (hjn : j < n) (hj : ops[j]? = some o) (hun : listed.getD j false = false)
    (hall : ∀ e ∈ o.after, Region.binds .any e = true → listed.getD e.on false = true) {t : Nat} (ht : t ∈ slotsOf ops o) {g : Fact} (hg : look (envF ops F 0 E j) t = some g) :
    g.ok wr.heap.size (a.tmps.getD t undef) w := by
  rcases look_envF (ops := ops) F E t j with ⟨i, h1, h2, h3⟩ | ⟨h1, h2⟩
  · rw [hg] at h3
    injection h3 with h3
    subst h3
    have hw := ok.slots j o hjn hj t ht i (by omega) (by omega) h2
    rw [if_pos h1] at hw
    obtain ⟨oj, hoj, e, he, hb, hon⟩ := waits_spec hw
    have : oj = o := Option.some.inj (hoj.symm.trans hj)
    subst this
    exact inv.done i t (by rw [← hon]; exact hall e he hb) h2
  · rw [hg] at h2
    refine inv.old t g h2.symm fun i hi hgi => ?_
    have hin : i < n := by
      rcases Nat.lt_or_ge i n with h | h
      · exact h
      · rw [inv.tail i h] at hi; cases hi
    have hij : i ≠ j := fun e => by subst e; rw [hun] at hi; cases hi
    by_cases hlt : i < j
    · exact h1 i hlt hgi
    · have hw := ok.slots j o hjn hj t ht i hin hij hgi
      rw [if_neg hlt] at hw
      obtain ⟨oi, hoi, e, he, hb, hon⟩ := waits_spec hw
      have := inv.closed i oi hoi hi e he hb
      rw [hon, hun] at this
      cases this

theorem Inv.step (inv : Inv wr ops N D n F E listed a w) (ok : Heads N n ops) {j : Nat} {o : Oper} (hjn : j < n) (hj : ops[j]? = some o)
    (hall : ∀ e ∈ o.after, Region.binds .any e = true → listed.getD e.on false = true) {v : Value} {w' : World} (hx : Ext w w') (hf : (F j).ok wr.heap.size v w') :
    Inv wr ops N D n F E (listed.setIfInBounds j true) (a.put o.dst v) w' := by
  have hjs : j < listed.size := by rw [inv.lsize]; exact (Array.getElem?_eq_some_iff.1 hj).1
  have hdst : guardSlot ops j = o.dst := by simp [guardSlot, hj]
  have hd : ∀ t, o.dst = some t → t < a.tmps.size := fun t ht => by rw [inv.size]; exact dstOk_spec ok.dst hj t ht
  refine ⟨inv.ext.trans hx, by rw [defers_put]; exact inv.defers, by rw [size_put]; exact inv.size, by simp [inv.lsize], fun i oi hi hl e he hb => ?_, fun t ht => ?_, fun i t hl hg => ?_, fun t f hf' hno => ?_⟩
  · by_cases hij : j = i
    · subst hij
      have : oi = o := Option.some.inj (hi.symm.trans hj)
      subst this
      exact getD_set_true (hall e he hb)
    · rw [getD_set_ne false hij] at hl
      exact getD_set_true (inv.closed i oi hi hl e he hb)
  · rw [getD_set_ne false (by omega)]
    exact inv.tail t ht
  · by_cases hij : j = i
    · subst hij
      rw [hdst] at hg
      rw [hg, getD_put_same a t v (hd t hg)]
      exact hf
    · rw [getD_set_ne false hij] at hl
      have hin : i < n := by
        rcases Nat.lt_or_ge i n with h | h
        · exact h
        · rw [inv.tail i h] at hl; cases hl
      have hne : o.dst ≠ some t := fun e => by
        rcases Nat.lt_or_ge i j with h | h
        · exact ok.one i j t h hjn hg (by rw [hdst]; exact e)
        · exact ok.one j i t (by omega) hin (by rw [hdst]; exact e) hg
      rw [getD_put_ne a _ t v hne]
      exact Fact.ok_ext (inv.done i t hl hg) hx
  · have hne : o.dst ≠ some t := fun e => hno j (getD_set_self hjs) (by rw [hdst]; exact e)
    rw [getD_put_ne a _ t v hne]
    refine Fact.ok_ext (inv.old t f hf' fun i hi hgi => hno i (getD_set_true hi) hgi) hx

/-- The heads that are still to come. -/
def toCome (n : Nat) (listed : Array Bool) : Nat := ((List.range n).filter fun i => !listed.getD i false).length
theorem toCome_set {j : Nat} (hjn : j < n) (hjs : j < listed.size) (hun : listed.getD j false = false) : toCome n (listed.setIfInBounds j true) + 1 = toCome n listed := by
  unfold toCome
  have key : ∀ l : List Nat, l.Nodup → j ∈ l → ((l.filter fun i => !(listed.setIfInBounds j true).getD i false).length) + 1 = (l.filter fun i => !listed.getD i false).length := by
    intro l
    induction l with
    | nil => intro _ h; cases h
    | cons x l ih =>
      intro hnd hmem
      rw [List.nodup_cons] at hnd
      by_cases hxj : x = j
      · subst hxj
        rw [List.filter_cons_of_neg (by rw [getD_set_self hjs]; simp), List.filter_cons_of_pos (by rw [hun]; rfl), List.length_cons]
        congr 2
        refine List.filter_congr fun i hi => ?_
        rw [getD_set_ne false (fun e => hnd.1 (by rw [e]; exact hi))]
      · have hm : j ∈ l := by
          rcases List.mem_cons.1 hmem with h | h
          · exact absurd h.symm hxj
          · exact h
        have ih' := ih hnd.2 hm
        have e : (listed.setIfInBounds j true).getD x false = listed.getD x false := getD_set_ne false (fun e => hxj e.symm)
        by_cases hx : (!listed.getD x false) = true
        · rw [List.filter_cons_of_pos (p := fun i => !(listed.setIfInBounds j true).getD i false) (by rw [e]; exact hx), List.filter_cons_of_pos (p := fun i => !listed.getD i false) hx, List.length_cons, List.length_cons, ih']
        · rw [List.filter_cons_of_neg (p := fun i => !(listed.setIfInBounds j true).getD i false) (by rw [e]; exact hx), List.filter_cons_of_neg (p := fun i => !listed.getD i false) hx, ih']
  exact key _ List.nodup_range (List.mem_range.2 hjn)
theorem toCome_zero (h : toCome n listed = 0) : ∀ i, i < n → listed.getD i false = true := by
  intro i hi
  cases hl : listed.getD i false with
  | true => rfl
  | false =>
    unfold toCome at h
    have := List.length_eq_zero_iff.1 h
    have hm : i ∈ (List.range n).filter fun i => !listed.getD i false := List.mem_filter.2 ⟨List.mem_range.2 hi, by rw [hl]; rfl⟩
    rw [this] at hm
    cases hm
theorem toCome_pos {m : Nat} (h : toCome n listed = m + 1) : ∃ i, i < n ∧ listed.getD i false = false ∧ ∀ k, k < i → listed.getD k false = true := by
  have hex : ∃ i, i < n ∧ listed.getD i false = false := by
    unfold toCome at h
    have hne : ((List.range n).filter fun i => !listed.getD i false) ≠ [] := fun e => by rw [e] at h; cases h
    obtain ⟨i, hi⟩ := List.exists_mem_of_ne_nil _ hne
    obtain ⟨h1, h2⟩ := List.mem_filter.1 hi
    exact ⟨i, List.mem_range.1 h1, by simpa using h2⟩
  obtain ⟨i, hi, hl⟩ := hex
  induction i using Nat.strongRecOn with
  | _ i ih =>
    by_cases hk : ∀ k, k < i → listed.getD k false = true
    · exact ⟨i, hi, hl, hk⟩
    · obtain ⟨k, hk⟩ := Classical.not_forall.1 hk
      obtain ⟨hki, hkl⟩ := Classical.not_imp.1 hk
      exact ih k hki (by omega) (by simpa using hkl)
end

/-- The chain behind the heads, in its order. -/
theorem any_chain {n : Nat} (hchain : ∀ t, n < t → t < ops.size → waits ops t (t - 1) = true)
    (hback : ∀ j o, ops[j]? = some o → ∀ e ∈ o.after, Region.binds .any e = true → e.on < j) : ∀ (l : List Oper) (k : Nat) (listed : Array Bool) (a : Act) (w : World), n ≤ k → (∀ j, l[j]? = ops[k + j]?) → k + l.length = ops.size →
    listed.size = ops.size → (∀ i, i < k → listed.getD i false = true) → (∀ i, k ≤ i → listed.getD i false = false) → wpList P ops Q l a w → wpAny P .any ops Q l.length listed a w
  | [], k, listed, a, w, hnk, hl, hk, hs, h1, h2, h => by
    refine ⟨?_, h⟩
    cases hr : Region.ready .any ops listed with
    | nil => rfl
    | cons x xs =>
      obtain ⟨hx1, o, ho, _⟩ := mem_ready.1 (hr ▸ List.mem_cons_self : x ∈ Region.ready .any ops listed)
      have hxs := (Array.getElem?_eq_some_iff.1 ho).1
      have := h1 x (by simp at hk; omega)
      rw [getD_true_false hx1] at this
      cases this
  | o :: l, k, listed, a, w, hnk, hl, hk, hs, h1, h2, h => by
    have h0 : ops[k]? = some o := by simpa using (hl 0).symm
    have hks : k < ops.size := (Array.getElem?_eq_some_iff.1 h0).1
    have hkr : k ∈ Region.ready .any ops listed := mem_ready.2 ⟨getD_false_true (by omega) (h2 k (Nat.le_refl _)), o, h0, fun e he hb => h1 _ (hback k o h0 e he hb)⟩
    refine ⟨(fun h' => by rw [h'] at hkr; cases hkr), fun i hi => ?_⟩
    have hik : i = k := by
      obtain ⟨hi1, oi, hoi, hall⟩ := mem_ready.1 hi
      have hi1 := getD_true_false hi1
      rcases Nat.lt_or_ge i k with hlt | hge
      · rw [h1 i hlt] at hi1; cases hi1
      · rcases Nat.eq_or_lt_of_le hge with e | hlt
        · exact e.symm
        · obtain ⟨oi', hoi', e, he, hb, hon⟩ := waits_spec (hchain i (by omega) (Array.getElem?_eq_some_iff.1 hoi).1)
          have : oi' = oi := Option.some.inj (hoi'.symm.trans hoi)
          subst this
          have := hall e he hb
          rw [hon, h2 (i - 1) (by omega)] at this
          cases this
    subst hik
    have hw : wpOp P ops Q i (wpList P ops Q l) a w := by unfold wpOp; simp only [h0]; exact h
    refine wpOp_mono (fun a' w' h' => any_chain hchain hback l (i + 1) _ a' w' (by omega) (fun j => by have := hl (j + 1); simpa [Nat.add_assoc, Nat.add_comm 1 j] using this)
      (by simp only [List.length_cons] at hk; omega) (by simp [hs]) (fun m hm => ?_) (fun m hm => ?_) h') hw
    · by_cases e : m = i
      · subst e; exact getD_set_self (by omega)
      · exact getD_set_true (h1 m (by omega))
    · rw [getD_set_ne false (by omega)]
      exact h2 m (by omega)

theorem net_draw {n : Nat} {F : Nat → Fact} {E : Env} (ok : DrawOk N n ops) (hg : ∀ j o, j < n → ops[j]? = some o → gstep P ops wr (envF ops F 0 E j) o (F j))
    (hq : ∀ a' w', Fr N D wr.heap.size (envF ops F 0 E n) a' w' → Ext wr w' → wpList P ops Q (ops.toList.drop n) a' w') :
    ∀ (m : Nat) (listed : Array Bool) (a : Act) (w : World), toCome n listed = m → Inv wr ops N D n F E listed a w → wpAny P .any ops Q (m + (ops.size - n)) listed a w
  | 0, listed, a, w, hm, inv => by
    have hall := toCome_zero hm
    have hlen : (ops.toList.drop n).length = ops.size - n := by simp
    rw [Nat.zero_add, ← hlen]
    refine any_chain (n := n) ok.chain ok.back (ops.toList.drop n) n listed a w (Nat.le_refl _) (fun j => by simp [List.getElem?_drop]) (by rw [hlen]; have := ok.le; omega) inv.lsize hall inv.tail ?_
    refine hq a w ⟨inv.defers, inv.size, fun t f hf => ?_⟩ inv.ext
    rcases look_envF (ops := ops) F E t n with ⟨i, h1, h2, h3⟩ | ⟨h1, h2⟩
    · rw [hf] at h3
      injection h3 with h3
      subst h3
      exact inv.done i t (hall i h1) h2
    · rw [hf] at h2
      refine inv.old t f h2.symm fun i hi hgi => ?_
      rcases Nat.lt_or_ge i n with h | h
      · exact h1 i h hgi
      · rw [inv.tail i h] at hi; cases hi
  | m + 1, listed, a, w, hm, inv => by
    rw [show m + 1 + (ops.size - n) = (m + (ops.size - n)) + 1 by omega]
    obtain ⟨i0, hi0, hl0, hk0⟩ := toCome_pos hm
    have hi0s : i0 < ops.size := Nat.lt_of_lt_of_le hi0 ok.le
    have hr0 : i0 ∈ Region.ready .any ops listed := mem_ready.2 ⟨getD_false_true (by rw [inv.lsize]; exact hi0s) hl0, ops[i0], Array.getElem?_eq_getElem hi0s, fun e he hb =>
      hk0 _ (ok.back i0 _ (Array.getElem?_eq_getElem hi0s) e he hb)⟩
    refine ⟨(fun h' => by rw [h'] at hr0; cases hr0), fun j hj => ?_⟩
    obtain ⟨hj1, o, ho, hall⟩ := mem_ready.1 hj
    have hj1 := getD_true_false hj1
    have hjn : j < n := by
      rcases Nat.lt_or_ge j n with h | h
      · exact h
      · have hjs := (Array.getElem?_eq_some_iff.1 ho).1
        rcases Nat.eq_or_lt_of_le h with e | hlt
        · subst e
          have := ok.sunk (listed := listed) hjs hi0 (fun i hw => by
            obtain ⟨oj, hoj, e, he, hb, hon⟩ := waits_spec hw
            have : oj = o := Option.some.inj (hoj.symm.trans ho)
            subst this
            exact hon ▸ hall e he hb) inv.closed
          rw [hl0] at this
          cases this
        · obtain ⟨oj, hoj, e, he, hb, hon⟩ := waits_spec (ok.chain j hlt hjs)
          have : oj = o := Option.some.inj (hoj.symm.trans ho)
          subst this
          have := hall e he hb
          rw [hon, inv.tail (j - 1) (by omega)] at this
          cases this
    refine op_of_gstep ho (hg j o hjn ho) inv.ext (fun g b s _ hs => by rw [inv.size]; exact guardSlot_lt ok.dst hs)
      (fun g b s hgd hs f hf => inv.look ok.toHeads hjn ho hj1 hall (by unfold slotsOf; rw [hgd]; simp [hs]) hf)
      (fun t ht f hf => inv.look ok.toHeads hjn ho hj1 hall (List.mem_append.2 (.inl (List.mem_filterMap.2 ⟨.tmp t, Array.mem_toList_iff.2 ht, rfl⟩))) hf) ?_
    intro v w' hx hf
    refine net_draw ok hg hq m _ _ w' ?_ (inv.step ok.toHeads hjn ho hall hx hf)
    have := toCome_set hjn (by rw [inv.lsize]; exact (Array.getElem?_eq_some_iff.1 ho).1) hj1
    omega

/-- A region whose order is drawn: its first n operations met in the order of the text, the chain behind them one by one. -/
theorem reg_draw {id : Nat} {l : List Oper} {E : Env} {a : Act} {w : World} (n : Nat) (hm : P.follows .mixedOrders = true) (hok : drawOk N n l.toArray = true) (hF : Fr N D w.heap.size E a w)
    (h : net P l.toArray w (fun E' => ∀ a' w', Fr N D w.heap.size E' a' w' → Ext w w' → wpList P l.toArray Q (l.drop n) a' w') (l.take n) E) : (Code.region id l.toArray true).wp P Q a w := by
  have ok := drawOk_spec hok
  have hn : n ≤ l.length := by simpa using ok.le
  obtain ⟨F, h1, h2⟩ := net_facts (l.take n) 0 E (fun j hj => by
    have hj' : j < n := by rw [List.length_take] at hj; omega
    simp [hj']) h
  have hlen : (l.take n).length = n := by rw [List.length_take]; omega
  rw [hlen] at h1 h2
  refine wp_region_any hm ?_
  have hc : toCome n (Array.replicate l.toArray.size false) = n := by
    unfold toCome
    rw [List.filter_eq_self.2 (fun i hi => by
      have : i < l.length := by have := List.mem_range.1 hi; omega
      simp [this]), List.length_range]
  have hrep : ∀ t, (Array.replicate l.toArray.size false).getD t false = false := fun t => by
    rcases Nat.lt_or_ge t l.toArray.size with h | h
    · simp only [Array.getD, Array.size_replicate]; split <;> simp
    · simp only [Array.getD, Array.size_replicate]; split <;> simp
  have := net_draw (Q := Q) (ops := l.toArray) ok (fun j o hj ho => by have := h1 j o hj (by simpa using ho); simpa using this) (fun a' w' hF' hx' => by simpa using h2 a' w' hF' hx')
    n (Array.replicate l.toArray.size false) a { w with drawn := w.drawn + 1 } hc
    ⟨Ext.drawn _ _, hF.defers, hF.size, by simp, (fun j o _ hl => by rw [hrep] at hl; cases hl), fun t _ => hrep t, (fun j t hl => by rw [hrep] at hl; cases hl),
      fun t f hf _ => Fact.ok_ext (hF.at_ t f hf) (Ext.drawn _ _)⟩
  rw [show n + (l.toArray.size - n) = l.toArray.size by have := ok.le; omega] at this
  exact this
end
end Go.Proofs.Ythgpojlcbbgaoaa
