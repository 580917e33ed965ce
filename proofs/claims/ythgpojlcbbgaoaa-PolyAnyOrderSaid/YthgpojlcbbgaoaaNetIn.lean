/- The calculus of 'Net' once more, inside the wide fence and in a round of a range over a function. Plain theorems. -/
import Derived.Test.YthgpojlcbbgaoaaCtl
import Derived.OrdersIn
import Derived.TacticsIn
import Derived.OwnWalkIn
import Derived.RangeFuncBound
import Derived.RangeFuncCalls
import Derived.RangeFuncLeaves
import Derived.Sort.LoopGhostIn
set_option autoImplicit false
set_option linter.unusedVariables false
namespace Go.Proofs.Ythgpojlcbbgaoaa
open Go.RowKit

/-- A fence that lets everything in. -/
structure FW (F : Fence) : Prop where
  fn : ∀ f, F.fn f
  depth : F.depth = none
  calls : ∀ {P : Program} {f : FuncId} {args : Array Value} {w : World} {R : Ending → World → Prop} (n : Nat), Calls P f args w R → CallsIn F n P f args w R
theorem fw_wide : FW Fence.wide := ⟨fun _ => trivial, rfl, fun n h => callsIn_wide.2 h⟩
theorem fw_round (l : Nat) : FW (Fence.wide.inRound l) := ⟨fun _ => trivial, rfl, fun n h => CallsIn.inRound l (callsIn_wide.2 h)⟩

section
variable {P : Program} {ops : Array Oper} {wr : World} {N : Nat} {D : List Deferred} {Q : Exit → Act → World → Prop} {fin : Env → Prop} {Fe : Fence} {rm : Nat}

theorem nup_defer {f : Fact} {B : Nat} {w : World} {o : Oper} {ρ : Operand → Value} {c : Call} (ho : o.op = .defer c) (h : nup P B f w ((execOp ρ o).run P w)) : False := by
  unfold execOp at h
  rw [ho] at h
  simp only [Sem.run_bind] at h
  generalize (resolve ρ c o.type).run P w = r at h
  cases r with
  | ok d w' => simp [nup] at h
  | halt x w' => simp [nup] at h

/-- One operation comes up. -/
theorem op_of_gstepIn (fw : FW Fe) {o : Oper} {f : Fact} {E : Env} {a : Act} {w : World} {K : Act → World → Prop} {i : Nat} (hi : ops[i]? = some o) (hg : gstep P ops wr E o f) (hx : Ext wr w)
    (hgs : ∀ j b s, o.guard = some (j, b) → guardSlot ops j = some s → s < a.tmps.size)
    (hgf : ∀ j b s, o.guard = some (j, b) → guardSlot ops j = some s → ∀ g, look E s = some g → g.ok wr.heap.size (a.tmps.getD s undef) w)
    (hop : ∀ t, Operand.tmp t ∈ o.op.operands → ∀ g, look E t = some g → g.ok wr.heap.size (a.tmps.getD t undef) w)
    (hK : ∀ v w', Ext w w' → f.ok wr.heap.size v w' → K (a.put o.dst v) w') : wpOpIn Fe rm P ops Q i K a w := by
  have hn : nstep P wr E o f → o.wpIn Fe rm P a w K Q := fun h => by
    have h3 := h a w hx hop
    have hnd : ∀ c, o.op ≠ .defer c := fun c hc => nup_defer hc h3
    refine ⟨fun f _ => fw.fn f, ?_⟩
    rw [Oper.semAt_eq Fe.round a.eval o hnd]
    revert h3
    generalize (execOp a.eval o).run P w = r
    intro h3
    cases r with
    | ok n w' =>
      cases n <;> simp only [nup] at h3 <;> simp only [Oper.uponIn]
      case value u => exact hK _ _ h3.1 h3.2
      case skip => exact hK _ _ h3.1 h3.2
      case enter g args => exact ⟨fun hd => by rw [fw.depth] at hd; simp at hd, fw.calls _ (h3.mono fun e w'' ⟨u, he, h1, h2⟩ => by subst he; exact hK _ _ h1 h2)⟩
    | halt h w' => simp only [nup] at h3
  unfold wpOpIn
  rw [hi]
  dsimp only
  unfold gstep at hg
  cases hgd : o.guard with
  | none =>
    rw [hgd] at hg
    rw [if_pos (by simp [Region.wanted, hgd])]
    exact hn hg
  | some p =>
    obtain ⟨j, b⟩ := p
    rw [hgd] at hg
    obtain ⟨s, gf, y, hs, hl, hgv, h1, h2⟩ := hg
    rcases hgv _ _ _ (hgf j b s hgd hs _ hl) with ⟨hv, hcb⟩ | ⟨hv, hcb⟩
    · have hy := yielded_of hs hv (hgs j b s hgd hs)
      rw [if_pos (by simp [Region.wanted, hgd, hy])]
      exact hn (h1 hcb)
    · have hy : yielded ops a.tmps j ≠ some b := by
        rcases hv with hv | hv
        · rw [yielded_of hs hv (hgs j b s hgd hs)]
          cases b <;> simp
        · rw [yielded_none hs hv]
          simp
      rw [if_neg (by simp [Region.wanted, hgd, hy])]
      exact ⟨fun f _ => fw.fn f, hK _ _ (Ext.refl _) (h2 hcb w)⟩
theorem net_listIn (fw : FW Fe) (hd : dstOk N ops = true) : ∀ (l : List Oper) (k : Nat) (E : Env) (a : Act) (w : World), (∀ j, j < l.length → l[j]? = ops[k + j]?) → ∀ (tail : List Oper),
    net P ops wr fin l E → Fr N D wr.heap.size E a w → Ext wr w → (∀ E' a' w', fin E' → Fr N D wr.heap.size E' a' w' → Ext wr w' → wpListIn Fe rm P ops Q tail a' w') → wpListIn Fe rm P ops Q (l ++ tail) a w
  | [], _, E, a, w, _, tail, h, hF, hx, hq => hq E a w h hF hx
  | o :: l, k, E, a, w, hl, tail, h, hF, hx, hq => by
    obtain ⟨f, hg, hr⟩ := h
    have h0 : ops[k]? = some o := by simpa using (hl 0 (by simp)).symm
    have hW : wpOpIn Fe rm P ops Q k (wpListIn Fe rm P ops Q (l ++ tail)) a w := by
      refine op_of_gstepIn fw h0 hg hx (fun j b s _ hs => by rw [hF.size]; exact guardSlot_lt hd hs) (fun j b s _ _ g hg' => hF.at_ s g hg') (fun t _ g hg' => hF.at_ t g hg') ?_
      intro v w' hx' hf
      exact net_listIn fw hd l (k + 1) (putE E o.dst f) _ w' (fun j hj => by have := hl (j + 1) (by simpa using hj); simpa [Nat.add_assoc, Nat.add_comm 1 j] using this) tail hr
        (hF.put hx' (dstOk_spec hd h0) hf) (hx.trans hx') hq
    unfold wpOpIn at hW
    rw [h0] at hW
    exact hW

/-- A region that draws nothing: as far as its first n operations; the rest one by one. -/
theorem reg_seqIn (fw : FW Fe) {id : Nat} {l : List Oper} {E : Env} {a : Act} {w : World} (n : Nat) (hF : Fr N D w.heap.size E a w) (hd : dstOk N l.toArray = true)
    (h : net P l.toArray w (fun E' => ∀ a' w', Fr N D w.heap.size E' a' w' → Ext w w' → wpListIn Fe rm P l.toArray Q (l.drop n) a' w') (l.take n) E) : (Code.region id l.toArray false).wpIn Fe rm P Q a w := by
  refine wpIn_region_lit ?_
  have := net_listIn (Q := Q) fw hd (l.take n) 0 E a w (fun j hj => by
    have hj' : j < n := by rw [List.length_take] at hj; omega
    simp [hj']) (l.drop n) h hF (Ext.refl w) (fun E' a' w' hE hF' hx' => hE a' w' hF' hx')
  rwa [List.take_append_drop] at this
/-- The chain behind the heads, in its order. -/
theorem any_chainIn {n : Nat} (hchain : ∀ t, n < t → t < ops.size → waits ops t (t - 1) = true)
    (hback : ∀ j o, ops[j]? = some o → ∀ e ∈ o.after, Region.binds .any e = true → e.on < j) : ∀ (l : List Oper) (k : Nat) (listed : Array Bool) (a : Act) (w : World), n ≤ k → (∀ j, l[j]? = ops[k + j]?) → k + l.length = ops.size →
    listed.size = ops.size → (∀ i, i < k → listed.getD i false = true) → (∀ i, k ≤ i → listed.getD i false = false) → wpListIn Fe rm P ops Q l a w → wpAnyIn Fe rm P .any ops Q l.length listed a w
  | [], k, listed, a, w, hnk, hl, hk, hs, h1, h2, h => by
    refine ⟨?_, h⟩
    cases hr : Region.ready .any ops listed with
    | nil => rfl
    | cons x xs =>
      obtain ⟨hx1, o, ho, _⟩ := mem_ready.1 (hr ▸ List.mem_cons_self : x ∈ Region.ready .any ops listed)
      have hxs := (Array.getElem?_eq_some_iff.1 ho).1
      have := h1 x (by simp at hk; omega)
      rw [getD_true_false hx1] at this
      cases this
  | o :: l, k, listed, a, w, hnk, hl, hk, hs, h1, h2, h => by
    have h0 : ops[k]? = some o := by simpa using (hl 0).symm
    have hks : k < ops.size := (Array.getElem?_eq_some_iff.1 h0).1
    have hkr : k ∈ Region.ready .any ops listed := mem_ready.2 ⟨getD_false_true (by omega) (h2 k (Nat.le_refl _)), o, h0, fun e he hb => h1 _ (hback k o h0 e he hb)⟩
    refine ⟨(fun h' => by rw [h'] at hkr; cases hkr), fun i hi => ?_⟩
    have hik : i = k := by
      obtain ⟨hi1, oi, hoi, hall⟩ := mem_ready.1 hi
      have hi1 := getD_true_false hi1
      rcases Nat.lt_or_ge i k with hlt | hge
      · rw [h1 i hlt] at hi1; cases hi1
      · rcases Nat.eq_or_lt_of_le hge with e | hlt
        · exact e.symm
        · obtain ⟨oi', hoi', e, he, hb, hon⟩ := waits_spec (hchain i (by omega) (Array.getElem?_eq_some_iff.1 hoi).1)
          have : oi' = oi := Option.some.inj (hoi'.symm.trans hoi)
          subst this
          have := hall e he hb
          rw [hon, h2 (i - 1) (by omega)] at this
          cases this
    subst hik
    have hw : wpOpIn Fe rm P ops Q i (wpListIn Fe rm P ops Q l) a w := by unfold wpOpIn; simp only [h0]; exact h
    refine wpOpIn_mono (fun a' w' h' => any_chainIn hchain hback l (i + 1) _ a' w' (by omega) (fun j => by have := hl (j + 1); simpa [Nat.add_assoc, Nat.add_comm 1 j] using this)
      (by simp only [List.length_cons] at hk; omega) (by simp [hs]) (fun m hm => ?_) (fun m hm => ?_) h') hw
    · by_cases e : m = i
      · subst e; exact getD_set_self (by omega)
      · exact getD_set_true (h1 m (by omega))
    · rw [getD_set_ne false (by omega)]
      exact h2 m (by omega)

theorem net_drawIn (fw : FW Fe) {n : Nat} {F : Nat → Fact} {E : Env} (ok : DrawOk N n ops) (hg : ∀ j o, j < n → ops[j]? = some o → gstep P ops wr (envF ops F 0 E j) o (F j))
    (hq : ∀ a' w', Fr N D wr.heap.size (envF ops F 0 E n) a' w' → Ext wr w' → wpListIn Fe rm P ops Q (ops.toList.drop n) a' w') :
    ∀ (m : Nat) (listed : Array Bool) (a : Act) (w : World), toCome n listed = m → Inv wr ops N D n F E listed a w → wpAnyIn Fe rm P .any ops Q (m + (ops.size - n)) listed a w
  | 0, listed, a, w, hm, inv => by
    have hall := toCome_zero hm
    have hlen : (ops.toList.drop n).length = ops.size - n := by simp
    rw [Nat.zero_add, ← hlen]
    refine any_chainIn (n := n) ok.chain ok.back (ops.toList.drop n) n listed a w (Nat.le_refl _) (fun j => by simp [List.getElem?_drop]) (by rw [hlen]; have := ok.le; omega) inv.lsize hall inv.tail ?_
    refine hq a w ⟨inv.defers, inv.size, fun t f hf => ?_⟩ inv.ext
    rcases look_envF (ops := ops) F E t n with ⟨i, h1, h2, h3⟩ | ⟨h1, h2⟩
    · rw [hf] at h3
      injection h3 with h3
      subst h3
      exact inv.done i t (hall i h1) h2
    · rw [hf] at h2
      refine inv.old t f h2.symm fun i hi hgi => ?_
      rcases Nat.lt_or_ge i n with h | h
      · exact h1 i h hgi
      · rw [inv.tail i h] at hi; cases hi
  | m + 1, listed, a, w, hm, inv => by
    rw [show m + 1 + (ops.size - n) = (m + (ops.size - n)) + 1 by omega]
    obtain ⟨i0, hi0, hl0, hk0⟩ := toCome_pos hm
    have hi0s : i0 < ops.size := Nat.lt_of_lt_of_le hi0 ok.le
    have hr0 : i0 ∈ Region.ready .any ops listed := mem_ready.2 ⟨getD_false_true (by rw [inv.lsize]; exact hi0s) hl0, ops[i0], Array.getElem?_eq_getElem hi0s, fun e he hb =>
      hk0 _ (ok.back i0 _ (Array.getElem?_eq_getElem hi0s) e he hb)⟩
    refine ⟨(fun h' => by rw [h'] at hr0; cases hr0), fun j hj => ?_⟩
    obtain ⟨hj1, o, ho, hall⟩ := mem_ready.1 hj
    have hj1 := getD_true_false hj1
    have hjn : j < n := by
      rcases Nat.lt_or_ge j n with h | h
      · exact h
      · have hjs := (Array.getElem?_eq_some_iff.1 ho).1
        rcases Nat.eq_or_lt_of_le h with e | hlt
        · subst e
          have := ok.sunk (listed := listed) hjs hi0 (fun i hw => by
            obtain ⟨oj, hoj, e, he, hb, hon⟩ := waits_spec hw
            have : oj = o := Option.some.inj (hoj.symm.trans ho)
            subst this
            exact hon ▸ hall e he hb) inv.closed
          rw [hl0] at this
          cases this
        · obtain ⟨oj, hoj, e, he, hb, hon⟩ := waits_spec (ok.chain j hlt hjs)
          have : oj = o := Option.some.inj (hoj.symm.trans ho)
          subst this
          have := hall e he hb
          rw [hon, inv.tail (j - 1) (by omega)] at this
          cases this
    refine op_of_gstepIn fw ho (hg j o hjn ho) inv.ext (fun g b s _ hs => by rw [inv.size]; exact guardSlot_lt ok.dst hs)
      (fun g b s hgd hs f hf => inv.look ok.toHeads hjn ho hj1 hall (by unfold slotsOf; rw [hgd]; simp [hs]) hf)
      (fun t ht f hf => inv.look ok.toHeads hjn ho hj1 hall (List.mem_append.2 (.inl (List.mem_filterMap.2 ⟨.tmp t, Array.mem_toList_iff.2 ht, rfl⟩))) hf) ?_
    intro v w' hx hf
    refine net_drawIn fw ok hg hq m _ _ w' ?_ (inv.step ok.toHeads hjn ho hall hx hf)
    have := toCome_set hjn (by rw [inv.lsize]; exact (Array.getElem?_eq_some_iff.1 ho).1) hj1
    omega

/-- A region whose order is drawn: its first n operations met in the order of the text, the chain behind them one by one. -/
theorem reg_drawIn (fw : FW Fe) {id : Nat} {l : List Oper} {E : Env} {a : Act} {w : World} (n : Nat) (hm : P.follows .mixedOrders = true) (hok : drawOk N n l.toArray = true) (hF : Fr N D w.heap.size E a w)
    (h : net P l.toArray w (fun E' => ∀ a' w', Fr N D w.heap.size E' a' w' → Ext w w' → wpListIn Fe rm P l.toArray Q (l.drop n) a' w') (l.take n) E) : (Code.region id l.toArray true).wpIn Fe rm P Q a w := by
  have ok := drawOk_spec hok
  have hn : n ≤ l.length := by simpa using ok.le
  obtain ⟨F, h1, h2⟩ := net_facts (l.take n) 0 E (fun j hj => by
    have hj' : j < n := by rw [List.length_take] at hj; omega
    simp [hj']) h
  have hlen : (l.take n).length = n := by rw [List.length_take]; omega
  rw [hlen] at h1 h2
  refine wpIn_region_any hm ?_
  have hc : toCome n (Array.replicate l.toArray.size false) = n := by
    unfold toCome
    rw [List.filter_eq_self.2 (fun i hi => by
      have : i < l.length := by have := List.mem_range.1 hi; omega
      simp [this]), List.length_range]
  have hrep : ∀ t, (Array.replicate l.toArray.size false).getD t false = false := fun t => by
    rcases Nat.lt_or_ge t l.toArray.size with h | h
    · simp only [Array.getD, Array.size_replicate]; split <;> simp
    · simp only [Array.getD, Array.size_replicate]; split <;> simp
  have := net_drawIn (Q := Q) fw (ops := l.toArray) ok (fun j o hj ho => by have := h1 j o hj (by simpa using ho); simpa using this) (fun a' w' hF' hx' => by simpa using h2 a' w' hF' hx')
    n (Array.replicate l.toArray.size false) a { w with drawn := w.drawn + 1 } hc
    ⟨Ext.drawn _ _, hF.defers, hF.size, by simp, (fun j o _ hl => by rw [hrep] at hl; cases hl), fun t _ => hrep t, (fun j t hl => by rw [hrep] at hl; cases hl),
      fun t f hf _ => Fact.ok_ext (hF.at_ t f hf) (Ext.drawn _ _)⟩
  rw [show n + (l.toArray.size - n) = l.toArray.size by have := ok.le; omega] at this
  exact this

variable {w0 w : World} {M : List Ent}
/-- A store into a block of the call's own. -/
theorem t_storeIn (fw : FW Fe) {ops : Array Oper} {rest : List Oper} {o : Oper} {a : Act} {Q : Exit → Act → World → Prop} {ty : TypeId} {x y : Operand} {D : List Deferred} {N n i b off : Nat} {t : TypeId} {E : Env} {cs vs cs' : List Value} {v : Value}
    (hg : o.guard = none) (hd : o.dst = none) (ho : o.op = .store ty x y) (hF : FrV N D E a) (hw : Own w0 w M) (hi : M[i]? = some (.blk b t cs)) (hx : Ev E x (.pointer (some ⟨b, off, none⟩))) (hy : Ev E y v)
    (hv : v.cells = vs.toArray) (h1 : ∀ u ∈ vs, u.oneCell' = true) (hz : ∀ w, (sizeOf ty).run P w = .ok n w) (hn : vs.length = n) (hlen : off + n ≤ cs.length) (hcs : seg cs off vs = cs')
    (h : ∀ w', Own w0 w' (M.set i (.blk b t cs')) → wpListIn Fe rm P ops Q rest a w') : wpListIn Fe rm P ops Q (o :: rest) a w := by
  have hb := (hw.ok _ (List.mem_of_getElem? hi)).2
  obtain ⟨w', hr, hh, e1, e2, e3, e4, e5⟩ := run_storeCells (P := P) vs w off 0 cs.toArray hb h1 (by simp; omega)
  have hrun : (execOp a.eval o).run P w = .ok .skip w' := by
    unfold execOp
    rw [ho]
    simp only [Instr.storeAt, Instr.sureAddr, hF.ev hx, hF.ev hy, storeVar, hv]
    simp [hz, hn, hr]
  subst hcs
  refine wpListIn_plain hg fun K hK => ?_
  refine ⟨fun f _ => fw.fn f, ?_⟩
  rw [Oper.semAt_eq Fe.round a.eval o (fun c hc => by rw [ho] at hc; cases hc)]
  rw [hrun]
  refine hK _ _ ?_
  rw [hd]
  exact h w' (hw.stored hi (by simpa using hh) e1 e2 e3 e4 e5)

/-- Operations of a region that draws nothing: the next k. -/
theorem t_netIn (fw : FW Fe) {ops : Array Oper} {l : List Oper} {a : Act} {Q : Exit → Act → World → Prop} {D : List Deferred} {N : Nat} {E : Env} (s k : Nat) (hd : dstOk N ops = true) (hs : ops.toList.drop s = l) (hF : FrV N D E a)
    (h : net P ops w (fun E' => ∀ a' w', Fr N D w.heap.size E' a' w' → Ext w w' → wpListIn Fe rm P ops Q (l.drop k) a' w') (l.take k) E) : wpListIn Fe rm P ops Q l a w := by
  have := net_listIn (Q := Q) fw (fin := fun E' => ∀ a' w', Fr N D w.heap.size E' a' w' → Ext w w' → wpListIn Fe rm P ops Q (l.drop k) a' w') hd (l.take k) s E a w (fun j hj => by
    have hj' : j < k := by rw [List.length_take] at hj; omega
    subst hs
    rw [List.getElem?_take, if_pos hj', List.getElem?_drop, Array.getElem?_toList]) (l.drop k) h (hF _ _) (Ext.refl w) (fun E' a' w' hE hF' hx' => hE a' w' hF' hx')
  rwa [List.take_append_drop] at this
end

theorem wpIn_loop_ix {P : Program} {Q : Exit → Act → World → Prop} {a : Act} {w : World} {c : Code} {F : Fence} {rm : Nat} {α : Type} (Inv : α → Act → World → Prop) (m : α → Nat) (x0 : α) (h0 : Inv x0 a w)
    (round : ∀ x a w, Inv x a w → c.wpIn F rm P (Exit.then (fun a' w' => ∃ x', Inv x' a' w' ∧ m x' < m x) Q) a w) : (Code.loop c).wpIn F rm P Q a w := by
  refine wpIn_loop_ghost (fun n a w => ∃ x, m x = n ∧ Inv x a w) (m x0) ⟨x0, rfl, h0⟩ ?_
  rintro n a w ⟨x, rfl, hx⟩
  refine wpIn_mono (round x a w hx) ?_
  intro e a' w' hq
  cases e with
  | normal => obtain ⟨x', h1, h2⟩ := hq; exact ⟨m x', h2, x', rfl, h1⟩
  | _ => exact hq
end Go.Proofs.Ythgpojlcbbgaoaa
