/- A region whose order is drawn and whose stores may come up before other operations: the world goes through phases, one a store; what is known of slots are plain values. Plain theorems. -/
import Derived.Test.YthgpojlcbbgaoaaNum
set_option autoImplicit false
namespace Go.Proofs.Ythgpojlcbbgaoaa
open Go.RowKit

section
variable {P : Program} {ops : Array Oper} {N : Nat} {D : List Deferred} {Q : Exit → Act → World → Prop} {fin : Env → Prop} {W : Nat → World → Prop} {T : List Nat} {ph : List (Nat × Nat)}

/-- The phases in which operation i may come up. -/
def lo (ph : List (Nat × Nat)) (i : Nat) : Nat := (ph.getD i (0, 0)).1
def hi (ph : List (Nat × Nat)) (i : Nat) : Nat := (ph.getD i (0, 0)).2

/-- One operation that is no store. -/
def pstep (P : Program) (W : Nat → World → Prop) (ph : List (Nat × Nat)) (i : Nat) (E : Env) (o : Oper) (v : Value) : Prop :=
  ∀ k, lo ph i ≤ k → k ≤ hi ph i → ∀ w, W k w → nstep P w E o (.is v)
/-- A store. -/
def tstep (P : Program) (W : Nat → World → Prop) (m : Nat) (E : Env) (o : Oper) : Prop :=
  ∀ (a : Act) (w : World), W m w → (∀ t, Operand.tmp t ∈ o.op.operands → ∀ v, look E t = some (.is v) → a.tmps.getD t undef = v) → ∃ w', (execOp a.eval o).run P w = .ok .skip w' ∧ W (m + 1) w'

def netP (P : Program) (W : Nat → World → Prop) (T : List Nat) (ph : List (Nat × Nat)) (fin : Env → Prop) : List Oper → Nat → Env → Prop
  | [], _, E => fin E
  | o :: rest, i, E => match T.idxOf? i with
    | some m => o.dst = none ∧ tstep P W m E o ∧ netP P W T ph fin rest (i + 1) E
    | none => ∃ v, pstep P W ph i E o v ∧ netP P W T ph fin rest (i + 1) (putE E o.dst (.is v))

theorem netP_nil {i : Nat} {E : Env} (h : fin E) : netP P W T ph fin [] i E := h
theorem netP_cons {o : Oper} {rest : List Oper} {i : Nat} {E : Env} {v : Value} {d : Nat} (ht : T.idxOf? i = none) (hd : o.dst = some d) (h : pstep P W ph i E o v) (hr : netP P W T ph fin rest (i + 1) ((d, .is v) :: E)) : netP P W T ph fin (o :: rest) i E := by
  unfold netP
  rw [ht]
  exact ⟨v, h, by rw [hd]; exact hr⟩
theorem netP_store {o : Oper} {rest : List Oper} {i m : Nat} {E : Env} (ht : T.idxOf? i = some m) (hd : o.dst = none) (h : tstep P W m E o) (hr : netP P W T ph fin rest (i + 1) E) : netP P W T ph fin (o :: rest) i E := by
  unfold netP
  rw [ht]
  exact ⟨hd, h, hr⟩
/-- Whatever the phase. -/
theorem pstep_any {i : Nat} {E : Env} {o : Oper} {v : Value} (h : ∀ w, nstep P w E o (.is v)) : pstep P W ph i E o v := fun _ _ _ w _ => h w
/-- In one phase alone. -/
theorem pstep_at {i : Nat} {E : Env} {o : Oper} {v : Value} (k : Nat) (h1 : lo ph i = k) (h2 : hi ph i = k) (h : ∀ w, W k w → nstep P w E o (.is v)) : pstep P W ph i E o v := fun k' a b w hw => by
  have : k' = k := by omega
  subst this
  exact h w hw

/-- What is asked of the edges. -/
def phaseOk (N : Nat) (T : List Nat) (ph : List (Nat × Nat)) (ops : Array Oper) : Bool :=
  drawOk N ops.size ops && (ops.toList.all fun o => o.guard.isNone) && (T.all fun i => Nat.blt i ops.size) &&
  (below (T.length - 1) fun m => waits ops (T.getD (m + 1) 0) (T.getD m 0)) &&
  (below ops.size fun i => match T.idxOf? i with
    | some _ => true
    | none => Nat.ble (lo ph i) T.length && (Nat.beq (lo ph i) 0 || waits ops i (T.getD (lo ph i - 1) 0)) && (Nat.ble T.length (hi ph i) || waits ops (T.getD (hi ph i) 0) i))

theorem netP_facts : ∀ (l : List Oper) (k : Nat) (E : Env), (∀ j, j < l.length → l[j]? = ops[k + j]?) → netP P W T ph fin l k E →
    ∃ F : Nat → Fact, (∀ i, ∃ v, F i = .is v) ∧ (∀ j o, j < l.length → ops[k + j]? = some o → match T.idxOf? (k + j) with
      | some m => o.dst = none ∧ tstep P W m (envF ops F k E j) o
      | none => ∃ v, F (k + j) = .is v ∧ pstep P W ph (k + j) (envF ops F k E j) o v) ∧ fin (envF ops F k E l.length)
  | [], _, E, _, h => ⟨fun _ => .is undef, fun _ => ⟨_, rfl⟩, fun j o hj => absurd hj (by simp), h⟩
  | o :: l, k, E, hl, h => by
    have h0 : ops[k]? = some o := by simpa using (hl 0 (by simp)).symm
    have hgs : guardSlot ops k = o.dst := by simp [guardSlot, h0]
    have hl' : ∀ j, j < l.length → l[j]? = ops[k + 1 + j]? := fun j hj => by have := hl (j + 1) (by simpa using hj); simpa [Nat.add_assoc, Nat.add_comm 1 j] using this
    have key : ∀ (f : Fact) (v : Value), f = .is v → netP P W T ph fin l (k + 1) (putE E o.dst f) → (match T.idxOf? k with
        | some m => o.dst = none ∧ tstep P W m E o
        | none => ∃ v, f = .is v ∧ pstep P W ph k E o v) →
        ∃ F : Nat → Fact, (∀ i, ∃ v, F i = .is v) ∧ (∀ j o', j < (o :: l).length → ops[k + j]? = some o' → match T.idxOf? (k + j) with
          | some m => o'.dst = none ∧ tstep P W m (envF ops F k E j) o'
          | none => ∃ v, F (k + j) = .is v ∧ pstep P W ph (k + j) (envF ops F k E j) o' v) ∧ fin (envF ops F k E (o :: l).length) := by
      intro f v hfv hr hstep
      obtain ⟨F', h1, h2, h3⟩ := netP_facts l (k + 1) (putE E o.dst f) hl' hr
      have hc : ∀ i, k + 1 ≤ i → (fun i => if i = k then f else F' i) i = F' i := fun i hi => if_neg (by omega)
      refine ⟨fun i => if i = k then f else F' i, fun i => ?_, fun j o' hj ho' => ?_, ?_⟩
      · by_cases e : i = k
        · exact ⟨v, by simp [e, hfv]⟩
        · obtain ⟨u, hu⟩ := h1 i
          exact ⟨u, by simp [e, hu]⟩
      · cases j with
        | zero =>
          have : o' = o := Option.some.inj (ho'.symm.trans (by simpa using h0))
          subst this
          simpa [envF] using hstep
        | succ j =>
          have h4 := h2 j o' (by simpa using hj) (by rw [← ho']; congr 1; omega)
          rw [show k + 1 + j = k + (j + 1) by omega] at h4
          rw [envF_shift, hgs]
          simp only [if_true]
          rw [envF_congr (F' := F') hc _ j]
          have : ¬ (k + (j + 1) = k) := by omega
          simp only [this, if_false]
          exact h4
      · rw [List.length_cons, envF_shift, hgs]
        simp only [if_true]
        rw [envF_congr (F' := F') hc _ _]
        exact h3
    unfold netP at h
    cases ht : T.idxOf? k with
    | some m =>
      rw [ht] at h
      obtain ⟨h1, h2, h3⟩ := h
      refine key (.is undef) undef rfl (by rw [h1]; exact h3) ?_
      rw [ht]
      exact ⟨h1, h2⟩
    | none =>
      rw [ht] at h
      obtain ⟨v, h1, h2⟩ := h
      refine key (.is v) v rfl h2 ?_
      rw [ht]
      exact ⟨v, rfl, h1⟩

/-- What holds when the operations in 'listed' have come up, k stores among them. -/
structure InvP (W : Nat → World → Prop) (T : List Nat) (ops : Array Oper) (N : Nat) (D : List Deferred) (F : Nat → Fact) (E : Env) (k : Nat) (listed : Array Bool) (a : Act) (w : World) : Prop where
  phase : W k w
  le : k ≤ T.length
  defers : a.defers = D
  size : a.tmps.size = N
  lsize : listed.size = ops.size
  closed : ∀ j o, ops[j]? = some o → listed.getD j false = true → ∀ e ∈ o.after, Region.binds .any e = true → listed.getD e.on false = true
  past : ∀ m i, T[m]? = some i → m < k → listed.getD i false = true
  next : ∀ m i, T[m]? = some i → k ≤ m → listed.getD i false = false
  done : ∀ j t v, listed.getD j false = true → guardSlot ops j = some t → F j = .is v → a.tmps.getD t undef = v
  old : ∀ t v, look E t = some (.is v) → (∀ j, listed.getD j false = true → guardSlot ops j ≠ some t) → a.tmps.getD t undef = v

theorem InvP.look {F : Nat → Fact} {E : Env} {k : Nat} {listed : Array Bool} {a : Act} {w : World} (inv : InvP W T ops N D F E k listed a w) (ok : DrawOk N ops.size ops) {j : Nat} {o : Oper} (hj : ops[j]? = some o)
    (hun : listed.getD j false = false) (hall : ∀ e ∈ o.after, Region.binds .any e = true → listed.getD e.on false = true) {t : Nat} (ht : t ∈ slotsOf ops o) {v : Value} (hg : look (envF ops F 0 E j) t = some (.is v)) :
    a.tmps.getD t undef = v := by
  have hjn : j < ops.size := (Array.getElem?_eq_some_iff.1 hj).1
  rcases look_envF (ops := ops) F E t j with ⟨i, h1, h2, h3⟩ | ⟨h1, h2⟩
  · rw [hg] at h3
    injection h3 with h3
    have hw := ok.slots j o hjn hj t ht i (by omega) (by omega) h2
    rw [if_pos h1] at hw
    obtain ⟨oj, hoj, e, he, hb, hon⟩ := waits_spec hw
    have : oj = o := Option.some.inj (hoj.symm.trans hj)
    subst this
    exact inv.done i t v (by rw [← hon]; exact hall e he hb) h2 h3.symm
  · rw [hg] at h2
    refine inv.old t v h2.symm fun i hi hgi => ?_
    have hin : i < ops.size := by
      rcases Nat.lt_or_ge i ops.size with h | h
      · exact h
      · unfold guardSlot at hgi
        rw [Array.getElem?_eq_none h] at hgi
        cases hgi
    have hij : i ≠ j := fun e => by subst e; rw [hun] at hi; cases hi
    by_cases hlt : i < j
    · exact h1 i hlt hgi
    · have hw := ok.slots j o hjn hj t ht i hin hij hgi
      rw [if_neg hlt] at hw
      obtain ⟨oi, hoi, e, he, hb, hon⟩ := waits_spec hw
      have := inv.closed i oi hoi hi e he hb
      rw [hon, hun] at this
      cases this

theorem InvP.step {F : Nat → Fact} {E : Env} {k k' : Nat} {listed : Array Bool} {a : Act} {w w' : World} (inv : InvP W T ops N D F E k listed a w) (ok : DrawOk N ops.size ops) {j : Nat} {o : Oper} (hj : ops[j]? = some o)
    (hall : ∀ e ∈ o.after, Region.binds .any e = true → listed.getD e.on false = true) {v : Value} (hf : ∀ t, o.dst = some t → F j = .is v) (hW : W k' w') (hle : k' ≤ T.length)
    (hp : ∀ m i, T[m]? = some i → m < k' → listed.getD i false = true ∨ i = j) (hn : ∀ m i, T[m]? = some i → k' ≤ m → listed.getD i false = false ∧ i ≠ j) :
    InvP W T ops N D F E k' (listed.setIfInBounds j true) (a.put o.dst v) w' := by
  have hjs : j < listed.size := by rw [inv.lsize]; exact (Array.getElem?_eq_some_iff.1 hj).1
  have hdst : guardSlot ops j = o.dst := by simp [guardSlot, hj]
  have hd : ∀ t, o.dst = some t → t < a.tmps.size := fun t ht => by rw [inv.size]; exact dstOk_spec ok.dst hj t ht
  refine ⟨hW, hle, by rw [defers_put]; exact inv.defers, by rw [size_put]; exact inv.size, by simp [inv.lsize], fun i oi hi hl e he hb => ?_, fun m i hm hk => ?_, fun m i hm hk => ?_, fun i t u hl hg hu => ?_, fun t u hf' hno => ?_⟩
  · by_cases hij : j = i
    · subst hij
      have : oi = o := Option.some.inj (hi.symm.trans hj)
      subst this
      exact getD_set_true (hall e he hb)
    · rw [getD_set_ne false hij] at hl
      exact getD_set_true (inv.closed i oi hi hl e he hb)
  · rcases hp m i hm hk with h | h
    · exact getD_set_true h
    · subst h; exact getD_set_self hjs
  · obtain ⟨h1, h2⟩ := hn m i hm hk
    rw [getD_set_ne false (Ne.symm h2)]
    exact h1
  · by_cases hij : j = i
    · subst hij
      rw [hdst] at hg
      have := hf t hg
      rw [hu] at this
      injection this with this
      rw [hg, getD_put_same a t v (hd t hg)]
      exact this.symm
    · rw [getD_set_ne false hij] at hl
      have hin : i < ops.size := by
        rcases Nat.lt_or_ge i ops.size with h | h
        · exact h
        · unfold guardSlot at hg
          rw [Array.getElem?_eq_none h] at hg
          cases hg
      have hne : o.dst ≠ some t := fun e => by
        rcases Nat.lt_or_ge i j with h | h
        · exact ok.one i j t h (Array.getElem?_eq_some_iff.1 hj).1 hg (by rw [hdst]; exact e)
        · exact ok.one j i t (by omega) hin (by rw [hdst]; exact e) hg
      rw [getD_put_ne a _ t v hne]
      exact inv.done i t u hl hg hu
  · have hne : o.dst ≠ some t := fun e => hno j (getD_set_self hjs) (by rw [hdst]; exact e)
    rw [getD_put_ne a _ t v hne]
    exact inv.old t u hf' fun i hi hgi => hno i (getD_set_true hi) hgi

theorem idxOf?_some {T : List Nat} {i m : Nat} (h : T.idxOf? i = some m) : T[m]? = some i := by
  have h := List.findIdx?_eq_some_iff_getElem.1 h
  obtain ⟨h1, h2, _⟩ := h
  rw [List.getElem?_eq_getElem h1]
  simpa using h2
theorem idxOf?_none {T : List Nat} {i m : Nat} (h : T.idxOf? i = none) : T[m]? ≠ some i := by
  intro hm
  have := List.findIdx?_eq_none_iff.1 h i (List.mem_of_getElem? hm)
  simp at this

theorem reg_phase {id : Nat} {l : List Oper} {E : Env} {a : Act} {w : World} (T : List Nat) (ph : List (Nat × Nat)) (W : Nat → World → Prop) (hm : P.follows .mixedOrders = true) (hok : phaseOk N T ph l.toArray = true)
    (hnd : T.Nodup) (hst : ∀ k w w', W k w → Ext w w' → W k w') (hF : FrV N D E a) (h0 : W 0 w)
    (h : netP P W T ph (fun E' => ∀ a' w', FrV N D E' a' → W T.length w' → Q .normal a' w') l 0 E) (hE : ∀ t f, look E t = some f → ∃ v, f = .is v) : (Code.region id l.toArray true).wp P Q a w := by
  simp only [phaseOk, Bool.and_eq_true] at hok
  obtain ⟨⟨⟨⟨hd, hgd⟩, hTs⟩, hch⟩, hph⟩ := hok
  have ok := drawOk_spec hd
  obtain ⟨F, hFi, h1, h2⟩ := netP_facts (ops := l.toArray) l 0 E (fun j _ => by simp) h
  refine wp_region_any hm ?_
  have hnog : ∀ (j : Nat) (o : Oper), l.toArray[j]? = some o → o.guard = none := fun j o hj => by
    have := List.all_eq_true.1 hgd o (Array.mem_toList_iff.2 (Array.mem_of_getElem? hj))
    simpa using this
  have key : ∀ (m : Nat) (k : Nat) (listed : Array Bool) (a : Act) (w : World), toCome l.toArray.size listed = m → InvP W T l.toArray N D F E k listed a w → wpAny P .any l.toArray Q m listed a w := by
    intro m
    induction m with
    | zero =>
      intro k listed a w hm inv
      have hall := toCome_zero hm
      have hk : k = T.length := by
        rcases Nat.lt_or_ge k T.length with hlt | hge
        · have hT := List.getElem?_eq_getElem hlt
          have hin : T[k] < l.toArray.size := by
            have := List.all_eq_true.1 hTs _ (List.getElem_mem hlt)
            simpa [Nat.blt_eq] using this
          have h3 := inv.next k T[k] hT (Nat.le_refl _)
          rw [hall _ hin] at h3
          cases h3
        · exact Nat.le_antisymm inv.le hge
      subst hk
      refine ⟨?_, ?_⟩
      · cases hr : Region.ready .any l.toArray listed with
        | nil => rfl
        | cons x xs =>
          obtain ⟨hx1, o, ho, _⟩ := mem_ready.1 (hr ▸ List.mem_cons_self : x ∈ Region.ready .any l.toArray listed)
          have := getD_true_false hx1
          rw [hall x (Array.getElem?_eq_some_iff.1 ho).1] at this
          cases this
      · refine h2 a w (fun B w' => ⟨inv.defers, inv.size, fun t f hf => ?_⟩) inv.phase
        rcases look_envF (ops := l.toArray) F E t l.length with ⟨i, h3, h4, h5⟩ | ⟨h3, h4⟩
        · rw [hf] at h5
          injection h5 with h5
          obtain ⟨v, hv⟩ := hFi i
          rw [h5, hv]
          exact inv.done i t v (hall i (by simpa using h3)) h4 hv
        · rw [hf] at h4
          obtain ⟨v, hv⟩ := hE t f h4.symm
          subst hv
          refine inv.old t v h4.symm fun i hi hgi => ?_
          rcases Nat.lt_or_ge i l.length with h | h
          · exact h3 i h hgi
          · unfold guardSlot at hgi
            rw [Array.getElem?_eq_none (by simpa using h)] at hgi
            cases hgi
    | succ m ih =>
      intro k listed a w hm inv
      obtain ⟨i0, hi0, hl0, hk0⟩ := toCome_pos hm
      have hr0 : i0 ∈ Region.ready .any l.toArray listed := mem_ready.2 ⟨getD_false_true (by rw [inv.lsize]; exact hi0) hl0, l.toArray[i0], Array.getElem?_eq_getElem hi0, fun e he hb =>
        hk0 _ (ok.back i0 _ (Array.getElem?_eq_getElem hi0) e he hb)⟩
      refine ⟨(fun h' => by rw [h'] at hr0; cases hr0), fun j hj => ?_⟩
      obtain ⟨hj1, o, ho, hall⟩ := mem_ready.1 hj
      have hj1 := getD_true_false hj1
      have hjn : j < l.toArray.size := (Array.getElem?_eq_some_iff.1 ho).1
      have hset := toCome_set hjn (by rw [inv.lsize]; exact hjn) hj1
      have hslots : ∀ t, Operand.tmp t ∈ o.op.operands → t ∈ slotsOf l.toArray o := fun t ht => List.mem_append.2 (.inl (List.mem_filterMap.2 ⟨.tmp t, Array.mem_toList_iff.2 ht, rfl⟩))
      have h3 := h1 j o (by simpa using hjn) (by simpa using ho)
      rw [Nat.zero_add] at h3
      have hone : ∀ m' i', T[m']? = some i' → i' = j → T.idxOf? j = some m' → m' < T.length := fun m' i' hm' _ _ => (List.getElem?_eq_some_iff.1 hm').1
      unfold wpOp
      rw [ho]
      dsimp only
      rw [if_pos (by simp [Region.wanted, hnog j o ho])]
      refine .inl ?_
      cases ht : T.idxOf? j with
      | some mt =>
        rw [ht] at h3
        obtain ⟨hd0, hts⟩ := h3
        have hTm := idxOf?_some ht
        have hmtk : mt = k := by
          rcases Nat.lt_trichotomy mt k with h | h | h
          · have := inv.past mt j hTm h
            rw [hj1] at this
            cases this
          · exact h
          · -- the store before it has not come up
            have hml : mt < T.length := (List.getElem?_eq_some_iff.1 hTm).1
            have hw := below_spec hch (i := mt - 1) (by omega)
            have e1 : T.getD (mt - 1 + 1) 0 = j := by rw [show mt - 1 + 1 = mt by omega, List.getD_eq_getElem?_getD, hTm]; rfl
            have hlt : mt - 1 < T.length := by omega
            have e2 : T.getD (mt - 1) 0 = T[mt - 1] := by rw [List.getD_eq_getElem?_getD, List.getElem?_eq_getElem hlt]; rfl
            rw [e1, e2] at hw
            obtain ⟨oj, hoj, e, he, hb, hon⟩ := waits_spec hw
            have : oj = o := Option.some.inj (hoj.symm.trans ho)
            subst this
            have h4 := hall e he hb
            rw [hon, inv.next (mt - 1) _ (List.getElem?_eq_getElem hlt) (by omega)] at h4
            cases h4
        subst hmtk
        obtain ⟨w', hrun, hW⟩ := hts a w inv.phase (fun t ht' v hv => inv.look ok ho hj1 hall (hslots t ht') hv)
        unfold Oper.wp
        rw [hrun]
        refine ih (mt + 1) _ _ w' (by omega) (inv.step ok ho hall (fun t ht' => by rw [hd0] at ht'; cases ht') hW (List.getElem?_eq_some_iff.1 hTm).1 (fun m' i' hm' hlt => ?_) (fun m' i' hm' hge => ?_))
        · rcases Nat.lt_or_ge m' mt with h | h
          · exact .inl (inv.past m' i' hm' h)
          · have : m' = mt := by omega
            subst this
            rw [hTm] at hm'
            injection hm' with hm'
            exact .inr hm'.symm
        · refine ⟨inv.next m' i' hm' (by omega), fun e => ?_⟩
          subst e
          have ha := List.getElem?_eq_some_iff.1 hTm
          have hb := List.getElem?_eq_some_iff.1 hm'
          exact (List.pairwise_iff_getElem.1 hnd) mt m' ha.1 hb.1 (by omega) (by rw [ha.2, hb.2])
      | none =>
        rw [ht] at h3
        obtain ⟨v, hv, hps⟩ := h3
        have hbnd := below_spec hph hjn
        rw [ht] at hbnd
        simp only [Bool.and_eq_true, Bool.or_eq_true] at hbnd
        have hlo : lo ph j ≤ k := by
          rcases Nat.lt_or_ge k (lo ph j) with h | h
          · have hlt : lo ph j - 1 < T.length := by have := Nat.le_of_ble_eq_true hbnd.1.1; omega
            rcases hbnd.1.2 with hb | hb
            · have := Nat.eq_of_beq_eq_true hb
              omega
            · obtain ⟨oj, hoj, e, he, hbd, hon⟩ := waits_spec hb
              have : oj = o := Option.some.inj (hoj.symm.trans ho)
              subst this
              have h4 := hall e he hbd
              have e2 : T.getD (lo ph j - 1) 0 = T[lo ph j - 1] := by rw [List.getD_eq_getElem?_getD, List.getElem?_eq_getElem hlt]; rfl
              rw [e2] at hon
              rw [hon, inv.next _ _ (List.getElem?_eq_getElem hlt) (by omega)] at h4
              cases h4
          · exact h
        have hhi : k ≤ hi ph j := by
          rcases Nat.lt_or_ge (hi ph j) k with h | h
          · have hle := inv.le
            rcases hbnd.2 with hb | hb
            · have := Nat.le_of_ble_eq_true hb
              omega
            · have hlt : hi ph j < T.length := by omega
              have e2 : T.getD (hi ph j) 0 = T[hi ph j] := by rw [List.getD_eq_getElem?_getD, List.getElem?_eq_getElem hlt]; rfl
              rw [e2] at hb
              obtain ⟨oj, hoj, e, he, hbd, hon⟩ := waits_spec hb
              have h4 := inv.closed _ oj hoj (inv.past _ _ (List.getElem?_eq_getElem hlt) h) e he hbd
              rw [hon, hj1] at h4
              cases h4
          · exact h
        have hn := hps k hlo hhi w inv.phase a w (Ext.refl w) (fun t ht' g hg => by
          have hlk : ∃ u, g = .is u := by
            rcases look_envF (ops := l.toArray) F E t j with ⟨i, _, _, h5⟩ | ⟨_, h5⟩
            · rw [hg] at h5
              injection h5 with h5
              obtain ⟨u, hu⟩ := hFi i
              exact ⟨u, by rw [h5, hu]⟩
            · rw [hg] at h5
              exact hE t g h5.symm
          obtain ⟨u, rfl⟩ := hlk
          exact inv.look ok ho hj1 hall (hslots t ht') hg)
        have hgo : ∀ v' w', Ext w w' → v' = v → wpAny P .any l.toArray Q m (listed.setIfInBounds j true) (a.put o.dst v') w' := fun v' w' hx hv' => by
          subst hv'
          exact ih k _ _ w' (by omega) (inv.step ok ho hall (fun _ _ => hv) (hst k w w' inv.phase hx) inv.le (fun m' i' hm' hlt => .inl (inv.past m' i' hm' hlt)) (fun m' i' hm' hge => ⟨inv.next m' i' hm' hge, fun e => idxOf?_none ht (by rw [← e]; exact hm')⟩))
        unfold Oper.wp
        revert hn
        generalize (execOp a.eval o).run P w = r
        intro hn
        cases r with
        | ok nx w' =>
          cases nx <;> simp only [nup, Fact.ok] at hn <;> simp only [Oper.upon]
          case value u => exact hgo _ _ hn.1 hn.2
          case skip => exact hgo _ _ hn.1 hn.2
          case enter g args => exact hn.mono fun e w'' ⟨u, he, h5, h6⟩ => by subst he; exact hgo _ _ h5 h6
        | halt hh w' => simp only [nup] at hn
  have hrep : ∀ t, (Array.replicate l.toArray.size false).getD t false = false := fun t => by
    rcases Nat.lt_or_ge t l.toArray.size with h | h
    · simp only [Array.getD, Array.size_replicate]; split <;> simp
    · simp only [Array.getD, Array.size_replicate]; split <;> simp
  have hc : toCome l.toArray.size (Array.replicate l.toArray.size false) = l.toArray.size := by
    unfold toCome
    rw [List.filter_eq_self.2 (fun i _ => by rw [hrep]; rfl), List.length_range]
  exact key l.toArray.size 0 _ a _ hc ⟨hst 0 w _ h0 (Ext.drawn _ _), Nat.zero_le _, (hF 0 default).defers, (hF 0 default).size, by simp, (fun j o _ hl => by rw [hrep] at hl; cases hl), (fun m i _ hk => absurd hk (by omega)),
    fun m i _ _ => hrep i, (fun j t v hl => by rw [hrep] at hl; cases hl), fun t v hf _ => (hF 0 default).at_ t _ hf⟩
end
end Go.Proofs.Ythgpojlcbbgaoaa
