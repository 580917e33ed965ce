/- A drawn region in which some of the heads may come behind the first operation of the chain. Plain theorems. -/
import Derived.Test.YthgpojlcbbgaoaaMem
set_option autoImplicit false
set_option linter.unusedVariables false
namespace Go.Proofs.Ythgpojlcbbgaoaa
open Go.RowKit

def headsOk (N n : Nat) (ops : Array Oper) : Bool :=
  dstOk N ops && Nat.ble n ops.size &&
  (below ops.size fun j => match ops[j]? with | some o => o.after.toList.all fun e => !Region.binds .any e || Nat.blt e.on j | none => true) &&
  (below n fun j => match ops[j]? with
    | some o => (slotsOf ops o).all fun t => below n fun i => Nat.beq i j || (match guardSlot ops i with | some d => !Nat.beq d t || (bif Nat.blt i j then waits ops j i else waits ops i j) | none => true)
    | none => true) &&
  (below n fun j => match guardSlot ops j with
    | some t => below j fun i => match guardSlot ops i with | some d => !Nat.beq d t | none => true
    | none => true)
theorem headsOk_spec {N n : Nat} {ops : Array Oper} (h : headsOk N n ops = true) : Heads N n ops := by
  simp only [headsOk, Bool.and_eq_true] at h
  obtain ⟨⟨⟨⟨h1, h2⟩, h3⟩, h4⟩, h5⟩ := h
  refine ⟨h1, Nat.le_of_ble_eq_true h2, fun j o hj e he hb => ?_, fun j o hjn hj t ht i hi hij hg => ?_, fun i j t hij hj hgi hgj => ?_⟩
  · have h := below_spec h3 (Array.getElem?_eq_some_iff.1 hj).1
    rw [hj] at h
    dsimp only at h
    have := List.all_eq_true.1 h e (Array.mem_toList_iff.2 he)
    simp only [hb, Bool.not_true, Bool.false_or] at this
    simpa [Nat.blt_eq] using this
  · have h := below_spec h4 hjn
    rw [hj] at h
    dsimp only at h
    have h := below_spec (List.all_eq_true.1 h t ht) hi
    rw [hg] at h
    have hne : Nat.beq i j = false := by
      cases hb : Nat.beq i j
      · rfl
      · exact absurd (Nat.eq_of_beq_eq_true hb) hij
    have htt : Nat.beq t t = true := Nat.beq_refl t
    simp only [hne, htt, Bool.not_true, Bool.false_or] at h
    by_cases hlt : i < j
    · rw [if_pos hlt]
      have : Nat.blt i j = true := by simpa [Nat.blt_eq] using hlt
      rwa [this] at h
    · rw [if_neg hlt]
      have : Nat.blt i j = false := by
        cases hb : Nat.blt i j
        · rfl
        · exact absurd (by simpa [Nat.blt_eq] using hb) hlt
      rwa [this] at h
  · have h := below_spec h5 hj
    rw [hgj] at h
    have h := below_spec h hij
    rw [hgi] at h
    simp [Nat.beq_refl] at h

/-- n heads, of which [f0, f1) may come behind the operation n. -/
def floatOk (N n f0 f1 : Nat) (ops : Array Oper) : Bool :=
  headsOk N n ops && Nat.blt n ops.size && Nat.ble f1 n && Nat.blt f0 f1 &&
  (below n fun i => (Nat.ble f0 i && Nat.blt i f1) || (waits ops n i || (up ops n n).any fun k => Nat.beq k i)) &&
  (below ops.size fun t => Nat.ble t n || waits ops t (t - 1)) &&
  (below ops.size fun t => !Nat.beq t (n + 1) || waits ops t (f1 - 1)) &&
  (below f1 fun t => Nat.ble t f0 || waits ops t (t - 1))

section
variable {P : Program} {ops : Array Oper} {wr : World} {N : Nat} {D : List Deferred} {Q : Exit → Act → World → Prop} {n f0 f1 : Nat}
structure FloatOk (N n f0 f1 : Nat) (ops : Array Oper) : Prop extends Heads N n ops where
  lt : n < ops.size
  f1n : f1 ≤ n
  f01 : f0 < f1
  sink : ∀ i, i < n → (f0 ≤ i ∧ i < f1) ∨ (waits ops n i || (up ops n n).any fun k => Nat.beq k i) = true
  chain : ∀ t, n < t → t < ops.size → waits ops t (t - 1) = true
  last : n + 1 < ops.size → waits ops (n + 1) (f1 - 1) = true
  fch : ∀ t, f0 < t → t < f1 → waits ops t (t - 1) = true
theorem floatOk_spec (h : floatOk N n f0 f1 ops = true) : FloatOk N n f0 f1 ops := by
  simp only [floatOk, Bool.and_eq_true] at h
  obtain ⟨⟨⟨⟨⟨⟨⟨h1, h2⟩, h3⟩, h4⟩, h5⟩, h6⟩, h7⟩, h8⟩ := h
  refine ⟨headsOk_spec h1, by simpa [Nat.blt_eq] using h2, Nat.le_of_ble_eq_true h3, by simpa [Nat.blt_eq] using h4, fun i hi => ?_, fun t ht hts => ?_, fun hn => ?_, fun t ht htf => ?_⟩
  · have h := below_spec h5 hi
    rw [Bool.or_eq_true] at h
    rcases h with h | h
    · rw [Bool.and_eq_true] at h
      exact .inl ⟨Nat.le_of_ble_eq_true h.1, by simpa [Nat.blt_eq] using h.2⟩
    · exact .inr h
  · have h := below_spec h6 hts
    rw [Bool.or_eq_true] at h
    rcases h with h | h
    · have := Nat.le_of_ble_eq_true h; omega
    · exact h
  · have h := below_spec h7 hn
    rw [Nat.beq_refl] at h
    simpa using h
  · have h := below_spec h8 htf
    rw [Bool.or_eq_true] at h
    rcases h with h | h
    · have := Nat.le_of_ble_eq_true h; omega
    · exact h

/-- The floating ones that are left, and the chain behind them. -/
theorem float_rest (ok : FloatOk N n f0 f1 ops) : ∀ (r i : Nat) (listed : Array Bool) (a : Act) (w : World), f1 - i = r → f0 ≤ i → i ≤ f1 → listed.size = ops.size →
    (∀ t, t < ops.size → (listed.getD t false = false ↔ (i ≤ t ∧ t < f1) ∨ n < t)) →
    wpList P ops Q ((ops.toList.take f1).drop i ++ ops.toList.drop (n + 1)) a w → wpAny P .any ops Q ((f1 - i) + (ops.size - (n + 1))) listed a w := by
  intro r
  induction r with
  | zero =>
    intro i listed a w hr h0 h1 hs hl h
    obtain rfl : i = f1 := by omega
    have hd : (ops.toList.take i).drop i = [] := List.drop_eq_nil_of_le (by rw [List.length_take]; omega)
    rw [hd, List.nil_append] at h
    rw [Nat.sub_self, Nat.zero_add, show ops.size - (n + 1) = (ops.toList.drop (n + 1)).length by simp]
    refine any_chain (n := n + 1) (fun t ht hts => ok.chain t (by omega) hts) ok.back (ops.toList.drop (n + 1)) (n + 1) listed a w (Nat.le_refl _) (fun j => by simp [List.getElem?_drop]) (by have := ok.lt; simp; omega) hs (fun t ht => ?_) (fun t ht => ?_) h
    · have hts : t < ops.size := by have := ok.lt; omega
      cases hv : listed.getD t false with
      | true => rfl
      | false => have := (hl t hts).1 hv; omega
    · rcases Nat.lt_or_ge t ops.size with hts | hts
      · exact (hl t hts).2 (.inr (by omega))
      · simp [Array.getElem?_eq_none (show listed.size ≤ t by omega)]
  | succ r ih =>
    intro i listed a w hr h0 h1 hs hl h
    have hif : i < f1 := by omega
    have hf1 := ok.f1n
    have hn := ok.lt
    have his : i < ops.size := by omega
    have hcons : (ops.toList.take f1).drop i = ops[i] :: (ops.toList.take f1).drop (i + 1) := by
      rw [List.drop_eq_getElem_cons (show i < (ops.toList.take f1).length by rw [List.length_take]; simp; omega)]
      congr 1
      simp
    rw [hcons] at h
    have hun : listed.getD i false = false := (hl i his).2 (.inl ⟨Nat.le_refl _, hif⟩)
    have hlisted : ∀ t, t < i → listed.getD t false = true := fun t ht => by
      cases hv : listed.getD t false with
      | true => rfl
      | false => have := (hl t (by omega)).1 hv; omega
    have hir : i ∈ Region.ready .any ops listed := mem_ready.2 ⟨getD_false_true (by omega) hun, ops[i], Array.getElem?_eq_getElem his, fun e he hb => hlisted _ (ok.back i _ (Array.getElem?_eq_getElem his) e he hb)⟩
    rw [show f1 - i + (ops.size - (n + 1)) = (f1 - (i + 1) + (ops.size - (n + 1))) + 1 by omega]
    refine ⟨(fun h' => by rw [h'] at hir; cases hir), fun j hj => ?_⟩
    have hji : j = i := by
      obtain ⟨hj1, oj, hoj, hall⟩ := mem_ready.1 hj
      have hj1 := getD_true_false hj1
      have hjs := (Array.getElem?_eq_some_iff.1 hoj).1
      have key : ∀ t, waits ops j t = true → listed.getD t false = false → False := fun t hw ht => by
        obtain ⟨o', ho', e, he, hb, hon⟩ := waits_spec hw
        have : o' = oj := Option.some.inj (ho'.symm.trans hoj)
        subst this
        have := hall e he hb
        rw [hon, ht] at this
        cases this
      rcases (hl j hjs).1 hj1 with ⟨h2, h3⟩ | h2
      · rcases Nat.eq_or_lt_of_le h2 with e | hlt
        · exact e.symm
        · exact (key (j - 1) (ok.fch j (by omega) h3) ((hl (j - 1) (by omega)).2 (.inl ⟨by omega, by omega⟩))).elim
      · by_cases hj2 : j = n + 1
        · subst hj2
          exact (key (f1 - 1) (ok.last hjs) ((hl (f1 - 1) (by omega)).2 (.inl ⟨by omega, by omega⟩))).elim
        · exact (key (j - 1) (ok.chain j h2 hjs) ((hl (j - 1) (by omega)).2 (.inr (by omega)))).elim
    subst hji
    have hw : wpOp P ops Q j (wpList P ops Q ((ops.toList.take f1).drop (j + 1) ++ ops.toList.drop (n + 1))) a w := by
      unfold wpOp
      rw [Array.getElem?_eq_getElem his]
      exact h
    refine wpOp_mono (fun a' w' h' => ih (j + 1) _ a' w' (by omega) (by omega) (by omega) (by simp [hs]) (fun t hts => ?_) h') hw
    by_cases e : t = j
    · subst e
      rw [getD_set_self (by omega)]
      simp
      omega
    · rw [getD_set_ne false (Ne.symm e)]
      rw [hl t hts]
      omega

def cutSlots (ops : Array Oper) (c f1 : Nat) : List Nat := (List.range' c (f1 - c)).filterMap (guardSlot ops)
def without (ks : List Nat) (E : Env) : Env := E.filter fun p => !ks.any fun k => Nat.beq k p.1
theorem look_without {ks : List Nat} {E : Env} {t : Nat} {f : Fact} (h : look (without ks E) t = some f) : (ks.any fun k => Nat.beq k t) = false ∧ look E t = some f := by
  induction E with
  | nil => cases h
  | cons p E ih =>
    obtain ⟨d, g⟩ := p
    unfold without at h
    rw [List.filter_cons] at h
    by_cases hk : (ks.any fun k => Nat.beq k d) = true
    · simp only [hk, Bool.not_true, Bool.false_eq_true, if_false] at h
      obtain ⟨h1, h2⟩ := ih h
      refine ⟨h1, ?_⟩
      rw [look_cons]
      by_cases e : d = t
      · subst e
        rw [hk] at h1
        cases h1
      · rw [if_neg e]
        exact h2
    · simp only [Bool.not_eq_true] at hk
      simp only [hk, Bool.not_false, if_true] at h
      rw [look_cons] at h ⊢
      by_cases e : d = t
      · subst e
        rw [if_pos rfl] at h ⊢
        exact ⟨hk, h⟩
      · rw [if_neg e] at h ⊢
        exact ih h

theorem toCome_cut {listed : Array Bool} {c : Nat} (h1 : c ≤ f1) (hf : f1 ≤ n) (hl : ∀ t, t < n → (listed.getD t false = false ↔ c ≤ t ∧ t < f1)) : toCome n listed = f1 - c := by
  unfold toCome
  have hp : ((List.range n).filter fun i => !listed.getD i false).Perm (List.range' c (f1 - c)) := by
    refine (List.perm_ext_iff_of_nodup (List.Pairwise.filter _ List.nodup_range) List.nodup_range').2 fun t => ?_
    rw [List.mem_filter, List.mem_range, List.mem_range'_1]
    constructor
    · intro ⟨h2, h3⟩
      have := (hl t h2).1 (by simpa using h3)
      omega
    · intro ⟨h2, h3⟩
      exact ⟨by omega, by simpa using (hl t (by omega)).2 (by omega)⟩
  rw [hp.length_eq, List.length_range']

theorem net_float {F : Nat → Fact} {E : Env} (ok : FloatOk N n f0 f1 ops) (hg : ∀ j o, j < n → ops[j]? = some o → gstep P ops wr (envF ops F 0 E j) o (F j))
    (hq : ∀ c, f0 ≤ c → c ≤ f1 → ∀ a' w', Fr N D wr.heap.size (without (cutSlots ops c f1) (envF ops F 0 E n)) a' w' → Ext wr w' → wpList P ops Q ((ops.toList.drop n).take 1 ++ ((ops.toList.take f1).drop c ++ ops.toList.drop (n + 1))) a' w') :
    ∀ (m : Nat) (listed : Array Bool) (a : Act) (w : World), toCome n listed = m → Inv wr ops N D n F E listed a w → wpAny P .any ops Q (m + (ops.size - n)) listed a w := by
  have hn := ok.lt
  have hcons : (ops.toList.drop n).take 1 = [ops[n]] := by
    rw [List.drop_eq_getElem_cons (show n < ops.toList.length by simpa using hn)]
    simp
  -- what is known where the heads from c on are left
  have fr : ∀ (c : Nat) (listed : Array Bool) (a : Act) (w : World), Inv wr ops N D n F E listed a w → (∀ t, t < n → listed.getD t false = false → c ≤ t ∧ t < f1) → Fr N D wr.heap.size (without (cutSlots ops c f1) (envF ops F 0 E n)) a w := by
    intro c listed a w inv hc
    refine ⟨inv.defers, inv.size, fun t f hf => ?_⟩
    obtain ⟨hk, hf⟩ := look_without hf
    rcases look_envF (ops := ops) F E t n with ⟨i, h1, h2, h3⟩ | ⟨h1, h2⟩
    · rw [hf] at h3
      injection h3 with h3
      subst h3
      refine inv.done i t ?_ h2
      cases hv : listed.getD i false with
      | true => rfl
      | false =>
        have := hc i h1 hv
        have hmem : t ∈ cutSlots ops c f1 := List.mem_filterMap.2 ⟨i, List.mem_range'_1.2 (by omega), h2⟩
        have : (cutSlots ops c f1).any (fun k => Nat.beq k t) = true := List.any_eq_true.2 ⟨t, hmem, Nat.beq_refl t⟩
        rw [this] at hk
        cases hk
    · rw [hf] at h2
      refine inv.old t f h2.symm fun i hi hgi => ?_
      rcases Nat.lt_or_ge i n with h | h
      · exact h1 i h hgi
      · rw [inv.tail i h] at hi; cases hi
  intro m
  induction m with
  | zero =>
    intro listed a w hm inv
    have hall := toCome_zero hm
    have hlen : (ops.toList.drop n).length = ops.size - n := by simp
    rw [Nat.zero_add, ← hlen]
    refine any_chain (n := n) ok.chain ok.back (ops.toList.drop n) n listed a w (Nat.le_refl _) (fun j => by simp [List.getElem?_drop]) (by rw [hlen]; omega) inv.lsize hall inv.tail ?_
    have := hq f1 (Nat.le_of_lt ok.f01) (Nat.le_refl _) a w (fr f1 listed a w inv fun t ht hv => by rw [hall t ht] at hv; cases hv) inv.ext
    rw [List.drop_eq_nil_of_le (show (ops.toList.take f1).length ≤ f1 by rw [List.length_take]; omega), List.nil_append, hcons] at this
    rw [List.drop_eq_getElem_cons (show n < ops.toList.length by simpa using hn)]
    simpa using this
  | succ m ih =>
    intro listed a w hm inv
    rw [show m + 1 + (ops.size - n) = (m + (ops.size - n)) + 1 by omega]
    obtain ⟨i0, hi0, hl0, hk0⟩ := toCome_pos hm
    have hi0s : i0 < ops.size := Nat.lt_of_lt_of_le hi0 ok.le
    have hr0 : i0 ∈ Region.ready .any ops listed := mem_ready.2 ⟨getD_false_true (by rw [inv.lsize]; exact hi0s) hl0, ops[i0], Array.getElem?_eq_getElem hi0s, fun e he hb =>
      hk0 _ (ok.back i0 _ (Array.getElem?_eq_getElem hi0s) e he hb)⟩
    refine ⟨(fun h' => by rw [h'] at hr0; cases hr0), fun j hj => ?_⟩
    obtain ⟨hj1, o, ho, hall⟩ := mem_ready.1 hj
    have hj1 := getD_true_false hj1
    have hjs := (Array.getElem?_eq_some_iff.1 ho).1
    have wait : ∀ t, waits ops j t = true → listed.getD t false = true := fun t hw => by
      obtain ⟨o', ho', e, he, hb, hon⟩ := waits_spec hw
      have : o' = o := Option.some.inj (ho'.symm.trans ho)
      subst this
      exact hon ▸ hall e he hb
    rcases Nat.lt_trichotomy j n with hjn | hjn | hjn
    · refine op_of_gstep ho (hg j o hjn ho) inv.ext (fun g b s _ hs => by rw [inv.size]; exact guardSlot_lt ok.dst hs)
        (fun g b s hgd hs f hf => inv.look ok.toHeads hjn ho hj1 hall (by unfold slotsOf; rw [hgd]; simp [hs]) hf)
        (fun t ht f hf => inv.look ok.toHeads hjn ho hj1 hall (List.mem_append.2 (.inl (List.mem_filterMap.2 ⟨.tmp t, Array.mem_toList_iff.2 ht, rfl⟩))) hf) ?_
      intro v w' hx hf
      refine ih _ _ w' ?_ (inv.step ok.toHeads hjn ho hall hx hf)
      have := toCome_set hjn (by rw [inv.lsize]; exact hjs) hj1
      omega
    · subst hjn
      -- the chain begins; the heads that are left are those from i0 to f1
      have hun : ∀ t, t < j → (listed.getD t false = false ↔ i0 ≤ t ∧ t < f1) := fun t ht => by
        constructor
        · intro hv
          refine ⟨Nat.le_of_not_lt (fun h => (by rw [hk0 t h] at hv; cases hv)), ?_⟩
          rcases ok.sink t ht with h | h
          · exact h.2
          · have : listed.getD t false = true := by
              rw [Bool.or_eq_true] at h
              rcases h with h | h
              · exact wait t h
              · obtain ⟨k, hk, he⟩ := List.any_eq_true.1 h
                have : k = t := Nat.eq_of_beq_eq_true he
                subst this
                rcases up_spec (L := fun i => listed.getD i false = true) wait (fun j' i hj' hw => by
                  obtain ⟨oj, hoj, e, he, hb, hon⟩ := waits_spec hw
                  exact hon ▸ inv.closed j' oj hoj hj' e he hb) j k hk with e | e
                · omega
                · exact e
            rw [this] at hv
            cases hv
        · intro ⟨h1, h2⟩
          have key : ∀ s, i0 + s < f1 → listed.getD (i0 + s) false = false := by
            intro s
            induction s with
            | zero => intro _; exact hl0
            | succ s ihs =>
              intro hs
              have h3 := ihs (by omega)
              cases hv : listed.getD (i0 + (s + 1)) false with
              | false => rfl
              | true =>
                have hf0 : f0 ≤ i0 := by
                  rcases ok.sink i0 hi0 with h | h
                  · exact h.1
                  · exfalso
                    have : listed.getD i0 false = true := by
                      rw [Bool.or_eq_true] at h
                      rcases h with h | h
                      · exact wait i0 h
                      · obtain ⟨k, hk, he⟩ := List.any_eq_true.1 h
                        have : k = i0 := Nat.eq_of_beq_eq_true he
                        subst this
                        rcases up_spec (L := fun i => listed.getD i false = true) wait (fun j' i hj' hw => by
                          obtain ⟨oj, hoj, e, he, hb, hon⟩ := waits_spec hw
                          exact hon ▸ inv.closed j' oj hoj hj' e he hb) j k hk with e | e
                        · omega
                        · exact e
                    rw [hl0] at this
                    cases this
                obtain ⟨o', ho', e, he, hb, hon⟩ := waits_spec (ok.fch (i0 + (s + 1)) (by omega) hs)
                have := inv.closed _ o' ho' hv e he hb
                rw [hon, show i0 + (s + 1) - 1 = i0 + s by omega, h3] at this
                cases this
          have := key (t - i0) (by omega)
          rwa [show i0 + (t - i0) = t by omega] at this
      have hif : i0 < f1 := ((hun i0 hi0).1 hl0).2
      have hf0 : f0 ≤ i0 := by
        rcases ok.sink i0 hi0 with h | h
        · exact h.1
        · exfalso
          have : listed.getD i0 false = true := by
            rw [Bool.or_eq_true] at h
            rcases h with h | h
            · exact wait i0 h
            · obtain ⟨k, hk, he⟩ := List.any_eq_true.1 h
              have : k = i0 := Nat.eq_of_beq_eq_true he
              subst this
              rcases up_spec (L := fun i => listed.getD i false = true) wait (fun j' i hj' hw => by
                obtain ⟨oj, hoj, e, he, hb, hon⟩ := waits_spec hw
                exact hon ▸ inv.closed j' oj hoj hj' e he hb) j k hk with e | e
              · omega
              · exact e
          rw [hl0] at this
          cases this
      have hcount := toCome_cut (Nat.le_of_lt hif) ok.f1n hun
      have h := hq i0 hf0 (Nat.le_of_lt hif) a w (fr i0 listed a w inv fun t ht hv => (hun t ht).1 hv) inv.ext
      rw [hcons, List.singleton_append] at h
      have hw : wpOp P ops Q j (wpList P ops Q ((ops.toList.take f1).drop i0 ++ ops.toList.drop (j + 1))) a w := by
        unfold wpOp
        rw [Array.getElem?_eq_getElem hjs]
        exact h
      refine wpOp_mono (fun a' w' h' => ?_) hw
      rw [show m + (ops.size - j) = (f1 - i0) + (ops.size - (j + 1)) by omega]
      refine float_rest ok (f1 - i0) i0 _ a' w' rfl hf0 (Nat.le_of_lt hif) (by simp [inv.lsize]) (fun t hts => ?_) h'
      by_cases e : t = j
      · subst e
        rw [getD_set_self (by rw [inv.lsize]; exact hjs)]
        have := ok.f1n
        simp
        omega
      · rw [getD_set_ne false (Ne.symm e)]
        rcases Nat.lt_or_ge t j with h1 | h1
        · rw [hun t h1]
          omega
        · have : listed.getD t false = false := inv.tail t h1
          simp only [this, true_iff]
          omega
    · have := wait (j - 1) (ok.chain j hjn hjs)
      rw [inv.tail (j - 1) (by omega)] at this
      cases this

theorem reg_float {id : Nat} {l : List Oper} {E : Env} {a : Act} {w : World} (n f0 f1 : Nat) (hm : P.follows .mixedOrders = true) (hok : floatOk N n f0 f1 l.toArray = true) (hF : Fr N D w.heap.size E a w)
    (h : net P l.toArray w (fun E' => ∀ c, f0 ≤ c → c ≤ f1 → ∀ a' w', Fr N D w.heap.size (without (cutSlots l.toArray c f1) E') a' w' → Ext w w' → wpList P l.toArray Q ((l.drop n).take 1 ++ ((l.take f1).drop c ++ l.drop (n + 1))) a' w') (l.take n) E) : (Code.region id l.toArray true).wp P Q a w := by
  have ok := floatOk_spec hok
  have hn : n ≤ l.length := by simpa using ok.le
  obtain ⟨F, h1, h2⟩ := net_facts (l.take n) 0 E (fun j hj => by
    have hj' : j < n := by rw [List.length_take] at hj; omega
    simp [hj']) h
  have hlen : (l.take n).length = n := by rw [List.length_take]; omega
  rw [hlen] at h1 h2
  refine wp_region_any hm ?_
  have hc : toCome n (Array.replicate l.toArray.size false) = n := by
    unfold toCome
    rw [List.filter_eq_self.2 (fun i hi => by
      have : i < l.length := by have := List.mem_range.1 hi; omega
      simp [this]), List.length_range]
  have hrep : ∀ t, (Array.replicate l.toArray.size false).getD t false = false := fun t => by
    rcases Nat.lt_or_ge t l.toArray.size with h | h
    · simp only [Array.getD, Array.size_replicate]; split <;> simp
    · simp only [Array.getD, Array.size_replicate]; split <;> simp
  have := net_float (Q := Q) (ops := l.toArray) ok (fun j o hj ho => by have := h1 j o hj (by simpa using ho); simpa using this) h2
    n (Array.replicate l.toArray.size false) a { w with drawn := w.drawn + 1 } hc
    ⟨Ext.drawn _ _, hF.defers, hF.size, by simp, (fun j o _ hl => by rw [hrep] at hl; cases hl), fun t _ => hrep t, (fun j t hl => by rw [hrep] at hl; cases hl),
      fun t f hf _ => Fact.ok_ext (hF.at_ t f hf) (Ext.drawn _ _)⟩
  rw [show n + (l.toArray.size - n) = l.toArray.size by have := ok.le; omega] at this
  exact this

/-- The next k operations of a list that is no part of the text's end. -/
theorem t_netL {l : List Oper} {a : Act} {w : World} {E : Env} (s k : Nat) (hd : dstOk N ops = true) (hs : l.take k = (ops.toList.drop s).take k) (hF : FrV N D E a)
    (h : net P ops w (fun E' => ∀ a' w', Fr N D w.heap.size E' a' w' → Ext w w' → wpList P ops Q (l.drop k) a' w') (l.take k) E) : wpList P ops Q l a w := by
  have := net_list (Q := Q) (fin := fun E' => ∀ a' w', Fr N D w.heap.size E' a' w' → Ext w w' → wpList P ops Q (l.drop k) a' w') hd (l.take k) s E a w (fun j hj => by
    have hj' : j < k := by rw [List.length_take] at hj; omega
    rw [hs, List.getElem?_take, if_pos hj', List.getElem?_drop, Array.getElem?_toList]) (l.drop k) h (hF _ _) (Ext.refl w) (fun E' a' w' hE hF' hx' => hE a' w' hF' hx')
  rwa [List.take_append_drop] at this
end
end Go.Proofs.Ythgpojlcbbgaoaa
namespace Go.Proofs.Ythgpojlcbbgaoaa
/-- Code that ends normally in R, and what follows from R. -/
theorem reg_then {P : Program} {c : Code} {Q : Exit → Act → World → Prop} {a : Act} {w : World} {R : Act → World → Prop} (h : c.wp P (fun e a w => e = .normal ∧ R a w) a w) (hR : ∀ a w, R a w → Q .normal a w) : c.wp P Q a w := by
  refine Code.wp_mono ?_ h
  rintro e a' w' ⟨rfl, hr⟩
  exact hR a' w' hr
end Go.Proofs.Ythgpojlcbbgaoaa

namespace Go.Proofs.Ythgpojlcbbgaoaa
open Go.RowKit
/-! ### a last operation that is a free move of a constant -/
section
variable {P : Program} {Q : Exit → Act → World → Prop}
theorem push_lt {front : Array Oper} {x : Oper} {i : Nat} (h : i < front.size) : (front.push x)[i]? = front[i]? := by
  rw [Array.getElem?_push, if_neg (by omega)]
theorem wpOp_push {front : Array Oper} {x : Oper} {i : Nat} {K : Act → World → Prop} {a : Act} {w : World} (hi : i < front.size) (hg : ∀ (o : Oper) (g : Nat) (b : Bool), front[i]? = some o → o.guard = some (g, b) → g < front.size) (h : wpOp P front Q i K a w) : wpOp P (front.push x) Q i K a w := by
  unfold wpOp at h ⊢
  rw [push_lt hi]
  have ho := Array.getElem?_eq_getElem hi
  rw [ho] at h ⊢
  dsimp only at h ⊢
  have e : Region.wanted front[i] (yielded (front.push x) a.tmps) = Region.wanted front[i] (yielded front a.tmps) := by
    unfold Region.wanted
    cases hgd : front[i].guard with
    | none => rfl
    | some p =>
      obtain ⟨g, b⟩ := p
      have := hg _ g b ho hgd
      simp only [yielded, push_lt this]
  rw [e]
  exact h
theorem wpAny_push {front : Array Oper} {x : Oper} (hback : ∀ j o, front[j]? = some o → ∀ e ∈ o.after, Region.binds .any e = true → e.on < j) (hg : ∀ (i : Nat) (o : Oper) (g : Nat) (b : Bool), front[i]? = some o → o.guard = some (g, b) → g < front.size) :
    ∀ (m : Nat) (listed listed' : Array Bool) (a : Act) (w : World), listed.size = front.size → listed'.size = front.size + 1 → (∀ i, i < front.size → listed'.getD i false = listed.getD i false) → listed'.getD front.size false = true →
      wpAny P .any front Q m listed a w → wpAny P .any (front.push x) Q m listed' a w := by
  have key : ∀ (listed listed' : Array Bool), listed.size = front.size → listed'.size = front.size + 1 → (∀ i, i < front.size → listed'.getD i false = listed.getD i false) → listed'.getD front.size false = true →
      ∀ i, i ∈ Region.ready .any (front.push x) listed' ↔ i ∈ Region.ready .any front listed := by
    intro listed listed' h1 h2 h3 h4 i
    have hcv : ∀ (l : Array Bool) (k : Nat), k < l.size → (l.getD k true = false ↔ l.getD k false = false) := fun l k hk => by simp [hk]
    rw [mem_ready, mem_ready]
    rcases Nat.lt_trichotomy i front.size with h | h | h
    · rw [push_lt h, hcv _ _ (by omega), hcv _ _ (by omega), h3 i h]
      constructor
      · rintro ⟨e1, o, ho, hall⟩
        exact ⟨e1, o, ho, fun e he hb => by rw [← h3 _ (by have := hback i o ho e he hb; omega)]; exact hall e he hb⟩
      · rintro ⟨e1, o, ho, hall⟩
        exact ⟨e1, o, ho, fun e he hb => by rw [h3 _ (by have := hback i o ho e he hb; omega)]; exact hall e he hb⟩
    · subst h
      constructor
      · rintro ⟨e1, _⟩
        rw [hcv _ _ (by omega), h4] at e1
        cases e1
      · rintro ⟨_, o, ho, _⟩
        rw [Array.getElem?_eq_none (Nat.le_refl _)] at ho
        cases ho
    · constructor
      · rintro ⟨_, o, ho, _⟩
        rw [Array.getElem?_eq_none (by simp; omega)] at ho
        cases ho
      · rintro ⟨_, o, ho, _⟩
        rw [Array.getElem?_eq_none (by omega)] at ho
        cases ho
  intro m
  induction m with
  | zero =>
    intro listed listed' a w h1 h2 h3 h4 h
    refine ⟨?_, h.2⟩
    cases hr : Region.ready .any (front.push x) listed' with
    | nil => rfl
    | cons y ys =>
      have := (key listed listed' h1 h2 h3 h4 y).1 (by rw [hr]; exact List.mem_cons_self)
      rw [h.1] at this
      cases this
  | succ m ih =>
    intro listed listed' a w h1 h2 h3 h4 h
    refine ⟨fun hr => h.1 ?_, fun i hi => ?_⟩
    · cases hr2 : Region.ready .any front listed with
      | nil => rfl
      | cons y ys =>
        have := (key listed listed' h1 h2 h3 h4 y).2 (by rw [hr2]; exact List.mem_cons_self)
        rw [hr] at this
        cases this
    · have hi' := (key listed listed' h1 h2 h3 h4 i).1 hi
      obtain ⟨_, o, ho, _⟩ := mem_ready.1 hi'
      have his := (Array.getElem?_eq_some_iff.1 ho).1
      refine wpOp_push his (fun o g b => hg i o g b) (wpOp_mono (fun a' w' h' => ih _ _ a' w' (by simp [h1]) (by simp [h2]) (fun k hk => ?_) ?_ h') (h.2 i hi'))
      · by_cases e : i = k
        · subst e
          rw [getD_set_self (by omega), getD_set_self (by omega)]
        · rw [getD_set_ne false e, getD_set_ne false e, h3 k hk]
      · exact getD_set_true h4

def guardsOk (ops : Array Oper) : Bool := ops.toList.all fun o => match o.guard with
  | some (g, _) => Nat.blt g ops.size
  | none => true
/-- A region whose order is drawn, its last operation a free move of a constant: that one first. -/
theorem reg_drawL {id : Nat} {l : List Oper} {o : Oper} {d N : Nat} {D : List Deferred} {v : Value} {E : Env} {a : Act} {w : World} (n : Nat) (hm : P.follows .mixedOrders = true) (hok : drawOk N n l.toArray = true) (hgo : guardsOk l.toArray = true)
    (ho : o = { dst := some d, op := .move (.const v), type := o.type, pos := o.pos, after := #[], guard := none }) (hd : Nat.blt d N = true)
    (hfr : (Region.noSelect (l ++ [o]).toArray && Region.free .any (l ++ [o]).toArray (Array.replicate (l.length + 1) false) l.length) = true)
    (hQ : ∀ c a w, ¬ Q (.panic c) a w) (hF : Fr N D w.heap.size E a w)
    (h : net P l.toArray w (fun E' => ∀ a' w', Fr N D w.heap.size E' a' w' → Ext w w' → wpList P l.toArray Q (l.drop n) a' w') (l.take n) ((d, .is v) :: E)) : (Code.region id (l ++ [o]).toArray true).wp P Q a w := by
  have ok := drawOk_spec hok
  rw [Bool.and_eq_true] at hfr
  have hdN : d < N := by simpa [Nat.blt_eq] using hd
  have hn : n ≤ l.length := by simpa using ok.le
  have hrep : ∀ (m t : Nat), (Array.replicate m false).getD t false = false := fun m t => by
    simp only [Array.getD, Array.size_replicate]; split <;> simp
  have hlast : (l ++ [o]).toArray[l.length]? = some o := by simp
  refine wp_region_any hm ?_
  rw [show (l ++ [o]).toArray.size = l.length + 1 by simp]
  refine wpAny_take (v := v) hlast hfr.1 hfr.2 ?_ (fun c a w hq => absurd hq (hQ _ _ _)) ?_ ?_
  · rw [List.contains_iff_mem, mem_ready]
    refine ⟨by simp, o, hlast, fun e he => ?_⟩
    rw [ho] at he
    simp at he
  · refine .inl ⟨by unfold Region.wanted; rw [ho], fun w => ?_⟩
    rw [ho]
    rfl
  · have hod : o.dst = some d := by rw [ho]
    rw [hod]
    have hF2 : Fr N D w.heap.size ((d, .is v) :: E) (a.put (some d) v) { w with drawn := w.drawn + 1 } :=
      hF.put (d := some d) (f := .is v) (Ext.drawn _ _) (fun t e => by injection e with e; omega) rfl
    obtain ⟨F, h1, h2⟩ := net_facts (l.take n) 0 ((d, .is v) :: E) (fun j hj => by
      have hj' : j < n := by rw [List.length_take] at hj; omega
      simp [hj']) h
    have hlen : (l.take n).length = n := by rw [List.length_take]; omega
    rw [hlen] at h1 h2
    have hc : toCome n (Array.replicate l.toArray.size false) = n := by
      unfold toCome
      rw [List.filter_eq_self.2 (fun i hi => by
        have : i < l.length := by have := List.mem_range.1 hi; omega
        simp [this]), List.length_range]
    have hany := net_draw (Q := Q) (ops := l.toArray) ok (fun j o hj ho => by have := h1 j o hj (by simpa using ho); simpa using this) (fun a' w' hF' hx' => by simpa using h2 a' w' hF' hx')
      n (Array.replicate l.toArray.size false) (a.put (some d) v) { w with drawn := w.drawn + 1 } hc
      ⟨Ext.drawn _ _, hF2.defers, hF2.size, by simp, (fun j o _ hl => by rw [hrep] at hl; cases hl), fun t _ => hrep _ t, (fun j t hl => by rw [hrep] at hl; cases hl),
        fun t f hf _ => hF2.at_ t f hf⟩
    rw [show n + (l.toArray.size - n) = l.length by simp; omega] at hany
    have := wpAny_push (P := P) (Q := Q) (front := l.toArray) (x := o) ok.back (fun i o' g b ho' hg' => by
      have := List.all_eq_true.1 hgo o' (Array.mem_toList_iff.2 (Array.mem_of_getElem? ho'))
      rw [hg'] at this
      simpa [Nat.blt_eq] using this) l.length (Array.replicate l.toArray.size false) ((Array.replicate (l.length + 1) false).setIfInBounds l.length true) _ _ (by simp) (by simp) (fun i hi => by
        have hi' : i < l.length := by simpa using hi
        rw [getD_set_ne false (by omega), hrep, hrep]) (by rw [show l.toArray.size = l.length by simp]; exact getD_set_self (by simp)) hany
    rw [show l.toArray.push o = (l ++ [o]).toArray by simp] at this
    exact this
theorem reg_drawL2 {id : Nat} {L : List Oper} {d N : Nat} {D : List Deferred} {v : Value} {E : Env} {a : Act} {w : World} {ty : TypeId} {ps : String} (n k : Nat) (hm : P.follows .mixedOrders = true) (hk : L.drop k = [{ dst := some d, op := .move (.const v), type := ty, pos := ps, after := #[], guard := none }])
    (hok : drawOk N n (L.take k).toArray = true) (hgo : guardsOk (L.take k).toArray = true) (hd : Nat.blt d N = true)
    (hfr : (Region.noSelect L.toArray && Region.free .any L.toArray (Array.replicate (k + 1) false) k) = true) (hQ : ∀ c a w, ¬ Q (.panic c) a w) (hF : Fr N D w.heap.size E a w)
    (h : net P (L.take k).toArray w (fun E' => ∀ a' w', Fr N D w.heap.size E' a' w' → Ext w w' → wpList P (L.take k).toArray Q ((L.take k).drop n) a' w') ((L.take k).take n) ((d, .is v) :: E)) : (Code.region id L.toArray true).wp P Q a w := by
  have hl : (L.take k).length = k := by
    have := congrArg List.length hk
    rw [List.length_drop] at this
    simp only [List.length_cons, List.length_nil] at this
    rw [List.length_take]
    omega
  have e : L = L.take k ++ [{ dst := some d, op := .move (.const v), type := ty, pos := ps, after := #[], guard := none }] := by rw [← hk, List.take_append_drop]
  rw [e]
  refine reg_drawL n hm hok hgo rfl hd ?_ hQ hF h
  rw [← e, hl]
  exact hfr
end
end Go.Proofs.Ythgpojlcbbgaoaa
