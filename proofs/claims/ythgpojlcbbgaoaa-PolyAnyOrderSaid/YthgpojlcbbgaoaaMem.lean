/- Blocks that the call itself has made, kept apart; loads, stores, frames of plain values, returns; operators on numbers. Plain theorems. -/
import Derived.Test.YthgpojlcbbgaoaaOps
set_option autoImplicit false
namespace Go.Proofs.Ythgpojlcbbgaoaa
open Go.RowKit

/-! ### frames of plain values -/
def FrV (N : Nat) (D : List Deferred) (E : Env) (a : Act) : Prop := ∀ B w, Fr N D B E a w
inductive Keep (E : Env) : Env → Prop
  | nil : Keep E []
  | cons {t : Nat} {v : Value} {L : Env} (h : look E t = some (.is v)) (r : Keep E L) : Keep E ((t, .is v) :: L)
theorem Keep.look {E L : Env} (h : Keep E L) {t : Nat} {f : Fact} (hl : look L t = some f) : ∃ v, f = .is v ∧ Go.Proofs.Ythgpojlcbbgaoaa.look E t = some (.is v) := by
  induction h with
  | nil => cases hl
  | @cons d v L h r ih =>
    rw [look_cons] at hl
    by_cases e : d = t
    · subst e
      rw [if_pos rfl] at hl
      injection hl with hl
      exact ⟨v, hl.symm, h⟩
    · rw [if_neg e] at hl
      exact ih hl
theorem Fr.keep {N B : Nat} {D : List Deferred} {E L : Env} {a : Act} {w : World} (h : Fr N D B E a w) (hk : Keep E L) : FrV N D L a := fun _ _ =>
  ⟨h.defers, h.size, fun t f hf => by
    obtain ⟨v, rfl, h2⟩ := hk.look hf
    exact h.at_ t _ h2⟩
theorem FrV.keep {N : Nat} {D : List Deferred} {E L : Env} {a : Act} (h : FrV N D E a) (hk : Keep E L) : FrV N D L a := (h 0 default).keep hk
theorem Fr.now {N B : Nat} {D : List Deferred} {E : Env} {a : Act} {w : World} (h : Fr N D B E a w) {t : Nat} {v : Value} (hv : a.tmps.getD t undef = v) : Fr N D B ((t, .is v) :: E) a w :=
  ⟨h.defers, h.size, fun s f hf => by
    rw [look_cons] at hf
    by_cases e : t = s
    · subst e
      rw [if_pos rfl] at hf
      injection hf with hf
      subst hf
      exact hv
    · rw [if_neg e] at hf
      exact h.at_ s f hf⟩
theorem FrV.ev {N : Nat} {D : List Deferred} {E : Env} {a : Act} (h : FrV N D E a) {x : Operand} {v : Value} (hx : Ev E x v) : a.eval x = v := by
  cases x with
  | tmp t =>
    rcases hx with hx | ⟨c, b, hx, hc⟩
    · exact (h 0 default).at_ t _ hx
    · have := (h 0 default).at_ t _ hx
      simp only [Fact.ok, hc, Bool.xor_self, cond_false] at this
      exact this
  | const u => exact hx
  | global g => exact hx
  | func f => exact hx

def startE : List Value → Nat → Env
  | [], _ => []
  | v :: vs, k => (k, .is v) :: startE vs (k + 1)
theorem look_startE (vs : List Value) : ∀ (k t : Nat) (f : Fact), look (startE vs k) t = some f → k ≤ t ∧ ∃ v, f = .is v ∧ vs[t - k]? = some v := by
  induction vs with
  | nil => intro k t f h; cases h
  | cons x vs ih =>
    intro k t f h
    simp only [startE] at h
    rw [look_cons] at h
    by_cases e : k = t
    · subst e
      rw [if_pos rfl] at h
      injection h with h
      exact ⟨Nat.le_refl _, x, h.symm, by simp⟩
    · rw [if_neg e] at h
      obtain ⟨h1, v, h2, h3⟩ := ih (k + 1) t f h
      refine ⟨by omega, v, h2, ?_⟩
      rw [show t - k = (t - (k + 1)) + 1 by omega]
      simpa using h3
theorem frv_start (vs : List Value) (N : Nat) (hN : vs.length ≤ N) : FrV N [] (startE vs 0) { tmps := vs.toArray ++ Array.replicate (N - vs.toArray.size) undef, defers := [] } := fun _ _ =>
  ⟨rfl, by simp; omega, fun t f hf => by
    obtain ⟨_, v, rfl, h⟩ := look_startE vs 0 t f hf
    have hlt : t < vs.length := by
      have := (List.getElem?_eq_some_iff.1 h).1
      omega
    have : (vs.toArray ++ Array.replicate (N - vs.toArray.size) undef)[t]? = some v := by
      rw [Array.getElem?_append_left (by simpa using hlt)]
      simpa using h
    simp only [Fact.ok, Array.getD_eq_getD_getElem?, this, Option.getD_some]⟩

/-- A function is entered. -/
theorem enter {P : Program} {f : FuncId} {fn : Func} {c : Code} {vs : List Value} {w : World} {R : Ending → World → Prop} {N : Nat} (hf : P.funcs[f]? = some fn) (hb : fn.body = some c) (hN : fn.ntmps = N) (hl : Nat.ble vs.length N = true)
    (h : ∀ a, FrV N [] (startE vs 0) a → c.wp P (bodyPost P fn R) a w) : Calls P f vs.toArray w R :=
  calls_of_wp hf hb (h _ (by rw [hN]; exact frv_start vs N (Nat.le_of_ble_eq_true hl)))

/-! ### what the call itself has made -/
inductive Ent
  | blk (b : Nat) (t : TypeId) (cs : List Value)
  | row (v : Value) (e : TypeId) (sz n : Nat) (xs : List Value)
  | obj (b : Nat) (o : Obj)
def Ent.block : Ent → Option Nat
  | .blk b _ _ => some b
  | .row v _ _ _ _ => v.ownBlock
  | .obj b _ => some b
def Ent.ok (B : Nat) (w : World) : Ent → Prop
  | .blk b t cs => B ≤ b ∧ w.heap[b]? = some (.cells cs.toArray t (0, 0))
  | .row v e sz n xs => w.ownsRow B e sz v n xs
  | .obj b o => B ≤ b ∧ w.heap[b]? = some o
structure Own (w0 w : World) (M : List Ent) : Prop where
  ext : Ext w0 w
  ok : ∀ m ∈ M, m.ok w0.heap.size w
  sep : M.Pairwise fun m m' => ∀ b, m.block = some b → m'.block ≠ some b

theorem Ent.ok_ext {B : Nat} {w w' : World} {m : Ent} (h : m.ok B w) (hx : Ext w w') : m.ok B w' := by
  cases m with
  | blk b t cs => exact ⟨h.1, hx.heap h.2⟩
  | row v e sz n xs => exact Ext.row hx h
  | obj b o => exact ⟨h.1, hx.heap h.2⟩
theorem Ent.lt {B : Nat} {w : World} {m : Ent} (h : m.ok B w) {b : Nat} (hb : m.block = some b) : B ≤ b ∧ b < w.heap.size := by
  cases m with
  | blk b' t cs =>
    simp only [Ent.block, Option.some.injEq] at hb
    subst hb
    exact ⟨h.1, (Array.getElem?_eq_some_iff.1 h.2).1⟩
  | row v e sz n xs => exact World.ownsRow.lt h b hb
  | obj b' o =>
    simp only [Ent.block, Option.some.injEq] at hb
    subst hb
    exact ⟨h.1, (Array.getElem?_eq_some_iff.1 h.2).1⟩
/-- The element's type. -/
def Ent.ty : Ent → TypeId
  | .blk _ t _ => t
  | .row _ e _ _ _ => e
  | .obj _ _ => 0
def Ent.isObj : Ent → Bool
  | .obj _ _ => true
  | _ => false
theorem Ent.at_ty {B : Nat} {w : World} {m : Ent} (h : m.ok B w) (ho : m.isObj = false) {b : Nat} (hb : m.block = some b) : ∃ c, w.heap[b]? = some (.cells c m.ty (0, 0)) := by
  cases m with
  | blk b' t cs =>
    simp only [Ent.block, Option.some.injEq] at hb
    subst hb
    exact ⟨_, h.2⟩
  | row v e sz n xs =>
    rcases h.2 with ⟨rfl, _⟩ | ⟨g, cap, cur, rfl, _, hh, _⟩
    · simp [Ent.block, Value.ownBlock] at hb
    · have : g = b := by simpa [Ent.block, Value.ownBlock] using hb
      subst this
      exact ⟨_, hh⟩
  | obj b' o => cases ho

theorem Own.start (w : World) : Own w w [] := ⟨Ext.refl w, fun _ h => (by cases h), List.Pairwise.nil⟩
section
variable {w0 w w' : World} {M : List Ent}
theorem Own.next (h : Own w0 w M) (hx : Ext w w') : Own w0 w' M := ⟨h.ext.trans hx, fun m hm => Ent.ok_ext (h.ok m hm) hx, h.sep⟩
theorem Own.add (h : Own w0 w M) (hx : Ext w w') {m : Ent} (hm : m.ok w.heap.size w') : Own w0 w' (M ++ [m]) := by
  refine ⟨h.ext.trans hx, fun m' hm' => ?_, ?_⟩
  · rcases List.mem_append.1 hm' with h1 | h1
    · exact Ent.ok_ext (h.ok m' h1) hx
    · rw [List.mem_singleton] at h1
      subst h1
      cases m' with
      | blk b t cs => exact ⟨Nat.le_trans h.ext.size hm.1, hm.2⟩
      | row v e sz n xs => exact ownsRow_mono hm h.ext.size
      | obj b o => exact ⟨Nat.le_trans h.ext.size hm.1, hm.2⟩
  · refine List.pairwise_append.2 ⟨h.sep, List.pairwise_singleton _ _, fun m1 h1 m2 h2 b hb1 hb2 => ?_⟩
    rw [List.mem_singleton] at h2
    subst h2
    have := (Ent.lt (h.ok m1 h1) hb1).2
    have := (Ent.lt hm hb2).1
    omega
theorem Own.blk (h : Own w0 w M) (hx : Ext w w') {t : TypeId} {cs : List Value} {v : Value} (hf : (Fact.blk t cs).ok w.heap.size v w') : ∃ b, v = .pointer (some ⟨b, 0, none⟩) ∧ Own w0 w' (M ++ [.blk b t cs]) := by
  obtain ⟨b, h1, h2, h3⟩ := hf
  exact ⟨b, h1, h.add hx ⟨h2, h3⟩⟩
theorem Own.ex (h : Own w0 w M) (hx : Ext w w') {e : TypeId} {sz n : Nat} {xs : List Value} {mk : Value → Value} {v : Value} (hf : (Fact.ex e sz n xs mk).ok w.heap.size v w') :
    ∃ s, v = mk s ∧ Own w0 w' (M ++ [.row s e sz n xs]) := by
  obtain ⟨s, h1, h2⟩ := hf
  exact ⟨s, h2, h.add hx h1⟩
/-- Two new ones of one region, of different types. -/
theorem Own.add2 (h : Own w0 w M) (hx : Ext w w') {m m' : Ent} (hm : m.ok w.heap.size w') (hm' : m'.ok w.heap.size w') (ho : m.isObj = false) (ho' : m'.isObj = false) (hne : m.ty ≠ m'.ty) : Own w0 w' (M ++ [m, m']) := by
  have h1 := h.add hx hm
  have h2 := h.add hx hm'
  refine ⟨h1.ext, fun m1 h3 => ?_, ?_⟩
  · simp only [List.mem_append, List.mem_cons, List.not_mem_nil, or_false] at h3
    rcases h3 with h3 | h3 | h3
    · exact h1.ok m1 (List.mem_append.2 (.inl h3))
    · exact h1.ok m1 (List.mem_append.2 (.inr (by simp [h3])))
    · exact h2.ok m1 (List.mem_append.2 (.inr (by simp [h3])))
  · refine List.pairwise_append.2 ⟨h.sep, ?_, fun m1 h3 m2 h4 b hb1 hb2 => ?_⟩
    · refine List.pairwise_cons.2 ⟨fun m2 h4 b hb1 hb2 => ?_, List.pairwise_singleton _ _⟩
      rw [List.mem_singleton] at h4
      subst h4
      obtain ⟨c, hc⟩ := Ent.at_ty hm ho hb1
      obtain ⟨c', hc'⟩ := Ent.at_ty hm' ho' hb2
      rw [hc] at hc'
      injection hc' with hc'
      injection hc' with _ ht
      exact hne ht
    · have := (Ent.lt (h.ok m1 h3) hb1).2
      simp only [List.mem_cons, List.not_mem_nil, or_false] at h4
      rcases h4 with h4 | h4
      · subst h4
        have := (Ent.lt hm hb2).1
        omega
      · subst h4
        have := (Ent.lt hm' hb2).1
        omega
/-- What is not wanted any more. -/
theorem Own.drop (h : Own w0 w M) {L : List Ent} (hs : L.Sublist M) : Own w0 w L := ⟨h.ext, fun m hm => h.ok m (hs.subset hm), h.sep.sublist hs⟩

theorem Own.heap (h : Own w0 w M) {i b : Nat} {t : TypeId} {cs : List Value} (hi : M[i]? = some (.blk b t cs)) (hx : Ext w w') : w'.heap[b]? = some (.cells cs.toArray t (0, 0)) :=
  hx.heap (h.ok _ (List.mem_of_getElem? hi)).2
theorem Own.cell (h : Own w0 w M) {i b off : Nat} {t : TypeId} {cs : List Value} {v : Value} (hi : M[i]? = some (.blk b t cs)) (hc : cs[off]? = some v) (hx : Ext w w') : w'.cell? ⟨b, off, none⟩ = some v := by
  rw [cell_of_row w' b off _ t _ (h.heap hi hx)]
  simpa using hc
theorem Own.row (h : Own w0 w M) {i : Nat} {v : Value} {e : TypeId} {sz n : Nat} {xs : List Value} (hi : M[i]? = some (.row v e sz n xs)) : w.ownsRow w0.heap.size e sz v n xs := h.ok _ (List.mem_of_getElem? hi)
end

/-! ### loads -/
section
variable {P : Program} {w0 w : World} {M : List Ent}
theorem run_load1 {w : World} {ty : TypeId} {ad : Addr} {v : Value} (ha : ∀ w, (isAgg ty).run P w = .ok false w) (hc : w.cell? ad = some v) : (loadVar ty ad).run P w = .ok v w := by
  simp [loadVar, ha, hc]
theorem run_loadN {w : World} {ty : TypeId} {ad : Addr} {n : Nat} {vs : List Value} (ha : ∀ w, (isAgg ty).run P w = .ok true w) (hz : ∀ w, (sizeOf ty).run P w = .ok n w) (hl : vs.length = n)
    (hc : ∀ j v, vs[j]? = some v → w.cell? (ad.add j) = some v) : (loadVar ty ad).run P w = .ok (.agg vs.toArray) w := by
  have h1 := run_loadCells_list (P := P) w ad vs hc
  rw [hl] at h1
  simp [loadVar, ha, hz, h1]
theorem add_loc (b off j : Nat) : (⟨b, off, none⟩ : Addr).add j = ⟨b, off + j, none⟩ := by unfold Addr.add; split <;> simp_all
theorem ld1 (h : Own w0 w M) {i b off : Nat} {t ty : TypeId} {cs : List Value} {v : Value} (hi : M[i]? = some (.blk b t cs)) (ha : ∀ w, (isAgg ty).run P w = .ok false w) (hc : cs[off]? = some v) :
    ∀ w', Ext w w' → (loadVar ty ⟨b, off, none⟩).run P w' = .ok v w' := fun _ hx => run_load1 ha (h.cell hi hc hx)
theorem ldN (h : Own w0 w M) {i b off n : Nat} {t ty : TypeId} {cs vs : List Value} (hi : M[i]? = some (.blk b t cs)) (ha : ∀ w, (isAgg ty).run P w = .ok true w) (hz : ∀ w, (sizeOf ty).run P w = .ok n w)
    (hl : vs.length = n) (hc : (cs.drop off).take n = vs) : ∀ w', Ext w w' → (loadVar ty ⟨b, off, none⟩).run P w' = .ok (.agg vs.toArray) w' := fun _ hx =>
  run_loadN ha hz hl fun j v hv => by
    rw [add_loc]
    refine h.cell hi ?_ hx
    rw [← hc, List.getElem?_take] at hv
    split at hv
    · rw [List.getElem?_drop] at hv
      exact hv
    · cases hv
end

/-! ### stores, and what stands alone in a region -/
def seg (cs : List Value) (off : Nat) (vs : List Value) : List Value := cs.take off ++ vs ++ cs.drop (off + vs.length)

theorem heap_setCell_self {w : World} {b off : Nat} {c : Array Value} {t : TypeId} {v : Value} (h : w.heap[b]? = some (.cells c t (0, 0))) : (w.setCell ⟨b, off, none⟩ v).heap[b]? = some (.cells (c.setIfInBounds off v) t (0, 0)) := by
  simp [World.setCell, Array.getElem?_modify, h]

section
variable {P : Program} {w0 w : World} {M : List Ent}
/-- Cells of one block are written, one behind the other. -/
theorem run_storeCells {b : Nat} {t : TypeId} (vs : List Value) : ∀ (w : World) (off i : Nat) (c : Array Value), w.heap[b]? = some (.cells c t (0, 0)) → (∀ v ∈ vs, v.oneCell' = true) → off + i + vs.length ≤ c.size →
    ∃ w', (storeCells ⟨b, off, none⟩ vs i).run P w = .ok () w' ∧ w'.heap[b]? = some (.cells (seg c.toList (off + i) vs).toArray t (0, 0)) ∧ w'.os = w.os ∧ w'.tape = w.tape ∧ w'.output = w.output ∧ w'.heap.size = w.heap.size ∧
      (∀ k, k ≠ b → w'.heap[k]? = w.heap[k]?) := by
  induction vs with
  | nil =>
    intro w off i c h _ _
    refine ⟨w, rfl, ?_, rfl, rfl, rfl, rfl, fun _ _ => rfl⟩
    rw [h]
    simp [seg]
  | cons v vs ih =>
    intro w off i c h h1 hlen
    simp only [List.length_cons] at hlen
    have hcell : w.cell? ⟨b, off + i, none⟩ = some c[off + i] := by
      rw [cell_of_row w b _ c t _ h]
      exact Array.getElem?_eq_getElem (by omega)
    have hst : (store ((⟨b, off, none⟩ : Addr).add i) v).run P w = .ok () (w.setCell ⟨b, off + i, none⟩ v) := by
      rw [add_loc, run_store P w _ v .plain (h1 v List.mem_cons_self)]
      simp [hcell, frozen_of_row w b _ c t h]
    obtain ⟨w', hr, hh, e1, e2, e3, e4, e5⟩ := ih (w.setCell ⟨b, off + i, none⟩ v) off (i + 1) (c.setIfInBounds (off + i) v) (heap_setCell_self h) (fun u hu => h1 u (List.mem_cons_of_mem _ hu)) (by simp; omega)
    refine ⟨w', ?_, ?_, e1.trans rfl, e2.trans rfl, e3.trans rfl, e4.trans (by simp), fun k hk => (e5 k hk).trans (heap_setCell_other w _ k v hk)⟩
    · simp only [storeCells, Sem.run_bind, hst, Result.andThen_ok]
      exact hr
    · rw [hh]
      refine congrArg (fun l : List Value => some (Obj.cells l.toArray t (0, 0))) ?_
      apply List.ext_getElem?
      intro j
      simp only [seg, Array.toList_setIfInBounds, List.getElem?_append, List.length_append, List.length_take, List.length_set, List.getElem?_take, List.getElem?_drop, List.getElem?_set, List.length_cons, Array.length_toList]
      have hm1 : min (off + (i + 1)) c.size = off + i + 1 := by omega
      have hm2 : min (off + i) c.size = off + i := by omega
      rw [hm1, hm2]
      by_cases hj1 : j < off + i
      · rw [if_pos (by omega), if_pos (by omega), if_pos (by omega), if_neg (by omega), if_pos (by omega), if_pos hj1, if_pos hj1]
      · by_cases hj2 : j = off + i
        · subst hj2
          rw [if_pos (by omega), if_pos (by omega), if_pos (by omega), if_pos rfl, if_pos (by omega), if_pos (by omega), if_neg (by omega)]
          simp
        · by_cases hj3 : j < off + i + 1 + vs.length
          · rw [if_pos (by omega), if_neg (by omega), if_pos (by omega), if_neg (by omega)]
            rw [show j - (off + i) = (j - (off + i + 1)) + 1 by omega, List.getElem?_cons_succ]
          · rw [if_neg (by omega), if_neg (by omega)]
            rw [if_neg (by omega)]
            congr 1
            omega

theorem Own.stored {i b off : Nat} {t : TypeId} {cs vs : List Value} {w' : World} (h : Own w0 w M) (hi : M[i]? = some (.blk b t cs)) (hh : w'.heap[b]? = some (.cells (seg cs off vs).toArray t (0, 0)))
    (e1 : w'.os = w.os) (e2 : w'.tape = w.tape) (e3 : w'.output = w.output) (e4 : w'.heap.size = w.heap.size) (e5 : ∀ k, k ≠ b → w'.heap[k]? = w.heap[k]?) : Own w0 w' (M.set i (.blk b t (seg cs off vs))) := by
  have hb := h.ok _ (List.mem_of_getElem? hi)
  have hil : i < M.length := (List.getElem?_eq_some_iff.1 hi).1
  have hie : M[i] = .blk b t cs := (List.getElem?_eq_some_iff.1 hi).2
  have hne : ∀ k (hk : k < M.length), k ≠ i → ∀ b', M[k].block = some b' → b' ≠ b := by
    intro k hk hki b' hb' e
    subst e
    rcases Nat.lt_or_ge k i with hlt | hge
    · exact List.pairwise_iff_getElem.1 h.sep k i hk hil hlt b' hb' (by rw [hie]; rfl)
    · exact List.pairwise_iff_getElem.1 h.sep i k hil hk (by omega) b' (by rw [hie]; rfl) hb'
  have hkeep : ∀ k (hk : k < M.length), k ≠ i → M[k].ok w0.heap.size w' := by
    intro k hk hki
    have hok := h.ok _ (List.getElem_mem hk)
    have hn := hne k hk hki
    cases hm : M[k] with
    | blk b' t' cs' =>
      rw [hm] at hok hn
      exact ⟨hok.1, by rw [e5 b' (hn b' rfl)]; exact hok.2⟩
    | row v e sz n xs =>
      rw [hm] at hok hn
      refine World.ownsRow.kept hok (row := some b) ⟨e1, e2, e3, by omega, fun k _ hkb => e5 k (fun e => hkb (by rw [e]))⟩ ?_
      by_cases hv : v.ownBlock = none
      · exact .inl hv
      · exact .inr fun e => hn b e rfl
    | obj b' o =>
      rw [hm] at hok hn
      exact ⟨hok.1, by rw [e5 b' (hn b' rfl)]; exact hok.2⟩
  refine ⟨⟨e1.trans h.ext.os, e2.trans h.ext.tape, e3.trans h.ext.output, by rw [e4]; exact h.ext.size, fun k hk => (e5 k (by have := hb.1; omega)).trans (h.ext.block k hk)⟩, fun m hm => ?_, ?_⟩
  · obtain ⟨k, hk, rfl⟩ := List.mem_iff_getElem.1 hm
    rw [List.length_set] at hk
    by_cases hki : k = i
    · subst hki
      rw [List.getElem_set_self]
      exact ⟨hb.1, hh⟩
    · rw [List.getElem_set_ne (Ne.symm hki)]
      exact hkeep k hk hki
  · rw [List.pairwise_iff_getElem]
    intro k1 k2 hk1 hk2 hlt b' hb1 hb2
    rw [List.length_set] at hk1 hk2
    have key : ∀ k (hk : k < M.length), ((M.set i (.blk b t (seg cs off vs)))[k]'(by rw [List.length_set]; exact hk)).block = M[k].block := by
      intro k hk
      by_cases hki : k = i
      · subst hki
        rw [List.getElem_set_self, hie]
        rfl
      · rw [List.getElem_set_ne (Ne.symm hki)]
    rw [key k1 hk1] at hb1
    rw [key k2 hk2] at hb2
    exact List.pairwise_iff_getElem.1 h.sep k1 k2 hk1 hk2 hlt b' hb1 hb2

/-- A store into a block of the call's own. -/
theorem t_store {ops : Array Oper} {rest : List Oper} {o : Oper} {a : Act} {Q : Exit → Act → World → Prop} {ty : TypeId} {x y : Operand} {D : List Deferred} {N n i b off : Nat} {t : TypeId} {E : Env} {cs vs cs' : List Value} {v : Value}
    (hg : o.guard = none) (hd : o.dst = none) (ho : o.op = .store ty x y) (hF : FrV N D E a) (hw : Own w0 w M) (hi : M[i]? = some (.blk b t cs)) (hx : Ev E x (.pointer (some ⟨b, off, none⟩))) (hy : Ev E y v)
    (hv : v.cells = vs.toArray) (h1 : ∀ u ∈ vs, u.oneCell' = true) (hz : ∀ w, (sizeOf ty).run P w = .ok n w) (hn : vs.length = n) (hlen : off + n ≤ cs.length) (hcs : seg cs off vs = cs')
    (h : ∀ w', Own w0 w' (M.set i (.blk b t cs')) → wpList P ops Q rest a w') : wpList P ops Q (o :: rest) a w := by
  have hb := (hw.ok _ (List.mem_of_getElem? hi)).2
  obtain ⟨w', hr, hh, e1, e2, e3, e4, e5⟩ := run_storeCells (P := P) vs w off 0 cs.toArray hb h1 (by simp; omega)
  have hrun : (execOp a.eval o).run P w = .ok .skip w' := by
    unfold execOp
    rw [ho]
    simp only [Instr.storeAt, Instr.sureAddr, hF.ev hx, hF.ev hy, storeVar, hv]
    simp [hz, hn, hr]
  subst hcs
  refine wpList_plain hg fun K hK => ?_
  unfold Oper.wp
  rw [hrun]
  refine hK _ _ ?_
  rw [hd]
  exact h w' (hw.stored hi (by simpa using hh) e1 e2 e3 e4 e5)

/-- Operations of a region that draws nothing: the next k. -/
theorem t_net {ops : Array Oper} {l : List Oper} {a : Act} {Q : Exit → Act → World → Prop} {N : Nat} {D : List Deferred} {E : Env} (s k : Nat) (hd : dstOk N ops = true) (hs : ops.toList.drop s = l) (hF : FrV N D E a)
    (h : net P ops w (fun E' => ∀ a' w', Fr N D w.heap.size E' a' w' → Ext w w' → wpList P ops Q (l.drop k) a' w') (l.take k) E) : wpList P ops Q l a w := by
  have := net_list (Q := Q) (fin := fun E' => ∀ a' w', Fr N D w.heap.size E' a' w' → Ext w w' → wpList P ops Q (l.drop k) a' w') hd (l.take k) s E a w (fun j hj => by
    have hj' : j < k := by rw [List.length_take] at hj; omega
    subst hs
    rw [List.getElem?_take, if_pos hj', List.getElem?_drop, Array.getElem?_toList]) (l.drop k) h (hF _ _) (Ext.refl w) (fun E' a' w' hE hF' hx' => hE a' w' hF' hx')
  rwa [List.take_append_drop] at this
end

/-! ### the ends -/
section
variable {P : Program} {w0 w : World} {M : List Ent} {N : Nat} {E : Env} {a : Act} {fn : Func} {R : Ending → World → Prop}
theorem ret0 (hF : FrV N [] E a) (hr : fn.results = #[]) (h : R (.returned (.tuple #[])) w) : bodyPost P fn R .ret a w :=
  bodyPost_ret (results_none hr _ _ _) (hF 0 default).defers h
theorem end0 (hF : FrV N [] E a) (hr : fn.results = #[]) (h : R (.returned (.tuple #[])) w) : bodyPost P fn R .normal a w :=
  bodyPost_end (results_none hr _ _ _) (hF 0 default).defers h
theorem ret1 {t : Tmp} {v : Value} (hF : FrV N [] E a) (hr : fn.results = #[.tmp t]) (hv : look E t = some (.is v)) (h : R (.returned v) w) : bodyPost P fn R .ret a w :=
  bodyPost_ret (by rw [results_tmp hr]; rw [show a.tmps.getD t undef = v from (hF 0 default).at_ t _ hv]) (hF 0 default).defers h
theorem ret2 {t u : Tmp} {v v' : Value} (hF : FrV N [] E a) (hr : fn.results = #[.tmp t, .tmp u]) (hv : look E t = some (.is v)) (hv' : look E u = some (.is v')) (h : R (.returned (.tuple #[v, v'])) w) : bodyPost P fn R .ret a w :=
  bodyPost_ret (by rw [results_tmp2 hr]; rw [show a.tmps.getD t undef = v from (hF 0 default).at_ t _ hv, show a.tmps.getD u undef = v' from (hF 0 default).at_ u _ hv']) (hF 0 default).defers h
theorem ret3 {t u s : Tmp} {v v' v2 : Value} (hF : FrV N [] E a) (hr : fn.results = #[.tmp t, .tmp u, .tmp s]) (hv : look E t = some (.is v)) (hv' : look E u = some (.is v')) (hv2 : look E s = some (.is v2)) (h : R (.returned (.tuple #[v, v', v2])) w) : bodyPost P fn R .ret a w :=
  bodyPost_ret (v := .tuple #[v, v', v2]) (by
    have h1 : a.tmps.getD t undef = v := (hF 0 default).at_ t _ hv
    have h2 : a.tmps.getD u undef = v' := (hF 0 default).at_ u _ hv'
    have h3 : a.tmps.getD s undef = v2 := (hF 0 default).at_ s _ hv2
    simp only [Array.getD_eq_getD_getElem?] at h1 h2 h3
    simp [results, hr, h1, h2, h3]) (hF 0 default).defers h
theorem retc {t : Tmp} {ty : TypeId} {ad : Addr} {v : Value} (hF : FrV N [] E a) (hr : fn.results = #[.cell t ty]) (ht : look E t = some (.is (.pointer (some ad)))) (hl : (loadVar ty ad).run P w = .ok v w) (h : R (.returned v) w) : bodyPost P fn R .ret a w :=
  bodyPost_ret (v := v) (by
    have h1 : a.tmps.getD t undef = .pointer (some ad) := (hF 0 default).at_ t _ ht
    simp only [Array.getD_eq_getD_getElem?] at h1
    simp [results, hr, h1, asAddr, hl]) (hF 0 default).defers h
theorem retc2 {t u : Tmp} {ty : TypeId} {ad : Addr} {v v' : Value} (hF : FrV N [] E a) (hr : fn.results = #[.cell t ty, .tmp u]) (ht : look E t = some (.is (.pointer (some ad)))) (hl : (loadVar ty ad).run P w = .ok v w)
    (hv' : look E u = some (.is v')) (h : R (.returned (.tuple #[v, v'])) w) : bodyPost P fn R .ret a w :=
  bodyPost_ret (v := .tuple #[v, v']) (by
    have h1 : a.tmps.getD t undef = .pointer (some ad) := (hF 0 default).at_ t _ ht
    have h2 : a.tmps.getD u undef = v' := (hF 0 default).at_ u _ hv'
    simp only [Array.getD_eq_getD_getElem?] at h1 h2
    simp [results, hr, h1, h2, asAddr, hl]) (hF 0 default).defers h
end
end Go.Proofs.Ythgpojlcbbgaoaa
