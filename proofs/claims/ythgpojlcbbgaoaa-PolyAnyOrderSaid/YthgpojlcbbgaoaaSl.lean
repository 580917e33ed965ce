/- Slices: what is read of them, elements, parts, rows that grow. Plain theorems. -/
import Derived.Test.YthgpojlcbbgaoaaRange
import Derived.Maps.AppendAt
import Derived.Laws.MakeOwn
import Derived.Great.BuildSlice
set_option autoImplicit false
set_option linter.unusedVariables false
namespace Go.Proofs.Ythgpojlcbbgaoaa
open Go.RowKit

/-- The cells that a slice at A shows are these. -/
def Rd (w : World) (A : Option Addr) (xs : List Value) : Prop := xs = [] ∨ ∃ b off, A = some ⟨b, off, none⟩ ∧ ∀ j u, xs[j]? = some u → w.cell? ⟨b, off + j, none⟩ = some u

theorem cell_ext {w w' : World} (hx : Ext w w') {b off : Nat} {u : Value} (h : w.cell? ⟨b, off, none⟩ = some u) : w'.cell? ⟨b, off, none⟩ = some u := by
  obtain ⟨o, ho, _⟩ := cells_of_cell h
  rw [World.cell?_of_block ((hx.heap ho).trans ho.symm)]
  exact h
theorem Rd.ext {w w' : World} {A : Option Addr} {xs : List Value} (h : Rd w A xs) (hx : Ext w w') : Rd w' A xs := by
  rcases h with h | ⟨b, off, h1, h2⟩
  · exact .inl h
  · exact .inr ⟨b, off, h1, fun j u hj => cell_ext hx (h2 j u hj)⟩
theorem Rd.nil (w : World) (A : Option Addr) : Rd w A [] := .inl rfl
theorem Rd.at_ {w : World} {A : Option Addr} {xs : List Value} (h : Rd w A xs) (hn : 0 < xs.length) : ∃ b off, A = some ⟨b, off, none⟩ ∧ ∀ j u, xs[j]? = some u → w.cell? ⟨b, off + j, none⟩ = some u := by
  rcases h with rfl | h
  · simp at hn
  · exact h
theorem Rd.take {w : World} {A : Option Addr} {xs : List Value} (h : Rd w A xs) (k : Nat) : Rd w A (xs.take k) := by
  rcases h with rfl | ⟨b, off, h1, h2⟩
  · exact .inl (by simp)
  · exact .inr ⟨b, off, h1, fun j u hj => h2 j u (by rw [List.getElem?_take] at hj; split at hj <;> simp_all)⟩
section
variable {w0 w : World} {M : List Ent}
theorem Own.rd (h : Own w0 w M) {i : Nat} {v : Value} {e : TypeId} {sz n : Nat} {xs : List Value} (hi : M[i]? = some (.row v e sz n xs)) : ∃ A c, v = .slice A n c ∧ n ≤ c ∧ Rd w A xs ∧ xs.length = n * sz := by
  have hr := h.row hi
  refine ?_
  rcases hr.2 with ⟨rfl, rfl⟩ | ⟨g, cap, cur, rfl, _, hh, hc, _, _, ht⟩
  · exact ⟨none, 0, rfl, Nat.le_refl _, .inl (List.eq_nil_of_length_eq_zero (by simpa using hr.1)), hr.1⟩
  · refine ⟨_, _, rfl, hc, .inr ⟨g, 0, rfl, fun j u hj => ?_⟩, hr.1⟩
    rw [cell_of_row w g _ _ e _ hh]
    rw [← ht, List.getElem?_take] at hj
    split at hj
    · rw [Nat.zero_add]
      simpa using hj
    · cases hj
theorem Own.rdBlk (h : Own w0 w M) {i b : Nat} {t : TypeId} {cs : List Value} (hi : M[i]? = some (.blk b t cs)) (off k : Nat) : Rd w (some ⟨b, off, none⟩) ((cs.drop off).take k) :=
  .inr ⟨b, off, rfl, fun j u hj => by
    refine h.cell hi ?_ (Ext.refl w)
    rw [List.getElem?_take] at hj
    split at hj
    · simpa [List.getElem?_drop] using hj
    · cases hj⟩
end

section
variable {P : Program} {w : World}
theorem ld1R {b off off' j : Nat} {ty : TypeId} {xs : List Value} {u : Value} (hc : ∀ j u, xs[j]? = some u → w.cell? ⟨b, off + j, none⟩ = some u) (hx : xs[j]? = some u) (ha : ∀ w, (isAgg ty).run P w = .ok false w) (he : off' = off + j) :
    ∀ w', Ext w w' → (loadVar ty ⟨b, off', none⟩).run P w' = .ok u w' := fun _ h => by
  subst he
  exact run_load1 ha (cell_ext h (hc j u hx))
theorem ldNR {b off off' j n : Nat} {ty : TypeId} {xs vs : List Value} (hc : ∀ j u, xs[j]? = some u → w.cell? ⟨b, off + j, none⟩ = some u) (hx : (xs.drop j).take n = vs) (hl : vs.length = n) (ha : ∀ w, (isAgg ty).run P w = .ok true w) (hz : ∀ w, (sizeOf ty).run P w = .ok n w) (he : off' = off + j) :
    ∀ w', Ext w w' → (loadVar ty ⟨b, off', none⟩).run P w' = .ok (.agg vs.toArray) w' := fun _ h => by
  subst he
  refine run_loadN ha hz hl fun k v hv => ?_
  rw [add_loc, Nat.add_assoc]
  refine cell_ext h (hc (j + k) v ?_)
  rw [← hx, List.getElem?_take] at hv
  split at hv
  · rwa [List.getElem?_drop] at hv
  · cases hv
end

section
variable {P : Program} {wr : World} {E : Env} {o : Oper}
/-- The address of an element of a slice. -/
theorem n_indexS {t e : TypeId} {x y : Operand} {b off off' n c j sz : Nat} {k : IntKind} (ho : o.op = .indexAddr t x y) (hx : Ev E x (.slice (some ⟨b, off, none⟩) n c)) (hy : Ev E y (.int k (j : Int)))
    (ht : P.underlying t = some (.slice e)) (hz : ∀ w, (sizeOf e).run P w = .ok sz w) (hj : j < n) (ho' : off + j * sz = off') : nstep P wr E o (.is (.pointer (some ⟨b, off', none⟩))) :=
  n_run fun a w hw hop => ⟨_, w, by
    have h1 := hx.eval (by simp [ho, Op.operands]) hop
    have h2 := hy.eval (by simp [ho, Op.operands]) hop
    subst ho'
    unfold execOp; rw [ho]; simp [Instr.indexAt, h1, h2, asIntOf, run_underlying ht, hj, hz, add_loc], Ext.refl w, rfl⟩
/-- The first elements of an array that is a variable; those behind. -/
theorem n_arrTake {t e : TypeId} {x h : Operand} {b n k : Nat} {kd : IntKind} (ho : o.op = .slice t x none (some h) none) (hx : Ev E x (.pointer (some ⟨b, 0, none⟩))) (hy : Ev E h (.int kd (k : Int)))
    (ht : ∀ w, (underlying t).run P w = .ok (.array n e) w) {sz : Nat} (hz : ∀ w, (sizeOf e).run P w = .ok sz w) (hk : k ≤ n) : nstep P wr E o (.is (.slice (some ⟨b, 0, none⟩) k n)) :=
  n_run fun a w hw hop => ⟨_, w, by
    have h1 := hx.eval (by simp [ho, Op.operands]) hop
    have h2 := hy.eval (by simp [ho, Op.operands]) hop
    unfold execOp; rw [ho]
    have hk' : ¬ n < k := by omega
    simp [Instr.sliceAt, ht, Instr.sureAddr, h1, h2, Instr.sliceBounds, Instr.sliceBound, asIntOf, hz, hk, add_loc], Ext.refl w, rfl⟩
theorem n_arrDrop {t e : TypeId} {x l : Operand} {b n k : Nat} {kd : IntKind} (ho : o.op = .slice t x (some l) none none) (hx : Ev E x (.pointer (some ⟨b, 0, none⟩))) (hy : Ev E l (.int kd (k : Int)))
    (ht : ∀ w, (underlying t).run P w = .ok (.array n e) w) {sz : Nat} (hz : ∀ w, (sizeOf e).run P w = .ok sz w) (hk : k < n) : nstep P wr E o (.is (.slice (some ⟨b, k * sz, none⟩) (n - k) (n - k))) :=
  n_run fun a w hw hop => ⟨_, w, by
    have h1 := hx.eval (by simp [ho, Op.operands]) hop
    have h2 := hy.eval (by simp [ho, Op.operands]) hop
    unfold execOp; rw [ho]
    have hk' : ¬ n < k := by omega
    have hk2 : ¬ n = k := by omega
    have hk3 : k ≤ n := by omega
    simp [Instr.sliceAt, ht, Instr.sureAddr, h1, h2, Instr.sliceBounds, Instr.sliceBound, asIntOf, hz, hk2, hk3, add_loc], Ext.refl w, rfl⟩
/-- The first k elements of a slice. -/
theorem n_slTake {t e : TypeId} {x h : Operand} {A : Option Addr} {n c k : Nat} {kd : IntKind} (ho : o.op = .slice t x none (some h) none) (hx : Ev E x (.slice A n c)) (hy : Ev E h (.int kd (k : Int)))
    (ht : P.underlying t = some (.slice e)) {sz : Nat} (hz : ∀ w, (sizeOf e).run P w = .ok sz w) (hk : k ≤ c) : nstep P wr E o (.is (.slice A k c)) :=
  n_run fun a w hw hop => ⟨_, w, by
    have h1 := hx.eval (by simp [ho, Op.operands]) hop
    have h2 := hy.eval (by simp [ho, Op.operands]) hop
    unfold execOp; rw [ho]
    have hk' : ¬ c < k := by omega
    have ha : A.map (·.add 0) = A := by cases A <;> rfl
    simp [Instr.sliceAt, Instr.slice, run_underlying ht, h1, h2, Instr.sliceBounds, Instr.sliceBound, asIntOf, hz, hk, ha], Ext.refl w, rfl⟩
/-- A slice of these elements, in a block of its own. -/
def mkS (n : Nat) : Value → Value
  | .pointer A => .slice A n n
  | _ => undef
theorem n_buildSlice {t e : TypeId} {len : Nat} {ps : Array (Nat × Operand)} {vs : Array (Nat × Value)} {cs : List Value} {ie : TypeInfo} {z : Value} (ho : o.op = .buildSlice t len ps) (hx : EvP E ps.toList vs.toList)
    (hu : P.underlying t = some (.slice e)) (hie : P.info? e = some ie) (hz : ie.zero = some z) (hsmall : ¬ len * ie.size > 2 ^ 24) (hpos : ¬ len * ie.size = 0)
    (hf : Instr.fill (fun i => some (i * ie.size, ie.size)) ((Array.range (len * ie.size)).map (z.cells[· % z.cells.size]!)) vs.toList = some cs.toArray) : nstep P wr E o (.cap e cs (mkS len)) :=
  n_run fun a w hw hop => ⟨_, _, by
    have key : ∀ (l : List (Nat × Operand)) (l' : List (Nat × Value)), (∀ p ∈ l, p.2 ∈ o.op.operands) → EvP E l l' → (l.map fun p => (p.1, a.eval p.2)) = l' := by
      intro l l' hm hf
      induction hf with
      | nil => rfl
      | cons h _ ih => rw [List.map_cons, ih (fun p hp => hm p (List.mem_cons_of_mem _ hp)), h.eval (hm _ List.mem_cons_self) hop]
    have h1 := key ps.toList vs.toList (fun p hp => by rw [ho]; simp only [Op.operands, List.mem_toArray, List.mem_map]; exact ⟨p, hp, rfl⟩) hx
    have h2 : (ps.map fun (i, x) => (i, a.eval x)) = vs := by
      apply Array.toList_inj.1
      rw [Array.toList_map, ← h1]
    have hb := run_buildSlice (P := P) w t e len vs cs.toArray ie z hu hie hz hsmall hpos hf
    unfold execOp; rw [ho]; simp only [h2]; simp [hb]; rfl, (Below.refl _ w).alloc (Nat.le_refl _) _, ⟨w.heap.size, rfl, hw.size, World.alloc_heap_new w _⟩⟩
/-- A new slice of n zeros. -/
theorem n_makeSlice {t e : TypeId} {l c : Operand} {n : Nat} {cs : List Value} {i : TypeInfo} {z : Value} {k k' : IntKind} (ho : o.op = .makeSlice t l c) (hl : Ev E l (.int k (n : Int))) (hc : Ev E c (.int k' (n : Int)))
    (ht : P.underlying t = some (.slice e)) (hi : P.info? e = some i) (hz : i.zero = some z) (hb : i.bytes * n ≤ 281474976710656) (hn : n ≤ 9223372036854775807) (hcs : (madeCells z.cells (n * i.size)).toList = cs) : nstep P wr E o (.cap e cs (mkS n)) :=
  n_run fun a w hw hop => ⟨_, _, by
    have h1 := hl.eval (by simp [ho, Op.operands]) hop
    have h2 := hc.eval (by simp [ho, Op.operands]) hop
    have hr := run_make (P := P) (w := w) t e i z ht hi hz k k' (n : Int) (n : Int) (by omega) (by omega) (by have h3 := Int.ofNat_le.2 hb; rw [Int.natCast_mul] at h3; exact h3) (by omega)
    simp only [Int.toNat_natCast] at hr
    unfold execOp; rw [ho]; dsimp only; rw [h1, h2]; simp only [Sem.run_bind, hr, Result.andThen_ok, Sem.run_pure]; rfl, (Below.refl _ w).alloc (Nat.le_refl _) _, ⟨w.heap.size, rfl, hw.size, by rw [World.alloc_heap_new, ← hcs]⟩⟩
end

/-- The kind of a slice: its element, how many cells and bytes. -/
structure SlT (P : Program) (t e : TypeId) (sz by_ : Nat) : Prop where
  ht : P.underlying t = some (.slice e)
  hi : ∃ i z, P.info? e = some i ∧ i.zero = some z ∧ i.size = sz ∧ i.bytes = by_ ∧ z.cells.size = sz
  hsz : 0 < sz

theorem seg_cons {cs vs : List Value} {k : Nat} {v : Value} (h : k + 1 + vs.length ≤ cs.length) : seg (cs.set k v) (k + 1) vs = seg cs k (v :: vs) := by
  have hl : (cs.take k).length = k := by rw [List.length_take]; omega
  have e1 : (cs.take k ++ v :: cs.drop (k + 1)).take (k + 1) = cs.take k ++ [v] := by
    rw [List.take_append, hl, List.take_of_length_le (by omega), show k + 1 - k = 1 by omega]
    rfl
  have e2 : (cs.take k ++ v :: cs.drop (k + 1)).drop (k + 1 + vs.length) = cs.drop (k + (vs.length + 1)) := by
    rw [List.drop_append, hl, List.drop_of_length_le (by omega), show k + 1 + vs.length - k = vs.length + 1 by omega, List.drop_succ_cons, List.drop_drop, List.nil_append]
    congr 1
    omega
  unfold seg
  rw [List.set_eq_take_append_cons_drop, if_pos (by omega), e1, e2]
  simp
theorem foldl_seg (off : Nat) : ∀ (l : List Value) (j0 : Nat) (cells : Array Value), off + j0 + l.length ≤ cells.size → (l.zipIdx j0).foldl (fun cs p => cs.setIfInBounds (off + p.2) p.1) cells = (seg cells.toList (off + j0) l).toArray
  | [], j0, cells, h => by simp [seg]
  | a :: l, j0, cells, h => by
    simp only [List.length_cons] at h
    rw [List.zipIdx_cons, List.foldl_cons, foldl_seg off l (j0 + 1) _ (by simp; omega), Array.toList_setIfInBounds, ← Nat.add_assoc, seg_cons (by simp; omega)]
inductive Parts (sz : Nat) : Nat → List (Nat × Value) → List Value → Prop
  | nil {k : Nat} : Parts sz k [] []
  | cons {k : Nat} {v : Value} {c : List Value} {ps : List (Nat × Value)} {cs : List Value} (hv : v.cells = c.toArray) (hl : c.length = sz) (r : Parts sz (k + 1) ps cs) : Parts sz k ((k, v) :: ps) (c ++ cs)
theorem fill_parts {sz : Nat} {k : Nat} {ps : List (Nat × Value)} {cs : List Value} (h : Parts sz k ps cs) : ∀ (cells : Array Value), cells.size = k * sz + cs.length → Instr.fill (fun i => some (i * sz, sz)) cells ps = some (cells.toList.take (k * sz) ++ cs).toArray := by
  induction h with
  | nil =>
    intro cells hc
    simp only [Instr.fill, List.length_nil, Nat.add_zero] at hc ⊢
    rw [List.append_nil, List.take_of_length_le (by simp [hc])]
  | @cons k v c ps cs hv hl r ih =>
    intro cells hc
    rw [List.length_append, hl] at hc
    have e1 : (k + 1) * sz = k * sz + sz := by rw [Nat.add_mul, Nat.one_mul]
    unfold Instr.fill
    simp only [hv, List.size_toArray, hl]
    rw [if_neg (by simp; omega)]
    have hf : c.toArray.zipIdx.foldl (fun cs (p : Value × Nat) => cs.setIfInBounds (k * sz + p.2) p.1) cells = (seg cells.toList (k * sz) c).toArray := by
      rw [← Array.foldl_toList, Array.toList_zipIdx]
      exact foldl_seg (k * sz) c 0 cells (by omega)
    rw [show (c.toArray.zipIdx.foldl (fun cs (x : Value × Nat) => match x with | (c, j) => cs.setIfInBounds (k * sz + j) c) cells) = (seg cells.toList (k * sz) c).toArray from hf]
    have hsl : (seg cells.toList (k * sz) c).length = cells.size := by
      simp only [seg, List.length_append, List.length_take, List.length_drop, Array.length_toList]; omega
    rw [ih _ (by rw [List.size_toArray, hsl, hc, e1]; omega)]
    congr 2
    rw [← List.append_assoc]
    congr 1
    simp only [seg]
    rw [e1, List.take_append_of_le_length (by simp only [List.length_append, List.length_take, Array.length_toList]; omega), List.take_of_length_le (by simp only [List.length_append, List.length_take, Array.length_toList]; omega)]
theorem madeCells_rep {z : Value} {v : Value} (h : z.cells = #[v]) (n : Nat) : (madeCells z.cells n).toList = List.replicate n v := by
  rw [h]
  apply List.ext_getElem?
  intro i
  simp only [madeCells, Array.toList_map, Array.toList_range, List.getElem?_map, List.size_toArray, List.length_cons, List.length_nil, Nat.zero_add, Nat.mod_one, List.getElem?_replicate]
  by_cases hi : i < n
  · rw [List.getElem?_range hi, if_pos hi]; rfl
  · rw [List.getElem?_eq_none (by simpa using hi), if_neg hi]; rfl
section
variable {P : Program} {wr : World} {E : Env} {o : Oper}
/-- The same, its parts given in their order. -/
theorem n_bsl {t e : TypeId} {len sz by_ : Nat} {ps : Array (Nat × Operand)} {vs : List (Nat × Value)} {cs : List Value} (T : SlT P t e sz by_) (ho : o.op = .buildSlice t len ps) (hx : EvP E ps.toList vs)
    (hp : Parts sz 0 vs cs) (hl : cs.length = len * sz) (hsmall : ¬ len * sz > 2 ^ 24) (hlen : 0 < len) : nstep P wr E o (.cap e cs (mkS len)) := by
  obtain ⟨ie, z, h1, h2, h3, _, h5⟩ := T.hi
  subst h3
  have hpos : ¬ len * ie.size = 0 := by have := Nat.mul_pos hlen T.hsz; omega
  refine n_buildSlice ho (vs := vs.toArray) (by simpa using hx) T.ht h1 h2 hsmall hpos ?_
  rw [show vs.toArray.toList = vs from rfl, fill_parts hp _ (by simp [hl])]
  simp
theorem n_mkU {t e : TypeId} {l c : Operand} {n by_ : Nat} {v : Value} {k k' : IntKind} (T : SlT P t e 1 by_) (hzv : ∀ i z, P.info? e = some i → i.zero = some z → z.cells = #[v]) (ho : o.op = .makeSlice t l c) (hl : Ev E l (.int k (n : Int))) (hc : Ev E c (.int k' (n : Int)))
    (hb : by_ * n ≤ 281474976710656) (hn : n ≤ 9223372036854775807) : nstep P wr E o (.cap e (List.replicate n v) (mkS n)) := by
  obtain ⟨ie, z, h1, h2, h3, h4, h5⟩ := T.hi
  subst h4
  exact n_makeSlice ho hl hc T.ht h1 h2 hb hn (by rw [madeCells_rep (hzv ie z h1 h2), h3, Nat.mul_one])
end
/-! ### rows that grow -/
section
variable {P : Program} {w0 w : World} {M : List Ent}
theorem Own.blkRow (h : Own w0 w M) {i b : Nat} {e : TypeId} {cs : List Value} (hi : M[i]? = some (.blk b e cs)) {sz n : Nat} (hl : cs.length = n * sz) (hn : n ≤ maxLen) : Own w0 w (M.set i (.row (.slice (some ⟨b, 0, none⟩) n n) e sz n cs)) := by
  have hb := h.ok _ (List.mem_of_getElem? hi)
  refine h.replace hi rfl rfl ?_ rfl rfl rfl rfl (fun _ _ => rfl)
  exact ⟨hl, .inr ⟨b, n, cs.toArray, rfl, hb.1, hb.2, Nat.le_refl _, hn, by simpa using hl, by rw [List.take_of_length_le (by simp [hl])]⟩⟩
theorem Own.addNil (h : Own w0 w M) (e : TypeId) (sz : Nat) : Own w0 w (M ++ [.row (.slice none 0 0) e sz 0 []]) :=
  h.add (Ext.refl w) (m := .row (.slice none 0 0) e sz 0 []) (World.ownsRow_nil w _ e sz)

theorem run_append_none {t ty e : TypeId} {i : TypeInfo} (ht : P.underlying t = some (.slice e)) (hi : P.info? e = some i) {A : Option Addr} {n c : Nat} (hn : n ≤ c) (A' : Option Addr) (c' : Nat) :
    (Builtin.append_ #[t, t] ty #[.slice A n c, .slice A' 0 c']).run P w = .ok (.slice A n c) w := by
  cases A <;> cases A' <;> simp [Builtin.append_, run_underlying ht, sizeOf, typeInfo, hi, Builtin.lenOf, Builtin.firstCells, loadCells, loadCellsFrom, hn, storeCells]

/-- The row i has grown (in its block, or in a new one). -/
theorem Own.grown {i : Nat} {v v' : Value} {e : TypeId} {sz n n' : Nat} {xs xs' : List Value} {w' : World} (h : Own w0 w M) (hi : M[i]? = some (.row v e sz n xs)) (hr : w'.ownsRow w0.heap.size e sz v' n' xs') (hg : w.grownBy w' v.ownBlock)
    (hat : v'.ownBlock = v.ownBlock ∨ v'.ownBlock = some w.heap.size) : Own w0 w' (M.set i (.row v' e sz n' xs')) := by
  have hv := h.ok _ (List.mem_of_getElem? hi)
  have hil : i < M.length := (List.getElem?_eq_some_iff.1 hi).1
  have hie : M[i] = .row v e sz n xs := (List.getElem?_eq_some_iff.1 hi).2
  have hne : ∀ k (hk : k < M.length), k ≠ i → ∀ b', M[k].block = some b' → v.ownBlock ≠ some b' := by
    intro k hk hki b' hb' e'
    rcases Nat.lt_or_ge k i with hlt | hge
    · exact List.pairwise_iff_getElem.1 h.sep k i hk hil hlt b' hb' (by rw [hie]; exact e')
    · exact List.pairwise_iff_getElem.1 h.sep i k hil hk (by omega) b' (by rw [hie]; exact e') hb'
  have hold : ∀ k, k < w.heap.size → v.ownBlock ≠ some k → w'.heap[k]? = w.heap[k]? := fun k hk hn => hg.block k hk (fun e' => hn e'.symm)
  have hkeep : ∀ k (hk : k < M.length), k ≠ i → M[k].ok w0.heap.size w' := by
    intro k hk hki
    have hok := h.ok _ (List.getElem_mem hk)
    have hn := hne k hk hki
    cases hm : M[k] with
    | blk b' t' cs' =>
      rw [hm] at hok hn
      exact ⟨hok.1, by rw [hold b' (Array.getElem?_eq_some_iff.1 hok.2).1 (hn b' rfl)]; exact hok.2⟩
    | row v2 e2 sz2 n2 xs2 =>
      rw [hm] at hok hn
      refine World.ownsRow.kept hok (row := v.ownBlock) ⟨hg.os, hg.tape, hg.output, hg.size, hg.block⟩ ?_
      by_cases hv2 : v2.ownBlock = none
      · exact .inl hv2
      · obtain ⟨b2, hb2⟩ := Option.ne_none_iff_exists'.1 hv2
        exact .inr (by rw [hb2]; exact fun e' => hn b2 hb2 e'.symm)
    | obj b' o =>
      rw [hm] at hok hn
      exact ⟨hok.1, by rw [hold b' (Array.getElem?_eq_some_iff.1 hok.2).1 (hn b' rfl)]; exact hok.2⟩
  refine ⟨⟨hg.os.trans h.ext.os, hg.tape.trans h.ext.tape, hg.output.trans h.ext.output, Nat.le_trans h.ext.size hg.size, fun k hk => ?_⟩, fun m1 hm1 => ?_, ?_⟩
  · refine (hold k (Nat.lt_of_lt_of_le hk h.ext.size) (fun e' => ?_)).trans (h.ext.block k hk)
    have := (Ent.lt hv (b := k) e').1
    omega
  · obtain ⟨k, hk, rfl⟩ := List.mem_iff_getElem.1 hm1
    rw [List.length_set] at hk
    by_cases hki : k = i
    · subst hki
      rw [List.getElem_set_self]
      exact hr
    · rw [List.getElem_set_ne (Ne.symm hki)]
      exact hkeep k hk hki
  · rw [List.pairwise_iff_getElem]
    intro k1 k2 hk1 hk2 hlt b' hb1 hb2
    rw [List.length_set] at hk1 hk2
    have key : ∀ k (hk : k < M.length), k ≠ i → ∀ b', M[k].block = some b' → v'.ownBlock ≠ some b' := by
      intro k hk hki b2 hb2 e'
      rcases hat with h1 | h1
      · exact hne k hk hki b2 hb2 (h1 ▸ e')
      · rw [h1] at e'
        injection e' with e'
        have := (Ent.lt (h.ok _ (List.getElem_mem hk)) hb2).2
        omega
    by_cases h1 : k1 = i
    · subst h1
      rw [List.getElem_set_self] at hb1
      rw [List.getElem_set_ne (by omega)] at hb2
      exact key k2 (by omega) (by omega) b' hb2 hb1
    · rw [List.getElem_set_ne (Ne.symm h1)] at hb1
      by_cases h2 : k2 = i
      · subst h2
        rw [List.getElem_set_self] at hb2
        exact key k1 (by omega) h1 b' hb1 hb2
      · rw [List.getElem_set_ne (Ne.symm h2)] at hb2
        exact List.pairwise_iff_getElem.1 h.sep k1 k2 hk1 hk2 hlt b' hb1 hb2

theorem run_app {t e ty : TypeId} {sz by_ i n m c : Nat} (T : SlT P t e sz by_) {v : Value} {xs news : List Value} {A : Option Addr} (hw : Own w0 w M) (hi : M[i]? = some (.row v e sz n xs)) (hR : Rd w A news) (hl : news.length = m * sz)
    (h1 : ∀ u ∈ news, u.oneCell' = true) (h63 : n + m ≤ maxLen) (hby : (n + m) * by_ ≤ 140737488355328) :
    ∃ v' w', (Builtin.append_ #[t, t] ty #[v, .slice A m c]).run P w = .ok v' w' ∧ Own w0 w' (M.set i (.row v' e sz (n + m) (xs ++ news))) := by
  obtain ⟨inf, z, g1, g2, g3, g4, g5⟩ := T.hi
  have hrow := hw.row hi
  by_cases hm : m = 0
  · subst hm
    obtain rfl : news = [] := List.eq_nil_of_length_eq_zero (by simpa using hl)
    obtain ⟨A0, c0, rfl, hc0, _, _⟩ := hw.rd hi
    refine ⟨_, _, run_append_none T.ht g1 hc0 A c, ?_⟩
    rw [List.append_nil, Nat.add_zero, show M.set i (.row (.slice A0 n c0) e sz n xs) = M by obtain ⟨h1, h2⟩ := List.getElem?_eq_some_iff.1 hi; rw [← h2]; exact List.set_getElem_self h1]
    exact hw
  · have hpos : 0 < news.length := by rw [hl]; exact Nat.mul_pos (by omega) T.hsz
    obtain ⟨b, off, rfl, hc⟩ := hR.at_ hpos
    obtain ⟨v', w', r1, r2, r3, _, r5⟩ := run_append_own_at (P := P) w w0.heap.size t ty e inf z sz by_ T.ht g1 g2 g3 g4 g5 T.hsz v n xs hrow ⟨b, off, none⟩ m c news hl (fun j u hj => by rw [add_loc]; exact hc j u hj) h1 h63 hby hw.ext.size
    exact ⟨v', w', r1, hw.grown hi r2 r3 r5⟩

/-- append, alone in its region's order. -/
theorem t_append {ops : Array Oper} {rest : List Oper} {o : Oper} {a : Act} {Q : Exit → Act → World → Prop} {t e : TypeId} {x y : Operand} {D : List Deferred} {N sz by_ i n m c d : Nat} (T : SlT P t e sz by_) {E : Env} {v : Value} {xs news : List Value} {A : Option Addr}
    (hg : o.guard = none) (hd : o.dst = some d) (ho : o.op = .call { callee := .builtin .append, args := #[x, y], argTypes := #[t, t] }) (hdN : d < N) (hF : FrV N D E a) (hw : Own w0 w M) (hi : M[i]? = some (.row v e sz n xs)) (hx : Ev E x v) (hy : Ev E y (.slice A m c))
    (hR : Rd w A news) (hl : news.length = m * sz) (h1 : ∀ u ∈ news, u.oneCell' = true) (h63 : n + m ≤ maxLen) (hby : (n + m) * by_ ≤ 140737488355328)
    (h : ∀ v' a' w', FrV N D ((d, .is v') :: E) a' → Own w0 w' (M.set i (.row v' e sz (n + m) (xs ++ news))) → wpList P ops Q rest a' w') : wpList P ops Q (o :: rest) a w := by
  obtain ⟨v', w', hr, hO⟩ := run_app (ty := o.type) (c := c) T hw hi hR hl h1 h63 hby
  refine wpList_plain hg fun K hK => ?_
  unfold Oper.wp execOp
  simp only [ho, resolve, invoke, builtin, Sem.run_bind, Sem.run_pure, Result.andThen_ok, List.map_toArray, List.map_cons, List.map_nil, hF.ev hx, hF.ev hy, hr]
  refine hK _ _ (h v' _ w' ?_ hO)
  intro B W
  rw [hd]
  exact (hF B W).put (d := some d) (f := .is v') (Ext.refl W) (fun d' e => by injection e with e; exact e ▸ hdN) rfl
theorem t_appendIn {Fe : Fence} {rm : Nat} (fw : FW Fe) {ops : Array Oper} {rest : List Oper} {o : Oper} {a : Act} {Q : Exit → Act → World → Prop} {t e : TypeId} {x y : Operand} {D : List Deferred} {N sz by_ i n m c d : Nat} (T : SlT P t e sz by_) {E : Env} {v : Value} {xs news : List Value} {A : Option Addr}
    (hg : o.guard = none) (hd : o.dst = some d) (ho : o.op = .call { callee := .builtin .append, args := #[x, y], argTypes := #[t, t] }) (hdN : d < N) (hF : FrV N D E a) (hw : Own w0 w M) (hi : M[i]? = some (.row v e sz n xs)) (hx : Ev E x v) (hy : Ev E y (.slice A m c))
    (hR : Rd w A news) (hl : news.length = m * sz) (h1 : ∀ u ∈ news, u.oneCell' = true) (h63 : n + m ≤ maxLen) (hby : (n + m) * by_ ≤ 140737488355328)
    (h : ∀ v' a' w', FrV N D ((d, .is v') :: E) a' → Own w0 w' (M.set i (.row v' e sz (n + m) (xs ++ news))) → wpListIn Fe rm P ops Q rest a' w') : wpListIn Fe rm P ops Q (o :: rest) a w := by
  obtain ⟨v', w', hr, hO⟩ := run_app (ty := o.type) (c := c) T hw hi hR hl h1 h63 hby
  refine wpListIn_plain hg fun K hK => ?_
  refine ⟨fun f _ => fw.fn f, ?_⟩
  rw [Oper.semAt_eq Fe.round a.eval o (fun c hc => by rw [ho] at hc; cases hc)]
  unfold execOp
  simp only [ho, resolve, invoke, builtin, Sem.run_bind, Sem.run_pure, Result.andThen_ok, List.map_toArray, List.map_cons, List.map_nil, hF.ev hx, hF.ev hy, hr]
  refine hK _ _ (h v' _ w' ?_ hO)
  intro B W
  rw [hd]
  exact (hF B W).put (d := some d) (f := .is v') (Ext.refl W) (fun d' e => by injection e with e; exact e ▸ hdN) rfl

theorem Own.rdWhole (h : Own w0 w M) {i b : Nat} {t : TypeId} {cs : List Value} (hi : M[i]? = some (.blk b t cs)) : Rd w (some ⟨b, 0, none⟩) cs :=
  .inr ⟨b, 0, rfl, fun j u hj => by rw [Nat.zero_add]; exact h.cell hi hj (Ext.refl w)⟩

/-- A slice against nil. -/
theorem r_eqlNil {t e : TypeId} {n c : Nat} {A : Option Addr} (ht : P.underlying t = some (.slice e)) : R2 P .eql t (.slice A n c) (.slice none 0 0) (.bool A.isNone) := by
  intro x y w
  rw [show eqGuard .eql t x y (.slice A n c) (.slice none 0 0) = pure () from rfl]
  have h : ∀ d : Nat, (Op.equalIn (d + 1) t (.slice A n c) (.slice none 0 0)).run P w = .ok A.isNone w := fun d => by cases A <;> simp [Op.equalIn, run_underlying ht]
  simp only [binOp]
  simp [Op.equal, Op.maxDepth, h 9999]
end
end Go.Proofs.Ythgpojlcbbgaoaa
