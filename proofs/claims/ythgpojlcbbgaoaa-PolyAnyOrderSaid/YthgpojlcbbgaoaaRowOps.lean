/- A row that is its owner's: written in place, cut, cleared, sorted; parts of slices; a byte of a string. Plain theorems. -/
import Derived.Test.YthgpojlcbbgaoaaSortL
import Derived.ArgAppend
set_option autoImplicit false
set_option maxRecDepth 100000
set_option linter.unusedVariables false
namespace Go.Proofs.Ythgpojlcbbgaoaa
open Go.RowKit

section
variable {P : Program} {w0 w : World} {M : List Ent}
/-- A row as the block that it lies in. -/
theorem Own.rowBlk (h : Own w0 w M) {i g n cap : Nat} {e : TypeId} {sz : Nat} {xs : List Value} (hi : M[i]? = some (.row (.slice (some ⟨g, 0, none⟩) n cap) e sz n xs)) :
    ∃ cur : List Value, cur.length = cap * sz ∧ cur.take (n * sz) = xs ∧ n ≤ cap ∧ cap ≤ maxLen ∧ Own w0 w (M.set i (.blk g e cur)) := by
  have hr := h.row hi
  rcases hr.2 with ⟨hv, _⟩ | ⟨g', cap', cur, hv, hB, hh, hc, hm, hs, ht⟩
  · cases hv
  · injection hv with hv1 _ hv2
    injection hv1 with hv1
    injection hv1 with hv1
    subst hv1 hv2
    refine ⟨cur.toList, by simpa using hs, ht, hc, hm, ?_⟩
    exact h.replace hi rfl rfl ⟨hB, by simpa using hh⟩ rfl rfl rfl rfl (fun _ _ => rfl)
/-- .. and back. -/
theorem Own.blkRowC (h : Own w0 w M) {i g n cap : Nat} {e : TypeId} {sz : Nat} {cur xs : List Value} (hi : M[i]? = some (.blk g e cur)) (hl : cur.length = cap * sz) (hn : n ≤ cap) (hm : cap ≤ maxLen) (hx : cur.take (n * sz) = xs) :
    Own w0 w (M.set i (.row (.slice (some ⟨g, 0, none⟩) n cap) e sz n xs)) := by
  have hb := h.ok _ (List.mem_of_getElem? hi)
  refine h.replace hi rfl rfl ?_ rfl rfl rfl rfl (fun _ _ => rfl)
  refine ⟨?_, .inr ⟨g, cap, cur.toArray, rfl, hb.1, hb.2, hn, hm, by simpa using hl, by simpa using hx⟩⟩
  rw [← hx, List.length_take, hl]
  exact Nat.min_eq_left (Nat.mul_le_mul_right _ hn)

/-- append into a block of one's own that has room. -/
theorem t_appendB {ops : Array Oper} {rest : List Oper} {o : Oper} {a : Act} {Q : Exit → Act → World → Prop} {t e : TypeId} {x y : Operand} {D : List Deferred} {N sz by_ i b k cap m c d : Nat} (T : SlT P t e sz by_) {E : Env} {cs cs' news : List Value} {A : Addr}
    (hg : o.guard = none) (hd : o.dst = some d) (ho : o.op = .call { callee := .builtin .append, args := #[x, y], argTypes := #[t, t] }) (hdN : d < N) (hF : FrV N D E a) (hw : Own w0 w M) (hi : M[i]? = some (.blk b e cs)) (hx : Ev E x (.slice (some ⟨b, 0, none⟩) k cap)) (hy : Ev E y (.slice (some A) m c))
    (hR : ∀ j u, news[j]? = some u → w.cell? (A.add j) = some u) (hl : news.length = m * sz) (h1 : ∀ u ∈ news, u.oneCell' = true) (hfit : k + m ≤ cap) (hcs : cs.length = cap * sz) (hseg : seg cs (k * sz) news = cs')
    (h : ∀ a' w', FrV N D ((d, .is (.slice (some ⟨b, 0, none⟩) (k + m) cap)) :: E) a' → Own w0 w' (M.set i (.blk b e cs')) → wpList P ops Q rest a' w') : wpList P ops Q (o :: rest) a w := by
  obtain ⟨inf, z, g1, g2, g3, g4, g5⟩ := T.hi
  have hb := (hw.ok _ (List.mem_of_getElem? hi)).2
  have hle := Nat.mul_le_mul_right sz hfit
  rw [Nat.add_mul] at hle
  obtain ⟨w', hr, hh, e1, e2, e3, e4, e5⟩ := run_storeCells (P := P) news w (k * sz) 0 cs.toArray hb h1 (by simp; omega)
  have hrun : (Builtin.append_ #[t, t] o.type #[.slice (some ⟨b, 0, none⟩) k cap, .slice (some A) m c]).run P w = .ok (.slice (some ⟨b, 0, none⟩) (k + m) cap) w' := by
    have hfc := run_firstCells_some (P := P) w sz m A m c news hl hR
    simp [Builtin.append_, run_underlying T.ht, sizeOf, typeInfo, g1, Builtin.lenOf, hfit, hfc, add_loc, g3, hr]
  subst hseg
  refine wpList_plain hg fun K hK => ?_
  unfold Oper.wp execOp
  simp only [ho, resolve, invoke, builtin, Sem.run_bind, Sem.run_pure, Result.andThen_ok, List.map_toArray, List.map_cons, List.map_nil, hF.ev hx, hF.ev hy, hrun]
  refine hK _ _ (h _ w' ?_ (hw.stored hi (by simpa using hh) e1 e2 e3 e4 e5))
  intro B W
  rw [hd]
  exact (hF B W).put (d := some d) (f := .is _) (Ext.refl W) (fun d' e => by injection e with e; exact e ▸ hdN) rfl
/-- clear. -/
theorem t_clearB {ops : Array Oper} {rest : List Oper} {o : Oper} {a : Act} {Q : Exit → Act → World → Prop} {t e : TypeId} {x : Operand} {D : List Deferred} {N sz by_ i b off n c : Nat} (T : SlT P t e sz by_) {E : Env} {cs cs' zs : List Value} {z : Value}
    (hg : o.guard = none) (hd : o.dst = none) (ho : o.op = .call { callee := .builtin .clear, args := #[x], argTypes := #[t] }) (hF : FrV N D E a) (hw : Own w0 w M) (hi : M[i]? = some (.blk b e cs)) (hx : Ev E x (.slice (some ⟨b, off, none⟩) (n + 1) c))
    (hz : ∀ w, (zeroValue e).run P w = .ok z w) (hzs : (Builtin.zeroCells z.cells (n + 1)).toList = zs) (h1 : ∀ u ∈ zs, u.oneCell' = true) (hfit : off + zs.length ≤ cs.length) (hseg : seg cs off zs = cs')
    (h : ∀ w', Own w0 w' (M.set i (.blk b e cs')) → wpList P ops Q rest a w') : wpList P ops Q (o :: rest) a w := by
  have hb := (hw.ok _ (List.mem_of_getElem? hi)).2
  obtain ⟨w', hr, hh, e1, e2, e3, e4, e5⟩ := run_storeCells (P := P) zs w off 0 cs.toArray hb h1 (by simp; omega)
  have hrun : (Builtin.clear_ #[t] o.type #[.slice (some ⟨b, off, none⟩) (n + 1) c]).run P w = .ok (.tuple #[]) w' := by
    simp [Builtin.clear_, run_underlying T.ht, hz, hzs, hr]
  subst hseg
  refine wpList_plain hg fun K hK => ?_
  unfold Oper.wp execOp
  simp only [ho, resolve, invoke, builtin, Sem.run_bind, Sem.run_pure, Result.andThen_ok, List.map_toArray, List.map_cons, List.map_nil, hF.ev hx, hrun]
  refine hK _ _ ?_
  rw [hd]
  exact h w' (hw.stored hi (by simpa using hh) e1 e2 e3 e4 e5)
end
section
variable {P : Program} {wr : World} {E : Env} {o : Oper}
/-- The elements behind the first k. -/
theorem n_slDrop {t e : TypeId} {x l : Operand} {A : Option Addr} {n c k sz : Nat} {kd : IntKind} (ho : o.op = .slice t x (some l) none none) (hx : Ev E x (.slice A n c)) (hy : Ev E l (.int kd (k : Int)))
    (ht : P.underlying t = some (.slice e)) (hz : ∀ w, (sizeOf e).run P w = .ok sz w) (hk : k ≤ n) : nstep P wr E o (.is (.slice (if c = k then A else A.map fun x => x.add (k * sz)) (n - k) (c - k))) :=
  n_run fun a w hw hop => ⟨_, w, by
    have h1 := hx.eval (by simp [ho, Op.operands]) hop
    have h2 := hy.eval (by simp [ho, Op.operands]) hop
    unfold execOp; rw [ho]
    simp [Instr.sliceAt, Instr.slice, run_underlying ht, h1, h2, Instr.sliceBounds, Instr.sliceBound, asIntOf, hz, hk], Ext.refl w, rfl⟩
/-- Those from k to h, and those from k to h with room to m. -/
theorem n_slMid {t e : TypeId} {x l y : Operand} {A : Option Addr} {n c k h sz : Nat} {kd kd' : IntKind} (ho : o.op = .slice t x (some l) (some y) none) (hx : Ev E x (.slice A n c)) (hl : Ev E l (.int kd (k : Int))) (hy : Ev E y (.int kd' (h : Int)))
    (ht : P.underlying t = some (.slice e)) (hz : ∀ w, (sizeOf e).run P w = .ok sz w) (hk : k ≤ h) (hc : h ≤ c) : nstep P wr E o (.is (.slice (if c = k then A else A.map fun x => x.add (k * sz)) (h - k) (c - k))) :=
  n_run fun a w hw hop => ⟨_, w, by
    have h1 := hx.eval (by simp [ho, Op.operands]) hop
    have h2 := hl.eval (by simp [ho, Op.operands]) hop
    have h3 := hy.eval (by simp [ho, Op.operands]) hop
    unfold execOp; rw [ho]
    simp [Instr.sliceAt, Instr.slice, run_underlying ht, h1, h2, h3, Instr.sliceBounds, Instr.sliceBound, asIntOf, hz, hk, hc], Ext.refl w, rfl⟩
theorem n_sl3 {t e : TypeId} {x l y z : Operand} {A : Option Addr} {n c k h m sz : Nat} {kd kd' kd2 : IntKind} (ho : o.op = .slice t x (some l) (some y) (some z)) (hx : Ev E x (.slice A n c)) (hl : Ev E l (.int kd (k : Int))) (hy : Ev E y (.int kd' (h : Int))) (hm : Ev E z (.int kd2 (m : Int)))
    (ht : P.underlying t = some (.slice e)) (hz : ∀ w, (sizeOf e).run P w = .ok sz w) (hk : k ≤ h) (hh : h ≤ m) (hc : m ≤ c) : nstep P wr E o (.is (.slice (if m = k then A else A.map fun x => x.add (k * sz)) (h - k) (m - k))) :=
  n_run fun a w hw hop => ⟨_, w, by
    have h1 := hx.eval (by simp [ho, Op.operands]) hop
    have h2 := hl.eval (by simp [ho, Op.operands]) hop
    have h3 := hy.eval (by simp [ho, Op.operands]) hop
    have h4 := hm.eval (by simp [ho, Op.operands]) hop
    unfold execOp; rw [ho]
    simp [Instr.sliceAt, Instr.slice, run_underlying ht, h1, h2, h3, h4, Instr.sliceBounds, Instr.sliceBound, asIntOf, hz, hk, hh, hc], Ext.refl w, rfl⟩
/-- A byte of a string. -/
theorem n_strAt {t : TypeId} {s : ByteArray} {y : Operand} {k : IntKind} {i : Nat} {b : UInt8} (ho : o.op = .index t (.const (.string s)) y) (hy : Ev E y (.int k (i : Int))) (ht : P.underlying t = some .string) (hb : s[i]? = some b) : nstep P wr E o (.is (.int .u8 (b.toNat : Int))) :=
  n_run fun a w hw hop => ⟨_, w, by
    have h2 := hy.eval (by simp [ho, Op.operands]) hop
    unfold execOp; rw [ho]
    simp [Instr.index, h2, asIntOf, run_underlying ht, eval_const, hb], Ext.refl w, rfl⟩
end
end Go.Proofs.Ythgpojlcbbgaoaa
