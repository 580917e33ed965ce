/- Headers, closures that write, several new blocks of one region. Plain theorems. -/
import Derived.Test.YthgpojlcbbgaoaaPoly
set_option autoImplicit false
set_option maxRecDepth 100000
set_option linter.unusedVariables false
namespace Go.Proofs.Ythgpojlcbbgaoaa
open Go.RowKit

/-! ### several new blocks -/
inductive News (B : Nat) (w : World) : List Ent → Prop
  | nil : News B w []
  | cons {m : Ent} {L : List Ent} (h : m.ok B w) (ho : m.isObj = false) (hd : (L.all fun m' => !Nat.beq m.ty m'.ty) = true) (r : News B w L) : News B w (m :: L)
theorem nblk {B : Nat} {w : World} {L : List Ent} {b : Nat} {t : TypeId} {cs : List Value} (h1 : B ≤ b) (h2 : w.heap[b]? = some (.cells cs.toArray t (0, 0))) (r : News B w L) (hd : (L.all fun m' => !Nat.beq t m'.ty) = true) : News B w (.blk b t cs :: L) := .cons ⟨h1, h2⟩ rfl hd r
theorem nrow {B : Nat} {w : World} {L : List Ent} {v : Value} {e : TypeId} {sz n : Nat} {xs : List Value} (h : w.ownsRow B e sz v n xs) (r : News B w L) (hd : (L.all fun m' => !Nat.beq e m'.ty) = true) : News B w (.row v e sz n xs :: L) := .cons h rfl hd r
theorem Own.addAll {w0 w w' : World} {M L : List Ent} (h : Own w0 w M) (hx : Ext w w') (hn : News w.heap.size w' L) : Own w0 w' (M ++ L) := by
  have key : ∀ {L : List Ent}, News w.heap.size w' L → (∀ m ∈ L, m.ok w.heap.size w' ∧ m.isObj = false) ∧ L.Pairwise fun m m' => m.ty ≠ m'.ty := by
    intro L hn
    induction hn with
    | nil => exact ⟨fun m hm => (by cases hm), List.Pairwise.nil⟩
    | @cons m L hm ho hd r ih =>
      refine ⟨fun m' hm' => ?_, List.pairwise_cons.2 ⟨fun m' hm' => ?_, ih.2⟩⟩
      · rcases List.mem_cons.1 hm' with rfl | h
        · exact ⟨hm, ho⟩
        · exact ih.1 m' h
      · have := List.all_eq_true.1 hd m' hm'
        intro e
        rw [e] at this
        simp at this
  obtain ⟨hok, hpw⟩ := key hn
  have h0 := h.next hx
  refine ⟨h0.ext, fun m hm => ?_, List.pairwise_append.2 ⟨h0.sep, ?_, fun m1 h1 m2 h2 b hb1 hb2 => ?_⟩⟩
  · rcases List.mem_append.1 hm with h1 | h1
    · exact h0.ok m h1
    · have hm1 := (hok m h1).1
      have hB := h.ext.size
      cases m with
      | blk b t cs => exact ⟨Nat.le_trans hB hm1.1, hm1.2⟩
      | row v e sz n xs => exact ownsRow_mono hm1 hB
      | obj b o => exact ⟨Nat.le_trans hB hm1.1, hm1.2⟩
  · refine List.Pairwise.imp_of_mem (fun {m m'} hm hm' hne b hb hb' => ?_) hpw
    obtain ⟨c, hc⟩ := Ent.at_ty (hok m hm).1 (hok m hm).2 hb
    obtain ⟨c', hc'⟩ := Ent.at_ty (hok m' hm').1 (hok m' hm').2 hb'
    rw [hc] at hc'
    injection hc' with hc'
    injection hc' with _ ht
    exact hne ht
  · have := (Ent.lt (h.ok m1 h1) hb1).2
    have := (Ent.lt (hok m2 h2).1 hb2).1
    omega

/-! ### blocks that are known by their cells -/
section
variable {P : Program} {w : World}
theorem ldH1 {b off : Nat} {t ty : TypeId} {cs : List Value} {v : Value} (hh : w.heap[b]? = some (.cells cs.toArray t (0, 0))) (ha : ∀ w, (isAgg ty).run P w = .ok false w) (hc : cs[off]? = some v) :
    ∀ w', Ext w w' → (loadVar ty ⟨b, off, none⟩).run P w' = .ok v w' := fun w' hx => run_load1 ha (by
  rw [cell_of_row w' b off _ t _ (hx.heap hh)]
  simpa using hc)
theorem ldHN {b off n : Nat} {t ty : TypeId} {cs vs : List Value} (hh : w.heap[b]? = some (.cells cs.toArray t (0, 0))) (ha : ∀ w, (isAgg ty).run P w = .ok true w) (hz : ∀ w, (sizeOf ty).run P w = .ok n w) (hl : vs.length = n) (hc : (cs.drop off).take n = vs) :
    ∀ w', Ext w w' → (loadVar ty ⟨b, off, none⟩).run P w' = .ok (.agg vs.toArray) w' := fun w' hx =>
  run_loadN ha hz hl fun j v hv => by
    rw [add_loc, cell_of_row w' b (off + j) _ t _ (hx.heap hh)]
    rw [← hc, List.getElem?_take] at hv
    split at hv
    · rw [List.getElem?_drop] at hv
      simpa using hv
    · cases hv
end

/-! ### a call that writes into the caller's own blocks -/
theorem t_callM {P : Program} {w : World} {ops : Array Oper} {rest : List Oper} {o : Oper} {a : Act} {Q : Exit → Act → World → Prop} {t : Nat} {f : FuncId} {cap : List Value} {xs : Array Operand} {ts : Array TypeId} {vs : List Value} {N : Nat} {D : List Deferred} {E : Env} {K : Value → World → Prop}
    (hg : o.guard = none) (ho : o.op = .call { callee := .value (.tmp t), args := xs, argTypes := ts }) (hF : FrV N D E a) (ht : Ev E (.tmp t) (.func (.func f) #[] cap.toArray))
    (hf : ∀ (args : Array Value) (w : World), (callFunc f args).run P w = .ok (.enter f args) w) (hx : Evs E xs.toList vs) (hd : ∀ d, o.dst = some d → d < N)
    (hc : Calls P f (vs ++ cap).toArray w fun e w' => ∃ v, e = .returned v ∧ K v w') (h : ∀ v a' w', FrV N D (putE E o.dst (.is v)) a' → K v w' → wpList P ops Q rest a' w') : wpList P ops Q (o :: rest) a w := by
  have key : ∀ (l : List Operand) (l' : List Value), Evs E l l' → l.map a.eval = l' := by
    intro l l' hf
    induction hf with
    | nil => rfl
    | cons h _ ih => rw [List.map_cons, ih, hF.ev h]
  have h1 : xs.map a.eval = vs.toArray := by
    apply Array.toList_inj.1
    rw [Array.toList_map]
    exact key _ _ hx
  have h0 : a.eval (.tmp t) = .func (.func f) #[] cap.toArray := hF.ev ht
  have h2 : (execOp a.eval o).run P w = .ok (.enter f (vs ++ cap).toArray) w := by
    unfold execOp; rw [ho]; simp only [resolve, h1, h0]
    simp [Deferred.ofValue, invoke, hf]
  refine wpList_plain hg fun K' hK => ?_
  unfold Oper.wp
  rw [h2]
  refine hc.mono fun e w' ⟨v, he, hk⟩ => ?_
  subst he
  exact hK _ _ (h v _ w' (fun B W => (hF B W).put (f := .is v) (Ext.refl W) hd rfl) hk)

/-! ### headers -/
abbrev key0 : Key := ⟨0#64, 0#64⟩
def hcs (items : Value) (base : Nat) (pts : Value) (box chk : Key) : List Value := [items, U base, pts] ++ (kc box ++ kc chk)
abbrev HV (items : Value) (base : Nat) (pts : Value) (box chk : Key) : Value := .agg (hcs items base pts box chk).toArray
theorem hcs_len (items : Value) (base : Nat) (pts : Value) (box chk : Key) : (hcs items base pts box chk).length = 35 := by simp [hcs, kc_len]
theorem hcs_pts (items : Value) (base : Nat) (pts v : Value) (box chk : Key) : seg (hcs items base pts box chk) 2 [v] = hcs items base v box chk := rfl
theorem hcs_box (items : Value) (base : Nat) (pts : Value) (box chk k : Key) : seg (hcs items base pts box chk) 3 (kc k) = hcs items base pts k chk := by
  unfold seg hcs
  rw [kc_len, show (([items, U base, pts] ++ (kc box ++ kc chk)).drop (3 + 16)) = kc chk by
    show (kc box ++ kc chk).drop 16 = _
    rw [List.drop_append, kc_len, List.drop_of_length_le (by rw [kc_len]; omega)]
    rfl]
  show [items, U base, pts] ++ kc k ++ kc chk = _
  rw [List.append_assoc]
theorem one_hcs {A A2 : Option Addr} {n c n2 c2 base : Nat} {box chk : Key} : ∀ u ∈ hcs (.slice A n c) base (.slice A2 n2 c2) box chk, u.oneCell' = true := by
  intro u hu
  simp only [hcs, List.mem_append, List.mem_cons, List.not_mem_nil, or_false] at hu
  rcases hu with (rfl | rfl | rfl) | h | h
  · rfl
  · rfl
  · rfl
  · exact kc_one _ u h
  · exact kc_one _ u h
theorem kc_zero : kc key0 = List.replicate 16 (B8 0) := by rfl
theorem build_23_ (w : World) : (Instr.build 23 #[]).run Try.prog w = .ok (K key0) w := by
  simp [Instr.build, Try.zeroValue23, Try.runUnderlying23, Try.sizeOf5, Instr.fill, Value.cells]
  rfl
theorem fill_one {place : Nat → Option (Nat × Nat)} {cells : Array Value} {i off sz : Nat} {v : Value} {c : List Value} {rest : List (Nat × Value)} (hp : place i = some (off, sz)) (hv : v.cells = c.toArray) (hl : c.length = sz) (hs : off + sz ≤ cells.size) :
    Instr.fill place cells ((i, v) :: rest) = Instr.fill place (seg cells.toList off c).toArray rest := by
  conv => lhs; unfold Instr.fill
  simp only [hp, hv, List.size_toArray, hl]
  rw [if_neg (by simp; omega)]
  have hf : c.toArray.zipIdx.foldl (fun cs (p : Value × Nat) => cs.setIfInBounds (off + p.2) p.1) cells = (seg cells.toList off c).toArray := by
    rw [← Array.foldl_toList, Array.toList_zipIdx]
    exact foldl_seg off c 0 cells (by omega)
  rw [show (c.toArray.zipIdx.foldl (fun cs (x : Value × Nat) => match x with | (c, j) => cs.setIfInBounds (off + j) c) cells) = (seg cells.toList off c).toArray from hf]
theorem build_45_ (w : World) : (Instr.build 45 #[]).run Try.prog w = .ok (HV (.slice none 0 0) 0 (.slice none 0 0) key0 key0) w := by
  simp [Instr.build, Try.zeroValue45, Try.runUnderlying45, Array.mapM_eq_mapM_toList, List.mapM_cons, Try.sizeOf42, Try.sizeOf24, Try.sizeOf43, Try.sizeOf23, Instr.fill, Value.cells]
  rfl
theorem build_45_1_4 {base : Nat} {chk : Key} (w : World) : (Instr.build 45 #[(1, U base), (4, K chk)]).run Try.prog w = .ok (HV (.slice none 0 0) base (.slice none 0 0) key0 chk) w := by
  simp only [Instr.build, Sem.run_bind, Try.zeroValue45, Try.runUnderlying45, Result.andThen_ok]
  simp [Array.mapM_eq_mapM_toList, List.mapM_cons, Try.sizeOf42, Try.sizeOf24, Try.sizeOf43, Try.sizeOf23, Value.cells]
  rw [fill_one (off := 1) (sz := 1) (c := [U base]) rfl rfl rfl (Nat.le_of_ble_eq_true rfl), fill_one (off := 19) (sz := 16) (c := kc chk) rfl rfl (kc_len chk) (Nat.le_of_ble_eq_true rfl)]
  rfl
end Go.Proofs.Ythgpojlcbbgaoaa
