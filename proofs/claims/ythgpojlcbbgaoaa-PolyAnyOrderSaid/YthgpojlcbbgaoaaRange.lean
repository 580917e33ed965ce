/- Range over a function: rounds, the iterator's contract, the loop's record, leaving with a mark. Plain theorems. -/
import Derived.Test.YthgpojlcbbgaoaaNetIn
import Derived.RangeFuncRecord
set_option autoImplicit false
set_option linter.unusedVariables false
namespace Go.Proofs.Ythgpojlcbbgaoaa
open Go.RowKit

section
variable {w0 w w' : World} {M L : List Ent}
theorem Own.perm (h : Own w0 w M) (hp : M.Perm L) : Own w0 w L :=
  ⟨h.ext, fun m hm => h.ok m (hp.mem_iff.2 hm), (hp.pairwise_iff (fun {x y} hxy b hb hb' => hxy b hb' hb)).1 h.sep⟩

theorem Own.replace {i b : Nat} {m m' : Ent} (h : Own w0 w M) (hi : M[i]? = some m) (hmb : m.block = some b) (hmb' : m'.block = some b) (hm' : m'.ok w0.heap.size w')
    (e1 : w'.os = w.os) (e2 : w'.tape = w.tape) (e3 : w'.output = w.output) (e4 : w'.heap.size = w.heap.size) (e5 : ∀ k, k ≠ b → w'.heap[k]? = w.heap[k]?) : Own w0 w' (M.set i m') := by
  have hb := Ent.lt (h.ok _ (List.mem_of_getElem? hi)) hmb
  have hil : i < M.length := (List.getElem?_eq_some_iff.1 hi).1
  have hie : M[i] = m := (List.getElem?_eq_some_iff.1 hi).2
  have hne : ∀ k (hk : k < M.length), k ≠ i → ∀ b', M[k].block = some b' → b' ≠ b := by
    intro k hk hki b' hb' e
    subst e
    rcases Nat.lt_or_ge k i with hlt | hge
    · exact List.pairwise_iff_getElem.1 h.sep k i hk hil hlt b' hb' (by rw [hie]; exact hmb)
    · exact List.pairwise_iff_getElem.1 h.sep i k hil hk (by omega) b' (by rw [hie]; exact hmb) hb'
  have hkeep : ∀ k (hk : k < M.length), k ≠ i → M[k].ok w0.heap.size w' := by
    intro k hk hki
    have hok := h.ok _ (List.getElem_mem hk)
    have hn := hne k hk hki
    cases hm : M[k] with
    | blk b' t' cs' =>
      rw [hm] at hok hn
      exact ⟨hok.1, by rw [e5 b' (hn b' rfl)]; exact hok.2⟩
    | row v e sz n xs =>
      rw [hm] at hok hn
      refine World.ownsRow.kept hok (row := some b) ⟨e1, e2, e3, by omega, fun k _ hkb => e5 k (fun e => hkb (by rw [e]))⟩ ?_
      by_cases hv : v.ownBlock = none
      · exact .inl hv
      · exact .inr fun e => hn b e rfl
    | obj b' o =>
      rw [hm] at hok hn
      exact ⟨hok.1, by rw [e5 b' (hn b' rfl)]; exact hok.2⟩
  refine ⟨⟨e1.trans h.ext.os, e2.trans h.ext.tape, e3.trans h.ext.output, by rw [e4]; exact h.ext.size, fun k hk => (e5 k (by have := hb.1; omega)).trans (h.ext.block k hk)⟩, fun m1 hm1 => ?_, ?_⟩
  · obtain ⟨k, hk, rfl⟩ := List.mem_iff_getElem.1 hm1
    rw [List.length_set] at hk
    by_cases hki : k = i
    · subst hki
      rw [List.getElem_set_self]
      exact hm'
    · rw [List.getElem_set_ne (Ne.symm hki)]
      exact hkeep k hk hki
  · rw [List.pairwise_iff_getElem]
    intro k1 k2 hk1 hk2 hlt b' hb1 hb2
    rw [List.length_set] at hk1 hk2
    have key : ∀ k (hk : k < M.length), ((M.set i m')[k]'(by rw [List.length_set]; exact hk)).block = M[k].block := by
      intro k hk
      by_cases hki : k = i
      · subst hki
        rw [List.getElem_set_self, hie, hmb, hmb']
      · rw [List.getElem_set_ne (Ne.symm hki)]
    rw [key k1 hk1] at hb1
    rw [key k2 hk2] at hb2
    exact List.pairwise_iff_getElem.1 h.sep k1 k2 hk1 hk2 hlt b' hb1 hb2
theorem Own.objHeap {b : Nat} {o : Obj} (h : Own w0 w (.obj b o :: M)) : w.heap[b]? = some o := (h.ok _ List.mem_cons_self).2
theorem Own.putObj {b : Nat} {o : Obj} (h : Own w0 w (.obj b o :: M)) (o' : Obj) : Own w0 (w.putObj b o') (.obj b o' :: M) := by
  have hh := h.ok _ List.mem_cons_self
  have hlt := (Array.getElem?_eq_some_iff.1 hh.2).1
  exact h.replace (i := 0) (m' := .obj b o') rfl rfl rfl ⟨hh.1, World.putObj_heap_same hlt⟩ rfl rfl rfl World.putObj_size (fun k hk => World.putObj_heap_other hk)
theorem Own.cap (h : Own w0 w M) (hx : Ext w w') {t : TypeId} {cs : List Value} {mk : Value → Value} {v : Value} (hf : (Fact.cap t cs mk).ok w.heap.size v w') :
    ∃ b, v = mk (.pointer (some ⟨b, 0, none⟩)) ∧ Own w0 w' (M ++ [.blk b t cs]) := by
  obtain ⟨b, h1, h2, h3⟩ := hf
  exact ⟨b, h1, h.add hx ⟨h2, h3⟩⟩
theorem Own.addObj (h : Own w0 w M) (o : Obj) : Own w0 (w.alloc o) (.obj w.heap.size o :: M) :=
  (h.add (m := .obj w.heap.size o) ((Below.refl _ w).alloc (Nat.le_refl _) o) ⟨Nat.le_refl _, World.alloc_heap_new w o⟩).perm List.perm_append_comm
end

theorem perm2 (x y : Ent) (A Z : List Ent) : (x :: y :: A ++ Z).Perm (A ++ (x :: y :: Z)) := List.perm_append_comm_assoc [x, y] A Z

/-- A round of the loop l at these values: it ends, yield hands back true, and K holds. -/
def YieldTo (P : Program) (l : Nat) (args : List Value) (w : World) (K : World → Prop) : Prop :=
  ∃ fn tmps assign body, (Instr.yield l args.toArray).run P w = .ok (.round l fn tmps assign body) w ∧ RoundIn Fence.wide 0 P l fn tmps assign body w (fun e w' => e = .returned (.bool true) ∧ K w')
/-- An iterator that makes m rounds, at these values, and keeps its own blocks Mi; what it reads besides is said by J. -/
def Iter (P : Program) (gf : FuncId) (lb : Array Value) (argv : Nat → List Value) (m : Nat) (w0 : World) (Mi : List Ent) (J : World → Prop) : Prop :=
  ∀ (l : Nat) (C : Nat → List Ent) (w : World) (R : Ending → World → Prop), Own w0 w (C 0 ++ Mi) → (∀ k w' Z, Own w0 w' (C k ++ Z) → J w') →
    (∀ k w' Z, k < m → Own w0 w' (C k ++ Z) → YieldTo P l (argv k) w' fun w'' => Own w0 w'' (C (k + 1) ++ Z)) →
    (∀ w', Own w0 w' (C m ++ Mi) → R (.returned (.tuple #[])) w') →
    Calls P gf (#[.func (.yield l) #[] #[]] ++ lb) w R

abbrev markD (r : Nat) : Deferred := { target := .collected r, args := #[] }

theorem FrV.set {N : Nat} {E : Env} {a : Act} {D D' : List Deferred} (h : FrV N D E a) {p : Nat} {x : Value} (hp : p < N) : FrV N D' ((p, .is x) :: E) { tmps := a.tmps.setIfInBounds p x, defers := D' } := fun B w =>
  ⟨rfl, by simp [(h B w).size], fun t f hf => by
    rw [look_cons] at hf
    by_cases e : p = t
    · subst e
      rw [if_pos rfl] at hf
      injection hf with hf
      subst hf
      have : p < a.tmps.size := by rw [(h B w).size]; exact hp
      show _ = _
      simp [this]
    · rw [if_neg e] at hf
      have h2 := (h B w).at_ t f hf
      have : (a.tmps.setIfInBounds p x).getD t undef = a.tmps.getD t undef := by simp [Array.getElem?_setIfInBounds_ne e]
      show f.ok B _ w
      rw [this]
      exact h2⟩

section
variable {P : Program} {w0 w : World} {M Mi : List Ent} {Q : Exit → Act → World → Prop} {a : Act}
theorem wp_range {J : World → Prop} {g : Operand} {p q : Nat} {assign body : Code} {E : Env} {N gf m : Nat} {lb : Array Value} {argv : Nat → List Value} (Ca : Nat → List Ent) (E1 : Nat → Env) (x y : Nat → Value) (hp : p < N) (hq : q < N)
    (hw : Own w0 w (Ca 0 ++ Mi)) (hg : Ev E g (.func (.func gf) #[] lb)) (eg : ∀ args w, (callFunc gf args).run P w = .ok (.enter gf args) w) (hit : Iter P gf lb argv m w0 Mi J) (hJ : ∀ k w' Z, Own w0 w' (Ca k ++ Z) → J w') (hF : FrV N [] E a)
    (hargs : ∀ k, argv k = [x k, y k])
    (hassign : ∀ l k a w' (K : Act → World → Prop), FrV N [] ((q, .is (y k)) :: (p, .is (x k)) :: E) a → (∀ a' w'', FrV N [] (E1 k) a' → Ext w' w'' → K a' w'') → assign.wpIn (Fence.wide.inRound l) 0 P (Exit.then K (fun _ _ _ => False)) a w')
    (hbody : ∀ l Z k a w', k < m → FrV N [] (E1 k) a → Own w0 w' (Ca k ++ Z) → body.wpIn (Fence.wide.inRound l) 0 P (fun e a' w'' => e = .normal ∧ Own w0 w'' (Ca (k + 1) ++ Z)) a w')
    (hend : ∀ r a' w', FrV N [markD r] E a' → Own w0 w' (.obj r (.deferred (some [])) :: (Ca m ++ Mi)) → Q .normal a' w') :
    (Code.rangeFunc g #[p, q] assign body).wp P Q a w := by
  refine (wpIn_wide (n := 0)).1 (wpIn_rangeFunc ?_)
  intro fn hfn
  obtain ⟨rec, hrec⟩ : ∃ rec : LoopState → Option Code → Loop, rec = fun st pe => { state := st, pending := pe, fn, tmps := a.tmps, params := #[p, q], assign, body, defers := w.heap.size } := ⟨_, rfl⟩
  obtain ⟨W1, hW1⟩ : ∃ W1, (w.alloc (.deferred (some []))).alloc (.loop (rec .ready none)) = W1 := ⟨_, rfl⟩
  have hO1 : Own w0 W1 (.obj (w.heap.size + 1) (.loop (rec .ready none)) :: .obj w.heap.size (.deferred (some [])) :: (Ca 0 ++ Mi)) := by
    rw [← hW1]
    have := (hw.addObj (.deferred (some []))).addObj (.loop (rec .ready none))
    rwa [World.size_alloc] at this
  have hev : a.eval g = .func (.func gf) #[] lb := hF.ev hg
  refine ⟨w.heap.size + 1, [markD w.heap.size], W1, { target := .fn (.func gf) lb, args := #[.func (.yield (w.heap.size + 1)) #[] #[]] }, W1, gf,
    #[.func (.yield (w.heap.size + 1)) #[] #[]] ++ lb, W1, ?_, ?_, ?_, ?_, (fun h => by cases h), ?_⟩
  · rw [← hW1, hrec]; exact run_enterLoop_outer _ _ _ _ _
  · simp only [resolve, hev]
    simp [go_sem]
  · intro f' hf'; trivial
  · simp [invoke, go_sem, eg]
  · refine callsIn_wide.2 ((hit (w.heap.size + 1) (fun k => .obj (w.heap.size + 1) (.loop (rec .ready none)) :: .obj w.heap.size (.deferred (some [])) :: Ca k) W1 _ hO1 (fun k w' Z hO => hJ k w' Z ((hO.drop (List.sublist_cons_self _ _)).drop (List.sublist_cons_self _ _))) ?_ ?_))
    · intro k w' Z hk hO
      have hl := hO.objHeap
      have hy := run_yield (P := P) (args := (argv k).toArray) hl (by rw [hrec, hargs]; rfl)
      refine ⟨_, _, _, _, hy, ?_⟩
      rw [hrec] at hy ⊢
      refine roundIn_of_wpIn trivial (hassign _ k _ w' _ ?_ ?_)
      · rw [hargs]
        have h3 := (hF.set hp (D' := []) (x := x k)).set hq (D' := []) (x := y k)
        have hz : ((#[p, q] : Array Nat).zip #[x k, y k]).foldl (fun tmps (t, a) => tmps.setIfInBounds t a) a.tmps = (a.tmps.setIfInBounds p (x k)).setIfInBounds q (y k) := by simp
        rw [← hz] at h3
        exact h3
      · intro a' w2 hF' hx
        have hO2 := hO.next hx
        refine ⟨_, run_beginRound hO2.objHeap (by rw [hrec]), ?_⟩
        have hO3 := hO2.putObj (.loop { rec .ready none with state := .busy })
        have hO4 := hO3.perm (L := Ca k ++ (.obj (w.heap.size + 1) (.loop { rec .ready none with state := .busy }) :: .obj w.heap.size (.deferred (some [])) :: Z))
          (perm2 _ _ (Ca k) Z)
        refine wpIn_mono (hbody _ _ k a' _ hk hF' hO4) ?_
        rintro e a3 w3 ⟨rfl, hO5⟩
        have hO6 := hO5.perm (L := .obj (w.heap.size + 1) (.loop { rec .ready none with state := .busy }) :: .obj w.heap.size (.deferred (some [])) :: (Ca (k + 1) ++ Z))
          (perm2 _ _ (Ca (k + 1)) Z).symm
        refine ⟨_, _, run_endRound none hO6.objHeap, rfl, ?_⟩
        have := hO6.putObj (.loop (rec .ready none))
        rw [hrec] at this ⊢
        exact this
    · intro w' hO
      refine ⟨none, w'.putObj (w.heap.size + 1) (.loop { rec .ready none with state := .exhausted }), ?_, hend w.heap.size _ _ ?_ ?_⟩
      · have := run_endLoop (P := P) hO.objHeap (by rw [hrec]; simp)
        rw [hrec] at this ⊢
        exact this
      · intro B W
        exact ⟨by simp [(hF B W).defers], (hF B W).size, (hF B W).at_⟩
      · exact (hO.putObj _).drop (List.sublist_cons_self _ _)

/-- The iterator calls yield. -/
theorem t_yield {ops : Array Oper} {rest : List Oper} {o : Oper} {a : Act} {N d l : Nat} {x : Operand} {xs : Array Operand} {ts : Array TypeId} {D : List Deferred} {E : Env} {vs : List Value} {K : World → Prop}
    (hg : o.guard = none) (hd : o.dst = some d) (ho : o.op = .call { callee := .value x, args := xs, argTypes := ts }) (hdN : d < N) (hF : FrV N D E a) (hx : Ev E x (.func (.yield l) #[] #[])) (hxs : Evs E xs.toList vs)
    (hy : YieldTo P l vs w K) (h : ∀ a' w', FrV N D ((d, .is (.bool true)) :: E) a' → K w' → wpListIn Fence.wide 0 P ops Q rest a' w') : wpListIn Fence.wide 0 P ops Q (o :: rest) a w := by
  obtain ⟨fn, tmps, assign, body, hr, hR⟩ := hy
  have h1 : xs.map a.eval = vs.toArray := by
    apply Array.toList_inj.1
    rw [Array.toList_map]
    have key : ∀ (l : List Operand) (l' : List Value), Evs E l l' → l.map a.eval = l' := by
      intro l l' hf
      induction hf with
      | nil => rfl
      | cons h _ ih => rw [List.map_cons, ih, hF.ev h]
    exact key _ _ hxs
  have hrun : (execOp a.eval o).run P w = .ok (.round l fn tmps assign body) w := by
    have h0 := hF.ev hx
    unfold execOp
    rw [ho]
    simp only [resolve, h1, h0]
    simp only [Deferred.ofValue, invoke]
    simp [hr]
  refine wpListIn_plain hg fun K' hK => ?_
  refine ⟨fun f _ => trivial, ?_⟩
  rw [Oper.semAt_eq Fence.wide.round a.eval o (fun c hc => by rw [ho] at hc; cases hc), hrun]
  refine ⟨(fun h => by cases h), hR.mono ?_⟩
  rintro e w' ⟨rfl, hk⟩
  refine hK _ _ (h _ w' ?_ hk)
  intro B W
  rw [hd]
  exact (hF B W).put (d := some d) (f := .is (.bool true)) (Ext.refl W) (fun d' e => by injection e with e; exact e ▸ hdN) rfl

/-! ### a function with a loop over an iterator: its entry, its ends -/
theorem enterM {f : FuncId} {fn : Func} {c : Code} {vs : List Value} {R : Ending → World → Prop} {N : Nat} (hf : P.funcs[f]? = some fn) (hb : fn.body = some c) (hN : fn.ntmps = N) (hl : Nat.ble vs.length N = true)
    (h : ∀ a, FrV N [] (startE vs 0) a → c.wp P (bodyPostM Fence.wide 0 P fn R) a w) : Calls P f vs.toArray w R :=
  (callsIn_wide (n := 0)).1 (callsIn_of_wp_marks hf hb trivial (wpIn_wide.2 (h _ (by rw [hN]; exact frv_start vs N (Nat.le_of_ble_eq_true hl)))))
/-- A function's entry where the blocks are already there: an iterator's. -/
theorem enterI {f : FuncId} {fn : Func} {c : Code} {vs : List Value} {R : Ending → World → Prop} {N : Nat} (hf : P.funcs[f]? = some fn) (hb : fn.body = some c) (hN : fn.ntmps = N) (hl : Nat.ble vs.length N = true)
    (h : ∀ a, FrV N [] (startE vs 0) a → c.wpIn Fence.wide 0 P (bodyPost P fn R) a w) : Calls P f vs.toArray w R :=
  enter hf hb hN hl fun a hF => wpIn_wide.1 (h a hF)

variable {N r : Nat} {E : Env} {fn : Func} {R : Ending → World → Prop}
theorem retM {v : Value} (hF : FrV N [markD r] E a) (hw : Own w0 w (.obj r (.deferred (some [])) :: M)) (hr : ∀ w', Own w0 w' M → (results fn a.tmps).run P w' = .ok v w') (h : ∀ w', Own w0 w' M → R (.returned v) w') :
    bodyPostM Fence.wide 0 P fn R .ret a w := by
  have hd := (hF 0 default).defers
  show LeavesInM Fence.wide 0 P fn a.tmps R a.defers .returning w
  rw [hd]
  have hO : Own w0 (w.putObj r (.deferred none)) M := (hw.putObj _).drop (List.sublist_cons_self _ _)
  refine ⟨by simp, .inl ⟨r, _, rfl, run_takeDeferred hw.objHeap, ?_⟩⟩
  exact ⟨v, hr _ hO, h _ hO⟩
theorem retM1 {t : Tmp} {v : Value} (hF : FrV N [markD r] E a) (hw : Own w0 w (.obj r (.deferred (some [])) :: M)) (hr : fn.results = #[.tmp t]) (hv : look E t = some (.is v)) (h : ∀ w', Own w0 w' M → R (.returned v) w') :
    bodyPostM Fence.wide 0 P fn R .ret a w :=
  retM hF hw (fun w' _ => by rw [results_tmp hr]; rw [show a.tmps.getD t undef = v from (hF 0 default).at_ t _ hv]) h
theorem retM2 {t u : Tmp} {v v' : Value} (hF : FrV N [markD r] E a) (hw : Own w0 w (.obj r (.deferred (some [])) :: M)) (hr : fn.results = #[.tmp t, .tmp u]) (hv : look E t = some (.is v)) (hv' : look E u = some (.is v')) (h : ∀ w', Own w0 w' M → R (.returned (.tuple #[v, v'])) w') :
    bodyPostM Fence.wide 0 P fn R .ret a w :=
  retM hF hw (fun w' _ => by rw [results_tmp2 hr]; rw [show a.tmps.getD t undef = v from (hF 0 default).at_ t _ hv, show a.tmps.getD u undef = v' from (hF 0 default).at_ u _ hv']) h
theorem retMc {t : Tmp} {ty : TypeId} {ad : Addr} {v : Value} (hF : FrV N [markD r] E a) (hw : Own w0 w (.obj r (.deferred (some [])) :: M)) (hr : fn.results = #[.cell t ty]) (ht : look E t = some (.is (.pointer (some ad))))
    (hl : ∀ w', Own w0 w' M → (loadVar ty ad).run P w' = .ok v w') (h : ∀ w', Own w0 w' M → R (.returned v) w') : bodyPostM Fence.wide 0 P fn R .ret a w :=
  retM hF hw (fun w' hO => by
    have h1 : a.tmps.getD t undef = .pointer (some ad) := (hF 0 default).at_ t _ ht
    simp only [Array.getD_eq_getD_getElem?] at h1
    simp [results, hr, h1, asAddr, hl w' hO]) h
end
end Go.Proofs.Ythgpojlcbbgaoaa
