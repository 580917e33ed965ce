/- Calls that are handed what their own region has just made. Plain theorems. -/
import Derived.Test.YthgpojlcbbgaoaaEqs
set_option autoImplicit false
set_option linter.unusedVariables false
namespace Go.Proofs.Ythgpojlcbbgaoaa
open Go.RowKit

theorem Rd.heap {w : World} {b : Nat} {t : TypeId} {cs : List Value} (h : w.heap[b]? = some (.cells cs.toArray t (0, 0))) : Rd w (some ⟨b, 0, none⟩) cs :=
  .inr ⟨b, 0, rfl, fun j u hj => by
    rw [cell_of_row w b _ _ t _ h, Nat.zero_add]
    simpa using hj⟩
theorem Rd.row {w : World} {B : Nat} {e : TypeId} {sz n : Nat} {v : Value} {xs : List Value} (h : w.ownsRow B e sz v n xs) : ∃ A c, v = .slice A n c ∧ n ≤ c ∧ Rd w A xs ∧ xs.length = n * sz := by
  rcases h.2 with ⟨rfl, rfl⟩ | ⟨g, cap, cur, rfl, _, hh, hc, _, _, ht⟩
  · exact ⟨none, 0, rfl, Nat.le_refl _, .inl (List.eq_nil_of_length_eq_zero (by simpa using h.1)), h.1⟩
  · refine ⟨_, _, rfl, hc, .inr ⟨g, 0, rfl, fun j u hj => ?_⟩, h.1⟩
    rw [cell_of_row w g _ _ e _ hh]
    rw [← ht, List.getElem?_take] at hj
    split at hj
    · rw [Nat.zero_add]
      simpa using hj
    · cases hj
section
variable {P : Program} {wr : World} {E : Env} {o : Oper}
theorem n_retG {t k : Nat} {f : FuncId} {xs : Array Operand} {ts : Array TypeId} {vs1 vs2 : List Value} {g h : Fact} (ho : o.op = .call { callee := .value (.func f), args := xs, argTypes := ts })
    (hf : ∀ (args : Array Value) (w : World), (callFunc f args).run P w = .ok (.enter f args) w) (hk : xs.toList[k]? = some (.tmp t)) (ht : look E t = some h) (h1 : Evs E (xs.toList.take k) vs1) (h2 : Evs E (xs.toList.drop (k + 1)) vs2)
    (hc : ∀ v w, Ext wr w → h.ok wr.heap.size v w → RetF P f (vs1 ++ v :: vs2).toArray w g) : nstep P wr E o g := by
  intro a w hw hop
  have hm : ∀ p ∈ xs.toList, p ∈ o.op.operands := fun p hp => by rw [ho]; simp only [Op.operands, Call.operands, Array.mem_append]; exact .inr (Array.mem_toList_iff.1 hp)
  have key : ∀ (l : List Operand) (l' : List Value), (∀ p ∈ l, p ∈ xs.toList) → Evs E l l' → l.map a.eval = l' := by
    intro l l' hm' hf
    induction hf with
    | nil => rfl
    | cons h _ ih => rw [List.map_cons, ih (fun p hp => hm' p (List.mem_cons_of_mem _ hp)), h.eval (hm _ (hm' _ List.mem_cons_self)) hop]
  have e1 := key _ _ (fun p hp => List.mem_of_mem_take hp) h1
  have e2 := key _ _ (fun p hp => List.mem_of_mem_drop hp) h2
  have hv := hop t (hm _ (List.mem_of_getElem? hk)) h ht
  have h3 : xs.map a.eval = (vs1 ++ a.tmps.getD t undef :: vs2).toArray := by
    apply Array.toList_inj.1
    rw [Array.toList_map, ← e1, ← e2]
    obtain ⟨hkl, hke⟩ := List.getElem?_eq_some_iff.1 hk
    conv => lhs; rw [← List.take_append_drop k xs.toList, List.drop_eq_getElem_cons hkl, hke]
    rw [List.map_append, List.map_cons]
    rfl
  have h4 : (execOp a.eval o).run P w = .ok (.enter f (vs1 ++ a.tmps.getD t undef :: vs2).toArray) w := by
    unfold execOp; rw [ho]; simp only [resolve, h3, Act.eval]
    simp [Deferred.ofValue, invoke, hf]
  rw [h4]
  exact (hc _ w hw hv).at_ hw
theorem n_retC {t k : Nat} {f : FuncId} {xs : Array Operand} {ts : Array TypeId} {vs1 vs2 : List Value} {g : Fact} {e : TypeId} {cs : List Value} {mk : Value → Value} (ho : o.op = .call { callee := .value (.func f), args := xs, argTypes := ts })
    (hf : ∀ (args : Array Value) (w : World), (callFunc f args).run P w = .ok (.enter f args) w) (hk : xs.toList[k]? = some (.tmp t)) (ht : look E t = some (.cap e cs mk)) (h1 : Evs E (xs.toList.take k) vs1) (h2 : Evs E (xs.toList.drop (k + 1)) vs2)
    (hc : ∀ w b, Ext wr w → Rd w (some ⟨b, 0, none⟩) cs → RetF P f (vs1 ++ mk (.pointer (some ⟨b, 0, none⟩)) :: vs2).toArray w g) : nstep P wr E o g :=
  n_retG ho hf hk ht h1 h2 fun v w hx hv => by
    obtain ⟨b, rfl, _, hh⟩ := hv
    exact hc w b hx (Rd.heap hh)
theorem n_retE {t k : Nat} {f : FuncId} {xs : Array Operand} {ts : Array TypeId} {vs1 vs2 : List Value} {g : Fact} {e : TypeId} {sz n : Nat} {cs : List Value} {mk : Value → Value} (ho : o.op = .call { callee := .value (.func f), args := xs, argTypes := ts })
    (hf : ∀ (args : Array Value) (w : World), (callFunc f args).run P w = .ok (.enter f args) w) (hk : xs.toList[k]? = some (.tmp t)) (ht : look E t = some (.ex e sz n cs mk)) (h1 : Evs E (xs.toList.take k) vs1) (h2 : Evs E (xs.toList.drop (k + 1)) vs2)
    (hc : ∀ w A c, Ext wr w → n ≤ c → Rd w A cs → RetF P f (vs1 ++ mk (.slice A n c) :: vs2).toArray w g) : nstep P wr E o g :=
  n_retG ho hf hk ht h1 h2 fun v w hx hv => by
    obtain ⟨s, hs, rfl⟩ := hv
    obtain ⟨A, c, rfl, hle, hR, _⟩ := Rd.row hs
    exact hc w A c hx hle hR
end
end Go.Proofs.Ythgpojlcbbgaoaa
