/- slices.SortFunc at labels, by their nodes, over a row of one's own. Plain theorems. -/
import Derived.Test.YthgpojlcbbgaoaaRowOps
import Derived.WalkKit
set_option autoImplicit false
set_option maxRecDepth 100000
set_option linter.unusedVariables false
set_option linter.unnecessarySimpa false
namespace Go.Proofs.Ythgpojlcbbgaoaa
open Go.Shelf Go.RowKit Go.Lib Go.Sort

set_option maxHeartbeats 1000000 in
theorem cmp109 (a b c d : Int) (k k' : Key) (ha : 0 ≤ a ∧ a < 1000) (hc : 0 ≤ c ∧ c < 1000) (W : World) : Calls Try.prog 109 #[.agg (I a :: I b :: kc k).toArray, .agg (I c :: I d :: kc k').toArray] W fun e w' => e = .returned (I (a - c)) ∧ ∃ q os', w' = grow (W.drewN q) os' := by
  go_enter Try.func109, Try.ntmps109
  go_wp2
  go_ret
  exact ⟨rfl, 0, _, by rw [alloc_eq_grow, alloc_eq_grow, grow_grow]; rfl⟩

abbrev LabR : Type := { l : Int × Int × Key // 0 ≤ l.1 ∧ l.1 < 1000 }
instance : Inhabited LabR := ⟨⟨(0, 0, key0), by decide⟩⟩
def encR (l : LabR) : List Value := lc l.val
def cmpR (x y : LabR) : Int := x.val.1 - y.val.1
theorem ltR (x y : LabR) : ltOf cmpR x y = decide (x.val.1 < y.val.1) := by
  unfold ltOf cmpR
  rw [decide_eq_decide]
  omega
theorem swoR : SWO (ltOf cmpR) where
  irrefl x := by rw [ltR]; simp
  trans x y z h1 h2 := by rw [ltR] at *; simp at *; omega
  ntrans x y z h1 h2 := by rw [ltR] at *; simp at *; omega
theorem flat_at {l : List LabR} {t : Nat} (h : t < l.length * 18) : (l.flatMap encR)[t]? = some ((encR (l.toArray[t / 18]!))[t % 18]!) := by
  have hd : t / 18 < l.length := by omega
  have hx : l[t / 18]? = some l[t / 18] := List.getElem?_eq_getElem hd
  have h1 := fm_at (f := encR) (sz := 18) (fun x => lc_len _) hx
  have hlen : (encR l[t / 18]).length = 18 := lc_len _
  have h2 : ((List.drop (t / 18 * 18) (List.flatMap encR l)).take 18)[t % 18]? = (l.flatMap encR)[t]? := by
    rw [List.getElem?_take, if_pos (by omega), List.getElem?_drop, show t / 18 * 18 + t % 18 = t by omega]
  rw [← h2, h1]
  have e : l.toArray[t / 18]! = l[t / 18] := by simp [hd]
  rw [e, List.getElem?_eq_getElem (by omega), List.getElem!_eq_getElem?_getD, List.getElem?_eq_getElem (by omega)]
  rfl
theorem flat_list (l : List LabR) : (flatK encR 18 l.toArray).toList = l.flatMap encR := by
  apply List.ext_getElem?
  intro t
  have hl := fm_len (f := encR) (sz := 18) (fun x => lc_len _) l
  unfold flatK
  rw [Array.toList_map, Array.toList_range, List.getElem?_map]
  by_cases h : t < l.length * 18
  · rw [List.getElem?_range (by simpa using h), flat_at h]
    rfl
  · rw [List.getElem?_eq_none (by simpa using h), List.getElem?_eq_none (by omega)]
    rfl
theorem put_list (X c : Array Value) (h : X.size ≤ c.size) : (putCells id 0 X c).toList = X.toList ++ c.toList.drop X.size := by
  apply List.ext_getElem?
  intro t
  unfold putCells
  rw [Array.toList_mapIdx, List.getElem?_mapIdx, List.getElem?_append, List.getElem?_drop, Array.length_toList]
  by_cases h1 : t < X.size
  · rw [if_pos h1]
    have h2 : t < c.size := by omega
    simp [h1, h2]
  · rw [if_neg h1, show X.size + (t - X.size) = t by omega]
    cases hc : c.toList[t]? with
    | none => rfl
    | some v => simp [h1]
theorem sort_own {w0 w : World} {Z : List Ent} {v : Value} {n : Nat} (L : List (Int × Int × Key)) (hr : ∀ x ∈ L, 0 ≤ x.1 ∧ x.1 < 1000) (hl : L.length = n) (hn : n ≤ 1000000) (hw : Own w0 w (.row v 95 18 n (L.flatMap lc) :: Z)) :
    Calls Try.prog 108 [v, .func (.func 109) #[] #[]].toArray w fun e w' => ∃ u, e = .returned u ∧ ∃ L' : List (Int × Int × Key), L'.Perm L ∧ (L'.Pairwise fun a b => a.1 ≤ b.1) ∧ Own w0 w' (.row v 95 18 n (L'.flatMap lc) :: Z) := by
  have hrow := hw.row (i := 0) rfl
  rcases Nat.eq_zero_or_pos n with h0 | h0
  · subst h0
    obtain ⟨A, c, rfl, _, _, _⟩ := hw.rd (i := 0) rfl
    have hc := AnyF.slices_SortFunc_none sortL A c (.func (.func 109) #[] #[]) w
    change Calls Try.prog 108 _ _ _ at hc
    refine hc.mono ?_
    rintro e w' ⟨rfl, rfl⟩
    obtain rfl := List.eq_nil_of_length_eq_zero hl
    exact ⟨_, rfl, [], List.Perm.refl _, List.Pairwise.nil, hw⟩
  · rcases hrow.2 with ⟨_, h⟩ | ⟨g, cap, cur, rfl, hB, hh, hcap, hm, hs, ht⟩
    · omega
    have hg := (Array.getElem?_eq_some_iff.1 hh).1
    obtain ⟨Lr, hLr⟩ : ∃ Lr : List LabR, Lr.map Subtype.val = L := ⟨L.pmap (fun x h => ⟨x, h⟩) hr, by rw [List.map_pmap]; simp⟩
    have hfl : L.flatMap lc = Lr.flatMap encR := by rw [← hLr, List.flatMap_map]; rfl
    have hll : Lr.length = n := by rw [← hl, ← hLr, List.length_map]
    have hlen : (Lr.flatMap encR).length = n * 18 := by rw [fm_len (f := encR) (sz := 18) (fun x => lc_len _), hll]
    have hcell : ∀ t, t < n * 18 → w.cell? ⟨g, 0 + t, none⟩ = some ((flatK encR 18 Lr.toArray)[t]!) := by
      intro t htn
      rw [cell_of_row w g _ _ 95 _ hh, Nat.zero_add]
      have e1 : cur.toList[t]? = (Lr.flatMap encR)[t]? := by
        rw [← hfl, ← ht, List.getElem?_take, if_pos htn]
      rw [← flat_list] at e1
      have hsz : (flatK encR 18 Lr.toArray).size = n * 18 := by rw [← hlen, ← flat_list]; simp
      simp only [Array.getElem?_toList] at e1
      rw [e1, Array.getElem?_eq_getElem (by omega), getElem!_pos _ _ (by omega)]
    have hH : HoldsK encR 18 w g 0 Lr.toArray := by
      intro j hj
      have hj' : j < n * 18 := by
        have hsz : (flatK encR 18 Lr.toArray).size = n * 18 := by rw [← hlen, ← flat_list]; simp
        omega
      exact ⟨hcell j hj', by rw [frozen_of_row w g _ cur 95 hh]⟩
    have eg : ∀ args w, (callFunc 109 args).run Try.prog w = .ok (.enter 109 args) w := Try.call109
    have hcmp : CmpLays Try.prog 109 #[] encR 18 cmpR g 0 Lr.toArray.size w := fun m os dk _ x y => by
      obtain ⟨⟨a, b, k⟩, hx⟩ := x
      obtain ⟨⟨c, d, k'⟩, hy⟩ := y
      exact cmp109 a b c d k k' hx hy _
    have hc := AnyQ.slices_SortFunc sortL 18 Try.isAgg95 Try.sizeOf95 encR (fun x => lc_len _) (fun x u hu => one_lc [x.val] u (by simpa [encR] using hu)) cmpR swoR 109 #[] g 0 cap Lr.toArray w eg hcmp hH hg (by simp; omega)
    change Calls Try.prog 108 _ _ _ at hc
    rw [show Lr.toArray.size = n by simp [hll]] at hc
    refine hc.mono ?_
    rintro e w' ⟨rfl, d', m, os, hp, hsrt, rfl⟩
    obtain ⟨hps, _, hpp⟩ := hp
    have hd's : d'.size = n := by rw [hps]; simp [hll]
    have hperm : d'.toList.Perm Lr := by
      have e1 : d'.extract 0 n = d' := by rw [← hd's]; simp
      have e2 : Lr.toArray.extract 0 n = Lr.toArray := by rw [show n = Lr.toArray.size by simp [hll]]; simp
      rw [e1, e2] at hpp
      exact hpp
    refine ⟨_, rfl, d'.toList.map Subtype.val, ?_, ?_, ?_⟩
    · rw [← hLr]
      exact hperm.map _
    · rw [List.pairwise_map, List.pairwise_iff_getElem]
      intro i j hi hj hij
      have h1 := hsrt i j (Nat.zero_le _) hij (by simpa [hd's] using hj)
      have hi' : i < d'.size := by simpa using hi
      have hj' : j < d'.size := by simpa using hj
      rw [ltR, getElem!_pos d' i hi', getElem!_pos d' j hj', decide_eq_false_iff_not] at h1
      simp only [Array.getElem_toList]
      omega
    · have hfl2 : (d'.toList.map Subtype.val).flatMap lc = d'.toList.flatMap encR := by rw [List.flatMap_map]; rfl
      have hX : (flatK encR 18 d').toList = d'.toList.flatMap encR := flat_list d'.toList
      have hXs : (flatK encR 18 d').size = n * 18 := by
        have h3 := fm_len (f := encR) (sz := 18) (fun x => lc_len _) d'.toList
        rw [← hX] at h3
        simpa [hd's] using h3
      have hcs : n * 18 ≤ cur.size := by rw [hs]; exact Nat.mul_le_mul_right _ hcap
      have hheap : (sortWorldK encR 18 w g 0 m d' os).heap = (w.heap.modify g (onCells (putCells id 0 (flatK encR 18 d')))) ++ os := rfl
      have hgm : g < (w.heap.modify g (onCells (putCells id 0 (flatK encR 18 d')))).size := by simpa using hg
      have hg1 : (sortWorldK encR 18 w g 0 m d' os).heap[g]? = some (.cells (putCells id 0 (flatK encR 18 d') cur) 95 (0, 0)) := by
        rw [hheap, Array.getElem?_append_left hgm, Array.getElem?_modify, if_pos rfl, hh]
        rfl
      refine hw.grown (i := 0) (xs' := (d'.toList.map Subtype.val).flatMap lc) rfl ⟨?_, .inr ⟨g, cap, _, rfl, hB, hg1, hcap, hm, ?_, ?_⟩⟩ ⟨rfl, rfl, rfl, ?_, fun k hk hne => ?_⟩ (.inl rfl)
      · rw [hfl2, ← hX]
        simpa using hXs
      · have h5 := congrArg List.length (put_list (flatK encR 18 d') cur (by omega))
        simp only [List.length_append, List.length_drop, Array.length_toList] at h5
        omega
      · rw [put_list _ _ (by omega), hfl2, ← hX, List.take_append_of_le_length (by simp; omega), List.take_of_length_le (by simp; omega)]
      · rw [hheap]
        simp
      · have hkg : k ≠ g := fun e => hne (by rw [e]; rfl)
        rw [hheap, Array.getElem?_append_left (by simpa using hk), Array.getElem?_modify, if_neg (fun e => hkg e.symm)]
end Go.Proofs.Ythgpojlcbbgaoaa
