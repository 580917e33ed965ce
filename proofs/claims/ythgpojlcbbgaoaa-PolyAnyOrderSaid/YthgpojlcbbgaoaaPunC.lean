/- What a puncture leaves: the plain mathematics. No program but for values. -/
import Derived.Test.YthgpojlcbbgaoaaPun
set_option autoImplicit false
set_option maxRecDepth 100000
set_option linter.unusedVariables false
namespace Go.Proofs.Ythgpojlcbbgaoaa
open Go.RowKit

/-! ### lists of cells -/
theorem fm_drop {α : Type} {f : α → List Value} {sz : Nat} (hf : ∀ x, (f x).length = sz) (l : List α) (k : Nat) : (l.drop k).flatMap f = (l.flatMap f).drop (k * sz) := by
  induction l generalizing k with
  | nil => simp
  | cons a l ih =>
    cases k with
    | zero => simp
    | succ k => rw [List.drop_succ_cons, List.flatMap_cons, ih, List.drop_append, hf, List.drop_of_length_le (l := f a) (by rw [hf, Nat.add_mul]; omega), List.nil_append, show (k + 1) * sz - sz = k * sz by rw [Nat.add_mul]; omega]
theorem seg_len {cs vs : List Value} {off : Nat} (h : off + vs.length ≤ cs.length) : (seg cs off vs).length = cs.length := by
  simp only [seg, List.length_append, List.length_take, List.length_drop]
  omega
section
variable {w0 w : World} {M Z : List Ent}
theorem Own.rowForm (h : Own w0 w M) {i n : Nat} {v : Value} {e : TypeId} {sz : Nat} {xs : List Value} (hi : M[i]? = some (.row v e sz n xs)) (hn : 0 < n) : ∃ g cap, v = .slice (some ⟨g, 0, none⟩) n cap ∧ n ≤ cap := by
  rcases (h.row hi).2 with ⟨_, h0⟩ | ⟨g, cap, _, hv, _, _, hc, _⟩
  · omega
  · exact ⟨g, cap, hv, hc⟩
abbrev delA (g cap i : Nat) : Addr := if cap = i + 1 then ⟨g, 0, none⟩ else ⟨g, 0 + (i + 1) * 18, none⟩
theorem del_slice {g cap i n : Nat} : Value.slice (if cap = i + 1 then some ⟨g, 0, none⟩ else (some (⟨g, 0, none⟩ : Addr)).map fun x => x.add ((i + 1) * 18)) (n - (i + 1)) (cap - (i + 1)) = .slice (some (delA g cap i)) (n - (i + 1)) (cap - (i + 1)) := by
  unfold delA
  split
  · rfl
  · rw [Option.map_some, add_loc]
theorem del_read {g cap i n : Nat} {cur : List Value} {L : List Lab} (hw : Own w0 w (.blk g 95 cur :: Z)) (hl : L.length = n) (hi : i < n) (hcap : n ≤ cap) (hct : cur.take (n * 18) = L.flatMap lc) :
    ∀ j u, ((L.drop (i + 1)).flatMap lc)[j]? = some u → w.cell? ((delA g cap i).add j) = some u := by
  intro j u hj
  rw [fm_drop lc_len, List.getElem?_drop] at hj
  have hlt := (List.getElem?_eq_some_iff.1 hj).1
  rw [fm_len lc_len, hl] at hlt
  have hc : ¬ cap = i + 1 := by omega
  unfold delA
  rw [if_neg hc, add_loc, Nat.zero_add]
  refine hw.cell (i := 0) rfl ?_ (Ext.refl w)
  rw [← hct, List.getElem?_take, if_pos hlt] at hj
  exact hj
theorem del_tail {g cap i n : Nat} (hi : i < n) (hcap : n ≤ cap) : Value.slice (if cap = i + (n - (i + 1)) then some ⟨g, 0, none⟩ else (some (⟨g, 0, none⟩ : Addr)).map fun x => x.add ((i + (n - (i + 1))) * 18)) (n - (i + (n - (i + 1)))) (cap - (i + (n - (i + 1)))) = .slice (some ⟨g, (n - 1) * 18, none⟩) (0 + 1) (cap - (n - 1)) := by
  have e : i + (n - (i + 1)) = n - 1 := by omega
  rw [e, if_neg (by omega), Option.map_some, add_loc, Nat.zero_add, show n - (n - 1) = 0 + 1 by omega]
theorem del_row {g cap i n : Nat} {cur : List Value} {L : List Lab} {z : Lab} (hl : L.length = n) (hi : i < n) (hcap : n ≤ cap) (hcm : cap ≤ maxLen) (hcl : cur.length = cap * 18) (hct : cur.take (n * 18) = L.flatMap lc)
    (hw : Own w0 w (.blk g 95 (seg (seg cur (i * 18) ((L.drop (i + 1)).flatMap lc)) ((n - 1) * 18) (lc z)) :: Z)) : Own w0 w (.row (.slice (some ⟨g, 0, none⟩) (i + (n - (i + 1))) cap) 95 18 (n - 1) ((L.eraseIdx i).flatMap lc) :: Z) := by
  have hnl : ((L.drop (i + 1)).flatMap lc).length = (n - (i + 1)) * 18 := by rw [fm_len lc_len, List.length_drop, hl]
  have e : i + (n - (i + 1)) = n - 1 := by omega
  rw [e]
  have h18 : n * 18 ≤ cap * 18 := Nat.mul_le_mul_right _ hcap
  have hl1 : (seg cur (i * 18) ((L.drop (i + 1)).flatMap lc)).length = cap * 18 := by rw [seg_len (by rw [hnl, hcl]; omega), hcl]
  have hl2 : (seg (seg cur (i * 18) ((L.drop (i + 1)).flatMap lc)) ((n - 1) * 18) (lc z)).length = cap * 18 := by rw [seg_len (by rw [lc_len, hl1]; omega), hl1]
  refine hw.blkRowC (i := 0) rfl hl2 (by omega) hcm ?_
  have h1 : (cur.take (i * 18)).length = i * 18 := by rw [List.length_take, hcl]; omega
  conv => lhs; unfold seg
  rw [List.append_assoc, List.take_append_of_le_length (by rw [List.length_take, List.length_append, List.length_append, h1, hnl, List.length_drop, hcl]; omega), List.take_take, Nat.min_self,
    List.take_append_of_le_length (by rw [List.length_append, h1, hnl]; omega), List.take_of_length_le (by rw [List.length_append, h1, hnl]; omega), List.eraseIdx_eq_take_drop_succ, List.flatMap_append, fm_take lc_len, ← hct, List.take_take, Nat.min_eq_left (by omega)]
end

/-! ### what lies over a leaf -/
theorem bel_nat {a b : Nat} : bel (a : Int) (b : Int) = belowN a b := by simp [bel]
theorem belowN_up {l a b : Nat} (h1 : belowN l a = true) (h2 : belowN l b = true) (h : a < b) : belowN b a = true := by
  obtain ⟨s, hs, rfl⟩ := belowN_iff.1 h1
  obtain ⟨t, ht, rfl⟩ := belowN_iff.1 h2
  rcases Nat.lt_or_ge t s with hts | hts
  · refine belowN_iff.2 ⟨s - t, by omega, ?_⟩
    rw [Nat.div_div_eq_div_mul, ← Nat.pow_add, show t + (s - t) = s by omega]
  · exfalso
    have : l / 2 ^ t ≤ l / 2 ^ s := Nat.div_le_div_left (Nat.pow_le_pow_right (by decide) hts) (Nat.two_pow_pos _)
    omega
theorem st_spec {l v : Nat} (hl : l < 128) (hv : 1 ≤ v) (h : belowN l v = true) : l / 2 ^ stT l (v : Int) = v ∧ stT l (v : Int) ≤ 6 := by
  obtain ⟨t, ht, rfl⟩ := belowN_iff.1 h
  have ht7 : t < 7 := by
    rcases Nat.lt_or_ge t 7 with h | h
    · exact h
    · obtain rfl : t = 7 := by omega
      have : l / 2 ^ 7 = 0 := Nat.div_eq_of_lt hl
      omega
  have := len_anc hl ht7 hv
  unfold stT
  rw [Int.toNat_natCast, show lenT l - lenT (l / 2 ^ t) = t by omega]
  exact ⟨rfl, by omega⟩
theorem xor1 {x : Nat} (h : x < 128) : 2 * (x / 2) ≤ x ^^^ 1 ∧ x ^^^ 1 ≤ 2 * (x / 2) + 1 := by
  have : ∀ x : Fin 128, 2 * (x.val / 2) ≤ x.val ^^^ 1 ∧ x.val ^^^ 1 ≤ 2 * (x.val / 2) + 1 := by decide +kernel
  exact this ⟨x, h⟩
theorem anc_half (l T : Nat) : l / 2 ^ (T + 1) = l / 2 ^ T / 2 := by rw [Nat.pow_succ, Nat.div_div_eq_div_mul]
theorem walkS_ge {l : Nat} (hl : l < 128) : ∀ (T : Nat) (k : Key), ∀ y ∈ walkS l T k, ∃ v : Nat, y.1 = (v : Int) ∧ y.2.1 = 0 ∧ 2 * (l / 2 ^ T) ≤ v ∧ v < 128
  | 0, k => fun y hy => by cases hy
  | T + 1, k => fun y hy => by
    have hlt : l / 2 ^ T < 128 := Nat.lt_of_le_of_lt (Nat.div_le_self _ _) hl
    have hx := xor1 hlt
    rw [walkS] at hy
    rcases List.mem_cons.1 hy with rfl | hy
    · exact ⟨_, rfl, rfl, by rw [anc_half]; exact hx.1, xor1_lt hlt⟩
    · obtain ⟨v, h1, h2, h3, h4⟩ := walkS_ge hl T _ y hy
      refine ⟨v, h1, h2, ?_, h4⟩
      rw [anc_half]
      omega
theorem walkS_sorted {l : Nat} (hl : l < 128) : ∀ (T : Nat) (k : Key), 1 ≤ l / 2 ^ T → (walkS l T k).Pairwise slt
  | 0, k, _ => List.Pairwise.nil
  | T + 1, k, h => by
    rw [walkS, List.pairwise_cons]
    refine ⟨fun y hy => ?_, walkS_sorted hl T _ (anc_pos h)⟩
    obtain ⟨v, h1, _, h3, _⟩ := walkS_ge hl T _ y hy
    have hlt : l / 2 ^ T < 128 := Nat.lt_of_le_of_lt (Nat.div_le_self _ _) hl
    have hx := xor1 hlt
    rw [anc_half] at h
    unfold slt
    rw [h1]
    show ((l / 2 ^ T ^^^ 1 : Nat) : Int) < v
    omega
theorem sib_below {l : Nat} (hl : l < 128) : ∀ (T : Nat) (k : Key), T ≤ 6 → 1 ≤ l / 2 ^ T → ∀ y ∈ walkS l T k, ∀ v : Nat, y.1 = (v : Int) → belowN v (l / 2 ^ T) = true
  | 0, k, _, _ => fun y hy => by cases hy
  | T + 1, k, hT, h => fun y hy v hv => by
    have hlt : l / 2 ^ T < 128 := Nat.lt_of_le_of_lt (Nat.div_le_self _ _) hl
    rw [walkS] at hy
    rcases List.mem_cons.1 hy with rfl | hy
    · have hx := xor1 hlt
      have : ((l / 2 ^ T ^^^ 1 : Nat) : Int) = (v : Int) := hv
      refine belowN_iff.2 ⟨1, by decide, ?_⟩
      rw [anc_half l T]
      omega
    · obtain ⟨t, ht, he⟩ := belowN_iff.1 (sib_below hl T _ (by omega) (anc_pos h) y hy v hv)
      obtain ⟨v', h1, _, h3, h4⟩ := walkS_ge hl T _ y hy
      have hvv : v < 128 := by rw [hv] at h1; omega
      have ht6 : t < 6 := by
        rcases Nat.lt_or_ge t 6 with h6 | h6
        · exact h6
        · exfalso
          have h2 : 2 ≤ l / 2 ^ T := by rw [anc_half] at h; omega
          have : v / 2 ^ t ≤ v / 2 ^ 6 := Nat.div_le_div_left (Nat.pow_le_pow_right (by decide) h6) (by decide)
          have : v / 2 ^ 6 ≤ 1 := by
            have : v / 2 ^ 6 < 2 := Nat.div_lt_of_lt_mul (by omega)
            omega
          omega
      refine belowN_iff.2 ⟨t + 1, by omega, ?_⟩
      rw [anc_half v t, anc_half l T, he]

/-! ### a valid list, and the label over a leaf -/
section
variable {d n l : Nat} {L : List Lab}
theorem ok_sorted (h : okPN d L = true) : L.Pairwise slt := by
  rw [List.pairwise_iff_getElem]
  intro i j hi hj hij
  have h1 := okPN_at h (List.getElem?_eq_getElem hj)
  unfold gdL at h1
  rw [Bool.and_eq_true, List.all_eq_true] at h1
  have := h1.2 L[i] (List.mem_iff_getElem.2 ⟨i, by rw [List.length_take]; omega, by rw [List.getElem_take]⟩)
  simp only [Bool.and_eq_true, decide_eq_true_eq] at this
  exact this.1
theorem ok_free (h : okPN d L = true) {i j : Nat} {x y : Lab} (hx : L[i]? = some x) (hy : L[j]? = some y) (hij : i < j) : bel y.1 x.1 = false ∧ x.1 < y.1 := by
  obtain ⟨hi, rfl⟩ := List.getElem?_eq_some_iff.1 hx
  have h1 := okPN_at h hy
  unfold gdL at h1
  rw [Bool.and_eq_true, List.all_eq_true] at h1
  have := h1.2 L[i] (List.mem_iff_getElem.2 ⟨i, by rw [List.length_take]; have := (List.getElem?_eq_some_iff.1 hy).1; omega, by rw [List.getElem_take]⟩)
  simp only [Bool.and_eq_true, decide_eq_true_eq, Bool.not_eq_true'] at this
  exact ⟨this.2, this.1⟩
/-- Only one label lies over a leaf. -/
theorem ok_one (hd : d ≤ 6) (h : okPN d L = true) {i j : Nat} {x y : Lab} (hx : L[i]? = some x) (hy : L[j]? = some y) (h1 : bel l x.1 = true) (h2 : bel l y.1 = true) : i = j := by
  have key : ∀ {i j : Nat} {x y : Lab}, L[i]? = some x → L[j]? = some y → bel l x.1 = true → bel l y.1 = true → ¬ i < j := by
    intro i j x y hx hy h1 h2 hij
    obtain ⟨h3, h4⟩ := ok_free h hx hy hij
    have rx := ok_range hd h hx
    unfold bel at h1 h2 h3
    rw [Int.toNat_natCast] at h1 h2
    rw [belowN_up h1 h2 (by omega)] at h3
    cases h3
  have := key hx hy h1 h2
  have := key hy hx h2 h1
  omega
theorem punM_none (h : ∀ y ∈ L, bel l y.1 = false) : punM l L = L := by
  unfold punM
  induction L with
  | nil => rfl
  | cons a L ih =>
    rw [List.flatMap_cons, ih (fun y hy => h y (List.mem_cons_of_mem _ hy)), h a List.mem_cons_self]
    rfl
theorem punM_some (hd : d ≤ 6) (h : okPN d L = true) {i : Nat} {x : Lab} (hx : L[i]? = some x) (h1 : bel l x.1 = true) : punM l L = L.take i ++ (walkS l (stT l x.1) x.2.2 ++ L.drop (i + 1)) := by
  obtain ⟨hi, he⟩ := List.getElem?_eq_some_iff.1 hx
  have e : L = L.take i ++ x :: L.drop (i + 1) := by
    conv => lhs; rw [← List.take_append_drop i L, List.drop_eq_getElem_cons hi, he]
  have hno : ∀ j y, j ≠ i → L[j]? = some y → bel l y.1 = false := by
    intro j y hj hy
    cases hb : bel l y.1 with
    | false => rfl
    | true => exact absurd (ok_one hd h hy hx hb h1) hj
  have ht : ∀ y ∈ L.take i, bel l y.1 = false := by
    intro y hy
    obtain ⟨j, hj, rfl⟩ := List.mem_iff_getElem.1 hy
    rw [List.length_take] at hj
    rw [List.getElem_take]
    exact hno j _ (by omega) (List.getElem?_eq_getElem (by omega))
  have hdr : ∀ y ∈ L.drop (i + 1), bel l y.1 = false := by
    intro y hy
    obtain ⟨j, hj, rfl⟩ := List.mem_iff_getElem.1 hy
    rw [List.length_drop] at hj
    rw [List.getElem_drop]
    exact hno (i + 1 + j) _ (by omega) (List.getElem?_eq_getElem (by omega))
  conv => lhs; rw [e]
  unfold punM
  rw [List.flatMap_append, List.flatMap_cons, h1]
  rw [show (List.flatMap (fun x => if bel l x.1 = true then walkS l (stT l x.1) x.2.2 else [x]) (List.take i L)) = L.take i from punM_none ht, show (List.flatMap (fun x => if bel l x.1 = true then walkS l (stT l x.1) x.2.2 else [x]) (List.drop (i + 1) L)) = L.drop (i + 1) from punM_none hdr]
  rfl
theorem punM_nodup (hd : d ≤ 6) (hl : l < 128) (h : okPN d L = true) {i : Nat} {x : Lab} (hx : L[i]? = some x) (h1 : bel l x.1 = true) : ((punM l L).map (·.1)).Nodup := by
  rw [punM_some hd h hx h1]
  obtain ⟨hi, he⟩ := List.getElem?_eq_some_iff.1 hx
  have hs := ok_sorted h
  have rx := ok_range hd h hx
  obtain ⟨v, hv⟩ := Int.eq_ofNat_of_zero_le (show 0 ≤ x.1 by omega)
  rw [hv, bel_nat] at h1
  obtain ⟨e1, e2⟩ := st_spec hl (by omega) h1
  have hsib : ∀ y ∈ walkS l (stT l x.1) x.2.2, ∃ s : Nat, y.1 = (s : Int) ∧ v < s ∧ belowN s v = true := by
    intro y hy
    rw [hv] at hy
    obtain ⟨s, h3, _, h5, _⟩ := walkS_ge hl _ _ y hy
    have h6 := sib_below hl _ _ e2 (by rw [e1]; omega) y hy s h3
    rw [e1] at h5 h6
    exact ⟨s, h3, by omega, h6⟩
  have hoth : ∀ j y, j ≠ i → L[j]? = some y → ∀ s ∈ walkS l (stT l x.1) x.2.2, y.1 ≠ s.1 := by
    intro j y hj hy s hs e
    obtain ⟨t, h3, h4, h5⟩ := hsib s hs
    rcases Nat.lt_or_ge j i with h6 | h6
    · have := (ok_free h hy hx h6).2
      omega
    · have h7 := (ok_free h hx hy (by omega)).1
      rw [e, h3, hv, bel_nat, h5] at h7
      cases h7
  have hne : ∀ {a b : List Lab}, (a ++ b).Pairwise slt → ∀ x ∈ a, ∀ y ∈ b, x.1 ≠ y.1 := by
    intro a b hab x hx y hy e
    have := (List.pairwise_append.1 hab).2.2 x hx y hy
    unfold slt at this
    omega
  have toN : ∀ {a : List Lab}, a.Pairwise slt → (a.map (·.1)).Nodup := by
    intro a ha
    rw [List.Nodup, List.pairwise_map]
    exact List.Pairwise.imp (fun {a b} h => by unfold slt at h; omega) ha
  have mt : ∀ y ∈ L.take i, ∃ j, j ≠ i ∧ L[j]? = some y := by
    intro y hy
    obtain ⟨j, hj, rfl⟩ := List.mem_iff_getElem.1 hy
    rw [List.length_take] at hj
    exact ⟨j, by omega, by rw [List.getElem_take]; exact List.getElem?_eq_getElem (by omega)⟩
  have md : ∀ y ∈ L.drop (i + 1), ∃ j, j ≠ i ∧ L[j]? = some y := by
    intro y hy
    obtain ⟨j, hj, rfl⟩ := List.mem_iff_getElem.1 hy
    rw [List.length_drop] at hj
    exact ⟨i + 1 + j, by omega, by rw [List.getElem_drop]; exact List.getElem?_eq_getElem (by omega)⟩
  have hs2 : (L.take i ++ L.drop (i + 1)).Pairwise slt := by
    rw [← List.eraseIdx_eq_take_drop_succ]
    exact hs.sublist (List.eraseIdx_sublist L i)
  obtain ⟨p1, p2, p3⟩ := List.pairwise_append.1 hs2
  rw [List.map_append, List.map_append, List.nodup_append, List.nodup_append]
  refine ⟨toN p1, ⟨?_, toN p2, ?_⟩, ?_⟩
  · refine toN (walkS_sorted hl _ _ ?_)
    rw [hv, e1]
    omega
  · intro a ha b hb e
    obtain ⟨s, hs', rfl⟩ := List.mem_map.1 ha
    obtain ⟨y, hy, rfl⟩ := List.mem_map.1 hb
    obtain ⟨j, hj, hyj⟩ := md y hy
    exact hoth j y hj hyj s hs' e.symm
  · intro a ha b hb e
    obtain ⟨y, hy, rfl⟩ := List.mem_map.1 ha
    rcases List.mem_append.1 hb with hb | hb
    · obtain ⟨s, hs', rfl⟩ := List.mem_map.1 hb
      obtain ⟨j, hj, hyj⟩ := mt y hy
      exact hoth j y hj hyj s hs' e
    · obtain ⟨z, hz, rfl⟩ := List.mem_map.1 hb
      exact hne hs2 y hy z hz e
theorem punL_none (h : okPN d L = true) (h1 : ∀ y ∈ L, bel l y.1 = false) : punL l L = L := by
  have hs := ok_sorted h
  have hle : L.Pairwise sle := List.Pairwise.imp (fun {a b} h => by unfold slt at h; unfold sle; omega) hs
  refine (punL_eq (by rw [punM_none h1]) hle ?_).symm
  rw [punM_none h1, List.Nodup, List.pairwise_map]
  exact List.Pairwise.imp (fun {a b} h => by unfold slt at h; omega) hs
/-- What the program has before it sorts. -/
theorem punL_some (hd : d ≤ 6) (hl : l < 128) (h : okPN d L = true) {i : Nat} {x : Lab} (hx : L[i]? = some x) (h1 : bel l x.1 = true) {L' : List Lab} (hp : L'.Perm (L.eraseIdx i ++ walkS l (stT l x.1) x.2.2)) (hs : L'.Pairwise fun a b => a.1 ≤ b.1) : L' = punL l L := by
  refine punL_eq ?_ hs (punM_nodup hd hl h hx h1)
  rw [punM_some hd h hx h1]
  refine hp.trans ?_
  rw [List.eraseIdx_eq_take_drop_succ, List.append_assoc]
  exact List.Perm.append_left _ List.perm_append_comm
end
theorem idxF_some {α : Type} {pf : α → Bool} {l : List α} (h : ¬ idxF pf l < 0) : ∃ i x, idxF pf l = ((i : Nat) : Int) ∧ l[i]? = some x ∧ pf x = true := by
  unfold idxF at h ⊢
  cases hf : l.findIdx? pf with
  | none => rw [hf] at h; exact absurd (by decide) h
  | some i =>
    obtain ⟨h1, h2, _⟩ := List.findIdx?_eq_some_iff_getElem.1 hf
    exact ⟨i, l[i], rfl, List.getElem?_eq_getElem h1, h2⟩
theorem idxF_neg {α : Type} {pf : α → Bool} {l : List α} (h : idxF pf l < 0) : ∀ x ∈ l, pf x = false := by
  intro x hx
  have h1 := idxF_ge pf l
  rw [decide_eq_false (by omega)] at h1
  have := List.any_eq_false.1 h1.symm x hx
  simpa using this
/-- What Puncture returns. -/
def punR (d : Int) (L : List Lab) (m : Int) : Int × List Lab × Int :=
  if okPN d L then (if (decide (m < 0) || decide (((2 ^ d.toNat : Nat) : Int) ≤ m)) then (0, [], 2) else (d, punL (((2 ^ d.toNat : Nat) : Int) + m).toNat L, 0)) else (0, [], 8)
def evalL (l : Nat) (L : List Lab) : Option Key := (L.find? fun x => bel l x.1).map fun x => derK (walkK l (stT l x.1) x.2.2) 33 0
/-- What Evaluate returns. -/
def evR (d : Int) (L : List Lab) (m : Int) : Key × Int :=
  if okPN d L then (if (decide (m < 0) || decide (((2 ^ d.toNat : Nat) : Int) ≤ m)) then (key0, 2) else (match evalL (((2 ^ d.toNat : Nat) : Int) + m).toNat L with
    | some k => (k, 0)
    | none => (key0, 6))) else (key0, 8)
section
variable {d : Int} {L : List Lab} {m : Int}
theorem punR_bad (h : okPN d L = false) : punR d L m = (0, [], 8) := by simp [punR, h]
theorem punR_arg (h : okPN d L = true) (h2 : (decide (m < 0) || decide (((2 ^ d.toNat : Nat) : Int) ≤ m)) = true) : punR d L m = (0, [], 2) := by simp only [punR, h, h2]; rfl
theorem punR_ok {k l : Nat} (h : okPN (k : Int) L = true) (h2 : (decide (m < 0) || decide (((2 ^ k : Nat) : Int) ≤ m)) = false) (hl : ((2 ^ k : Nat) : Int) + m = (l : Int)) : punR k L m = ((k : Int), punL l L, 0) := by
  simp only [punR, Int.toNat_natCast, h, h2, hl]; rfl
theorem evR_bad (h : okPN d L = false) : evR d L m = (key0, 8) := by simp [evR, h]
theorem evR_arg (h : okPN d L = true) (h2 : (decide (m < 0) || decide (((2 ^ d.toNat : Nat) : Int) ≤ m)) = true) : evR d L m = (key0, 2) := by simp only [evR, h, h2]; rfl
theorem evR_none {k l : Nat} (h : okPN (k : Int) L = true) (h2 : (decide (m < 0) || decide (((2 ^ k : Nat) : Int) ≤ m)) = false) (hl : ((2 ^ k : Nat) : Int) + m = (l : Int)) (h3 : ∀ x ∈ L, bel l x.1 = false) : evR k L m = (key0, 6) := by
  have : evalL l L = none := by
    unfold evalL
    rw [List.find?_eq_none.2 (fun x hx => by rw [h3 x hx]; simp)]
    rfl
  simp only [evR, Int.toNat_natCast, h, h2, hl, this]; rfl
theorem evalL_some {k l i : Nat} (hd : k ≤ 6) (h : okPN (k : Int) L = true) {x : Lab} (hx : L[i]? = some x) (h3 : bel l x.1 = true) : evalL l L = some (derK (walkK l (stT l x.1) x.2.2) 33 0) := by
  unfold evalL
  cases hf : L.find? fun x => bel l x.1 with
  | none =>
    have := List.find?_eq_none.1 hf x (List.mem_of_getElem? hx)
    rw [h3] at this
    simp at this
  | some y =>
    obtain ⟨j, hj, rfl⟩ := List.mem_iff_getElem.1 (List.mem_of_find?_eq_some hf)
    have := ok_one hd h hx (List.getElem?_eq_getElem hj) h3 (List.find?_some (p := fun x : Lab => bel l x.1) hf)
    subst this
    rw [List.getElem?_eq_getElem hj] at hx
    injection hx with hx
    rw [hx]
    rfl
theorem evR_some {k l i : Nat} (hd : k ≤ 6) (h : okPN (k : Int) L = true) (h2 : (decide (m < 0) || decide (((2 ^ k : Nat) : Int) ≤ m)) = false) (hl : ((2 ^ k : Nat) : Int) + m = (l : Int)) {x : Lab} (hx : L[i]? = some x) (h3 : bel l x.1 = true) :
    evR k L m = (derK (walkK l (stT l x.1) x.2.2) 33 0, 0) := by
  simp only [evR, Int.toNat_natCast, h, h2, hl, evalL_some hd h hx h3]; rfl
end
end Go.Proofs.Ythgpojlcbbgaoaa
