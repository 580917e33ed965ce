/- A puncture keeps a punctured key valid, takes its own leaf, and no other: the plain mathematics. -/
import Derived.Test.YthgpojlcbbgaoaaPunD
set_option autoImplicit false
set_option maxRecDepth 100000
set_option linter.unusedVariables false
set_option linter.unusedSimpArgs false
set_option linter.unnecessarySimpa false
namespace Go.Proofs.Ythgpojlcbbgaoaa
open Go.RowKit

theorem mem_pun {l : Nat} {L : List Lab} {y : Lab} : y ∈ punL l L ↔ (y ∈ L ∧ bel l y.1 = false) ∨ ∃ x ∈ L, bel l x.1 = true ∧ y ∈ walkS l (stT l x.1) x.2.2 := by
  have hp : (punL l L).Perm (punM l L) := by
    have := insAll_perm (punM l L) []
    rw [List.append_nil] at this
    exact this
  rw [hp.mem_iff, punM, List.mem_flatMap]
  constructor
  · rintro ⟨x, hx, hy⟩
    cases hb : bel l x.1 with
    | true => rw [hb, if_pos rfl] at hy; exact .inr ⟨x, hx, hb, hy⟩
    | false =>
      rw [hb, if_neg (by decide), List.mem_singleton] at hy
      subst hy
      exact .inl ⟨hx, hb⟩
  · rintro (⟨hy, hb⟩ | ⟨x, hx, hb, hy⟩)
    · exact ⟨y, hy, by rw [hb, if_neg (by decide)]; exact List.mem_singleton.2 rfl⟩
    · exact ⟨x, hx, by rw [hb, if_pos rfl]; exact hy⟩
theorem pun_sle (l : Nat) (L : List Lab) : (punL l L).Pairwise sle := by
  have key : ∀ (m l : List Lab), l.Pairwise sle → (insAll l m).Pairwise sle := by
    intro m
    induction m with
    | nil => exact fun l h => h
    | cons x m ih => exact fun l h => ih (insL l x) (insL_sorted h x)
  exact key _ _ List.Pairwise.nil
section
variable {d l : Nat} {L : List Lab}
theorem pun_slt (hd : d ≤ 6) (hl : l < 128) (h : okPN d L = true) : (punL l L).Pairwise slt := by
  by_cases hx : ∃ x ∈ L, bel l x.1 = true
  · obtain ⟨x, hx, hb⟩ := hx
    obtain ⟨i, hi, rfl⟩ := List.mem_iff_getElem.1 hx
    refine lt_of_le_nodup (pun_sle l L) ?_
    have hp : (punL l L).Perm (punM l L) := by
      have := insAll_perm (punM l L) []
      rw [List.append_nil] at this
      exact this
    exact (hp.map _).nodup_iff.2 (punM_nodup hd hl h (List.getElem?_eq_getElem hi) hb)
  · rw [punL_none h (fun y hy => by
      cases hb : bel l y.1 with
      | false => rfl
      | true => exact absurd ⟨y, hy, hb⟩ hx)]
    exact ok_sorted h
theorem okPN_of (hd : d ≤ 6) (h1 : ∀ y ∈ L, nodeOk d y = true) (h2 : L.Pairwise fun x y => x.1 < y.1 ∧ bel y.1 x.1 = false) : okPN d L = true := by
  refine okPN_yes hd rfl fun j y hj hy => ?_
  obtain ⟨hj, rfl⟩ := List.getElem?_eq_some_iff.1 hy
  unfold gdL
  rw [h1 _ (List.getElem_mem hj), Bool.true_and, List.all_eq_true]
  intro z hz
  obtain ⟨i, hi, rfl⟩ := List.mem_iff_getElem.1 hz
  rw [List.length_take] at hi
  rw [List.getElem_take]
  obtain ⟨h3, h4⟩ := (List.pairwise_iff_getElem.1 h2) i j (by omega) hj (by omega)
  rw [decide_eq_true h3, h4]
  rfl
theorem ok_nat (hd : d ≤ 6) (h : okPN d L = true) {y : Lab} (hy : y ∈ L) : ∃ v : Nat, y.1 = (v : Int) ∧ 1 ≤ v ∧ v < 128 ∧ y.2.1 = 0 := by
  obtain ⟨i, hi, rfl⟩ := List.mem_iff_getElem.1 hy
  obtain ⟨h1, h2, h3⟩ := ok_range hd h (List.getElem?_eq_getElem hi)
  obtain ⟨v, hv⟩ := Int.eq_ofNat_of_zero_le (show 0 ≤ L[i].1 by omega)
  exact ⟨v, hv, by omega, by omega, h3⟩
theorem ok_anti (hd : d ≤ 6) (h : okPN d L = true) {x y : Lab} (hx : x ∈ L) (hy : y ∈ L) (hne : x.1 ≠ y.1) : bel y.1 x.1 = false := by
  obtain ⟨v, hv, hv1, hv2, _⟩ := ok_nat hd h hx
  obtain ⟨u, hu, hu1, hu2, _⟩ := ok_nat hd h hy
  obtain ⟨i, hi, rfl⟩ := List.mem_iff_getElem.1 hx
  obtain ⟨j, hj, rfl⟩ := List.mem_iff_getElem.1 hy
  rcases Nat.lt_trichotomy i j with hij | rfl | hij
  · exact (ok_free h (List.getElem?_eq_getElem hi) (List.getElem?_eq_getElem hj) hij).1
  · exact absurd rfl hne
  · have h1 := (ok_free h (List.getElem?_eq_getElem hj) (List.getElem?_eq_getElem hi) hij).2
    rw [hv, hu, bel_nat]
    cases hb : belowN u v with
    | false => rfl
    | true =>
      obtain ⟨t, _, ht⟩ := belowN_iff.1 hb
      have := Nat.div_le_self u (2 ^ t)
      omega
theorem sib_in {v t : Nat} (hl : l < 128) (hv : 1 ≤ v) (hb : belowN l v = true) (ht : t < stT l (v : Int)) : 1 ≤ l / 2 ^ (t + 1) ∧ t < 6 ∧ belowN (l / 2 ^ t ^^^ 1) v = true ∧ (l / 2 ^ t ^^^ 1) / 2 = l / 2 ^ (t + 1) ∧ l / 2 ^ t ^^^ 1 < 128 := by
  obtain ⟨h1, h2⟩ := st_spec hl hv hb
  generalize stT l (v : Int) = T at *
  have h3 : 1 ≤ l / 2 ^ (t + 1) := anc_ge (T := T) (by omega) (by omega)
  have hlt := Nat.lt_of_le_of_lt (Nat.div_le_self l (2 ^ t)) hl
  have hx := xor1 hlt
  have h4 : (l / 2 ^ t ^^^ 1) / 2 = l / 2 ^ (t + 1) := by rw [anc_half]; omega
  refine ⟨h3, by omega, belowN_iff.2 ⟨T - t, by omega, ?_⟩, h4, xor1_lt hlt⟩
  rw [show T - t = (T - (t + 1)) + 1 by omega, Nat.pow_succ, Nat.mul_comm, ← Nat.div_div_eq_div_mul, h4, div2, show t + 1 + (T - (t + 1)) = T by omega, h1]
theorem over_one (hd : d ≤ 6) (h : okPN d L = true) {x y : Lab} (hx : x ∈ L) (hy : y ∈ L) (h1 : bel l x.1 = true) (h2 : bel l y.1 = true) : x = y := by
  obtain ⟨i, hi, rfl⟩ := List.mem_iff_getElem.1 hx
  obtain ⟨j, hj, rfl⟩ := List.mem_iff_getElem.1 hy
  have := ok_one hd h (List.getElem?_eq_getElem hi) (List.getElem?_eq_getElem hj) h1 h2
  subst this
  rfl
/-- What a sibling is. -/
theorem sib_of (hd : d ≤ 6) (hl : l < 128) (h : okPN d L = true) {x y : Lab} (hx : x ∈ L) (hb : bel l x.1 = true) (hy : y ∈ walkS l (stT l x.1) x.2.2) :
    ∃ (v t : Nat), x.1 = (v : Int) ∧ 1 ≤ v ∧ v < 128 ∧ belowN l v = true ∧ t < stT l (v : Int) ∧ y = sibL l (stT l (v : Int)) x.2.2 t := by
  obtain ⟨v, hv, hv1, hv2, _⟩ := ok_nat hd h hx
  obtain ⟨t, ht, rfl⟩ := (walkS_iff l _ _ _).1 hy
  rw [hv] at hb ht ⊢
  rw [bel_nat] at hb
  exact ⟨v, t, rfl, hv1, hv2, hb, ht, rfl⟩
theorem pun_ok (hd : d ≤ 6) (hl : l < 2 ^ (d + 1)) (h : okPN d L = true) : okPN d (punL l L) = true := by
  have hp := pow_le128 hd
  have hl7 : l < 128 := by omega
  refine okPN_of hd (fun y hy => ?_) ?_
  · rcases mem_pun.1 hy with ⟨hy, _⟩ | ⟨x, hx, hb, hy⟩
    · obtain ⟨i, hi, rfl⟩ := List.mem_iff_getElem.1 hy
      exact gdL_node (okPN_at h (List.getElem?_eq_getElem hi))
    · obtain ⟨v, t, _, hv1, _, hb, ht, rfl⟩ := sib_of hd hl7 h hx hb hy
      obtain ⟨h1, _, _, h4, _⟩ := sib_in hl7 hv1 hb ht
      have h5 := sib_pos h1 hl7
      have h6 := Nat.div_le_self l (2 ^ t)
      have h7 : l / 2 ^ (t + 1) ≤ l / 2 := by rw [Nat.pow_succ, Nat.mul_comm, ← Nat.div_div_eq_div_mul]; exact Nat.div_le_self _ _
      have h8 : 2 ^ (d + 1) = 2 * 2 ^ d := by rw [Nat.pow_succ, Nat.mul_comm]
      refine nodeOk_iff.2 ⟨rfl, ?_, ?_⟩
      · show (1 : Int) ≤ ((l / 2 ^ t ^^^ 1 : Nat) : Int)
        omega
      · show ((l / 2 ^ t ^^^ 1 : Nat) : Int) < _
        omega
  · refine List.Pairwise.imp_of_mem (fun {a b} ha hb hab => ⟨hab, ?_⟩) (pun_slt hd hl7 h)
    have hne : a.1 ≠ b.1 := by unfold slt at hab; omega
    rcases mem_pun.1 ha with ⟨ha, ha2⟩ | ⟨x, hx, hxb, ha⟩
    · rcases mem_pun.1 hb with ⟨hb, _⟩ | ⟨x, hx, hxb, hb⟩
      · exact ok_anti hd h ha hb hne
      · obtain ⟨v, t, hv, hv1, hv2, hvb, ht, rfl⟩ := sib_of hd hl7 h hx hxb hb
        obtain ⟨h1, _, h3, h4, h5⟩ := sib_in hl7 hv1 hvb ht
        obtain ⟨u, hu, hu1, hu2, _⟩ := ok_nat hd h ha
        show bel (((l / 2 ^ t ^^^ 1 : Nat) : Int)) a.1 = false
        cases hc : bel (((l / 2 ^ t ^^^ 1 : Nat) : Int)) a.1 with
        | false => rfl
        | true =>
          have hxa : x.1 ≠ a.1 := fun e => by rw [e, ha2] at hxb; cases hxb
          rw [hu, bel_nat] at hc
          rcases bel_comp h3 hc with h6 | h6
          · have := ok_anti hd h ha hx (Ne.symm hxa)
            rw [hu, hv, bel_nat, h6] at this
            cases this
          · have := ok_anti hd h hx ha hxa
            rw [hu, hv, bel_nat, h6] at this
            cases this
    · obtain ⟨v, t, hv, hv1, hv2, hvb, ht, rfl⟩ := sib_of hd hl7 h hx hxb ha
      obtain ⟨h1, h2, h3, h4, h5⟩ := sib_in hl7 hv1 hvb ht
      rcases mem_pun.1 hb with ⟨hb, hb2⟩ | ⟨x', hx', hxb', hb⟩
      · obtain ⟨u, hu, hu1, hu2, _⟩ := ok_nat hd h hb
        show bel b.1 (((l / 2 ^ t ^^^ 1 : Nat) : Int)) = false
        cases hc : bel b.1 (((l / 2 ^ t ^^^ 1 : Nat) : Int)) with
        | false => rfl
        | true =>
          have hxa : x.1 ≠ b.1 := fun e => by rw [e, hb2] at hxb; cases hxb
          rw [hu, bel_nat] at hc
          have := ok_anti hd h hx hb hxa
          rw [hu, hv, bel_nat, bel_trans hu2 hv1 hc h3] at this
          cases this
      · obtain rfl := over_one hd h hx hx' hxb hxb'
        obtain ⟨v', s, hv', hv1', _, hvb', hs, rfl⟩ := sib_of hd hl7 h hx hxb' hb
        obtain rfl : v = v' := by omega
        obtain ⟨h1', h2', _, _, _⟩ := sib_in hl7 hv1 hvb hs
        show bel (((l / 2 ^ s ^^^ 1 : Nat) : Int)) (((l / 2 ^ t ^^^ 1 : Nat) : Int)) = false
        rw [bel_nat]
        refine sib_sib hl7 (by omega) (by omega) h1' h1 fun e => ?_
        subst e
        exact hne rfl
theorem pun_none (hd : d ≤ 6) (hl : l < 128) (h : okPN d L = true) : ∀ y ∈ punL l L, bel l y.1 = false := by
  intro y hy
  rcases mem_pun.1 hy with ⟨_, hb⟩ | ⟨x, hx, hxb, hy⟩
  · exact hb
  · obtain ⟨v, t, hv, hv1, hv2, hvb, ht, rfl⟩ := sib_of hd hl h hx hxb hy
    obtain ⟨h1, h2, _, _, _⟩ := sib_in hl hv1 hvb ht
    show bel (l : Int) (((l / 2 ^ t ^^^ 1 : Nat) : Int)) = false
    rw [bel_nat]
    exact sib_not hl (by omega) h1
theorem evalL_none (h : ∀ y ∈ L, bel l y.1 = false) : evalL l L = none := by
  unfold evalL
  rw [List.find?_eq_none.2 (fun x hx => by rw [h x hx]; simp)]
  rfl
theorem evalL_mem (hd : d ≤ 6) (h : okPN d L = true) {y : Lab} (hy : y ∈ L) (hb : bel l y.1 = true) : evalL l L = some (derK (walkK l (stT l y.1) y.2.2) 33 0) := by
  obtain ⟨i, hi, rfl⟩ := List.mem_iff_getElem.1 hy
  exact evalL_some hd h (List.getElem?_eq_getElem hi) hb
theorem lenT_leaf (hd : d ≤ 6) (h1 : 2 ^ d ≤ l) (h2 : l < 2 ^ (d + 1)) : lenT l = d + 1 := by
  have hp := pow_le128 hd
  have : ∀ (d : Fin 7) (l : Fin 128), 2 ^ d.val ≤ l.val → l.val < 2 ^ (d.val + 1) → lenT l.val = d.val + 1 := by decide +kernel
  exact this ⟨d, by omega⟩ ⟨l, by omega⟩ h1 h2
/-- The other leaves keep what they have. -/
theorem pun_other {m : Nat} (hd : d ≤ 6) (hl1 : 2 ^ d ≤ l) (hl : l < 2 ^ (d + 1)) (hm1 : 2 ^ d ≤ m) (hm : m < 2 ^ (d + 1)) (hne : l ≠ m) (h : okPN d L = true) : evalL m (punL l L) = evalL m L := by
  have hp := pow_le128 hd
  have hl7 : l < 128 := by omega
  have hm7 : m < 128 := by omega
  have hok := pun_ok hd hl h
  by_cases hx : ∃ x ∈ L, bel m x.1 = true
  · obtain ⟨x, hx, hb⟩ := hx
    rw [evalL_mem hd h hx hb]
    cases hlb : bel l x.1 with
    | false => exact evalL_mem hd hok (mem_pun.2 (.inl ⟨hx, hlb⟩)) hb
    | true =>
      obtain ⟨v, hv, hv1, hv2, _⟩ := ok_nat hd h hx
      have hyw : ∀ t, t < stT l x.1 → sibL l (stT l x.1) x.2.2 t ∈ punL l L := fun t ht => mem_pun.2 (.inr ⟨x, hx, hlb, (walkS_iff l _ _ _).2 ⟨t, ht, rfl⟩⟩)
      rw [hv, bel_nat] at hb hlb
      obtain ⟨e1, f1⟩ := st_spec hl7 hv1 hlb
      obtain ⟨e2, f2⟩ := st_spec hm7 hv1 hb
      have hT : stT m x.1 = stT l x.1 := by unfold stT; rw [lenT_leaf hd hl1 hl, lenT_leaf hd hm1 hm]
      rw [hT]
      rw [← hv] at e1 f1 e2 f2
      rw [hT] at e2 f2
      generalize stT l x.1 = T at *
      obtain ⟨t, ht, hs, hpar⟩ := part_at hl7 hm7 hne (e1.trans e2.symm)
      have hsb : bel (m : Int) (sibL l T x.2.2 t).1 = true := by
        show bel (m : Int) (((l / 2 ^ t ^^^ 1 : Nat) : Int)) = true
        rw [bel_nat]
        exact belowN_iff.2 ⟨t, by omega, hs⟩
      rw [evalL_mem hd hok (hyw t ht) hsb]
      have hst : stT m (sibL l T x.2.2 t).1 = t := by
        show stT m (((l / 2 ^ t ^^^ 1 : Nat) : Int)) = t
        rw [← hs]
        unfold stT
        rw [Int.toNat_natCast, len_anc hm7 (show t < 7 by omega) (anc_ge (T := T) (by omega) (by omega))]
        omega
      rw [hst]
      show some (derK (walkK m t (chK (walkK (l / 2 ^ (t + 1)) (T - (t + 1)) x.2.2) (l / 2 ^ t ^^^ 1))) 33 0) = _
      congr 2
      conv => rhs; rw [show T = t + (1 + (T - (t + 1))) by omega, walkK_add, walkK_add]
      rw [hpar, ← hs]
      simp [walkK, anc_half]
  · have hno : ∀ y ∈ L, bel m y.1 = false := fun y hy => by
      cases hb : bel m y.1 with
      | false => rfl
      | true => exact absurd ⟨y, hy, hb⟩ hx
    rw [evalL_none hno, evalL_none fun y hy => ?_]
    rcases mem_pun.1 hy with ⟨hy, _⟩ | ⟨x, hx, hxb, hy⟩
    · exact hno y hy
    · obtain ⟨v, t, hv, hv1, hv2, hvb, ht, rfl⟩ := sib_of hd hl7 h hx hxb hy
      obtain ⟨h1, h2, h3, _, _⟩ := sib_in hl7 hv1 hvb ht
      show bel (m : Int) (((l / 2 ^ t ^^^ 1 : Nat) : Int)) = false
      rw [bel_nat]
      cases hc : belowN m (l / 2 ^ t ^^^ 1) with
      | false => rfl
      | true =>
        have := hno x hx
        rw [hv, bel_nat, bel_trans hm7 hv1 hc h3] at this
        cases this
end
end Go.Proofs.Ythgpojlcbbgaoaa
