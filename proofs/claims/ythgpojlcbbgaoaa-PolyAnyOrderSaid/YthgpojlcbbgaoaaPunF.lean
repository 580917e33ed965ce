/- Many punctures, one after the other: the plain mathematics. -/
import Derived.Test.YthgpojlcbbgaoaaPunE
set_option autoImplicit false
set_option maxRecDepth 100000
set_option linter.unusedVariables false
set_option linter.unusedSimpArgs false
set_option linter.unnecessarySimpa false
namespace Go.Proofs.Ythgpojlcbbgaoaa
open Go.RowKit
theorem rev_ind {α : Type} {P : List α → Prop} (h0 : P []) (h1 : ∀ l x, P l → P (l ++ [x])) (l : List α) : P l := by
  rw [← List.reverse_reverse l]
  generalize l.reverse = m
  induction m with
  | nil => exact h0
  | cons a m ih => rw [List.reverse_cons]; exact h1 _ _ ih
theorem insAll_len' (a m : List Lab) : (insAll a m).length = m.length + a.length := by
  have := (insAll_perm m a).length_eq
  rwa [List.length_append] at this
/-- The leaf that a byte names. -/
def leafB (d b : Nat) : Nat := 2 ^ d + b % 2 ^ d
theorem leafB_range (d b : Nat) : 2 ^ d ≤ leafB d b ∧ leafB d b < 2 ^ (d + 1) := by
  have := Nat.mod_lt b (Nat.two_pow_pos d)
  rw [Nat.pow_succ]
  unfold leafB
  omega
def foldP (d : Nat) (k : Key) (bs : List Nat) : List Lab := bs.foldl (fun L b => punL (leafB d b) L) [(1, 0, k)]
theorem foldP_snoc (d : Nat) (k : Key) (bs : List Nat) (b : Nat) : foldP d k (bs ++ [b]) = punL (leafB d b) (foldP d k bs) := by simp [foldP, List.foldl_append]
theorem pun_len_no {d l : Nat} {L : List Lab} (h : okPN d L = true) (hno : ∀ y ∈ L, bel l y.1 = false) : (punL l L).length = L.length := by rw [punL_none h hno]
section
variable {d : Nat} (hd : d ≤ 6) (k : Key)
include hd
theorem root_ok : okPN d [(1, 0, k)] = true := by
  refine okPN_of hd (fun y hy => ?_) (List.pairwise_singleton _ _)
  rw [List.mem_singleton] at hy
  subst hy
  refine nodeOk_iff.2 ⟨rfl, Int.le_refl 1, ?_⟩
  show (1 : Int) < ((2 ^ (d + 1) : Nat) : Int)
  have := Nat.two_pow_pos d
  rw [Nat.pow_succ]
  omega
theorem fold_ok (bs : List Nat) : okPN d (foldP d k bs) = true := by
  refine rev_ind (P := fun bs => okPN d (foldP d k bs) = true) (root_ok hd k) (fun bs b ih => ?_) bs
  rw [foldP_snoc]
  exact pun_ok hd (leafB_range d b).2 ih
theorem root_leaf {m : Nat} (h1 : 2 ^ d ≤ m) (h2 : m < 2 ^ (d + 1)) : belowN m 1 = true := by
  have hp := pow_le128 hd
  have : ∀ (d : Fin 7) (m : Fin 128), 2 ^ d.val ≤ m.val → m.val < 2 ^ (d.val + 1) → belowN m.val 1 = true := by decide +kernel
  exact this ⟨d, by omega⟩ ⟨m, by omega⟩ h1 h2
theorem root_ev {m : Nat} (h1 : 2 ^ d ≤ m) (h2 : m < 2 ^ (d + 1)) : evalL m [((1 : Int), (0 : Int), k)] = some (derK (walkK m d k) 33 0) := by
  have hb : bel (m : Int) ((1 : Nat) : Int) = true := by rw [bel_nat]; exact root_leaf hd h1 h2
  rw [evalL_mem hd (root_ok hd k) (List.mem_singleton.2 rfl) hb]
  have hs : stT m (1 : Int) = d := by
    unfold stT
    rw [lenT_leaf hd h1 h2]
    show d + 1 - lenT 1 = d
    rw [show lenT 1 = 1 by decide +kernel]
    omega
  rw [hs]
/-- What is left to a leaf. -/
theorem fold_ev {m : Nat} (h1 : 2 ^ d ≤ m) (h2 : m < 2 ^ (d + 1)) (bs : List Nat) : evalL m (foldP d k bs) = if ∃ b ∈ bs, leafB d b = m then none else some (derK (walkK m d k) 33 0) := by
  refine rev_ind (P := fun bs => evalL m (foldP d k bs) = if ∃ b ∈ bs, leafB d b = m then none else some (derK (walkK m d k) 33 0)) ?_ (fun bs b ih => ?_) bs
  · rw [if_neg (by simp)]; exact root_ev hd k h1 h2
  · have hr := leafB_range d b
    have hp := pow_le128 hd
    rw [foldP_snoc]
    by_cases e : leafB d b = m
    · rw [if_pos ⟨b, by simp, e⟩]
      subst e
      exact evalL_none (pun_none hd (by omega) (fold_ok hd k bs))
    · rw [pun_other hd hr.1 hr.2 h1 h2 e (fold_ok hd k bs), ih]
      have : (∃ c ∈ bs ++ [b], leafB d c = m) ↔ ∃ c ∈ bs, leafB d c = m := by
        constructor
        · rintro ⟨c, hc, he⟩
          rcases List.mem_append.1 hc with hc | hc
          · exact ⟨c, hc, he⟩
          · rw [List.mem_singleton] at hc
            subst hc
            exact absurd he e
        · rintro ⟨c, hc, he⟩
          exact ⟨c, List.mem_append_left _ hc, he⟩
      simp only [this]
theorem pun_len_yes {l : Nat} {L : List Lab} (hl1 : 2 ^ d ≤ l) (hl : l < 2 ^ (d + 1)) (h : okPN d L = true) {x : Lab} (hx : x ∈ L) (hb : bel l x.1 = true) : (punL l L).length + 1 ≤ L.length + d := by
  have hp := pow_le128 hd
  obtain ⟨v, hv, hv1, hv2, _⟩ := ok_nat hd h hx
  obtain ⟨i, hi, rfl⟩ := List.mem_iff_getElem.1 hx
  unfold punL
  rw [insAll_len', punM_some hd h (List.getElem?_eq_getElem hi) hb]
  simp only [List.length_append, List.length_take, List.length_drop, walkS_len, List.length_nil]
  have hs : stT l L[i].1 ≤ d := by
    rw [hv]
    unfold stT
    rw [lenT_leaf hd hl1 hl, Int.toNat_natCast]
    have : 1 ≤ lenT v := by unfold lenT; rw [if_neg (by omega)]; omega
    omega
  omega
end
end Go.Proofs.Ythgpojlcbbgaoaa
