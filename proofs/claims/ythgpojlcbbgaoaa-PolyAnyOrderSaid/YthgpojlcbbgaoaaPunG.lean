/- Many punctures: how many labels they leave, and that their order does not matter. -/
import Derived.Test.YthgpojlcbbgaoaaPunF
set_option autoImplicit false
set_option maxRecDepth 100000
set_option linter.unusedVariables false
set_option linter.unusedSimpArgs false
set_option linter.unnecessarySimpa false
namespace Go.Proofs.Ythgpojlcbbgaoaa
open Go.RowKit
def hasB (d : Nat) (bs : List Nat) (n : Nat) : Bool := bs.any fun b => decide (b % 2 ^ d = n)
def manyB (d : Nat) (bs : List Nat) (i : Nat) : Nat := (List.range i).countP (hasB d bs)
theorem manyB_succ (d : Nat) (bs : List Nat) (i : Nat) : manyB d bs (i + 1) = manyB d bs i + (if hasB d bs i = true then 1 else 0) := by
  unfold manyB
  rw [List.range_succ, List.countP_append, List.countP_singleton]
theorem manyB_le (d : Nat) (bs : List Nat) (i : Nat) : manyB d bs i ≤ i := by
  unfold manyB
  have := List.countP_le_length (p := hasB d bs) (l := List.range i)
  rwa [List.length_range] at this
theorem cnt_add {p : Nat → Bool} {m : Nat} (hp : p m = false) : ∀ N, (List.range N).countP (fun n => p n || decide (m = n)) = (List.range N).countP p + (if m < N then 1 else 0)
  | 0 => by simp
  | N + 1 => by
    rw [List.range_succ, List.countP_append, List.countP_append, cnt_add hp N, List.countP_singleton, List.countP_singleton]
    by_cases e : m = N
    · subst e; simp [hp]
    · rw [decide_eq_false e, Bool.or_false]
      by_cases h : m < N
      · rw [if_pos h, if_pos (show m < N + 1 by omega)]; omega
      · rw [if_neg h, if_neg (show ¬ m < N + 1 by omega)]; omega
theorem hasB_snoc (d : Nat) (bs : List Nat) (b n : Nat) : hasB d (bs ++ [b]) n = (hasB d bs n || decide (b % 2 ^ d = n)) := by simp [hasB, List.any_append]
theorem has_iff {d n : Nat} {bs : List Nat} : (∃ b ∈ bs, leafB d b = 2 ^ d + n) ↔ hasB d bs n = true := by
  simp only [hasB, List.any_eq_true, decide_eq_true_eq, leafB]
  constructor
  · rintro ⟨b, hb, h⟩
    exact ⟨b, hb, by omega⟩
  · rintro ⟨b, hb, h⟩
    exact ⟨b, hb, by omega⟩
section
variable {d : Nat} (hd : d ≤ 6) (k : Key)
include hd
theorem fold_at {n : Nat} (hn : n < 2 ^ d) (bs : List Nat) : evalL (2 ^ d + n) (foldP d k bs) = if hasB d bs n = true then none else some (derK (walkK (2 ^ d + n) d k) 33 0) := by
  rw [fold_ev hd k (m := 2 ^ d + n) (by omega) (by rw [Nat.pow_succ]; omega) bs]
  simp only [has_iff]
theorem fold_len (bs : List Nat) : (manyB d bs (2 ^ d) = 0 → (foldP d k bs).length = 1) ∧ (1 ≤ manyB d bs (2 ^ d) → (foldP d k bs).length ≤ manyB d bs (2 ^ d) * d) := by
  refine rev_ind (P := fun bs => (manyB d bs (2 ^ d) = 0 → (foldP d k bs).length = 1) ∧ (1 ≤ manyB d bs (2 ^ d) → (foldP d k bs).length ≤ manyB d bs (2 ^ d) * d)) ?_ (fun bs b ih => ?_) bs
  · have h0 : manyB d [] (2 ^ d) = 0 := by
      unfold manyB
      rw [List.countP_eq_zero]
      intro a _
      simp [hasB]
    exact ⟨fun _ => rfl, fun h => by omega⟩
  · have hb := Nat.mod_lt b (Nat.two_pow_pos d)
    obtain ⟨hr1, hr2⟩ := leafB_range d b
    have hok := fold_ok hd k bs
    have hev := fold_at hd k hb bs
    have hle : 2 ^ d + b % 2 ^ d = leafB d b := rfl
    rw [hle] at hev
    rw [foldP_snoc]
    by_cases h : hasB d bs (b % 2 ^ d) = true
    · have e : hasB d (bs ++ [b]) = hasB d bs := by
        funext n
        rw [hasB_snoc]
        by_cases e : b % 2 ^ d = n
        · subst e; rw [h]; rfl
        · rw [decide_eq_false e, Bool.or_false]
      have em : manyB d (bs ++ [b]) (2 ^ d) = manyB d bs (2 ^ d) := by unfold manyB; rw [e]
      rw [if_pos h] at hev
      rw [em, pun_len_no hok (fun y hy => by
        cases hc : bel (leafB d b) y.1 with
        | false => rfl
        | true =>
          have := evalL_mem hd hok hy hc
          rw [hev] at this
          cases this)]
      exact ih
    · have em : manyB d (bs ++ [b]) (2 ^ d) = manyB d bs (2 ^ d) + 1 := by
        have := cnt_add (p := hasB d bs) (m := b % 2 ^ d) (by simpa using h) (2 ^ d)
        rw [if_pos hb] at this
        unfold manyB
        rw [← this, show hasB d (bs ++ [b]) = fun n => hasB d bs n || decide (b % 2 ^ d = n) from funext (hasB_snoc d bs b)]
      rw [if_neg h] at hev
      have : ∃ x ∈ foldP d k bs, bel (leafB d b) x.1 = true := by
        apply Classical.byContradiction
        intro hc
        rw [evalL_none (fun y hy => by
          cases hb : bel (leafB d b) y.1 with
          | false => rfl
          | true => exact absurd ⟨y, hy, hb⟩ hc)] at hev
        cases hev
      obtain ⟨x, hx, hxb⟩ := this
      have hl := pun_len_yes hd hr1 hr2 hok hx hxb
      rw [em]
      refine ⟨fun h => by omega, fun _ => ?_⟩
      rw [Nat.succ_mul]
      rcases Nat.eq_zero_or_pos (manyB d bs (2 ^ d)) with h0 | h0
      · have := ih.1 h0
        omega
      · have := ih.2 h0
        omega
end

/-! ### the order -/
def canon (k : Key) (v : Nat) : Lab := ((v : Int), 0, walkK v (lenT v - 1) k)
theorem lenT_pos {v : Nat} (h : 1 ≤ v) : 1 ≤ lenT v := by
  unfold lenT
  rw [if_neg (by omega)]
  omega
theorem sib_canon {l v t : Nat} (k : Key) (hl : l < 128) (hv : 1 ≤ v) (hb : belowN l v = true) (ht : t < stT l (v : Int)) : sibL l (stT l (v : Int)) (walkK v (lenT v - 1) k) t = canon k (l / 2 ^ t ^^^ 1) := by
  obtain ⟨h1, h2, _, h4, h5⟩ := sib_in hl hv hb ht
  obtain ⟨h6, h7⟩ := st_spec hl hv hb
  have hp := lenT_pos hv
  generalize stT l (v : Int) = T at *
  have e1 : l / 2 ^ (t + 1) / 2 ^ (T - (t + 1)) = v := by rw [div2, show t + 1 + (T - (t + 1)) = T by omega, h6]
  have e2 : (l / 2 ^ t ^^^ 1) / 2 ^ (1 + (T - (t + 1))) = v := by rw [Nat.pow_add, ← Nat.div_div_eq_div_mul, Nat.pow_one, h4, e1]
  have e3 := len_anc (l := l / 2 ^ t ^^^ 1) (T := 1 + (T - (t + 1))) h5 (by omega) (by omega)
  rw [e2] at e3
  unfold sibL canon
  rw [show lenT (l / 2 ^ t ^^^ 1) - 1 = 1 + ((T - (t + 1)) + (lenT v - 1)) by omega, walkK_add _ _ 1, Nat.pow_one, h4, walkK_add, e1]
  show (_, _, _) = (_, _, chK _ ((l / 2 ^ t ^^^ 1) / 2 ^ 0))
  rw [Nat.pow_zero, Nat.div_one]
def cov (d : Nat) (bs : List Nat) (v : Nat) : Prop := ∃ b ∈ bs, belowN (leafB d b) v = true
theorem cov_snoc {d v b : Nat} {bs : List Nat} : cov d (bs ++ [b]) v ↔ cov d bs v ∨ belowN (leafB d b) v = true := by
  constructor
  · rintro ⟨c, hc, h⟩
    rcases List.mem_append.1 hc with hc | hc
    · exact .inl ⟨c, hc, h⟩
    · rw [List.mem_singleton] at hc
      subst hc
      exact .inr h
  · rintro (⟨c, hc, h⟩ | h)
    · exact ⟨c, List.mem_append_left _ hc, h⟩
    · exact ⟨b, by simp, h⟩
theorem other_half {a v : Nat} (ha : a < 128) (hv : v < 128) (h : a / 2 = v / 2) (hne : v ≠ a) : v = a ^^^ 1 := by
  have : ∀ a v : Fin 128, a.val / 2 = v.val / 2 → v.val ≠ a.val → v.val = a.val ^^^ 1 := by decide +kernel
  exact this ⟨a, ha⟩ ⟨v, hv⟩ h hne
theorem cov_up {d u v : Nat} {bs : List Nat} (hd : d ≤ 6) (hv : 1 ≤ v) (h : belowN u v = true) (hc : cov d bs u) : cov d bs v := by
  obtain ⟨b, hb, hc⟩ := hc
  have := pow_le128 hd
  have := (leafB_range d b).2
  exact ⟨b, hb, bel_trans (by omega) hv hc h⟩
theorem cov_top {d : Nat} {bs : List Nat} : ∀ (n u : Nat), u ≤ n → 1 ≤ u → u < 128 → ¬ cov d bs u → ∃ x, 1 ≤ x ∧ x ≤ u ∧ belowN u x = true ∧ ¬ cov d bs x ∧ (x = 1 ∨ cov d bs (x / 2))
  | 0, u, h, h1, _, _ => by omega
  | n + 1, u, h, h1, h2, hc => by
    by_cases e : u = 1
    · exact ⟨u, h1, Nat.le_refl _, bel_refl u, hc, .inl e⟩
    · by_cases hu : cov d bs (u / 2)
      · exact ⟨u, h1, Nat.le_refl _, bel_refl u, hc, .inr hu⟩
      · obtain ⟨x, hx1, hx2, hx3, hx4, hx5⟩ := cov_top n (u / 2) (by omega) (by omega) (by omega) hu
        refine ⟨x, hx1, by omega, bel_trans h2 hx1 (belowN_iff.2 ⟨1, by decide, ?_⟩) hx3, hx4, hx5⟩
        rw [Nat.pow_one]
section
variable {d : Nat} (hd : d ≤ 6) (k : Key)
include hd
theorem fold_canon (bs : List Nat) : ∀ y ∈ foldP d k bs, ∃ v : Nat, 1 ≤ v ∧ v < 2 ^ (d + 1) ∧ y = canon k v := by
  have hp := pow_le128 hd
  refine rev_ind (P := fun bs => ∀ y ∈ foldP d k bs, ∃ v : Nat, 1 ≤ v ∧ v < 2 ^ (d + 1) ∧ y = canon k v) ?_ (fun bs b ih => ?_) bs
  · intro y hy
    rw [foldP, List.foldl_nil, List.mem_singleton] at hy
    subst hy
    refine ⟨1, Nat.le_refl _, ?_, ?_⟩
    · have := Nat.two_pow_pos d
      rw [Nat.pow_succ]
      omega
    · unfold canon
      rw [show lenT 1 - 1 = 0 by decide +kernel]
      rfl
  · intro y hy
    have hok' := fold_ok hd k (bs ++ [b])
    obtain ⟨i, hi, hiy⟩ := List.mem_iff_getElem.1 hy
    have hno := nodeOk_iff.1 (gdL_node (okPN_at hok' (List.getElem?_eq_getElem hi)))
    rw [hiy] at hno
    rw [foldP_snoc] at hy
    obtain ⟨hr1, hr2⟩ := leafB_range d b
    have hok := fold_ok hd k bs
    rcases mem_pun.1 hy with ⟨hy, _⟩ | ⟨x, hx, hb, hy⟩
    · exact ih y hy
    · obtain ⟨v, t, hxv, hv1, _, hbl, ht, rfl⟩ := sib_of hd (by omega) hok hx hb hy
      obtain ⟨v', hv', _, rfl⟩ := ih x hx
      obtain rfl : v' = v := by have : ((v' : Nat) : Int) = v := hxv; omega
      have hs := sib_canon k (show leafB d b < 128 by omega) hv1 hbl ht
      refine ⟨leafB d b / 2 ^ t ^^^ 1, ?_, ?_, hs⟩
      · have : (1 : Int) ≤ ((leafB d b / 2 ^ t ^^^ 1 : Nat) : Int) := hno.2.1
        omega
      · have : ((leafB d b / 2 ^ t ^^^ 1 : Nat) : Int) < ((2 ^ (d + 1) : Nat) : Int) := hno.2.2
        omega
theorem fold_mem (bs : List Nat) : ∀ v : Nat, 1 ≤ v → v < 2 ^ (d + 1) → (canon k v ∈ foldP d k bs ↔ ¬ cov d bs v ∧ (v = 1 ∨ cov d bs (v / 2))) := by
  have hp := pow_le128 hd
  refine rev_ind (P := fun bs => ∀ v : Nat, 1 ≤ v → v < 2 ^ (d + 1) → (canon k v ∈ foldP d k bs ↔ ¬ cov d bs v ∧ (v = 1 ∨ cov d bs (v / 2)))) ?_ (fun bs b ih => ?_) bs
  · intro v h1 h2
    rw [foldP, List.foldl_nil, List.mem_singleton]
    have hn : ∀ u, ¬ cov d [] u := by rintro u ⟨b, hb, _⟩; cases hb
    constructor
    · intro h
      have : ((v : Nat) : Int) = 1 := congrArg (·.1) h
      exact ⟨hn _, .inl (by omega)⟩
    · rintro ⟨_, h | h⟩
      · subst h
        unfold canon
        rw [show lenT 1 - 1 = 0 by decide +kernel]
        rfl
      · exact absurd h (hn _)
  · intro v h1 h2
    obtain ⟨hr1, hr2⟩ := leafB_range d b
    have hok := fold_ok hd k bs
    have hl7 : leafB d b < 128 := by omega
    rw [foldP_snoc, mem_pun, cov_snoc, cov_snoc]
    constructor
    · rintro (⟨hy, hn⟩ | ⟨x, hx, hb, hy⟩)
      · obtain ⟨h3, h4⟩ := (ih v h1 h2).1 hy
        have hn' : belowN (leafB d b) v = false := by rw [← bel_nat]; exact hn
        refine ⟨fun h => ?_, h4.imp_right .inl⟩
        rcases h with h | h
        · exact h3 h
        · rw [hn'] at h; cases h
      · obtain ⟨u, t, hxu, hu1, _, hbl, ht, he⟩ := sib_of hd hl7 hok hx hb hy
        have hv : ((v : Nat) : Int) = ((leafB d b / 2 ^ t ^^^ 1 : Nat) : Int) := congrArg (·.1) he
        obtain ⟨u', _, hu2, rfl⟩ := fold_canon hd k bs x hx
        obtain rfl : u' = u := by have : ((u' : Nat) : Int) = u := hxu; omega
        obtain ⟨g1, g2, g3, g4, g5⟩ := sib_in hl7 hu1 hbl ht
        obtain ⟨h3, _⟩ := (ih u' hu1 hu2).1 hx
        obtain rfl : v = leafB d b / 2 ^ t ^^^ 1 := by omega
        refine ⟨fun h => ?_, .inr (.inr (belowN_iff.2 ⟨t + 1, by omega, g4.symm⟩))⟩
        rcases h with h | h
        · exact h3 (cov_up hd hu1 g3 h)
        · rw [sib_not hl7 (by omega) g1] at h; cases h
    · rintro ⟨hn, hc⟩
      have hn1 : ¬ cov d bs v := fun h => hn (.inl h)
      have hn2 : belowN (leafB d b) v = false := by
        cases hb : belowN (leafB d b) v with
        | false => rfl
        | true => exact absurd (.inr hb) hn
      have hv1 : v ≠ 1 := by
        rintro rfl
        rw [root_leaf hd hr1 hr2] at hn2
        cases hn2
      by_cases hc1 : cov d bs (v / 2)
      · exact .inl ⟨(ih v h1 h2).2 ⟨hn1, .inr hc1⟩, by show bel _ ((v : Nat) : Int) = false; rw [bel_nat]; exact hn2⟩
      · have hc2 : belowN (leafB d b) (v / 2) = true := by
          rcases hc with hc | hc | hc
          · exact absurd hc hv1
          · exact absurd hc hc1
          · exact hc
        obtain ⟨x, hx1, hx2, hx3, hx4, hx5⟩ := cov_top (v / 2) (v / 2) (Nat.le_refl _) (by omega) (by omega) hc1
        have hx6 := (ih x hx1 (by omega)).2 ⟨hx4, hx5⟩
        have hbx := bel_trans hl7 hx1 hc2 hx3
        obtain ⟨t0, ht0, he⟩ := belowN_iff.1 hc2
        obtain ⟨t, rfl⟩ : ∃ t, t0 = t + 1 := by
          cases t0 with
          | zero =>
            rw [Nat.pow_zero, Nat.div_one] at he
            rw [Nat.pow_succ] at h2
            omega
          | succ t => exact ⟨t, rfl⟩
        have hle : leafB d b / 2 ^ t < 128 := Nat.lt_of_le_of_lt (Nat.div_le_self _ _) hl7
        have hne : v ≠ leafB d b / 2 ^ t := by
          rintro rfl
          rw [belowN_iff.2 ⟨t, by omega, rfl⟩] at hn2
          cases hn2
        have hvx := other_half hle (by omega) (by rw [← anc_half]; exact he) hne
        obtain ⟨g1, g2⟩ := st_spec hl7 hx1 hbx
        have ht : t < stT (leafB d b) (x : Int) := by
          apply Classical.byContradiction
          intro hc
          have : leafB d b / 2 ^ t ≤ leafB d b / 2 ^ stT (leafB d b) (x : Int) := Nat.div_le_div_left (Nat.pow_le_pow_right (by decide) (by omega)) (Nat.two_pow_pos _)
          rw [anc_half] at he
          omega
        refine .inr ⟨canon k x, hx6, by show bel _ ((x : Nat) : Int) = true; rw [bel_nat]; exact hbx, ?_⟩
        refine (walkS_iff _ _ _ _).2 ⟨t, ht, ?_⟩
        have := sib_canon k hl7 hx1 hbx ht
        rw [← hvx] at this
        exact this.symm
end
theorem sorted_ext : ∀ {l m : List Lab}, l.Pairwise slt → m.Pairwise slt → (∀ y, y ∈ l ↔ y ∈ m) → l = m
  | [], [], _, _, _ => rfl
  | [], b :: m, _, _, h => absurd ((h b).2 (List.mem_cons_self)) (by simp)
  | a :: l, [], _, _, h => absurd ((h a).1 (List.mem_cons_self)) (by simp)
  | a :: l, b :: m, hl, hm, h => by
    have hl' := List.pairwise_cons.1 hl
    have hm' := List.pairwise_cons.1 hm
    have e : a = b := by
      rcases List.mem_cons.1 ((h a).1 List.mem_cons_self) with e | ha
      · exact e
      · rcases List.mem_cons.1 ((h b).2 List.mem_cons_self) with e | hb
        · exact e.symm
        · have h1 : b.1 < a.1 := hm'.1 a ha
          have h2 : a.1 < b.1 := hl'.1 b hb
          omega
    subst e
    refine congrArg (a :: ·) (sorted_ext hl'.2 hm'.2 fun y => ?_)
    constructor
    · intro hy
      rcases List.mem_cons.1 ((h y).1 (List.mem_cons_of_mem _ hy)) with e | hy'
      · subst e
        have : y.1 < y.1 := hl'.1 y hy
        omega
      · exact hy'
    · intro hy
      rcases List.mem_cons.1 ((h y).2 (List.mem_cons_of_mem _ hy)) with e | hy'
      · subst e
        have : y.1 < y.1 := hm'.1 y hy
        omega
      · exact hy'
/-- The order of punctures does not matter, nor does it matter how often each is made. -/
theorem fold_same {d : Nat} (hd : d ≤ 6) (k : Key) {bs cs : List Nat} (h : ∀ b, b ∈ bs ↔ b ∈ cs) : foldP d k bs = foldP d k cs := by
  have hc : ∀ v, cov d bs v ↔ cov d cs v := fun v => ⟨fun ⟨b, hb, h'⟩ => ⟨b, (h b).1 hb, h'⟩, fun ⟨b, hb, h'⟩ => ⟨b, (h b).2 hb, h'⟩⟩
  refine sorted_ext (ok_sorted (fold_ok hd k bs)) (ok_sorted (fold_ok hd k cs)) fun y => ?_
  constructor
  · intro hy
    obtain ⟨v, h1, h2, rfl⟩ := fold_canon hd k bs y hy
    rw [fold_mem hd k bs v h1 h2] at hy
    rw [fold_mem hd k cs v h1 h2, ← hc, ← hc]
    exact hy
  · intro hy
    obtain ⟨v, h1, h2, rfl⟩ := fold_canon hd k cs y hy
    rw [fold_mem hd k cs v h1 h2] at hy
    rw [fold_mem hd k bs v h1 h2, hc, hc]
    exact hy
/-- Two elements exchanged, and one of them once more at the end: the same members. -/
theorem swap_mem {l : List Nat} {a b : Nat} {x y : Nat} (ha : l[a]? = some x) (hb : l[b]? = some y) : ∀ z, z ∈ l ↔ z ∈ (l.set a y).set b x ++ [y] := by
  intro z
  obtain ⟨ha1, rfl⟩ := List.getElem?_eq_some_iff.1 ha
  obtain ⟨hb1, rfl⟩ := List.getElem?_eq_some_iff.1 hb
  constructor
  · intro hz
    obtain ⟨i, hi, rfl⟩ := List.mem_iff_getElem.1 hz
    by_cases e1 : i = b
    · subst e1
      exact List.mem_append_right _ (by simp)
    · refine List.mem_append_left _ ?_
      by_cases e2 : i = a
      · subst e2
        exact List.mem_iff_getElem.2 ⟨b, by simpa using hb1, by simp⟩
      · refine List.mem_iff_getElem.2 ⟨i, by simpa using hi, ?_⟩
        rw [List.getElem_set_ne (by omega), List.getElem_set_ne (by omega)]
  · intro hz
    rcases List.mem_append.1 hz with hz | hz
    · rcases List.mem_or_eq_of_mem_set hz with hz | rfl
      · rcases List.mem_or_eq_of_mem_set hz with hz | rfl
        · exact hz
        · exact List.getElem_mem _
      · exact List.getElem_mem _
    · rw [List.mem_singleton] at hz
      subst hz
      exact List.getElem_mem _
end Go.Proofs.Ythgpojlcbbgaoaa
