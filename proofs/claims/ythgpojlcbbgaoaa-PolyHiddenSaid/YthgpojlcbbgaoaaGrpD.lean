/- What is sealed opens to the same, but for whom it shuts out. Plain. -/
import Derived.Test.YthgpojlcbbgaoaaGrpC
set_option autoImplicit false
set_option maxRecDepth 100000
set_option linter.unusedVariables false
set_option linter.unusedSimpArgs false
set_option linter.unnecessarySimpa false
namespace Go.Proofs.Ythgpojlcbbgaoaa
theorem okL_pair {b : Int} {l : List Int} (h : okL b l = true) : l.Pairwise (· < ·) := by
  have key : ∀ j i, i < j → j < l.length → l.getD i 0 < l.getD j 0 := by
    intro j
    induction j with
    | zero => intro i hi; omega
    | succ j ih =>
      intro i hi hj
      have h1 : l.getD j 0 < l.getD (j + 1) 0 := by
        simp only [okL, List.all_eq_true, List.mem_range, badL, Bool.not_eq_true', Bool.or_eq_false_iff, Bool.and_eq_false_iff, decide_eq_false_iff_not] at h
        have := (h (j + 1) hj).2
        rw [Nat.add_sub_cancel] at this
        omega
      by_cases e : i = j
      · subst e; exact h1
      · have := ih i (by omega) (by omega)
        omega
  rw [List.pairwise_iff_getElem]
  intro i j hi hj hij
  have := key j i hij hj
  simpa [List.getD_eq_getElem?_getD, List.getElem?_eq_getElem hi, List.getElem?_eq_getElem hj] using this
theorem okL_mem {b : Int} {l : List Int} (h : okL b l = true) : ∀ z ∈ l, 0 ≤ z ∧ z < b := by
  intro z hz
  obtain ⟨i, hi, rfl⟩ := List.mem_iff_getElem.1 hz
  have := okL_at h hi
  simpa [List.getD_eq_getElem?_getD, List.getElem?_eq_getElem hi] using this
section
variable {d n : Nat} {l : List Int}
theorem xsL_pair (h : okL ((2 ^ d : Nat) : Int) l = true) : (xsL (2 ^ d) n l).Pairwise (· < ·) := by
  unfold xsL
  rw [List.pairwise_append, List.pairwise_map, List.pairwise_map]
  refine ⟨?_, ?_, ?_⟩
  · refine List.Pairwise.imp_of_mem (fun {a b} ha hb hab => ?_) (okL_pair h)
    have := okL_mem h a ha
    omega
  · exact List.Pairwise.imp (fun {a b} hab => by omega) List.pairwise_lt_range
  · intro a ha b hb
    obtain ⟨z, hz, rfl⟩ := List.mem_map.1 ha
    obtain ⟨j, _, rfl⟩ := List.mem_map.1 hb
    have := okL_mem h z hz
    omega
theorem xsL_nodup (h : okL ((2 ^ d : Nat) : Int) l = true) : (xsL (2 ^ d) n l).Nodup := List.Pairwise.imp (fun {a b} hab => by omega) (xsL_pair h)
theorem xsL_mem (h : okL ((2 ^ d : Nat) : Int) l = true) (hl : l.length ≤ n) : ∀ x ∈ xsL (2 ^ d) n l, 1 ≤ x ∧ x ≤ 2 ^ d + n := by
  intro x hx
  rcases List.mem_append.1 hx with hx | hx
  · obtain ⟨z, hz, rfl⟩ := List.mem_map.1 hx
    have := okL_mem h z hz
    omega
  · obtain ⟨j, hj, rfl⟩ := List.mem_map.1 hx
    have := List.mem_range.1 hj
    have := Nat.two_pow_pos d
    omega
theorem xsL_hit {u : Nat} (h : okL ((2 ^ d : Nat) : Int) l = true) (hu : u < 2 ^ d) : u + 1 ∈ xsL (2 ^ d) n l ↔ (u : Int) ∈ l := by
  constructor
  · intro hx
    rcases List.mem_append.1 hx with hx | hx
    · obtain ⟨z, hz, e⟩ := List.mem_map.1 hx
      have := okL_mem h z hz
      rw [show (u : Int) = z by omega]
      exact hz
    · obtain ⟨j, hj, e⟩ := List.mem_map.1 hx
      omega
  · intro hz
    exact List.mem_append_left _ (List.mem_map.2 ⟨_, hz, by simp⟩)
variable {root session : Key} {kd p q g nonce : Nat}
theorem pts_fst : (ptsL root d n p q g l nonce).map (·.1) = xsL (2 ^ d) n l := by
  unfold ptsL
  rw [List.map_map]
  exact List.map_id _
theorem hit_pts {u : Nat} (h : okL ((2 ^ d : Nat) : Int) l = true) (hu : u < 2 ^ d) : hitX (ptsL root d n p q g l nonce) (u + 1) = decide ((u : Int) ∈ l) := by
  rw [Bool.eq_iff_iff, decide_eq_true_eq, ← xsL_hit (n := n) h hu, ← pts_fst (root := root) (p := p) (q := q) (g := g) (nonce := nonce), hitX, List.any_eq_true]
  constructor
  · rintro ⟨y, hy, e⟩
    exact List.mem_map.2 ⟨y, hy, of_decide_eq_true e⟩
  · intro hx
    obtain ⟨y, hy, e⟩ := List.mem_map.1 hx
    exact ⟨y, hy, decide_eq_true e⟩
theorem okH_seal {u : Nat} (hz : okS kd d n p q g = true) (h : okL ((2 ^ d : Nat) : Int) l = true) (hl : l.length ≤ n) (hu : u < 2 ^ d) :
    okH p q n 0 (baseN root p q g nonce) (ptsL root d n p q g l nonce).length (ptsL root d n p q g l nonce) (u + 1) (pv (cfs root n q) (u + 1) % q) = true := by
  obtain ⟨_, _, _, _, _, h6, h7⟩ := okS_all hz
  obtain ⟨hq1, _, hp1, _, _⟩ := okG_q h6
  simp only [Int.toNat_natCast] at h7
  have hb2 := base_two (root := root) (nonce := nonce) h6
  have hbl := base_lt (root := root) (nonce := nonce) h6
  rw [okH, okD, Bool.and_eq_true, Bool.and_eq_true, Bool.and_eq_true, Bool.and_eq_true, Bool.and_eq_true, Bool.and_eq_true, List.all_eq_true, distL_iff, pts_fst, ptsL_len hl]
  simp only [decide_eq_true_eq]
  refine ⟨⟨⟨⟨⟨⟨by omega, by omega⟩, hbl⟩, trivial⟩, xsL_nodup h⟩, fun x hx => ?_⟩, Nat.mod_lt _ (by omega)⟩
  rw [ptOk, Bool.and_eq_true, Bool.and_eq_true, Bool.and_eq_true]
  simp only [decide_eq_true_eq]
  rcases List.mem_append.1 hx with hx | hx
  · obtain ⟨y, hy, rfl⟩ := List.mem_map.1 hx
    have h8 := xsL_mem h hl y hy
    have h9 := lift_q (root := root) (nonce := nonce) h6 (cfs root n q) y
    have h10 : liftN p q (baseN root p q g nonce) (cfs root n q) y ≠ 0 := fun e => by
      rw [e, Nat.zero_pow (by omega), Nat.zero_mod] at h9
      cases h9
    exact ⟨⟨⟨h8.1, by show y < q; omega⟩, by show 1 ≤ liftN p q _ _ y; omega⟩, Nat.mod_lt _ (by omega)⟩
  · rw [List.mem_singleton] at hx
    subst hx
    exact ⟨⟨⟨by show 1 ≤ u + 1; omega, by show u + 1 < q; omega⟩, Nat.le_refl 1⟩, by show 1 < p; omega⟩
theorem zP_seal {u : Nat} (hz : okS kd d n p q g = true) (h : okL ((2 ^ d : Nat) : Int) l = true) (hl : l.length ≤ n) (hu : u < 2 ^ d) (hul : ¬ (u : Int) ∈ l) :
    zP p q (allP p (u + 1) (baseN root p q g nonce) (pv (cfs root n q) (u + 1) % q) (ptsL root d n p q g l nonce)) (n + 1) (n + 1) = liftN p q (baseN root p q g nonce) (cfs root n q) 0 := by
  obtain ⟨_, _, _, _, _, h6, h7⟩ := okS_all hz
  obtain ⟨hq1, _, hp1, _, _⟩ := okG_q h6
  simp only [Int.toNat_natCast] at h7
  have hqp := (okG_all h6).2.1
  have hxl := xsL_len (b := 2 ^ d) hl
  have hle : (((u + 1) :: xsL (2 ^ d) n l).map fun x => (x, pv (cfs root n q) x % q)).length = n + 1 := by simp [hxl]
  have hm : allP p (u + 1) (baseN root p q g nonce) (pv (cfs root n q) (u + 1) % q) (ptsL root d n p q g l nonce) = (((u + 1) :: xsL (2 ^ d) n l).map fun x => (x, pv (cfs root n q) x % q)).map fun x => (x.1, baseN root p q g nonce ^ x.2 % p) := by
    unfold allP ptsL
    rw [List.map_map, List.map_cons]
    rfl
  have hz1 := zP_exp (q := q) (n := n + 1) hp1 hm (n + 1) (by omega)
  have hx : ∀ x ∈ (u + 1) :: xsL (2 ^ d) n l, x < q := by
    intro x hx
    rcases List.mem_cons.1 hx with rfl | hx
    · omega
    · have := xsL_mem h hl x hx
      omega
  have hE := expS_zero (l := cfs root n q) hqp (pts := ((u + 1) :: xsL (2 ^ d) n l).map fun x => (x, pv (cfs root n q) x % q)) (fun y hy => by
      obtain ⟨x, hx', rfl⟩ := List.mem_map.1 hy
      exact ⟨hx x hx', Nat.mod_lt _ (by omega)⟩) (by
      rw [List.map_map, show ((fun x : Nat × Nat => x.1) ∘ fun x => (x, pv (cfs root n q) x % q)) = id from rfl, List.map_id, List.nodup_cons]
      exact ⟨fun hc => hul ((xsL_hit h hu).1 hc), xsL_nodup h⟩) (by rw [hle, cfs_len]) (cfs_lt root n (by omega)) (fun y hy => by
      obtain ⟨x, _, rfl⟩ := List.mem_map.1 hy
      rfl)
  rw [hle] at hE
  rw [hz1, pow_red hp1 (base_q h6), hE]
  rfl
/-- What opens. -/
theorem open_seal {u : Nat} (hz : okS kd d n p q g = true) (h : okL ((2 ^ d : Nat) : Int) l = true) (hl : l.length ≤ n) (hu : u < 2 ^ d) :
    openR kd d n p q g 0 (baseN root p q g nonce) (ptsL root d n p q g l nonce).length (ptsL root d n p q g l nonce) (u + 1) (pv (cfs root n q) (u + 1) % q) (boxK root n p q g session nonce) (derK session 53 0) = if (u : Int) ∈ l then (key0, 6) else (session, 0) := by
  have hk := okH_seal (root := root) (nonce := nonce) hz h hl hu
  have hh := hit_pts (root := root) (n := n) (p := p) (q := q) (g := g) (nonce := nonce) h hu
  by_cases hul : (u : Int) ∈ l
  · rw [openR_hit hz hk (by rw [hh, decide_eq_true hul]), if_pos hul]
  · have ho : openK p q (ptsL root d n p q g l nonce).length (u + 1) (baseN root p q g nonce) (pv (cfs root n q) (u + 1) % q) (ptsL root d n p q g l nonce) (boxK root n p q g session nonce) = session := by
      unfold openK boxK
      rw [ptsL_len hl, zP_seal hz h hl hu hul, dec_enc]
    rw [openR_ok hz hk (by rw [hh, decide_eq_false hul]) (by rw [ho]), if_neg hul, ho]
end
end Go.Proofs.Ythgpojlcbbgaoaa
