/- Nodes below 128 and what they lie under; punctured keys as lists of labels. No program but for values. -/
import Derived.Test.YthgpojlcbbgaoaaSorts
set_option autoImplicit false
set_option maxRecDepth 100000
set_option linter.unusedVariables false
namespace Go.Proofs.Ythgpojlcbbgaoaa
open Go.RowKit

/-! ### nodes -/
def lenT (x : Nat) : Nat := if x = 0 then 0 else Nat.log2 x + 1
def lenStr : ByteArray := ⟨(Array.range 256).map fun i => UInt8.ofNat (lenT i)⟩
theorem lenStr_at : ∀ i : Fin 256, lenStr[i.val]? = some (UInt8.ofNat (lenT i.val)) ∧ (UInt8.ofNat (lenT i.val)).toNat = lenT i.val := by decide +kernel
theorem n_lenAt {P : Program} {wr : World} {E : Env} {o : Oper} {t : TypeId} {s : ByteArray} {y : Operand} {k : IntKind} {i : Nat} (ho : o.op = .index t (.const (.string s)) y) (hy : Ev E y (.int k (i : Int))) (ht : P.underlying t = some .string) (hs : s = lenStr) (hi : i < 256) : nstep P wr E o (.is (.int .u8 (lenT i : Int))) := by
  subst hs
  have h := lenStr_at ⟨i, hi⟩
  have := n_strAt (P := P) (wr := wr) ho hy ht h.1
  rw [h.2] at this
  exact this
theorem lenT_le {x : Nat} (h : x < 256) : lenT x ≤ 8 := by
  have : ∀ x : Fin 256, lenT x.val ≤ 8 := by decide +kernel
  exact this ⟨x, h⟩
/-- Whether the node w lies at or under the node v. -/
def belowN (w v : Nat) : Bool := (List.range 8).any fun t => decide (w / 2 ^ t = v)
theorem belowN_iff {w v : Nat} : belowN w v = true ↔ ∃ t, t < 8 ∧ w / 2 ^ t = v := by
  simp only [belowN, List.any_eq_true, List.mem_range, decide_eq_true_eq]
def belT (w v : Nat) : Bool := decide (lenT v ≤ lenT w) && decide (w / 2 ^ (lenT w - lenT v) = v)
theorem belT_eq {w v : Nat} (hw : w < 128) (hv : v < 128) (hv0 : 1 ≤ v) : belT w v = belowN w v := by
  have : ∀ w v : Fin 128, 1 ≤ v.val → belT w.val v.val = belowN w.val v.val := by decide +kernel
  exact this ⟨w, hw⟩ ⟨v, hv⟩ hv0
def bel (w v : Int) : Bool := belowN w.toNat v.toNat
theorem half_yes {l T : Nat} (hl : l < 128) (hT : T < 7) (h1 : 1 ≤ l / 2 ^ (T + 1)) (h : belowN l (2 * (l / 2 ^ (T + 1))) = true) : 2 * (l / 2 ^ (T + 1)) = l / 2 ^ T := by
  have : ∀ (l : Fin 128) (T : Fin 7), 1 ≤ l.val / 2 ^ (T.val + 1) → belowN l.val (2 * (l.val / 2 ^ (T.val + 1))) = true → 2 * (l.val / 2 ^ (T.val + 1)) = l.val / 2 ^ T.val := by decide +kernel
  exact this ⟨l, hl⟩ ⟨T, hT⟩ h1 h
theorem half_no {l T : Nat} (hl : l < 128) (hT : T < 7) (h1 : 1 ≤ l / 2 ^ (T + 1)) (h : belowN l (2 * (l / 2 ^ (T + 1))) = false) : 2 * (l / 2 ^ (T + 1)) + 1 = l / 2 ^ T := by
  have : ∀ (l : Fin 128) (T : Fin 7), 1 ≤ l.val / 2 ^ (T.val + 1) → belowN l.val (2 * (l.val / 2 ^ (T.val + 1))) = false → 2 * (l.val / 2 ^ (T.val + 1)) + 1 = l.val / 2 ^ T.val := by decide +kernel
  exact this ⟨l, hl⟩ ⟨T, hT⟩ h1 h
theorem len_anc {l T : Nat} (hl : l < 128) (hT : T < 7) (h1 : 1 ≤ l / 2 ^ T) : lenT l = lenT (l / 2 ^ T) + T := by
  have : ∀ (l : Fin 128) (T : Fin 7), 1 ≤ l.val / 2 ^ T.val → lenT l.val = lenT (l.val / 2 ^ T.val) + T.val := by decide +kernel
  exact this ⟨l, hl⟩ ⟨T, hT⟩ h1
theorem anc_pos {l T : Nat} (h1 : 1 ≤ l / 2 ^ (T + 1)) : 1 ≤ l / 2 ^ T := by
  rw [Nat.pow_succ, ← Nat.div_div_eq_div_mul] at h1
  omega
theorem anc_le {l T : Nat} : l / 2 ^ T ≤ l := Nat.div_le_self _ _
theorem anc_zero {l T : Nat} (hl : 1 ≤ l) (h : l / 2 ^ T = l) : T = 0 := by
  rcases Nat.eq_zero_or_pos T with h0 | h0
  · exact h0
  · exfalso
    have : l / 2 ^ T < l := Nat.div_lt_self hl (Nat.one_lt_two_pow (by omega))
    omega
theorem xor1_lt {x : Nat} (h : x < 128) : x ^^^ 1 < 128 := by
  have : ∀ x : Fin 128, x.val ^^^ 1 < 128 := by decide +kernel
  exact this ⟨x, h⟩

/-! ### labels -/
abbrev Lab := Int × Int × Key
def chK (k : Key) (w : Nat) : Key := derK k (31 + w % 2) 0
/-- What the way down from a node with the key k, T steps above the leaf l, leaves at its sides; and the leaf's own key. -/
def walkS (l : Nat) : Nat → Key → List Lab
  | 0, _ => []
  | T + 1, k => (((l / 2 ^ T ^^^ 1 : Nat) : Int), 0, chK k (l / 2 ^ T ^^^ 1)) :: walkS l T (chK k (l / 2 ^ T))
def walkK (l : Nat) : Nat → Key → Key
  | 0, k => k
  | T + 1, k => walkK l T (chK k (l / 2 ^ T))
theorem walkS_len (l : Nat) : ∀ T k, (walkS l T k).length = T
  | 0, _ => rfl
  | T + 1, k => by rw [walkS, List.length_cons, walkS_len]
/-- How many steps a node v lies above l. -/
def stT (l : Nat) (v : Int) : Nat := lenT l - lenT v.toNat
def nodeOk (d : Nat) (x : Lab) : Bool := (decide (x.2.1 = 0) && decide (1 ≤ x.1)) && decide (x.1 < ((2 ^ (d + 1) : Nat) : Int))
def gdL (d : Nat) (L : List Lab) (i : Nat) (x : Lab) : Bool := nodeOk d x && (L.take i).all fun y => decide (y.1 < x.1) && !bel x.1 y.1
def okPN (d : Int) (L : List Lab) : Bool := (decide (0 ≤ d) && decide (d ≤ 6)) && (List.range L.length).all fun i => gdL d.toNat L i (L.getD i (0, 0, key0))
theorem nodeOk_iff {d : Nat} {x : Lab} : nodeOk d x = true ↔ x.2.1 = 0 ∧ 1 ≤ x.1 ∧ x.1 < ((2 ^ (d + 1) : Nat) : Int) := by
  simp only [nodeOk, Bool.and_eq_true, decide_eq_true_eq]
  exact ⟨fun ⟨⟨a, b⟩, c⟩ => ⟨a, b, c⟩, fun ⟨a, b, c⟩ => ⟨⟨a, b⟩, c⟩⟩
theorem pow_le128 {d : Nat} (h : d ≤ 6) : 2 ^ (d + 1) ≤ 128 := Nat.pow_le_pow_right (by decide) (show d + 1 ≤ 7 by omega)
theorem okPN_yes {d n : Nat} {L : List Lab} (hd : d ≤ 6) (hl : L.length = n) (h : ∀ j y, j < n → L[j]? = some y → gdL d L j y = true) : okPN d L = true := by
  simp only [okPN, Bool.and_eq_true, decide_eq_true_eq, List.all_eq_true, List.mem_range, Int.toNat_natCast]
  refine ⟨⟨by omega, by omega⟩, fun i hi => ?_⟩
  rw [List.getD_eq_getElem?_getD, List.getElem?_eq_getElem hi]
  exact h i _ (by omega) (List.getElem?_eq_getElem hi)
theorem okPN_at {d : Nat} {L : List Lab} (h : okPN d L = true) {i : Nat} {x : Lab} (hx : L[i]? = some x) : gdL d L i x = true := by
  simp only [okPN, Bool.and_eq_true, decide_eq_true_eq, List.all_eq_true, List.mem_range, Int.toNat_natCast] at h
  have := h.2 i (List.getElem?_eq_some_iff.1 hx).1
  rwa [List.getD_eq_getElem?_getD, hx] at this
theorem okPN_no {d : Nat} {L : List Lab} {i : Nat} {x : Lab} (hx : L[i]? = some x) (h : gdL d L i x = false) : okPN d L = false := by
  cases hz : okPN d L with
  | false => rfl
  | true => rw [okPN_at hz hx] at h; cases h
theorem okPN_d {d : Int} {L : List Lab} (h : (decide (d < 0) || decide (6 < d)) = true) : okPN d L = false := by
  simp only [Bool.or_eq_true, decide_eq_true_eq] at h
  unfold okPN
  rcases h with h | h
  · rw [decide_eq_false (show ¬ 0 ≤ d by omega)]; rfl
  · rw [decide_eq_false (show ¬ d ≤ 6 by omega)]; simp
theorem okPN_depth {d : Int} {L : List Lab} (h : okPN d L = true) : 0 ≤ d ∧ d ≤ 6 := by
  simp only [okPN, Bool.and_eq_true, decide_eq_true_eq] at h
  exact h.1
theorem gdL_node {d i : Nat} {L : List Lab} {x : Lab} (h : gdL d L i x = true) : nodeOk d x = true := by
  unfold gdL at h
  rw [Bool.and_eq_true] at h
  exact h.1
/-- What the program looks at: the label before alone. -/
theorem gd_step {d i : Nat} {L : List Lab} {x : Lab} (hb : ∀ j y, j < i → L[j]? = some y → gdL d L j y = true) (hx : L[i]? = some x) (hn : nodeOk d x = true) (hlast : ∀ y, 0 < i → L[i - 1]? = some y → y.1 < x.1) :
    ∀ z ∈ L.take i, z.1 < x.1 := by
  intro z hz
  have hil := (List.getElem?_eq_some_iff.1 hx).1
  obtain ⟨k, hk, rfl⟩ := List.mem_iff_getElem.1 hz
  rw [List.length_take] at hk
  rw [List.getElem_take]
  have hk' : k < L.length := by omega
  by_cases e : k = i - 1
  · exact hlast _ (by omega) (by rw [← e]; exact List.getElem?_eq_getElem hk')
  · have hl : i - 1 < L.length := by omega
    have h1 := hb (i - 1) _ (by omega) (List.getElem?_eq_getElem hl)
    unfold gdL at h1
    rw [Bool.and_eq_true, List.all_eq_true] at h1
    have h2 := h1.2 L[k] (List.mem_iff_getElem.2 ⟨k, by rw [List.length_take]; omega, by rw [List.getElem_take]⟩)
    simp only [Bool.and_eq_true, decide_eq_true_eq] at h2
    have h3 := hlast _ (by omega) (List.getElem?_eq_getElem hl)
    omega
theorem gd_yes {d i : Nat} {L : List Lab} {x : Lab} (hn : nodeOk d x = true) (h1 : ∀ z ∈ L.take i, z.1 < x.1) (h2 : ((L.take i).any fun y => bel x.1 y.1) = false) : gdL d L i x = true := by
  unfold gdL
  rw [hn, Bool.true_and, List.all_eq_true]
  intro y hy
  have h3 := List.any_eq_false.1 h2 y hy
  rw [decide_eq_true (h1 y hy), Bool.true_and]
  simpa using h3
theorem gd_no {d i : Nat} {L : List Lab} {x : Lab} (h2 : ((L.take i).any fun y => bel x.1 y.1) = true) : gdL d L i x = false := by
  obtain ⟨y, hy, hb⟩ := List.any_eq_true.1 h2
  unfold gdL
  rw [show ((L.take i).all fun y => decide (y.1 < x.1) && !bel x.1 y.1) = false from List.all_eq_false.2 ⟨y, hy, by rw [hb]; simp⟩, Bool.and_false]
theorem gd_bad {d i : Nat} {L : List Lab} {x y : Lab} (hd : i < L.length → L[i - 1]? = some y) (hx : L[i]? = some x)
    (h : (((!decide (x.2.1 = 0) || decide (x.1 < 1)) || decide (((2 ^ (d + 1) : Nat) : Int) ≤ x.1)) || (decide (0 < i) && decide (x.1 ≤ y.1))) = true) : gdL d L i x = false := by
  have hi := (List.getElem?_eq_some_iff.1 hx).1
  simp only [Bool.or_eq_true, Bool.not_eq_true', decide_eq_false_iff_not, decide_eq_true_eq, Bool.and_eq_true] at h
  cases hg : gdL d L i x with
  | false => rfl
  | true =>
    exfalso
    obtain ⟨h1, h2, h3⟩ := nodeOk_iff.1 (gdL_node hg)
    rcases h with ((h | h) | h) | ⟨h, h4⟩
    · exact h h1
    · omega
    · omega
    · unfold gdL at hg
      rw [Bool.and_eq_true, List.all_eq_true] at hg
      have h5 := hg.2 y (List.mem_of_getElem? (i := i - 1) (by rw [List.getElem?_take, if_pos (by omega)]; exact hd hi))
      simp only [Bool.and_eq_true, decide_eq_true_eq] at h5
      omega
theorem gd_good {d i : Nat} {L : List Lab} {x y : Lab} (hy : L[i - 1]? = some y) (h : (((!decide (x.2.1 = 0) || decide (x.1 < 1)) || decide (((2 ^ (d + 1) : Nat) : Int) ≤ x.1)) || (decide (0 < i) && decide (x.1 ≤ y.1))) = false) :
    nodeOk d x = true ∧ ∀ z, 0 < i → L[i - 1]? = some z → z.1 < x.1 := by
  simp only [Bool.or_eq_false_iff, Bool.not_eq_false', decide_eq_true_eq, decide_eq_false_iff_not, Bool.and_eq_false_iff] at h
  obtain ⟨⟨⟨h1, h2⟩, h3⟩, h4⟩ := h
  refine ⟨nodeOk_iff.2 ⟨h1, by omega, by omega⟩, fun z hi hz => ?_⟩
  rw [hy] at hz
  injection hz with hz
  subst hz
  rcases h4 with h4 | h4 <;> omega
/-! ### sorted lists of labels -/
def sle (a b : Lab) : Prop := a.1 ≤ b.1
def slt (a b : Lab) : Prop := a.1 < b.1
theorem sorted_unique : ∀ {l m : List Lab}, l.Pairwise slt → m.Pairwise slt → l.Perm m → l = m
  | [], m, _, _, h => h.nil_eq
  | a :: l, [], _, _, h => by have := h.length_eq; simp at this
  | a :: l, b :: m, hl, hm, h => by
    rw [List.pairwise_cons] at hl hm
    have hab : a = b := by
      have h1 : a ∈ b :: m := h.mem_iff.1 List.mem_cons_self
      have h2 : b ∈ a :: l := h.mem_iff.2 List.mem_cons_self
      rcases List.mem_cons.1 h1 with e | h1
      · exact e
      · rcases List.mem_cons.1 h2 with e | h2
        · exact e.symm
        · have h3 := hl.1 b h2
          have h4 := hm.1 a h1
          unfold slt at h3 h4
          omega
    subst hab
    rw [sorted_unique hl.2 hm.2 (List.Perm.cons_inv h)]
theorem lt_of_le_nodup {l : List Lab} (h : l.Pairwise sle) (hn : (l.map (·.1)).Nodup) : l.Pairwise slt := by
  rw [List.Nodup, List.pairwise_map] at hn
  exact List.Pairwise.imp (fun {a b} ⟨h1, h2⟩ => by unfold slt; unfold sle at h1; omega) (List.pairwise_and_iff.2 ⟨h, hn⟩)
/-- A label put into its place. -/
def insL (l : List Lab) (x : Lab) : List Lab := l.takeWhile (fun y => decide (y.1 < x.1)) ++ x :: l.dropWhile (fun y => decide (y.1 < x.1))
def insAll (l m : List Lab) : List Lab := m.foldl insL l
theorem insL_perm (l : List Lab) (x : Lab) : (insL l x).Perm (x :: l) := by
  unfold insL
  refine List.perm_middle.trans ?_
  rw [List.takeWhile_append_dropWhile]
theorem insL_sorted {l : List Lab} (h : l.Pairwise sle) (x : Lab) : (insL l x).Pairwise sle := by
  unfold insL
  induction l with
  | nil => simp
  | cons a l ih =>
    rw [List.pairwise_cons] at h
    by_cases ha : a.1 < x.1
    · rw [List.takeWhile_cons_of_pos (by simpa using ha), List.dropWhile_cons_of_pos (by simpa using ha), List.cons_append, List.pairwise_cons]
      refine ⟨fun b hb => ?_, ih h.2⟩
      have hp := (insL_perm l x).mem_iff.1 hb
      rcases List.mem_cons.1 hp with rfl | hp
      · unfold sle; omega
      · exact h.1 b hp
    · rw [List.takeWhile_cons_of_neg (by simpa using ha), List.dropWhile_cons_of_neg (by simpa using ha), List.nil_append, List.pairwise_cons]
      refine ⟨fun b hb => ?_, List.pairwise_cons.2 h⟩
      rcases List.mem_cons.1 hb with rfl | hb
      · unfold sle; omega
      · have := h.1 b hb
        unfold sle at this ⊢
        omega
theorem insAll_perm : ∀ (m l : List Lab), (insAll l m).Perm (m ++ l)
  | [], l => List.Perm.refl _
  | x :: m, l => by
    show (insAll (insL l x) m).Perm _
    refine (insAll_perm m (insL l x)).trans ?_
    refine (List.Perm.append_left m (insL_perm l x)).trans ?_
    exact List.perm_middle
theorem insAll_sorted : ∀ (m : List Lab) {l : List Lab}, l.Pairwise sle → (insAll l m).Pairwise sle
  | [], l, h => h
  | x :: m, l, h => insAll_sorted m (insL_sorted h x)
/-- What a puncture at the leaf l leaves. -/
def punM (l : Nat) (L : List Lab) : List Lab := L.flatMap fun x => if bel l x.1 then walkS l (stT l x.1) x.2.2 else [x]
def punL (l : Nat) (L : List Lab) : List Lab := insAll [] (punM l L)
theorem punL_eq {l : Nat} {L L' : List Lab} (hp : L'.Perm (punM l L)) (hs : L'.Pairwise sle) (hn : ((punM l L).map (·.1)).Nodup) : L' = punL l L := by
  have hp2 : (punL l L).Perm (punM l L) := by
    have := insAll_perm (punM l L) []
    rw [List.append_nil] at this
    exact this
  refine sorted_unique (lt_of_le_nodup hs ?_) (lt_of_le_nodup (insAll_sorted _ List.Pairwise.nil) ?_) (hp.trans hp2.symm)
  · exact (hp.map _).nodup_iff.2 hn
  · exact (hp2.map _).nodup_iff.2 hn
end Go.Proofs.Ythgpojlcbbgaoaa
