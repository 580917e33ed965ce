/- the cipher of the reference -/
import Derived.Test.YthgpojlcbbgaoaaCiph2
import Derived.Test.YthgpojlcbbgaoaaSl

set_option autoImplicit false
set_option maxRecDepth 100000
set_option linter.unusedVariables false
namespace Go.Proofs.Ythgpojlcbbgaoaa
open Go.RowKit


theorem info5 : Try.prog.info? 5 = some Try.t5 := by kernel_rfl
theorem info24 : Try.prog.info? 24 = some Try.t24 := by kernel_rfl
theorem info95 : Try.prog.info? 95 = some Try.t95 := by kernel_rfl
theorem info31 : Try.prog.info? 31 = some Try.t31 := by kernel_rfl
theorem info3 : Try.prog.info? 3 = some Try.t3 := by kernel_rfl
theorem sl108 : SlT Try.prog 108 5 1 1 := ⟨Try.underlying108, ⟨_, _, info5, rfl, rfl, rfl, rfl⟩, by decide⟩
theorem sl63 : SlT Try.prog 63 24 1 8 := ⟨Try.underlying63, ⟨_, _, info24, rfl, rfl, rfl, rfl⟩, by decide⟩
theorem sl29 : SlT Try.prog 29 95 18 32 := ⟨Try.underlying29, ⟨_, _, info95, rfl, rfl, rfl, rfl⟩, by decide⟩
theorem sl43 : SlT Try.prog 43 31 2 16 := ⟨Try.underlying43, ⟨_, _, info31, rfl, rfl, rfl, rfl⟩, by decide⟩
theorem sl41 : SlT Try.prog 41 3 1 8 := ⟨Try.underlying41, ⟨_, _, info3, rfl, rfl, rfl, rfl⟩, by decide⟩
theorem zU : ∀ i z, Try.prog.info? 24 = some i → i.zero = some z → z.cells = #[U 0] := by
  intro i z h1 h2
  rw [info24] at h1
  injection h1 with h1
  subst h1
  have : z = U 0 := by injection h2 with h2; exact h2.symm
  subst this
  rfl
theorem r_mulB {P : Program} {t : TypeId} {x y : BitVec 64} : R2 P .mul t (W x) (W y) (W (x * y)) := by
  have := r_mul (P := P) (t := t) (k := .u64) (a := x.toNat) (b := y.toNat)
  have e : IntKind.u64.wrap ((x.toNat : Int) * (y.toNat : Int)) = ((x * y).toNat : Int) := by
    rw [IntKind.wrap_u64, BitVec.toNat_mul]
    omega
  rwa [e] at this
/-- The number in some bytes. -/
def valW (l : List Nat) : BitVec 64 := l.foldl (fun a b => 256#64 * a + BitVec.ofNat 64 b) 0#64
theorem valW_step {l : List Nat} {i x : Nat} (h : l[i]? = some x) : 256#64 * valW (l.take i) + BitVec.ofNat 64 x = valW (l.take (i + 1)) := by
  rw [List.take_add_one, h]
  simp [valW]
/-- The bytes of a word. -/
def bl (x : BitVec 64) : List Nat := (List.range 8).map (byteN x)
theorem bl_lt (x : BitVec 64) : ∀ b ∈ bl x, b < 256 := by
  intro b hb
  obtain ⟨i, _, rfl⟩ := List.mem_map.1 hb
  exact byteN_lt x i
theorem pre_val (x : BitVec 64) (i : Nat) (h : i < 8) : 256#64 * pre x i + BitVec.ofNat 64 (byteN x i) = pre x (i + 1) := by
  have e1 : pre x i = (x >>> (56 - 8 * i)) >>> 8 := by
    unfold pre
    rw [← BitVec.shiftRight_add]
    congr 1
    omega
  have e2 : pre x (i + 1) = x >>> (56 - 8 * i) := by
    unfold pre
    congr 1
    omega
  rw [e1, e2]
  unfold byteN
  generalize x >>> (56 - 8 * i) = y
  apply BitVec.eq_of_toNat_eq
  rw [BitVec.toNat_add, BitVec.toNat_mul, BitVec.toNat_ushiftRight, BitVec.toNat_ofNat, BitVec.toNat_ofNat, Nat.shiftRight_eq_div_pow]
  have := y.isLt
  omega
theorem valW_bl (x : BitVec 64) : valW (bl x) = x := by
  have key : ∀ i, i ≤ 8 → valW ((bl x).take i) = pre x i := by
    intro i
    induction i with
    | zero => intro _; rw [pre_zero]; rfl
    | succ i ih =>
      intro h
      rw [← valW_step (x := byteN x i) (by simp [bl, show i < 8 by omega]), ih (by omega), pre_val x i (by omega)]
  have := key 8 (by decide)
  rwa [pre_full, List.take_of_length_le (by simp [bl])] at this
theorem map_at {α β : Type} {l : List α} {f : α → β} {i : Nat} {x : α} (h : l[i]? = some x) : (l.map f)[i]? = some (f x) := by rw [List.getElem?_map, h]; rfl
theorem some_at {α : Type} {l : List α} {i n : Nat} (hl : l.length = n) (hi : i < n) : ∃ x, l[i]? = some x := ⟨l[i], List.getElem?_eq_getElem (by omega)⟩
theorem take_len {α : Type} {l : List α} {n : Nat} (hl : l.length = n) : l.take n = l := List.take_of_length_le (by omega)


theorem Value_c (n c : Nat) (A : Option Addr) (l : List Nat) (hb : ∀ b ∈ l, b < 256) (hl : l.length = n) (hn : n ≤ 9223372036854775807) (w : World) (hR : Rd w A (l.map B8)) : RetF Try.prog 147 [.slice A n c].toArray w (.is (W (valW l))) := by
  refine enter Try.func147 rfl Try.ntmps147 rfl fun a hF => ?_
  have hw := Own.start w
  refine wp_seq (reg_seq 1 (hF _ _) (by kernel_rfl) ?_)
  refine net_cons rfl rfl (n_assign rfl evc) ?_
  refine net_nil fun a w1 hF hx => ?_
  replace hw := hw.next hx
  replace hF := hF.keep (.cons (t := 0) rfl (.cons (t := 2) rfl .nil))
  refine wpList_nil ?_
  refine wp_seq (reg_seq 1 (hF _ _) (by kernel_rfl) ?_)
  refine net_cons rfl rfl (n_assign rfl evc) ?_
  refine net_nil fun a w1 hF hx => ?_
  replace hw := hw.next hx
  replace hF := hF.keep (.cons (t := 0) rfl (.cons (t := 2) rfl (.cons (t := 3) rfl .nil)))
  refine wpList_nil ?_
  refine wp_seq ?_
  refine wp_seq (reg_seq 1 (hF _ _) (by kernel_rfl) ?_)
  refine net_cons rfl rfl (n_assign rfl evc) ?_
  refine net_nil fun a w1 hF hx => ?_
  replace hw := hw.next hx
  replace hF := hF.keep (.cons (t := 0) rfl (.cons (t := 2) rfl (.cons (t := 3) rfl (.cons (t := 4) rfl .nil))))
  refine wpList_nil ?_
  refine wp_block ?_
  refine wp_loop_ix (α := Nat) (fun i a w1 => FrV 20 [] [(0, .is (.slice A n c)) , (3, .is (W (valW (l.take i)))) , (4, .is (I (i : Int)))] a ∧ Own w w1 [] ∧ (i ≤ n)) (fun i => n - i) (0) ⟨hF.keep (.cons (t := 0) rfl (.cons (t := 3) rfl (.cons (t := 4) rfl (.nil)))), hw, by omega⟩ ?_
  rintro i a w1 ⟨hF, hw, hi0⟩
  refine wp_seq ?_
  refine wp_seq (reg_seq 4 (hF _ _) (by kernel_rfl) ?_)
  refine net_cons rfl rfl (n_move rfl (ev rfl)) ?_
  refine net_cons rfl rfl (n_move rfl (ev rfl)) ?_
  refine net_cons rfl rfl (n_len rfl (ev rfl) Try.underlying108) ?_
  refine net_cons rfl rfl (n_bin rfl (ev rfl) (ev rfl) r_lssN) ?_
  refine net_nil fun a w1 hF hx => ?_
  replace hw := hw.next hx
  replace hF := hF.keep (.cons (t := 0) rfl (.cons (t := 3) rfl (.cons (t := 4) rfl (.cons (t := 8) rfl .nil))))
  refine wpList_nil ?_
  refine wp_cond_split (hF.ev (ev rfl)) (fun h8 => ?_) (fun h8 => ?_)
  · have hi : i < n := of_bool_t h8
    obtain ⟨x, hx0⟩ := some_at hl hi
    obtain ⟨bX, oX, rfl, hcX⟩ := hR.at_ (by rw [List.length_map]; omega)
    refine wp_skip ?_
    refine wp_seq (wp_block ?_)
    refine reg_seq 9 (hF _ _) (by kernel_rfl) ?_
    refine net_cons rfl rfl (n_move rfl (ev rfl)) ?_
    refine net_cons rfl rfl (n_bin rfl evc (ev rfl) (r_mulB (x := 256#64))) ?_
    refine net_cons rfl rfl (n_move rfl (ev rfl)) ?_
    refine net_cons rfl rfl (n_move rfl (ev rfl)) ?_
    refine net_cons rfl rfl (n_indexS (off' := oX + (i)) rfl (ev rfl) (ev rfl) Try.underlying108 Try.sizeOf5 (by omega) (by omega)) ?_
    refine net_cons rfl rfl (n_load rfl (ev rfl) (fun w2 hx2 => ld1R hcX (map_at hx0) Try.isAgg5 (by omega) w2 (hw.ext.trans hx2))) ?_
    refine net_cons rfl rfl (n_convT rfl (ev rfl) Try.underlying5 Try.underlying24 (conv_byte (hb x (List.mem_of_getElem? hx0)))) ?_
    refine net_cons rfl rfl (n_to (n_bin rfl (ev rfl) (ev rfl) r_addB) (congrArg (fun b : BitVec 64 => W b) (valW_step hx0))) ?_
    refine net_cons rfl rfl (n_assign rfl (ev rfl)) ?_
    refine net_nil fun a w1 hF hx => ?_
    replace hw := hw.next hx
    replace hF := hF.keep (.cons (t := 0) rfl (.cons (t := 3) rfl (.cons (t := 4) rfl (.cons (t := 8) rfl .nil))))
    refine wpList_nil ?_
    refine reg_seq 3 (hF _ _) (by kernel_rfl) ?_
    refine net_cons rfl rfl (n_move rfl (ev rfl)) ?_
    refine net_cons rfl rfl (n_bin rfl (ev rfl) evc (r_inc (by omega))) ?_
    refine net_cons rfl rfl (n_assign rfl (ev rfl)) ?_
    refine net_nil fun a w1 hF hx => ?_
    replace hw := hw.next hx
    replace hF := hF.keep (.cons (t := 0) rfl (.cons (t := 3) rfl (.cons (t := 4) rfl (.cons (t := 8) rfl .nil))))
    refine wpList_nil ?_
    exact ⟨i + 1, ⟨hF.keep (.cons (t := 0) rfl (.cons (t := 3) rfl (.cons (t := 4) rfl (.nil)))), hw, by omega⟩, by omega⟩
  · obtain rfl : i = n := by have := of_bool_f h8; omega
    refine wp_exit (go_then_e (go_then_e (go_exit ?_)))
    refine wp_seq (reg_seq 2 (hF _ _) (by kernel_rfl) ?_)
    refine net_cons rfl rfl (n_move rfl (ev rfl)) ?_
    refine net_cons rfl rfl (n_assign rfl (ev rfl)) ?_
    refine net_nil fun a w1 hF hx => ?_
    replace hw := hw.next hx
    replace hF := hF.keep (.cons (t := 0) rfl (.cons (t := 2) rfl (.cons (t := 3) rfl (.cons (t := 4) rfl (.cons (t := 8) rfl .nil)))))
    refine wpList_nil ?_
    refine wp_ret (ret1 hF Try.results147 rfl ?_)
    exact ⟨_, rfl, hw.ext, (by show W _ = W _; rw [take_len hl])⟩


theorem Value8_c (c : Nat) (A : Option Addr) (x : BitVec 64) (w : World) (hR : Rd w A ((bl x).map B8)) : RetF Try.prog 147 [.slice A 8 c].toArray w (.is (W x)) := by
  have := Value_c 8 c A (bl x) (bl_lt x) (by simp [bl]) (by decide) w hR
  rwa [valW_bl] at this
theorem kc_fst (k : Key) : ((kc k).drop 0).take 8 = (bl k.x).map B8 := by simp [kc, kb, bl]
theorem kc_snd (k : Key) : ((kc k).drop 8).take 8 = (bl k.y).map B8 := by
  rw [show (kc k).drop 8 = (bl k.y).map B8 by simp [kc, kb, bl]]
  exact take_len (by simp [bl])


theorem words_c (k : Key) (w : World) : RetF Try.prog 127 [K k].toArray w (.is (.tuple #[W k.x, W k.y])) := by
  refine enter Try.func127 rfl Try.ntmps127 rfl fun a hF => ?_
  have hw := Own.start w
  refine wp_seq (wp_region_lit ?_)
  refine t_net 0 1 (by kernel_rfl) rfl hF ?_
  refine net_cons rfl rfl (n_box rfl (ev rfl) rfl) ?_
  refine net_nil fun a w1 hF hx => ?_
  obtain ⟨b1, h_, hw⟩ := hw.blk hx (hF.at_ 1 _ rfl)
  replace hF := hF.now h_
  replace hF := hF.keep (.cons (t := 1) rfl .nil)
  refine t_net 1 2 (by kernel_rfl) rfl hF ?_
  refine net_cons rfl rfl (n_assign rfl evc) ?_
  refine net_cons rfl rfl (n_assign rfl evc) ?_
  refine net_nil fun a w1 hF hx => ?_
  replace hw := hw.next hx
  replace hF := hF.keep (.cons (t := 1) rfl (.cons (t := 2) rfl (.cons (t := 3) rfl .nil)))
  refine wpList_nil ?_
  refine wp_seq (reg_draw 6 mixed (by kernel_rfl) (hF _ _) ?_)
  refine net_cons rfl rfl (n_arrTake (k := 8) rfl (ev rfl) evc Try.runUnderlying23 Try.sizeOf5 (by decide)) ?_
  refine net_cons rfl rfl (n_ret rfl Try.call147 (.cons (ev rfl) .nil) (fun _ hx => (Value8_c _ _ k.x _ ((kc_fst k ▸ hw.rdBlk (i := 0) rfl 0 8).ext hx)))) ?_
  refine net_cons rfl rfl (n_arrDrop (k := 8) rfl (ev rfl) evc Try.runUnderlying23 Try.sizeOf5 (by decide)) ?_
  refine net_cons rfl rfl (n_ret rfl Try.call147 (.cons (ev rfl) .nil) (fun _ hx => (Value8_c _ _ k.y _ ((kc_snd k ▸ hw.rdBlk (i := 0) rfl 8 8).ext hx)))) ?_
  refine net_cons rfl rfl (n_assign rfl (ev rfl)) ?_
  refine net_cons rfl rfl (n_assign rfl (ev rfl)) ?_
  refine net_nil fun a w1 hF hx => ?_
  replace hw := hw.next hx
  replace hF := hF.keep (.cons (t := 2) rfl (.cons (t := 3) rfl .nil))
  refine wpList_nil ?_
  refine wp_ret (ret2 hF Try.results127 rfl rfl ?_)
  exact ⟨_, rfl, hw.ext, rfl⟩


/-- The first i cells of these, zeros behind. -/
def fillTo (cs : List Value) (i : Nat) : List Value := cs.take i ++ List.replicate (cs.length - i) (B8 0)
theorem fillTo_len (cs : List Value) (i : Nat) : (fillTo cs i).length = cs.length := by
  simp only [fillTo, List.length_append, List.length_take, List.length_replicate]
  omega
theorem fillTo_full {cs : List Value} {n : Nat} (h : cs.length = n) : fillTo cs n = cs := by
  simp [fillTo, h, take_len h]
theorem fillTo_step {cs : List Value} {i : Nat} {x : Value} (h : cs[i]? = some x) : seg (fillTo cs i) i [x] = fillTo cs (i + 1) := by
  have hi := (List.getElem?_eq_some_iff.1 h).1
  rw [seg_one (by rw [fillTo_len]; exact hi)]
  apply List.ext_getElem?
  intro n
  have e1 : min i cs.length = i := by omega
  have e2 : min (i + 1) cs.length = i + 1 := by omega
  simp only [fillTo, List.getElem?_set, List.getElem?_append, List.length_append, List.length_take, List.getElem?_take, List.length_replicate, List.getElem?_replicate, e1, e2]
  by_cases h1 : i = n
  · subst h1
    rw [if_pos rfl, if_pos (by omega), if_pos (by omega), if_pos (by omega), h]
  · rw [if_neg h1]
    by_cases h2 : n < i
    · rw [if_pos h2, if_pos h2, if_pos (by omega), if_pos (by omega)]
    · rw [if_neg h2, if_neg (show ¬ n < i + 1 by omega)]
      by_cases h3 : n < cs.length
      · rw [if_pos (show n - i < cs.length - i by omega), if_pos (show n - (i + 1) < cs.length - (i + 1) by omega)]
      · rw [if_neg (show ¬ n - i < cs.length - i by omega), if_neg (show ¬ n - (i + 1) < cs.length - (i + 1) by omega)]
theorem kc_at (k : Key) (i : Nat) (h : i < 16) : ∃ x, (kc k)[i]? = some (B8 x) ∧ x < 256 := by
  rcases Nat.lt_or_ge i 8 with h1 | h1
  · exact ⟨_, kc_x k i h1, byteN_lt _ _⟩
  · obtain ⟨j, rfl⟩ : ∃ j, i = 8 + j := ⟨i - 8, by omega⟩
    exact ⟨_, kc_y k j (by omega), byteN_lt _ _⟩


theorem key_c (k : Key) (A : Option Addr) (c : Nat) (w : World) (hR : Rd w A (kc k)) : RetF Try.prog 148 [.slice A 16 c].toArray w (.is (K k)) := by
  refine enter Try.func148 rfl Try.ntmps148 rfl fun a hF => ?_
  have hw := Own.start w
  refine wp_seq (wp_region_lit ?_)
  refine t_net 0 1 (by kernel_rfl) rfl hF ?_
  refine net_cons rfl rfl (n_alloc rfl Try.zeroValue23 rfl) ?_
  refine net_nil fun a w1 hF hx => ?_
  obtain ⟨b2, h_, hw⟩ := hw.blk hx (hF.at_ 2 _ rfl)
  replace hF := hF.now h_
  replace hF := hF.keep (.cons (t := 0) rfl (.cons (t := 2) rfl .nil))
  refine wpList_nil ?_
  refine wp_seq (wp_region_lit ?_)
  refine t_net 0 1 (by kernel_rfl) rfl hF ?_
  refine net_cons rfl rfl (n_alloc rfl Try.zeroValue23 rfl) ?_
  refine net_nil fun a w1 hF hx => ?_
  obtain ⟨b3, h_, hw⟩ := hw.blk hx (hF.at_ 3 _ rfl)
  replace hF := hF.now h_
  replace hF := hF.keep (.cons (t := 0) rfl (.cons (t := 2) rfl (.cons (t := 3) rfl .nil)))
  refine wpList_nil ?_
  refine wp_seq ?_
  refine wp_seq (reg_seq 1 (hF _ _) (by kernel_rfl) ?_)
  refine net_cons rfl rfl (n_assign rfl evc) ?_
  refine net_nil fun a w1 hF hx => ?_
  replace hw := hw.next hx
  replace hF := hF.keep (.cons (t := 0) rfl (.cons (t := 2) rfl (.cons (t := 3) rfl (.cons (t := 4) rfl .nil))))
  refine wpList_nil ?_
  refine wp_block ?_
  refine wp_loop_ix (α := Nat) (fun i a w1 => FrV 22 [] [(0, .is (.slice A 16 c)) , (2, .is (.pointer (some ⟨b2, 0, none⟩))) , (3, .is (.pointer (some ⟨b3, 0, none⟩))) , (4, .is (I (i : Int)))] a ∧ Own w w1 [.blk b2 23 (List.replicate 16 (B8 0)), .blk b3 23 (fillTo (kc k) i)] ∧ (i ≤ 16)) (fun i => 16 - i) (0) ⟨hF.keep (.cons (t := 0) rfl (.cons (t := 2) rfl (.cons (t := 3) rfl (.cons (t := 4) rfl (.nil))))), (by rw [show fillTo (kc k) 0 = List.replicate 16 (B8 0) by simp [fillTo, kc_len]]; exact hw), by omega⟩ ?_
  rintro i a w1 ⟨hF, hw, hi0⟩
  refine wp_seq ?_
  refine wp_seq (reg_seq 8 (hF _ _) (by kernel_rfl) ?_)
  refine net_cons rfl rfl (n_move rfl (ev rfl)) ?_
  refine net_cons rfl rfl (n_bin rfl (ev rfl) evc (r_lssN (b := 16))) ?_
  refine net_cons rfl rfl (n_move rfl (ev rfl)) ?_
  refine net_if rfl rfl rfl rfl (fun hc => (n_move rfl (ev rfl))) ?_
  refine net_if rfl rfl rfl rfl (fun hc => (n_move rfl (ev rfl))) ?_
  refine net_if rfl rfl rfl rfl (fun hc => (n_len rfl (evi rfl hc) Try.underlying108)) ?_
  refine net_if rfl rfl rfl rfl (fun hc => (n_bin rfl (evi rfl hc) (evi rfl hc) (r_lssN (b := 16)))) ?_
  refine net_cons rfl rfl (n_pick_and rfl (ev rfl) (fun h => (evi rfl h))) ?_
  refine net_nil fun a w1 hF hx => ?_
  replace hw := hw.next hx
  replace hF := hF.keep (.cons (t := 0) rfl (.cons (t := 2) rfl (.cons (t := 3) rfl (.cons (t := 4) rfl (.cons (t := 12) rfl .nil)))))
  refine wpList_nil ?_
  refine wp_cond_split (hF.ev (ev rfl)) (fun h12 => ?_) (fun h12 => ?_)
  · have hi : i < 16 := by simpa using h12
    obtain ⟨x, hx0, hxb⟩ := kc_at k i hi
    obtain ⟨bX, oX, rfl, hcX⟩ := hR.at_ (by rw [kc_len]; omega)
    refine wp_skip ?_
    refine wp_seq (wp_block ?_)
    refine wp_region_lit ?_
    refine t_net 0 6 (by kernel_rfl) rfl hF ?_
    refine net_cons rfl rfl (n_move rfl (ev rfl)) ?_
    refine net_cons rfl rfl (n_move rfl (ev rfl)) ?_
    refine net_cons rfl rfl (n_move rfl (ev rfl)) ?_
    refine net_cons rfl rfl (n_indexS (off' := oX + (i)) rfl (ev rfl) (ev rfl) Try.underlying108 Try.sizeOf5 (by omega) (by omega)) ?_
    refine net_cons rfl rfl (n_load rfl (ev rfl) (fun w2 hx2 => ld1R hcX hx0 Try.isAgg5 (by omega) w2 (hw.ext.trans hx2))) ?_
    refine net_cons rfl rfl (n_indexA (off' := i) rfl (ev rfl) (ev rfl) Try.runUnderlying23 Try.sizeOf5 (by omega) (by omega)) ?_
    refine net_nil fun a w1 hF hx => ?_
    replace hw := hw.next hx
    replace hF := hF.keep (.cons (t := 0) rfl (.cons (t := 2) rfl (.cons (t := 3) rfl (.cons (t := 4) rfl (.cons (t := 12) rfl (.cons (t := 19) rfl (.cons (t := 20) rfl .nil)))))))
    refine t_store (i := 1) rfl rfl rfl hF hw rfl (ev rfl) (ev rfl) rfl one1 Try.sizeOf5 rfl (by rw [fillTo_len, kc_len]; omega) (fillTo_step hx0) fun w1 hw => ?_
    refine wpList_nil ?_
    refine reg_seq 3 (hF _ _) (by kernel_rfl) ?_
    refine net_cons rfl rfl (n_move rfl (ev rfl)) ?_
    refine net_cons rfl rfl (n_bin rfl (ev rfl) evc (r_inc (by omega))) ?_
    refine net_cons rfl rfl (n_assign rfl (ev rfl)) ?_
    refine net_nil fun a w1 hF hx => ?_
    replace hw := hw.next hx
    replace hF := hF.keep (.cons (t := 0) rfl (.cons (t := 2) rfl (.cons (t := 3) rfl (.cons (t := 4) rfl (.cons (t := 12) rfl (.cons (t := 19) rfl (.cons (t := 20) rfl .nil)))))))
    refine wpList_nil ?_
    exact ⟨i + 1, ⟨hF.keep (.cons (t := 0) rfl (.cons (t := 2) rfl (.cons (t := 3) rfl (.cons (t := 4) rfl (.nil))))), hw, by omega⟩, by omega⟩
  · obtain rfl : i = 16 := by have : ¬ i < 16 := by { intro h; simp [h] at h12 }; omega
    rw [fillTo_full (kc_len k)] at hw
    refine wp_exit (go_then_e (go_then_e (go_exit ?_)))
    refine wp_seq (wp_region_lit ?_)
    refine t_net 0 1 (by kernel_rfl) rfl hF ?_
    refine net_cons rfl rfl (n_load rfl (ev rfl) (ldN hw (i := 1) (vs := _) rfl Try.isAgg23 Try.sizeOf23 (kc_len _) (cut_whole (kc_len _)))) ?_
    refine net_nil fun a w1 hF hx => ?_
    replace hw := hw.next hx
    replace hF := hF.keep (.cons (t := 0) rfl (.cons (t := 2) rfl (.cons (t := 3) rfl (.cons (t := 4) rfl (.cons (t := 12) rfl (.cons (t := 21) rfl .nil))))))
    refine t_store (i := 0) rfl rfl rfl hF hw rfl (ev rfl) (ev rfl) rfl (kc_one _) Try.sizeOf23 (kc_len _) (by decide) (seg_whole (by rw [kc_len]; rfl)) fun w1 hw => ?_
    refine wpList_nil ?_
    refine wp_ret (retc hF Try.results148 rfl (ldN hw (i := 0) (vs := _) rfl Try.isAgg23 Try.sizeOf23 (kc_len _) (cut_whole (kc_len _)) _ (Ext.refl _)) ?_)
    exact ⟨_, rfl, hw.ext, rfl⟩


/-- A number in so many bytes, the highest first. -/
def bytesL (n : Nat) : Nat → List Nat
  | 0 => []
  | i + 1 => (n / 256 ^ i % 256) :: bytesL n i
theorem bytesL_len (n s : Nat) : (bytesL n s).length = s := by
  induction s with
  | zero => rfl
  | succ s ih => simp [bytesL, ih]
theorem conv_u8 {m : Nat} (h : m < 256) : IntKind.u8.wrap (m : Int) = (m : Int) := by
  rw [IntKind.wrap_u8]
  omega
theorem one_b8 (l : List Nat) : ∀ u ∈ l.map B8, u.oneCell' = true := by
  intro u hu
  obtain ⟨n, _, rfl⟩ := List.mem_map.1 hu
  rfl
theorem div_pow_lt {n i : Nat} (h : n < 18446744073709551616) : n / 256 ^ i < 18446744073709551616 := Nat.lt_of_le_of_lt (Nat.div_le_self _ _) h
theorem bytesL_bl (x : BitVec 64) : bytesL x.toNat 8 = bl x := by
  have key : ∀ j, x.toNat / 256 ^ j % 256 = (x >>> (8 * j)).toNat % 256 := fun j => by
    rw [BitVec.toNat_ushiftRight, Nat.shiftRight_eq_div_pow, Nat.pow_mul]
  simp only [bytesL, bl, key]
  rfl
theorem bytesL_kc (x y : BitVec 64) : (bytesL x.toNat 8).map B8 ++ (bytesL y.toNat 8).map B8 = kc ⟨x, y⟩ := by
  rw [bytesL_bl, bytesL_bl, ← List.map_append]
  rfl


theorem Bytes_c (n s : Nat) (hn : n < 18446744073709551616) (hs : s ≤ 8) (w : World) : RetF Try.prog 149 [U n, I (s : Int)].toArray w (.ex 5 1 s ((bytesL n s).map B8) (fun v => v)) := by
  refine enter Try.func149 rfl Try.ntmps149 rfl fun a hF => ?_
  have hw := Own.start w
  refine wp_seq (reg_seq 1 (hF _ _) (by kernel_rfl) ?_)
  refine net_cons rfl rfl (n_assign rfl evc) ?_
  refine net_nil fun a w1 hF hx => ?_
  replace hw := hw.next hx
  replace hF := hF.keep (.cons (t := 0) rfl (.cons (t := 1) rfl (.cons (t := 4) rfl .nil)))
  refine wpList_nil ?_
  refine wp_seq (reg_seq 1 (hF _ _) (by kernel_rfl) ?_)
  refine net_cons rfl rfl (n_assign rfl evc) ?_
  refine net_nil fun a w1 hF hx => ?_
  replace hw := hw.next hx
  replace hF := hF.keep (.cons (t := 0) rfl (.cons (t := 1) rfl (.cons (t := 4) rfl (.cons (t := 5) rfl .nil))))
  refine wpList_nil ?_
  refine wp_seq ?_
  refine wp_seq (reg_seq 1 (hF _ _) (by kernel_rfl) ?_)
  refine net_cons rfl rfl (n_assign rfl evc) ?_
  refine net_nil fun a w1 hF hx => ?_
  replace hw := hw.next hx
  replace hF := hF.keep (.cons (t := 0) rfl (.cons (t := 1) rfl (.cons (t := 4) rfl (.cons (t := 5) rfl (.cons (t := 6) rfl .nil)))))
  refine wpList_nil ?_
  refine wp_block ?_
  replace hw := hw.addNil 5 1
  refine wp_loop_ix (α := Nat × Value) (fun ⟨i, v⟩ a w1 => FrV 21 [] [(0, .is (U (n / 256 ^ i))) , (1, .is (I (s : Int))) , (5, .is (v)) , (6, .is (I (i : Int)))] a ∧ Own w w1 [.row v 5 1 i ((bytesL n i).map B8)] ∧ (i ≤ s)) (fun ⟨i, v⟩ => s - i) ((0, .slice none 0 0)) ⟨(by simpa using hF.keep (.cons (t := 0) rfl (.cons (t := 1) rfl (.cons (t := 5) rfl (.cons (t := 6) rfl .nil))))), hw, Nat.zero_le _⟩ ?_
  rintro ⟨i, v⟩ a w1 ⟨hF, hw, hi0⟩
  refine wp_seq ?_
  refine wp_seq (reg_seq 3 (hF _ _) (by kernel_rfl) ?_)
  refine net_cons rfl rfl (n_move rfl (ev rfl)) ?_
  refine net_cons rfl rfl (n_move rfl (ev rfl)) ?_
  refine net_cons rfl rfl (n_bin rfl (ev rfl) (ev rfl) r_lssN) ?_
  refine net_nil fun a w1 hF hx => ?_
  replace hw := hw.next hx
  replace hF := hF.keep (.cons (t := 0) rfl (.cons (t := 1) rfl (.cons (t := 5) rfl (.cons (t := 6) rfl (.cons (t := 9) rfl .nil)))))
  refine wpList_nil ?_
  refine wp_cond_split (hF.ev (ev rfl)) (fun h9 => ?_) (fun h9 => ?_)
  · have hi : i < s := of_bool_t h9
    refine wp_skip ?_
    refine wp_seq (wp_block ?_)
    refine wp_seq (wp_region_lit ?_)
    refine t_net 0 4 (by kernel_rfl) rfl hF ?_
    refine net_cons rfl rfl (n_move rfl (ev rfl)) ?_
    refine net_cons rfl rfl (n_bin rfl (ev rfl) evc (r_remN (b := 256) (by decide))) ?_
    refine net_cons rfl rfl (n_convT rfl (ev rfl) Try.underlying24 Try.underlying5 (conv_u8 (Nat.mod_lt _ (by decide)))) ?_
    refine net_cons rfl rfl (n_bsl sl108 rfl (.cons (ev rfl) .nil) (.cons rfl rfl .nil) rfl (by decide) (by decide)) ?_
    refine net_nil fun a w1 hF hx => ?_
    obtain ⟨b15, h_, hw⟩ := hw.cap hx (hF.at_ 15 _ rfl)
    replace hF := hF.now (v := .slice (some ⟨b15, 0, none⟩) (1) (1)) h_
    replace hF := hF.keep (.cons (t := 0) rfl (.cons (t := 1) rfl (.cons (t := 5) rfl (.cons (t := 6) rfl (.cons (t := 9) rfl (.cons (t := 15) rfl .nil))))))
    refine t_net 4 1 (by kernel_rfl) rfl hF ?_
    refine net_cons rfl rfl (n_move rfl (ev rfl)) ?_
    refine net_nil fun a w1 hF hx => ?_
    replace hw := hw.next hx
    replace hF := hF.keep (.cons (t := 0) rfl (.cons (t := 1) rfl (.cons (t := 5) rfl (.cons (t := 6) rfl (.cons (t := 9) rfl (.cons (t := 15) rfl (.cons (t := 16) rfl .nil)))))))
    obtain ⟨A5, c5, rfl, hc5, hR5, hl5⟩ := hw.rd (i := 0) rfl
    replace hw := hw.blkRow (i := 1) (sz := 1) (n := 1) (by rfl) (by rfl) (by decide)
    refine t_append (i := 1) sl108 rfl rfl rfl (by decide) hF hw rfl (ev rfl) (ev rfl) hR5 hl5 (one_b8 _) (by simp only [maxLen]; omega) (by omega) fun v17 a w1 hF hw => ?_
    replace hF := hF.keep (.cons (t := 0) rfl (.cons (t := 1) rfl (.cons (t := 5) rfl (.cons (t := 6) rfl (.cons (t := 9) rfl (.cons (t := 17) rfl .nil))))))
    replace hw := hw.drop (.cons _ (.cons_cons _ .slnil))
    refine t_net 6 1 (by kernel_rfl) rfl hF ?_
    refine net_cons rfl rfl (n_assign rfl (ev rfl)) ?_
    refine net_nil fun a w1 hF hx => ?_
    replace hw := hw.next hx
    replace hF := hF.keep (.cons (t := 0) rfl (.cons (t := 1) rfl (.cons (t := 5) rfl (.cons (t := 6) rfl (.cons (t := 9) rfl .nil)))))
    refine wpList_nil ?_
    refine reg_seq 3 (hF _ _) (by kernel_rfl) ?_
    refine net_cons rfl rfl (n_move rfl (ev rfl)) ?_
    refine net_cons rfl rfl (n_to (n_bin rfl (ev rfl) evc (r_quoN (b := 256) (by decide) (div_pow_lt hn))) (congrArg (fun m : Nat => U m) (by rw [Nat.div_div_eq_div_mul, ← Nat.pow_succ]))) ?_
    refine net_cons rfl rfl (n_assign rfl (ev rfl)) ?_
    refine net_nil fun a w1 hF hx => ?_
    replace hw := hw.next hx
    replace hF := hF.keep (.cons (t := 0) rfl (.cons (t := 1) rfl (.cons (t := 5) rfl (.cons (t := 6) rfl (.cons (t := 9) rfl .nil)))))
    refine wpList_nil ?_
    refine reg_seq 3 (hF _ _) (by kernel_rfl) ?_
    refine net_cons rfl rfl (n_move rfl (ev rfl)) ?_
    refine net_cons rfl rfl (n_bin rfl (ev rfl) evc (r_inc (by omega))) ?_
    refine net_cons rfl rfl (n_assign rfl (ev rfl)) ?_
    refine net_nil fun a w1 hF hx => ?_
    replace hw := hw.next hx
    replace hF := hF.keep (.cons (t := 0) rfl (.cons (t := 1) rfl (.cons (t := 5) rfl (.cons (t := 6) rfl (.cons (t := 9) rfl .nil)))))
    refine wpList_nil ?_
    exact ⟨(i + 1, v17), ⟨hF.keep (.cons (t := 0) rfl (.cons (t := 1) rfl (.cons (t := 5) rfl (.cons (t := 6) rfl (.nil))))), (by rw [Nat.add_comm 1 i] at hw; exact hw), by omega⟩, (by show s - (i + 1) < s - i; omega)⟩
  · obtain rfl : i = s := by have := of_bool_f h9; omega
    refine wp_exit (go_then_e (go_then_e (go_exit ?_)))
    refine wp_seq (reg_seq 2 (hF _ _) (by kernel_rfl) ?_)
    refine net_cons rfl rfl (n_move rfl (ev rfl)) ?_
    refine net_cons rfl rfl (n_assign rfl (ev rfl)) ?_
    refine net_nil fun a w1 hF hx => ?_
    replace hw := hw.next hx
    replace hF := hF.keep (.cons (t := 0) rfl (.cons (t := 1) rfl (.cons (t := 4) rfl (.cons (t := 5) rfl (.cons (t := 6) rfl (.cons (t := 9) rfl .nil))))))
    refine wpList_nil ?_
    refine wp_ret (ret1 hF Try.results149 rfl ?_)
    exact ⟨_, rfl, hw.ext, v, hw.row (i := 0) rfl, rfl⟩

theorem rblock_c (x y : BitVec 64) (w : World) : RetF Try.prog 131 [W x, W y].toArray w (.is (K ⟨x, y⟩)) := by
  refine enter Try.func131 rfl Try.ntmps131 rfl fun a hF => ?_
  have hw := Own.start w
  refine wp_seq (wp_region_lit ?_)
  refine t_net 0 1 (by kernel_rfl) rfl hF ?_
  refine net_cons rfl rfl (n_alloc rfl Try.zeroValue23 rfl) ?_
  refine net_nil fun a w1 hF hx => ?_
  obtain ⟨b4, h_, hw⟩ := hw.blk hx (hF.at_ 4 _ rfl)
  replace hF := hF.now h_
  replace hF := hF.keep (.cons (t := 0) rfl (.cons (t := 1) rfl (.cons (t := 4) rfl .nil)))
  refine wpList_nil ?_
  refine wp_seq (wp_region_lit ?_)
  refine t_net 0 2 (by kernel_rfl) rfl hF ?_
  refine net_cons rfl rfl (n_move rfl (ev rfl)) ?_
  refine net_cons rfl rfl (n_ret rfl Try.call149 (.cons (ev rfl) (.cons evc .nil)) (fun _ hx => Bytes_c _ 8 x.isLt (by decide) _)) ?_
  refine net_nil fun a w1 hF hx => ?_
  obtain ⟨s6, h_, hw⟩ := hw.ex hx (hF.at_ 6 _ rfl)
  replace hF := hF.now h_
  replace hF := hF.keep (.cons (t := 1) rfl (.cons (t := 4) rfl (.cons (t := 6) rfl .nil)))
  refine t_net 2 2 (by kernel_rfl) rfl hF ?_
  refine net_cons rfl rfl (n_move rfl (ev rfl)) ?_
  refine net_cons rfl rfl (n_ret rfl Try.call149 (.cons (ev rfl) (.cons evc .nil)) (fun _ hx => Bytes_c _ 8 y.isLt (by decide) _)) ?_
  refine net_nil fun a w1 hF hx => ?_
  obtain ⟨s8, h_, hw⟩ := hw.ex hx (hF.at_ 8 _ rfl)
  replace hF := hF.now h_
  replace hF := hF.keep (.cons (t := 4) rfl (.cons (t := 6) rfl (.cons (t := 8) rfl .nil)))
  obtain ⟨A8, c8, rfl, hc8, hR8, hl8⟩ := hw.rd (i := 2) rfl
  refine t_append (i := 1) sl108 rfl rfl rfl (by decide) hF hw rfl (ev rfl) (ev rfl) hR8 hl8 (one_b8 _) (by simp only [maxLen]; omega) (by omega) fun v9 a w1 hF hw => ?_
  replace hF := hF.keep (.cons (t := 4) rfl (.cons (t := 9) rfl .nil))
  obtain ⟨A9, c9, rfl, hc9, hR9, hl9⟩ := hw.rd (i := 1) rfl
  refine t_net 5 1 (by kernel_rfl) rfl hF ?_
  refine net_cons rfl rfl (n_ret rfl Try.call148 (.cons (ev rfl) .nil) (fun _ hx => (key_c ⟨x, y⟩ A9 c9 _ ((bytesL_kc x y ▸ hR9).ext hx)))) ?_
  refine net_nil fun a w1 hF hx => ?_
  replace hw := hw.next hx
  replace hF := hF.keep (.cons (t := 4) rfl (.cons (t := 10) rfl .nil))
  refine t_store (i := 0) rfl rfl rfl hF hw rfl (ev rfl) (ev rfl) rfl (kc_one _) Try.sizeOf23 (kc_len _) (by first | decide | (rw [kc_len]; decide)) (seg_whole (by rw [kc_len]; rfl)) fun w1 hw => ?_
  refine wpList_nil ?_
  refine wp_ret (retc hF Try.results131 rfl (ldN hw (i := 0) (vs := _) rfl Try.isAgg23 Try.sizeOf23 (kc_len _) (cut_whole (kc_len _)) _ (Ext.refl _)) ?_)
  exact ⟨_, rfl, hw.ext, rfl⟩


theorem tag_bytes : ∀ t : Fin 256, bl ((BitVec.ofNat 64 t.val <<< 56) ||| 0#64) = t.val :: List.replicate 7 0 := by decide +kernel
theorem blk_kc (t : Nat) (ht : t < 256) (n : BitVec 64) : [B8 t] ++ (bytesL 0 7).map B8 ++ (bytesL n.toNat 8).map B8 = kc (blkK t 0#64 n) := by
  have h := tag_bytes ⟨t, ht⟩
  have e : kc (blkK t 0#64 n) = (bl ((BitVec.ofNat 64 t <<< 56) ||| 0#64)).map B8 ++ (bl n).map B8 := by
    rw [← List.map_append]
    rfl
  rw [e, h, bytesL_bl]
  rfl


theorem Block_c (t : Nat) (n : BitVec 64) (ht : t < 256) (w : World) : RetF Try.prog 132 [B8 t, U 0, W n].toArray w (.is (K (blkK t 0#64 n))) := by
  refine enter Try.func132 rfl Try.ntmps132 rfl fun a hF => ?_
  have hw := Own.start w
  refine wp_seq (wp_region_lit ?_)
  refine t_net 0 1 (by kernel_rfl) rfl hF ?_
  refine net_cons rfl rfl (n_alloc rfl Try.zeroValue23 rfl) ?_
  refine net_nil fun a w1 hF hx => ?_
  obtain ⟨b6, h_, hw⟩ := hw.blk hx (hF.at_ 6 _ rfl)
  replace hF := hF.now h_
  replace hF := hF.keep (.cons (t := 0) rfl (.cons (t := 1) rfl (.cons (t := 2) rfl (.cons (t := 6) rfl .nil))))
  refine wpList_nil ?_
  refine wp_seq (wp_region_lit ?_)
  refine t_net 0 2 (by kernel_rfl) rfl hF ?_
  refine net_cons rfl rfl (n_move rfl (ev rfl)) ?_
  refine net_cons rfl rfl (n_bsl sl108 rfl (.cons (ev rfl) .nil) (.cons rfl rfl .nil) rfl (by decide) (by decide)) ?_
  refine net_nil fun a w1 hF hx => ?_
  obtain ⟨b9, h_, hw⟩ := hw.cap hx (hF.at_ 9 _ rfl)
  replace hF := hF.now (v := .slice (some ⟨b9, 0, none⟩) (1) (1)) h_
  replace hF := hF.keep (.cons (t := 1) rfl (.cons (t := 2) rfl (.cons (t := 6) rfl (.cons (t := 9) rfl .nil))))
  refine t_net 2 2 (by kernel_rfl) rfl hF ?_
  refine net_cons rfl rfl (n_move rfl (ev rfl)) ?_
  refine net_cons rfl rfl (n_ret rfl Try.call149 (.cons (ev rfl) (.cons evc .nil)) (fun _ hx => Bytes_c 0 7 (by decide) (by decide) _)) ?_
  refine net_nil fun a w1 hF hx => ?_
  obtain ⟨s11, h_, hw⟩ := hw.ex hx (hF.at_ 11 _ rfl)
  replace hF := hF.now h_
  replace hF := hF.keep (.cons (t := 2) rfl (.cons (t := 6) rfl (.cons (t := 9) rfl (.cons (t := 11) rfl .nil))))
  obtain ⟨A8, c8, rfl, hc8, hR8, hl8⟩ := hw.rd (i := 2) rfl
  replace hw := hw.blkRow (i := 1) (sz := 1) (n := 1) (by rfl) (by rfl) (by decide)
  refine t_append (i := 1) sl108 rfl rfl rfl (by decide) hF hw rfl (ev rfl) (ev rfl) hR8 hl8 (one_b8 _) (by simp only [maxLen]; omega) (by omega) fun v12 a w1 hF hw => ?_
  replace hF := hF.keep (.cons (t := 2) rfl (.cons (t := 6) rfl (.cons (t := 12) rfl .nil)))
  refine t_net 5 1 (by kernel_rfl) rfl hF ?_
  refine net_cons rfl rfl (n_assign rfl (ev rfl)) ?_
  refine net_nil fun a w1 hF hx => ?_
  replace hw := hw.next hx
  replace hF := hF.keep (.cons (t := 2) rfl (.cons (t := 6) rfl (.cons (t := 7) rfl .nil)))
  refine wpList_nil ?_
  refine wp_seq (wp_region_lit ?_)
  refine t_net 0 3 (by kernel_rfl) rfl hF ?_
  refine net_cons rfl rfl (n_move rfl (ev rfl)) ?_
  refine net_cons rfl rfl (n_move rfl (ev rfl)) ?_
  refine net_cons rfl rfl (n_ret rfl Try.call149 (.cons (ev rfl) (.cons evc .nil)) (fun _ hx => Bytes_c _ 8 n.isLt (by decide) _)) ?_
  refine net_nil fun a w1 hF hx => ?_
  obtain ⟨s15, h_, hw⟩ := hw.ex hx (hF.at_ 15 _ rfl)
  replace hF := hF.now h_
  replace hF := hF.keep (.cons (t := 6) rfl (.cons (t := 13) rfl (.cons (t := 15) rfl .nil)))
  obtain ⟨A7, c7, rfl, hc7, hR7, hl7⟩ := hw.rd (i := 3) rfl
  refine t_append (i := 1) sl108 rfl rfl rfl (by decide) hF hw rfl (ev rfl) (ev rfl) hR7 hl7 (one_b8 _) (by simp only [maxLen]; omega) (by omega) fun v16 a w1 hF hw => ?_
  replace hF := hF.keep (.cons (t := 6) rfl (.cons (t := 16) rfl .nil))
  obtain ⟨A9, c9, rfl, hc9, hR9, hl9⟩ := hw.rd (i := 1) rfl
  refine t_net 4 1 (by kernel_rfl) rfl hF ?_
  refine net_cons rfl rfl (n_ret rfl Try.call148 (.cons (ev rfl) .nil) (fun _ hx => (key_c (blkK t 0#64 n) A9 c9 _ ((blk_kc t ht n ▸ hR9).ext hx)))) ?_
  refine net_nil fun a w1 hF hx => ?_
  replace hw := hw.next hx
  replace hF := hF.keep (.cons (t := 6) rfl (.cons (t := 17) rfl .nil))
  refine t_store (i := 0) rfl rfl rfl hF hw rfl (ev rfl) (ev rfl) rfl (kc_one _) Try.sizeOf23 (kc_len _) (by first | decide | (rw [kc_len]; decide)) (seg_whole (by rw [kc_len]; rfl)) fun w1 hw => ?_
  refine wpList_nil ?_
  refine wp_ret (retc hF Try.results132 rfl (ldN hw (i := 0) (vs := _) rfl Try.isAgg23 Try.sizeOf23 (kc_len _) (cut_whole (kc_len _)) _ (Ext.refl _)) ?_)
  exact ⟨_, rfl, hw.ext, rfl⟩


def rotr (x : BitVec 64) (n : Nat) : BitVec 64 := (x >>> n) ||| (x <<< (64 - n))
theorem r_sub64 {P : Program} {t : TypeId} {n : Nat} (h : n ≤ 64) : R2 P .sub t (I 64) (I (n : Int)) (I ((64 - n : Nat) : Int)) := by
  have := r_subI (P := P) (t := t) (a := 64) (b := (n : Int)) (by omega) (by omega)
  rwa [show (64 - (n : Int)) = ((64 - n : Nat) : Int) by omega] at this


theorem rotr_c (x : BitVec 64) (n : Nat) (hn : n ≤ 64) (w : World) : RetF Try.prog 129 [W x, I (n : Int)].toArray w (.is (W (rotr x n))) := by
  refine enter Try.func129 rfl Try.ntmps129 rfl fun a hF => ?_
  have hw := Own.start w
  refine wp_seq (reg_seq 1 (hF _ _) (by kernel_rfl) ?_)
  refine net_cons rfl rfl (n_assign rfl evc) ?_
  refine net_nil fun a w1 hF hx => ?_
  replace hw := hw.next hx
  replace hF := hF.keep (.cons (t := 0) rfl (.cons (t := 1) rfl (.cons (t := 4) rfl .nil)))
  refine wpList_nil ?_
  refine wp_seq (reg_draw 9 mixed (by kernel_rfl) (hF _ _) ?_)
  refine net_cons rfl rfl (n_move rfl (ev rfl)) ?_
  refine net_cons rfl rfl (n_move rfl (ev rfl)) ?_
  refine net_cons rfl rfl (n_bin rfl (ev rfl) (ev rfl) (r_shrB hn)) ?_
  refine net_cons rfl rfl (n_move rfl (ev rfl)) ?_
  refine net_cons rfl rfl (n_move rfl (ev rfl)) ?_
  refine net_cons rfl rfl (n_bin rfl evc (ev rfl) (r_sub64 hn)) ?_
  refine net_cons rfl rfl (n_bin rfl (ev rfl) (ev rfl) (r_shlB (by omega))) ?_
  refine net_cons rfl rfl (n_bin rfl (ev rfl) (ev rfl) r_orB) ?_
  refine net_cons rfl rfl (n_assign rfl (ev rfl)) ?_
  refine net_nil fun a w1 hF hx => ?_
  replace hw := hw.next hx
  replace hF := hF.keep (.cons (t := 4) rfl .nil)
  refine wpList_nil ?_
  refine wp_ret (ret1 hF Try.results129 rfl ?_)
  exact ⟨_, rfl, hw.ext, rfl⟩

theorem rotl_c (x : BitVec 64) (n : Nat) (hn : n ≤ 64) (w : World) : RetF Try.prog 130 [W x, I (n : Int)].toArray w (.is (W (rotr x (64 - n)))) := by
  refine enter Try.func130 rfl Try.ntmps130 rfl fun a hF => ?_
  have hw := Own.start w
  refine wp_seq (reg_seq 1 (hF _ _) (by kernel_rfl) ?_)
  refine net_cons rfl rfl (n_assign rfl evc) ?_
  refine net_nil fun a w1 hF hx => ?_
  replace hw := hw.next hx
  replace hF := hF.keep (.cons (t := 0) rfl (.cons (t := 1) rfl (.cons (t := 4) rfl .nil)))
  refine wpList_nil ?_
  refine wp_seq (reg_seq 5 (hF _ _) (by kernel_rfl) ?_)
  refine net_cons rfl rfl (n_move rfl (ev rfl)) ?_
  refine net_cons rfl rfl (n_move rfl (ev rfl)) ?_
  refine net_cons rfl rfl (n_bin rfl evc (ev rfl) (r_sub64 hn)) ?_
  refine net_cons rfl rfl (n_ret rfl Try.call129 (.cons (ev rfl) (.cons (ev rfl) .nil)) (fun _ hx => rotr_c _ _ (by omega) _)) ?_
  refine net_cons rfl rfl (n_assign rfl (ev rfl)) ?_
  refine net_nil fun a w1 hF hx => ?_
  replace hw := hw.next hx
  replace hF := hF.keep (.cons (t := 4) rfl .nil)
  refine wpList_nil ?_
  refine wp_ret (ret1 hF Try.results130 rfl ?_)
  exact ⟨_, rfl, hw.ext, rfl⟩


theorem rotr8 (x : BitVec 64) : rotl x (rotn (-8)) = rotr x 8 := by
  rw [show rotn (-8) = 56 by decide]
  unfold rotl rotr
  rw [BitVec.or_comm]
theorem rotl3 (x : BitVec 64) : rotl x (rotn 3) = rotr x (64 - 3) := by
  rw [show rotn 3 = 3 by decide]
  unfold rotl rotr
  rw [BitVec.or_comm]
theorem rotr3 (x : BitVec 64) : rotl x (rotn (-3)) = rotr x 3 := by
  rw [show rotn (-3) = 61 by decide]
  unfold rotl rotr
  rw [BitVec.or_comm]
theorem rotl8 (x : BitVec 64) : rotl x (rotn 8) = rotr x (64 - 8) := by
  rw [show rotn 8 = 8 by decide]
  unfold rotl rotr
  rw [BitVec.or_comm]
/-- The first n round keys. -/
def rk (k : Key) (n : Nat) : List Value := (List.range n).map fun i => W (ks k i).2
theorem rk_len (k : Key) (n : Nat) : (rk k n).length = n := by simp [rk]
theorem rk_succ (k : Key) (n : Nat) : rk k n ++ [W (ks k n).2] = rk k (n + 1) := by simp [rk, List.range_succ]
theorem rk_at (k : Key) (n i : Nat) (h : i < n) : (rk k n)[i]? = some (W (ks k i).2) := by simp [rk, h]
theorem one_rk (k : Key) (n : Nat) : ∀ u ∈ rk k n, u.oneCell' = true := by
  intro u hu
  obtain ⟨n, _, rfl⟩ := List.mem_map.1 hu
  rfl
theorem ks1 (k : Key) (i : Nat) : (ks k i).2 + rotr (ks k i).1 8 ^^^ BitVec.ofInt 64 i = (ks k (i + 1)).1 := by
  show _ = (rnd (ks k i) (BitVec.ofInt 64 i)).1
  rw [rnd, rotr8, BitVec.add_comm]
theorem ks2 (k : Key) (i : Nat) : rotr (ks k i).2 (64 - 3) ^^^ (ks k (i + 1)).1 = (ks k (i + 1)).2 := by
  show _ ^^^ (rnd (ks k i) (BitVec.ofInt 64 i)).1 = (rnd (ks k i) (BitVec.ofInt 64 i)).2
  rw [rnd, rotl3]
theorem es1 (k b : Key) (i : Nat) : (rotr (esK k b i).1 8 + (esK k b i).2) ^^^ (ks k i).2 = (esK k b (i + 1)).1 := by
  show _ = (rnd (esK k b i) (ks k i).2).1
  rw [rnd, rotr8]
theorem es2 (k b : Key) (i : Nat) : rotr (esK k b i).2 (64 - 3) ^^^ (esK k b (i + 1)).1 = (esK k b (i + 1)).2 := by
  show _ ^^^ (rnd (esK k b i) (ks k i).2).1 = (rnd (esK k b i) (ks k i).2).2
  rw [rnd, rotl3]


theorem roundKeys_c (k : Key) (w : World) : RetF Try.prog 128 [K k].toArray w (.ex 24 1 32 (rk k 32) (fun v => v)) := by
  refine enter Try.func128 rfl Try.ntmps128 rfl fun a hF => ?_
  have hw := Own.start w
  refine wp_seq (wp_region_lit ?_)
  refine t_net 0 1 (by kernel_rfl) rfl hF ?_
  refine net_cons rfl rfl (n_box rfl (ev rfl) rfl) ?_
  refine net_nil fun a w1 hF hx => ?_
  obtain ⟨b1, h_, hw⟩ := hw.blk hx (hF.at_ 1 _ rfl)
  replace hF := hF.now h_
  replace hF := hF.keep (.cons (t := 1) rfl .nil)
  refine t_net 1 1 (by kernel_rfl) rfl hF ?_
  refine net_cons rfl rfl (n_assign rfl evc) ?_
  refine net_nil fun a w1 hF hx => ?_
  replace hw := hw.next hx
  replace hF := hF.keep (.cons (t := 1) rfl (.cons (t := 2) rfl .nil))
  refine wpList_nil ?_
  refine wp_seq (reg_seq 7 (hF _ _) (by kernel_rfl) ?_)
  refine net_cons rfl rfl (n_load rfl (ev rfl) (ldN hw (i := 0) (vs := _) rfl Try.isAgg23 Try.sizeOf23 (kc_len _) (cut_whole (kc_len _)))) ?_
  refine net_cons rfl rfl (n_ret rfl Try.call127 (.cons (ev rfl) .nil) (fun _ hx => words_c _ _)) ?_
  refine net_cons rfl rfl (n_move rfl (ev rfl)) ?_
  refine net_cons rfl rfl (n_extract rfl (ev rfl) rfl) ?_
  refine net_cons rfl rfl (n_extract rfl (ev rfl) rfl) ?_
  refine net_cons rfl rfl (n_assign rfl (ev rfl)) ?_
  refine net_cons rfl rfl (n_assign rfl (ev rfl)) ?_
  refine net_nil fun a w1 hF hx => ?_
  replace hw := hw.next hx
  replace hF := hF.keep (.cons (t := 2) rfl (.cons (t := 3) rfl (.cons (t := 4) rfl .nil)))
  refine wpList_nil ?_
  refine wp_seq (wp_region_lit ?_)
  refine t_net 0 2 (by kernel_rfl) rfl hF ?_
  refine net_cons rfl rfl (n_move rfl (ev rfl)) ?_
  refine net_cons rfl rfl (n_bsl sl63 rfl (.cons (ev rfl) .nil) (.cons rfl rfl .nil) rfl (by decide) (by decide)) ?_
  refine net_nil fun a w1 hF hx => ?_
  obtain ⟨b13, h_, hw⟩ := hw.cap hx (hF.at_ 13 _ rfl)
  replace hF := hF.now (v := .slice (some ⟨b13, 0, none⟩) (1) (1)) h_
  replace hF := hF.keep (.cons (t := 2) rfl (.cons (t := 3) rfl (.cons (t := 4) rfl (.cons (t := 13) rfl .nil))))
  refine t_net 2 1 (by kernel_rfl) rfl hF ?_
  refine net_cons rfl rfl (n_assign rfl (ev rfl)) ?_
  refine net_nil fun a w1 hF hx => ?_
  replace hw := hw.next hx
  replace hF := hF.keep (.cons (t := 2) rfl (.cons (t := 3) rfl (.cons (t := 4) rfl (.cons (t := 5) rfl .nil))))
  refine wpList_nil ?_
  refine wp_seq ?_
  refine wp_seq (reg_seq 1 (hF _ _) (by kernel_rfl) ?_)
  refine net_cons rfl rfl (n_assign rfl evc) ?_
  refine net_nil fun a w1 hF hx => ?_
  replace hw := hw.next hx
  replace hF := hF.keep (.cons (t := 2) rfl (.cons (t := 3) rfl (.cons (t := 4) rfl (.cons (t := 5) rfl (.cons (t := 6) rfl .nil)))))
  refine wpList_nil ?_
  refine wp_block ?_
  refine wp_loop_ix (α := Nat × Value) (fun ⟨i, v⟩ a w1 => FrV 34 [] [(3, .is (W (ks k i).1)) , (4, .is (W (ks k i).2)) , (5, .is (v)) , (6, .is (I (i : Int)))] a ∧ Own w w1 [.blk b1 23 (kc k), .row v 24 1 (i + 1) (rk k (i + 1))] ∧ (i ≤ 31)) (fun ⟨i, v⟩ => 31 - i) ((0, .slice (some ⟨b13, 0, none⟩) 1 1)) ⟨hF.keep (.cons (t := 3) rfl (.cons (t := 4) rfl (.cons (t := 5) rfl (.cons (t := 6) rfl (.nil))))), (hw.blkRow (i := 1) (sz := 1) (n := 1) (by rfl) (by rfl) (by decide)), by decide⟩ ?_
  rintro ⟨i, v⟩ a w1 ⟨hF, hw, hi0⟩
  refine wp_seq ?_
  refine wp_seq (reg_seq 2 (hF _ _) (by kernel_rfl) ?_)
  refine net_cons rfl rfl (n_move rfl (ev rfl)) ?_
  refine net_cons rfl rfl (n_bin rfl (ev rfl) evc (r_lssN (b := 31))) ?_
  refine net_nil fun a w1 hF hx => ?_
  replace hw := hw.next hx
  replace hF := hF.keep (.cons (t := 3) rfl (.cons (t := 4) rfl (.cons (t := 5) rfl (.cons (t := 6) rfl (.cons (t := 15) rfl .nil)))))
  refine wpList_nil ?_
  refine wp_cond_split (hF.ev (ev rfl)) (fun h15 => ?_) (fun h15 => ?_)
  · have hi : i < 31 := of_bool_t h15
    refine wp_skip ?_
    refine wp_seq (wp_block ?_)
    refine wp_seq (reg_seq 8 (hF _ _) (by kernel_rfl) ?_)
    refine net_cons rfl rfl (n_move rfl (ev rfl)) ?_
    refine net_cons rfl rfl (n_move rfl (ev rfl)) ?_
    refine net_cons rfl rfl (n_ret rfl Try.call129 (.cons (ev rfl) (.cons evc .nil)) (fun _ hx => rotr_c _ 8 (by decide) _)) ?_
    refine net_cons rfl rfl (n_bin rfl (ev rfl) (ev rfl) r_addB) ?_
    refine net_cons rfl rfl (n_move rfl (ev rfl)) ?_
    refine net_cons rfl rfl (n_convT rfl (ev rfl) Try.underlying3 Try.underlying24 (wrap_ofInt (i : Int))) ?_
    refine net_cons rfl rfl (n_to (n_bin rfl (ev rfl) (ev rfl) r_xorB) (congrArg (fun b : BitVec 64 => W b) (ks1 k i))) ?_
    refine net_cons rfl rfl (n_assign rfl (ev rfl)) ?_
    refine net_nil fun a w1 hF hx => ?_
    replace hw := hw.next hx
    replace hF := hF.keep (.cons (t := 3) rfl (.cons (t := 4) rfl (.cons (t := 5) rfl (.cons (t := 6) rfl (.cons (t := 15) rfl .nil)))))
    refine wpList_nil ?_
    refine wp_seq (reg_seq 5 (hF _ _) (by kernel_rfl) ?_)
    refine net_cons rfl rfl (n_move rfl (ev rfl)) ?_
    refine net_cons rfl rfl (n_ret rfl Try.call130 (.cons (ev rfl) (.cons evc .nil)) (fun _ hx => rotl_c _ 3 (by decide) _)) ?_
    refine net_cons rfl rfl (n_move rfl (ev rfl)) ?_
    refine net_cons rfl rfl (n_to (n_bin rfl (ev rfl) (ev rfl) r_xorB) (congrArg (fun b : BitVec 64 => W b) (ks2 k i))) ?_
    refine net_cons rfl rfl (n_assign rfl (ev rfl)) ?_
    refine net_nil fun a w1 hF hx => ?_
    replace hw := hw.next hx
    replace hF := hF.keep (.cons (t := 3) rfl (.cons (t := 4) rfl (.cons (t := 5) rfl (.cons (t := 6) rfl (.cons (t := 15) rfl .nil)))))
    refine wpList_nil ?_
    refine wp_region_lit ?_
    refine t_net 0 3 (by kernel_rfl) rfl hF ?_
    refine net_cons rfl rfl (n_move rfl (ev rfl)) ?_
    refine net_cons rfl rfl (n_move rfl (ev rfl)) ?_
    refine net_cons rfl rfl (n_bsl sl63 rfl (.cons (ev rfl) .nil) (.cons rfl rfl .nil) rfl (by decide) (by decide)) ?_
    refine net_nil fun a w1 hF hx => ?_
    obtain ⟨b31, h_, hw⟩ := hw.cap hx (hF.at_ 31 _ rfl)
    replace hF := hF.now (v := .slice (some ⟨b31, 0, none⟩) (1) (1)) h_
    replace hF := hF.keep (.cons (t := 3) rfl (.cons (t := 4) rfl (.cons (t := 5) rfl (.cons (t := 6) rfl (.cons (t := 15) rfl (.cons (t := 29) rfl (.cons (t := 31) rfl .nil)))))))
    refine t_append (i := 1) sl63 rfl rfl rfl (by decide) hF hw rfl (ev rfl) (ev rfl) (hw.rdWhole (i := 2) rfl) rfl one1 (by simp only [maxLen]; omega) (by omega) fun v32 a w1 hF hw => ?_
    replace hF := hF.keep (.cons (t := 3) rfl (.cons (t := 4) rfl (.cons (t := 5) rfl (.cons (t := 6) rfl (.cons (t := 15) rfl (.cons (t := 32) rfl .nil))))))
    replace hw := hw.drop (.cons_cons _ (.cons_cons _ (.cons _ .slnil)))
    refine t_net 4 1 (by kernel_rfl) rfl hF ?_
    refine net_cons rfl rfl (n_assign rfl (ev rfl)) ?_
    refine net_nil fun a w1 hF hx => ?_
    replace hw := hw.next hx
    replace hF := hF.keep (.cons (t := 3) rfl (.cons (t := 4) rfl (.cons (t := 5) rfl (.cons (t := 6) rfl (.cons (t := 15) rfl .nil)))))
    refine wpList_nil ?_
    refine reg_seq 3 (hF _ _) (by kernel_rfl) ?_
    refine net_cons rfl rfl (n_move rfl (ev rfl)) ?_
    refine net_cons rfl rfl (n_bin rfl (ev rfl) evc (r_inc (by omega))) ?_
    refine net_cons rfl rfl (n_assign rfl (ev rfl)) ?_
    refine net_nil fun a w1 hF hx => ?_
    replace hw := hw.next hx
    replace hF := hF.keep (.cons (t := 3) rfl (.cons (t := 4) rfl (.cons (t := 5) rfl (.cons (t := 6) rfl (.cons (t := 15) rfl .nil)))))
    refine wpList_nil ?_
    exact ⟨(i + 1, v32), ⟨hF.keep (.cons (t := 3) rfl (.cons (t := 4) rfl (.cons (t := 5) rfl (.cons (t := 6) rfl (.nil))))), (rk_succ k (i + 1) ▸ hw), by omega⟩, (by show 31 - (i + 1) < 31 - i; omega)⟩
  · obtain rfl : i = 31 := by have := of_bool_f h15; omega
    refine wp_exit (go_then_e (go_then_e (go_exit ?_)))
    refine wp_seq (reg_seq 2 (hF _ _) (by kernel_rfl) ?_)
    refine net_cons rfl rfl (n_move rfl (ev rfl)) ?_
    refine net_cons rfl rfl (n_assign rfl (ev rfl)) ?_
    refine net_nil fun a w1 hF hx => ?_
    replace hw := hw.next hx
    replace hF := hF.keep (.cons (t := 2) rfl (.cons (t := 3) rfl (.cons (t := 4) rfl (.cons (t := 5) rfl (.cons (t := 6) rfl (.cons (t := 15) rfl .nil))))))
    refine wpList_nil ?_
    refine wp_ret (ret1 hF Try.results128 rfl ?_)
    exact ⟨_, rfl, hw.ext, v, hw.row (i := 1) rfl, rfl⟩

theorem rEncrypt_c (k b : Key) (w : World) : RetF Try.prog 120 [K k, K b].toArray w (.is (K (encK k b))) := by
  refine enter Try.func120 rfl Try.ntmps120 rfl fun a hF => ?_
  have hw := Own.start w
  refine wp_seq (wp_region_lit ?_)
  refine t_net 0 1 (by kernel_rfl) rfl hF ?_
  refine net_cons rfl rfl (n_box rfl (ev rfl) rfl) ?_
  refine net_nil fun a w1 hF hx => ?_
  obtain ⟨b2, h_, hw⟩ := hw.blk hx (hF.at_ 2 _ rfl)
  replace hF := hF.now h_
  replace hF := hF.keep (.cons (t := 1) rfl (.cons (t := 2) rfl .nil))
  refine t_net 1 1 (by kernel_rfl) rfl hF ?_
  refine net_cons rfl rfl (n_box rfl (ev rfl) rfl) ?_
  refine net_nil fun a w1 hF hx => ?_
  obtain ⟨b3, h_, hw⟩ := hw.blk hx (hF.at_ 3 _ rfl)
  replace hF := hF.now h_
  replace hF := hF.keep (.cons (t := 2) rfl (.cons (t := 3) rfl .nil))
  refine t_net 2 1 (by kernel_rfl) rfl hF ?_
  refine net_cons rfl rfl (n_alloc rfl Try.zeroValue23 rfl) ?_
  refine net_nil fun a w1 hF hx => ?_
  obtain ⟨b4, h_, hw⟩ := hw.blk hx (hF.at_ 4 _ rfl)
  replace hF := hF.now h_
  replace hF := hF.keep (.cons (t := 2) rfl (.cons (t := 3) rfl (.cons (t := 4) rfl .nil)))
  refine wpList_nil ?_
  refine wp_seq (reg_seq 7 (hF _ _) (by kernel_rfl) ?_)
  refine net_cons rfl rfl (n_load rfl (ev rfl) (ldN hw (i := 1) (vs := _) rfl Try.isAgg23 Try.sizeOf23 (kc_len _) (cut_whole (kc_len _)))) ?_
  refine net_cons rfl rfl (n_ret rfl Try.call127 (.cons (ev rfl) .nil) (fun _ hx => words_c _ _)) ?_
  refine net_cons rfl rfl (n_move rfl (ev rfl)) ?_
  refine net_cons rfl rfl (n_extract rfl (ev rfl) rfl) ?_
  refine net_cons rfl rfl (n_extract rfl (ev rfl) rfl) ?_
  refine net_cons rfl rfl (n_assign rfl (ev rfl)) ?_
  refine net_cons rfl rfl (n_assign rfl (ev rfl)) ?_
  refine net_nil fun a w1 hF hx => ?_
  replace hw := hw.next hx
  replace hF := hF.keep (.cons (t := 2) rfl (.cons (t := 4) rfl (.cons (t := 5) rfl (.cons (t := 6) rfl .nil))))
  refine wpList_nil ?_
  refine wp_seq (wp_region_lit ?_)
  refine t_net 0 2 (by kernel_rfl) rfl hF ?_
  refine net_cons rfl rfl (n_load rfl (ev rfl) (ldN hw (i := 0) (vs := _) rfl Try.isAgg23 Try.sizeOf23 (kc_len _) (cut_whole (kc_len _)))) ?_
  refine net_cons rfl rfl (n_ret rfl Try.call128 (.cons (ev rfl) .nil) (fun _ hx => roundKeys_c _ _)) ?_
  refine net_nil fun a w1 hF hx => ?_
  obtain ⟨s15, h_, hw⟩ := hw.ex hx (hF.at_ 15 _ rfl)
  replace hF := hF.now h_
  replace hF := hF.keep (.cons (t := 4) rfl (.cons (t := 5) rfl (.cons (t := 6) rfl (.cons (t := 15) rfl .nil))))
  refine t_net 2 1 (by kernel_rfl) rfl hF ?_
  refine net_cons rfl rfl (n_assign rfl (ev rfl)) ?_
  refine net_nil fun a w1 hF hx => ?_
  replace hw := hw.next hx
  replace hF := hF.keep (.cons (t := 4) rfl (.cons (t := 5) rfl (.cons (t := 6) rfl (.cons (t := 7) rfl .nil))))
  refine wpList_nil ?_
  refine wp_seq ?_
  refine wp_seq (reg_seq 1 (hF _ _) (by kernel_rfl) ?_)
  refine net_cons rfl rfl (n_assign rfl evc) ?_
  refine net_nil fun a w1 hF hx => ?_
  replace hw := hw.next hx
  replace hF := hF.keep (.cons (t := 4) rfl (.cons (t := 5) rfl (.cons (t := 6) rfl (.cons (t := 7) rfl (.cons (t := 8) rfl .nil)))))
  refine wpList_nil ?_
  refine wp_block ?_
  refine wp_loop_ix (α := Nat) (fun i a w1 => FrV 36 [] [(4, .is (.pointer (some ⟨b4, 0, none⟩))) , (5, .is (W (esK k b i).1)) , (6, .is (W (esK k b i).2)) , (7, .is (s15)) , (8, .is (I (i : Int)))] a ∧ Own w w1 [.blk b2 23 (kc k), .blk b3 23 (kc b), .blk b4 23 (List.replicate 16 (B8 0)), .row s15 24 1 32 (rk k 32)] ∧ (i ≤ 32)) (fun i => 32 - i) (0) ⟨hF.keep (.cons (t := 4) rfl (.cons (t := 5) rfl (.cons (t := 6) rfl (.cons (t := 7) rfl (.cons (t := 8) rfl (.nil)))))), hw, by decide⟩ ?_
  rintro i a w1 ⟨hF, hw, hi0⟩
  refine wp_seq ?_
  refine wp_seq (reg_seq 2 (hF _ _) (by kernel_rfl) ?_)
  refine net_cons rfl rfl (n_move rfl (ev rfl)) ?_
  refine net_cons rfl rfl (n_bin rfl (ev rfl) evc (r_lssN (b := 32))) ?_
  refine net_nil fun a w1 hF hx => ?_
  replace hw := hw.next hx
  replace hF := hF.keep (.cons (t := 4) rfl (.cons (t := 5) rfl (.cons (t := 6) rfl (.cons (t := 7) rfl (.cons (t := 8) rfl (.cons (t := 17) rfl .nil))))))
  refine wpList_nil ?_
  refine wp_cond_split (hF.ev (ev rfl)) (fun h17 => ?_) (fun h17 => ?_)
  · have hi : i < 32 := of_bool_t h17
    refine wp_skip ?_
    refine wp_seq (wp_block ?_)
    obtain ⟨AX, cX, rfl, hx1, hRX, hx2⟩ := hw.rd (i := 3) rfl
    obtain ⟨bX, oX, rfl, hcX⟩ := hRX.at_ (by rw [rk_len]; decide)
    refine wp_seq (reg_draw 10 mixed (by kernel_rfl) (hF _ _) ?_)
    refine net_cons rfl rfl (n_move rfl (ev rfl)) ?_
    refine net_cons rfl rfl (n_ret rfl Try.call129 (.cons (ev rfl) (.cons evc .nil)) (fun _ hx => rotr_c _ 8 (by decide) _)) ?_
    refine net_cons rfl rfl (n_move rfl (ev rfl)) ?_
    refine net_cons rfl rfl (n_bin rfl (ev rfl) (ev rfl) r_addB) ?_
    refine net_cons rfl rfl (n_move rfl (ev rfl)) ?_
    refine net_cons rfl rfl (n_move rfl (ev rfl)) ?_
    refine net_cons rfl rfl (n_indexS (off' := oX + (i)) rfl (ev rfl) (ev rfl) Try.underlying63 Try.sizeOf24 (by omega) (by omega)) ?_
    refine net_cons rfl rfl (n_load rfl (ev rfl) (fun w2 hx2 => ld1R hcX (rk_at k 32 i hi) Try.isAgg24 (by omega) w2 hx2)) ?_
    refine net_cons rfl rfl (n_to (n_bin rfl (ev rfl) (ev rfl) r_xorB) (congrArg (fun b : BitVec 64 => W b) (es1 k b i))) ?_
    refine net_cons rfl rfl (n_assign rfl (ev rfl)) ?_
    refine net_nil fun a w1 hF hx => ?_
    replace hw := hw.next hx
    replace hF := hF.keep (.cons (t := 4) rfl (.cons (t := 5) rfl (.cons (t := 6) rfl (.cons (t := 7) rfl (.cons (t := 8) rfl (.cons (t := 17) rfl .nil))))))
    refine wpList_nil ?_
    refine reg_seq 5 (hF _ _) (by kernel_rfl) ?_
    refine net_cons rfl rfl (n_move rfl (ev rfl)) ?_
    refine net_cons rfl rfl (n_ret rfl Try.call130 (.cons (ev rfl) (.cons evc .nil)) (fun _ hx => rotl_c _ 3 (by decide) _)) ?_
    refine net_cons rfl rfl (n_move rfl (ev rfl)) ?_
    refine net_cons rfl rfl (n_to (n_bin rfl (ev rfl) (ev rfl) r_xorB) (congrArg (fun b : BitVec 64 => W b) (es2 k b i))) ?_
    refine net_cons rfl rfl (n_assign rfl (ev rfl)) ?_
    refine net_nil fun a w1 hF hx => ?_
    replace hw := hw.next hx
    replace hF := hF.keep (.cons (t := 4) rfl (.cons (t := 5) rfl (.cons (t := 6) rfl (.cons (t := 7) rfl (.cons (t := 8) rfl (.cons (t := 17) rfl .nil))))))
    refine wpList_nil ?_
    refine reg_seq 3 (hF _ _) (by kernel_rfl) ?_
    refine net_cons rfl rfl (n_move rfl (ev rfl)) ?_
    refine net_cons rfl rfl (n_bin rfl (ev rfl) evc (r_inc (by omega))) ?_
    refine net_cons rfl rfl (n_assign rfl (ev rfl)) ?_
    refine net_nil fun a w1 hF hx => ?_
    replace hw := hw.next hx
    replace hF := hF.keep (.cons (t := 4) rfl (.cons (t := 5) rfl (.cons (t := 6) rfl (.cons (t := 7) rfl (.cons (t := 8) rfl (.cons (t := 17) rfl .nil))))))
    refine wpList_nil ?_
    exact ⟨i + 1, ⟨hF.keep (.cons (t := 4) rfl (.cons (t := 5) rfl (.cons (t := 6) rfl (.cons (t := 7) rfl (.cons (t := 8) rfl (.nil)))))), hw, by omega⟩, by omega⟩
  · obtain rfl : i = 32 := by have := of_bool_f h17; omega
    refine wp_exit (go_then_e (go_then_e (go_exit ?_)))
    refine wp_seq (wp_region_lit ?_)
    refine t_net 0 3 (by kernel_rfl) rfl hF ?_
    refine net_cons rfl rfl (n_move rfl (ev rfl)) ?_
    refine net_cons rfl rfl (n_move rfl (ev rfl)) ?_
    refine net_cons rfl rfl (n_ret rfl Try.call131 (.cons (ev rfl) (.cons (ev rfl) .nil)) (fun _ hx => rblock_c _ _ _)) ?_
    refine net_nil fun a w1 hF hx => ?_
    replace hw := hw.next hx
    replace hF := hF.keep (.cons (t := 4) rfl (.cons (t := 5) rfl (.cons (t := 6) rfl (.cons (t := 7) rfl (.cons (t := 8) rfl (.cons (t := 17) rfl (.cons (t := 35) rfl .nil)))))))
    refine t_store (i := 2) rfl rfl rfl hF hw rfl (ev rfl) (ev rfl) rfl (kc_one _) Try.sizeOf23 (kc_len _) (by first | decide | (rw [kc_len]; decide)) (seg_whole (by rw [kc_len]; rfl)) fun w1 hw => ?_
    refine wpList_nil ?_
    refine wp_ret (retc hF Try.results120 rfl (ldN hw (i := 2) (vs := _) rfl Try.isAgg23 Try.sizeOf23 (kc_len _) (cut_whole (kc_len _)) _ (Ext.refl _)) ?_)
    exact ⟨_, rfl, hw.ext, rfl⟩

theorem rDerive_c (k : Key) (t n : Nat) (ht : t < 256) (hn : n < 18446744073709551616) (w : World) : RetF Try.prog 85 [K k, B8 t, U n].toArray w (.is (K (derK k t n))) := by
  obtain ⟨n, rfl⟩ := bv_of hn
  refine enter Try.func85 rfl Try.ntmps85 rfl fun a hF => ?_
  have hw := Own.start w
  refine wp_seq (wp_region_lit ?_)
  refine t_net 0 1 (by kernel_rfl) rfl hF ?_
  refine net_cons rfl rfl (n_box rfl (ev rfl) rfl) ?_
  refine net_nil fun a w1 hF hx => ?_
  obtain ⟨b3, h_, hw⟩ := hw.blk hx (hF.at_ 3 _ rfl)
  replace hF := hF.now h_
  replace hF := hF.keep (.cons (t := 1) rfl (.cons (t := 2) rfl (.cons (t := 3) rfl .nil)))
  refine t_net 1 1 (by kernel_rfl) rfl hF ?_
  refine net_cons rfl rfl (n_alloc rfl Try.zeroValue23 rfl) ?_
  refine net_nil fun a w1 hF hx => ?_
  obtain ⟨b6, h_, hw⟩ := hw.blk hx (hF.at_ 6 _ rfl)
  replace hF := hF.now h_
  replace hF := hF.keep (.cons (t := 1) rfl (.cons (t := 2) rfl (.cons (t := 3) rfl (.cons (t := 6) rfl .nil))))
  refine wpList_nil ?_
  refine wp_seq (reg_draw 5 mixed (by kernel_rfl) (hF _ _) ?_)
  refine net_cons rfl rfl (n_load rfl (ev rfl) (ldN hw (i := 0) (vs := _) rfl Try.isAgg23 Try.sizeOf23 (kc_len _) (cut_whole (kc_len _)))) ?_
  refine net_cons rfl rfl (n_move rfl (ev rfl)) ?_
  refine net_cons rfl rfl (n_move rfl (ev rfl)) ?_
  refine net_cons rfl rfl (n_ret rfl Try.call132 (.cons (ev rfl) (.cons evc (.cons (ev rfl) .nil))) (fun _ hx => Block_c _ _ ht _)) ?_
  refine net_cons rfl rfl (n_ret rfl Try.call120 (.cons (ev rfl) (.cons (ev rfl) .nil)) (fun _ hx => rEncrypt_c _ _ _)) ?_
  refine net_nil fun a w1 hF hx => ?_
  replace hw := hw.next hx
  replace hF := hF.keep (.cons (t := 6) rfl (.cons (t := 11) rfl .nil))
  refine t_store (i := 1) rfl rfl rfl hF hw rfl (ev rfl) (ev rfl) rfl (kc_one _) Try.sizeOf23 (kc_len _) (by first | decide | (rw [kc_len]; decide)) (seg_whole (by rw [kc_len]; rfl)) fun w1 hw => ?_
  refine wpList_nil ?_
  refine wp_ret (retc hF Try.results85 rfl (ldN hw (i := 1) (vs := _) rfl Try.isAgg23 Try.sizeOf23 (kc_len _) (cut_whole (kc_len _)) _ (Ext.refl _)) ?_)
  exact ⟨_, rfl, hw.ext, (by rw [show derK k t n.toNat = encK k (blkK t 0#64 n) by unfold derK; rw [BitVec.ofNat_toNat, BitVec.setWidth_eq]]; rfl)⟩

theorem rNumber_c (k : Key) (n m : Nat) (hn : n < 18446744073709551616) (hm : m < 18446744073709551616) (w : World) : RetF Try.prog 119 [K k, U n, U m].toArray w (.is (U (numK k n m))) := by
  refine enter Try.func119 rfl Try.ntmps119 rfl fun a hF => ?_
  have hw := Own.start w
  refine wp_seq (wp_region_lit ?_)
  refine t_net 0 1 (by kernel_rfl) rfl hF ?_
  refine net_cons rfl rfl (n_box rfl (ev rfl) rfl) ?_
  refine net_nil fun a w1 hF hx => ?_
  obtain ⟨b3, h_, hw⟩ := hw.blk hx (hF.at_ 3 _ rfl)
  replace hF := hF.now h_
  replace hF := hF.keep (.cons (t := 1) rfl (.cons (t := 2) rfl (.cons (t := 3) rfl .nil)))
  refine t_net 1 1 (by kernel_rfl) rfl hF ?_
  refine net_cons rfl rfl (n_assign rfl evc) ?_
  refine net_nil fun a w1 hF hx => ?_
  replace hw := hw.next hx
  replace hF := hF.keep (.cons (t := 1) rfl (.cons (t := 2) rfl (.cons (t := 3) rfl (.cons (t := 6) rfl .nil))))
  refine wpList_nil ?_
  refine wp_seq ?_
  refine wp_seq (reg_seq 2 (hF _ _) (by kernel_rfl) ?_)
  refine net_cons rfl rfl (n_move rfl (ev rfl)) ?_
  refine net_cons rfl rfl (n_bin rfl (ev rfl) evc (r_eqlN (b := 0))) ?_
  refine net_nil fun a w1 hF hx => ?_
  replace hw := hw.next hx
  replace hF := hF.keep (.cons (t := 1) rfl (.cons (t := 2) rfl (.cons (t := 3) rfl (.cons (t := 6) rfl (.cons (t := 9) rfl .nil)))))
  refine wpList_nil ?_
  refine wp_cond_split (hF.ev (ev rfl)) (fun h9 => ?_) (fun h9 => ?_)
  · replace h9 := of_bool_t h9
    refine wp_seq (reg_seq 1 (hF _ _) (by kernel_rfl) ?_)
    refine net_cons rfl rfl (n_assign rfl evc) ?_
    refine net_nil fun a w1 hF hx => ?_
    replace hw := hw.next hx
    replace hF := hF.keep (.cons (t := 1) rfl (.cons (t := 2) rfl (.cons (t := 3) rfl (.cons (t := 6) rfl (.cons (t := 9) rfl .nil)))))
    refine wpList_nil ?_
    refine wp_ret (go_then_r (ret1 hF Try.results119 rfl ?_))
    exact ⟨_, rfl, hw.ext, (by rw [show numK k n m = 0 by unfold numK; rw [if_pos h9]]; rfl)⟩
  · replace h9 := of_bool_f h9
    refine wp_skip ?_
    refine wp_seq (wp_region_lit ?_)
    refine t_net 0 4 (by kernel_rfl) rfl hF ?_
    refine net_cons rfl rfl (n_load rfl (ev rfl) (ldN hw (i := 0) (vs := _) rfl Try.isAgg23 Try.sizeOf23 (kc_len _) (cut_whole (kc_len _)))) ?_
    refine net_cons rfl rfl (n_move rfl (ev rfl)) ?_
    refine net_cons rfl rfl (n_ret rfl Try.call85 (.cons (ev rfl) (.cons evc (.cons (ev rfl) .nil))) (fun _ hx => rDerive_c _ 3 _ (by decide) hn _)) ?_
    refine net_cons rfl rfl (n_alloc rfl Try.zeroValue23 rfl) ?_
    refine net_nil fun a w1 hF hx => ?_
    obtain ⟨b7, h_, hw⟩ := hw.blk hx (hF.at_ 7 _ rfl)
    replace hF := hF.now h_
    replace hF := hF.keep (.cons (t := 2) rfl (.cons (t := 6) rfl (.cons (t := 7) rfl (.cons (t := 9) rfl (.cons (t := 12) rfl .nil)))))
    refine t_store (i := 1) rfl rfl rfl hF hw rfl (ev rfl) (ev rfl) rfl (kc_one _) Try.sizeOf23 (kc_len _) (by first | decide | (rw [kc_len]; decide)) (seg_whole (by rw [kc_len]; rfl)) fun w1 hw => ?_
    refine wpList_nil ?_
    refine wp_seq (reg_seq 5 (hF _ _) (by kernel_rfl) ?_)
    refine net_cons rfl rfl (n_arrTake (k := 8) rfl (ev rfl) evc Try.runUnderlying23 Try.sizeOf5 (by decide)) ?_
    refine net_cons rfl rfl (n_ret rfl Try.call147 (.cons (ev rfl) .nil) (fun _ hx => (Value8_c _ _ (derK k 3 n).x _ ((kc_fst (derK k 3 n) ▸ hw.rdBlk (i := 1) rfl 0 8).ext hx)))) ?_
    refine net_cons rfl rfl (n_move rfl (ev rfl)) ?_
    refine net_cons rfl rfl (n_bin rfl (ev rfl) (ev rfl) (r_remN (by omega))) ?_
    refine net_cons rfl rfl (n_assign rfl (ev rfl)) ?_
    refine net_nil fun a w1 hF hx => ?_
    replace hw := hw.next hx
    replace hF := hF.keep (.cons (t := 2) rfl (.cons (t := 6) rfl (.cons (t := 7) rfl (.cons (t := 9) rfl (.cons (t := 12) rfl .nil)))))
    refine wpList_nil ?_
    refine wp_ret (ret1 hF Try.results119 rfl ?_)
    exact ⟨_, rfl, hw.ext, (by rw [show numK k n m = (derK k 3 n).x.toNat % m by unfold numK; rw [if_neg h9]]; rfl)⟩


theorem ds2 (k b : Key) (m : Nat) (h : m ≤ 31) : rotr ((dsK k b (31 - m)).2 ^^^ (dsK k b (31 - m)).1) 3 = (dsK k b (32 - m)).2 := by
  rw [show 32 - m = (31 - m) + 1 by omega]
  show _ = (bck (dsK k b (31 - m)) (ks k (31 - (31 - m))).2).2
  rw [bck, rotr3, BitVec.xor_comm]
theorem ds1 (k b : Key) (m : Nat) (h : m ≤ 31) : rotr (((dsK k b (31 - m)).1 ^^^ (ks k m).2) - (dsK k b (32 - m)).2) (64 - 8) = (dsK k b (32 - m)).1 := by
  rw [show 32 - m = (31 - m) + 1 by omega]
  show rotr (_ - (bck (dsK k b (31 - m)) (ks k (31 - (31 - m))).2).2) _ = (bck (dsK k b (31 - m)) (ks k (31 - (31 - m))).2).1
  rw [bck, show 31 - (31 - m) = m by omega, rotl8]


theorem rDecrypt_c (k b : Key) (w : World) : RetF Try.prog 83 [K k, K b].toArray w (.is (K (decK k b))) := by
  refine enter Try.func83 rfl Try.ntmps83 rfl fun a hF => ?_
  have hw := Own.start w
  refine wp_seq (wp_region_lit ?_)
  refine t_net 0 1 (by kernel_rfl) rfl hF ?_
  refine net_cons rfl rfl (n_box rfl (ev rfl) rfl) ?_
  refine net_nil fun a w1 hF hx => ?_
  obtain ⟨b2, h_, hw⟩ := hw.blk hx (hF.at_ 2 _ rfl)
  replace hF := hF.now h_
  replace hF := hF.keep (.cons (t := 1) rfl (.cons (t := 2) rfl .nil))
  refine t_net 1 1 (by kernel_rfl) rfl hF ?_
  refine net_cons rfl rfl (n_box rfl (ev rfl) rfl) ?_
  refine net_nil fun a w1 hF hx => ?_
  obtain ⟨b3, h_, hw⟩ := hw.blk hx (hF.at_ 3 _ rfl)
  replace hF := hF.now h_
  replace hF := hF.keep (.cons (t := 2) rfl (.cons (t := 3) rfl .nil))
  refine t_net 2 1 (by kernel_rfl) rfl hF ?_
  refine net_cons rfl rfl (n_alloc rfl Try.zeroValue23 rfl) ?_
  refine net_nil fun a w1 hF hx => ?_
  obtain ⟨b4, h_, hw⟩ := hw.blk hx (hF.at_ 4 _ rfl)
  replace hF := hF.now h_
  replace hF := hF.keep (.cons (t := 2) rfl (.cons (t := 3) rfl (.cons (t := 4) rfl .nil)))
  refine wpList_nil ?_
  refine wp_seq (reg_seq 7 (hF _ _) (by kernel_rfl) ?_)
  refine net_cons rfl rfl (n_load rfl (ev rfl) (ldN hw (i := 1) (vs := _) rfl Try.isAgg23 Try.sizeOf23 (kc_len _) (cut_whole (kc_len _)))) ?_
  refine net_cons rfl rfl (n_ret rfl Try.call127 (.cons (ev rfl) .nil) (fun _ hx => words_c _ _)) ?_
  refine net_cons rfl rfl (n_move rfl (ev rfl)) ?_
  refine net_cons rfl rfl (n_extract rfl (ev rfl) rfl) ?_
  refine net_cons rfl rfl (n_extract rfl (ev rfl) rfl) ?_
  refine net_cons rfl rfl (n_assign rfl (ev rfl)) ?_
  refine net_cons rfl rfl (n_assign rfl (ev rfl)) ?_
  refine net_nil fun a w1 hF hx => ?_
  replace hw := hw.next hx
  replace hF := hF.keep (.cons (t := 2) rfl (.cons (t := 4) rfl (.cons (t := 5) rfl (.cons (t := 6) rfl .nil))))
  refine wpList_nil ?_
  refine wp_seq (wp_region_lit ?_)
  refine t_net 0 2 (by kernel_rfl) rfl hF ?_
  refine net_cons rfl rfl (n_load rfl (ev rfl) (ldN hw (i := 0) (vs := _) rfl Try.isAgg23 Try.sizeOf23 (kc_len _) (cut_whole (kc_len _)))) ?_
  refine net_cons rfl rfl (n_ret rfl Try.call128 (.cons (ev rfl) .nil) (fun _ hx => roundKeys_c _ _)) ?_
  refine net_nil fun a w1 hF hx => ?_
  obtain ⟨s15, h_, hw⟩ := hw.ex hx (hF.at_ 15 _ rfl)
  replace hF := hF.now h_
  replace hF := hF.keep (.cons (t := 4) rfl (.cons (t := 5) rfl (.cons (t := 6) rfl (.cons (t := 15) rfl .nil))))
  refine t_net 2 1 (by kernel_rfl) rfl hF ?_
  refine net_cons rfl rfl (n_assign rfl (ev rfl)) ?_
  refine net_nil fun a w1 hF hx => ?_
  replace hw := hw.next hx
  replace hF := hF.keep (.cons (t := 4) rfl (.cons (t := 5) rfl (.cons (t := 6) rfl (.cons (t := 7) rfl .nil))))
  refine wpList_nil ?_
  refine wp_seq ?_
  refine wp_seq (reg_seq 1 (hF _ _) (by kernel_rfl) ?_)
  refine net_cons rfl rfl (n_assign rfl evc) ?_
  refine net_nil fun a w1 hF hx => ?_
  replace hw := hw.next hx
  replace hF := hF.keep (.cons (t := 4) rfl (.cons (t := 5) rfl (.cons (t := 6) rfl (.cons (t := 7) rfl (.cons (t := 8) rfl .nil)))))
  refine wpList_nil ?_
  refine wp_block ?_
  refine wp_loop_ix (α := Nat) (fun m a w1 => FrV 36 [] [(4, .is (.pointer (some ⟨b4, 0, none⟩))) , (5, .is (W (dsK k b (32 - m)).1)) , (6, .is (W (dsK k b (32 - m)).2)) , (7, .is (s15)) , (8, .is (I ((m : Int) - 1)))] a ∧ Own w w1 [.blk b2 23 (kc k), .blk b3 23 (kc b), .blk b4 23 (List.replicate 16 (B8 0)), .row s15 24 1 32 (rk k 32)] ∧ (m ≤ 32)) (fun m => m) (32) ⟨hF.keep (.cons (t := 4) rfl (.cons (t := 5) rfl (.cons (t := 6) rfl (.cons (t := 7) rfl (.cons (t := 8) rfl (.nil)))))), hw, by decide⟩ ?_
  rintro m a w1 ⟨hF, hw, hm⟩
  refine wp_seq ?_
  refine wp_seq (reg_seq 2 (hF _ _) (by kernel_rfl) ?_)
  refine net_cons rfl rfl (n_move rfl (ev rfl)) ?_
  refine net_cons rfl rfl (n_bin rfl (ev rfl) evc r_geq) ?_
  refine net_nil fun a w1 hF hx => ?_
  replace hw := hw.next hx
  replace hF := hF.keep (.cons (t := 4) rfl (.cons (t := 5) rfl (.cons (t := 6) rfl (.cons (t := 7) rfl (.cons (t := 8) rfl (.cons (t := 17) rfl .nil))))))
  refine wpList_nil ?_
  refine wp_cond_split (hF.ev (ev rfl)) (fun h17 => ?_) (fun h17 => ?_)
  · have h0 := of_bool_t h17
    obtain ⟨m, rfl⟩ : ∃ n, m = n + 1 := ⟨m - 1, by omega⟩
    rw [show 32 - (m + 1) = 31 - m by omega] at hF
    refine wp_skip ?_
    refine wp_seq (wp_block ?_)
    refine wp_seq (reg_seq 5 (hF _ _) (by kernel_rfl) ?_)
    refine net_cons rfl rfl (n_move rfl (ev rfl)) ?_
    refine net_cons rfl rfl (n_move rfl (ev rfl)) ?_
    refine net_cons rfl rfl (n_bin rfl (ev rfl) (ev rfl) r_xorB) ?_
    refine net_cons rfl rfl (n_to (n_ret rfl Try.call129 (.cons (ev rfl) (.cons evc .nil)) (fun _ hx => rotr_c _ 3 (by decide) _)) (congrArg (fun b : BitVec 64 => W b) (ds2 k b m (by omega)))) ?_
    refine net_cons rfl rfl (n_assign rfl (ev rfl)) ?_
    refine net_nil fun a w1 hF hx => ?_
    replace hw := hw.next hx
    replace hF := hF.keep (.cons (t := 4) rfl (.cons (t := 5) rfl (.cons (t := 6) rfl (.cons (t := 7) rfl (.cons (t := 8) rfl (.cons (t := 17) rfl .nil))))))
    refine wpList_nil ?_
    obtain ⟨AX, cX, rfl, hx1, hRX, hx2⟩ := hw.rd (i := 3) rfl
    obtain ⟨bX, oX, rfl, hcX⟩ := hRX.at_ (by rw [rk_len]; decide)
    refine reg_seq 10 (hF _ _) (by kernel_rfl) ?_
    refine net_cons rfl rfl (n_move rfl (ev rfl)) ?_
    refine net_cons rfl rfl (n_move rfl (ev rfl)) ?_
    refine net_cons rfl rfl (n_to (v' := I (m : Int)) (n_move rfl (ev rfl)) (congrArg (Value.int .i64) (by omega))) ?_
    refine net_cons rfl rfl (n_indexS (off' := oX + (m)) rfl (ev rfl) (ev rfl) Try.underlying63 Try.sizeOf24 (by omega) (by omega)) ?_
    refine net_cons rfl rfl (n_load rfl (ev rfl) (fun w2 hx2 => ld1R hcX (rk_at k 32 m (by omega)) Try.isAgg24 (by omega) w2 hx2)) ?_
    refine net_cons rfl rfl (n_bin rfl (ev rfl) (ev rfl) r_xorB) ?_
    refine net_cons rfl rfl (n_move rfl (ev rfl)) ?_
    refine net_cons rfl rfl (n_bin rfl (ev rfl) (ev rfl) r_subB) ?_
    refine net_cons rfl rfl (n_to (n_ret rfl Try.call130 (.cons (ev rfl) (.cons evc .nil)) (fun _ hx => rotl_c _ 8 (by decide) _)) (congrArg (fun b : BitVec 64 => W b) (ds1 k b m (by omega)))) ?_
    refine net_cons rfl rfl (n_assign rfl (ev rfl)) ?_
    refine net_nil fun a w1 hF hx => ?_
    replace hw := hw.next hx
    replace hF := hF.keep (.cons (t := 4) rfl (.cons (t := 5) rfl (.cons (t := 6) rfl (.cons (t := 7) rfl (.cons (t := 8) rfl (.cons (t := 17) rfl .nil))))))
    refine wpList_nil ?_
    refine reg_seq 3 (hF _ _) (by kernel_rfl) ?_
    refine net_cons rfl rfl (n_move rfl (ev rfl)) ?_
    refine net_cons rfl rfl (n_to (v' := I ((m : Int) - 1)) (n_bin rfl (ev rfl) evc (r_subI (by omega) (by omega))) (congrArg (Value.int .i64) (by omega))) ?_
    refine net_cons rfl rfl (n_assign rfl (ev rfl)) ?_
    refine net_nil fun a w1 hF hx => ?_
    replace hw := hw.next hx
    replace hF := hF.keep (.cons (t := 4) rfl (.cons (t := 5) rfl (.cons (t := 6) rfl (.cons (t := 7) rfl (.cons (t := 8) rfl (.cons (t := 17) rfl .nil))))))
    refine wpList_nil ?_
    exact ⟨m, ⟨hF.keep (.cons (t := 4) rfl (.cons (t := 5) rfl (.cons (t := 6) rfl (.cons (t := 7) rfl (.cons (t := 8) rfl (.nil)))))), hw, by omega⟩, by omega⟩
  · obtain rfl : m = 0 := by have := of_bool_f h17; omega
    refine wp_exit (go_then_e (go_then_e (go_exit ?_)))
    refine wp_seq (wp_region_lit ?_)
    refine t_net 0 3 (by kernel_rfl) rfl hF ?_
    refine net_cons rfl rfl (n_move rfl (ev rfl)) ?_
    refine net_cons rfl rfl (n_move rfl (ev rfl)) ?_
    refine net_cons rfl rfl (n_ret rfl Try.call131 (.cons (ev rfl) (.cons (ev rfl) .nil)) (fun _ hx => rblock_c _ _ _)) ?_
    refine net_nil fun a w1 hF hx => ?_
    replace hw := hw.next hx
    replace hF := hF.keep (.cons (t := 4) rfl (.cons (t := 5) rfl (.cons (t := 6) rfl (.cons (t := 7) rfl (.cons (t := 8) rfl (.cons (t := 17) rfl (.cons (t := 35) rfl .nil)))))))
    refine t_store (i := 2) rfl rfl rfl hF hw rfl (ev rfl) (ev rfl) rfl (kc_one _) Try.sizeOf23 (kc_len _) (by first | decide | (rw [kc_len]; decide)) (seg_whole (by rw [kc_len]; rfl)) fun w1 hw => ?_
    refine wpList_nil ?_
    refine wp_ret (retc hF Try.results83 rfl (ldN hw (i := 2) (vs := _) rfl Try.isAgg23 Try.sizeOf23 (kc_len _) (cut_whole (kc_len _)) _ (Ext.refl _)) ?_)
    exact ⟨_, rfl, hw.ext, rfl⟩
end Go.Proofs.Ythgpojlcbbgaoaa

