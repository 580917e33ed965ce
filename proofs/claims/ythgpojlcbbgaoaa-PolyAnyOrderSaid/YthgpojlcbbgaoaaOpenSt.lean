/- Slices of structs, secrets, headers, punctured keys among a law's arguments, opened. Plain theorems. -/
import Derived.Test.YthgpojlcbbgaoaaOpenSl
import Derived.Test.YthgpojlcbbgaoaaHdr
set_option autoImplicit false
set_option maxRecDepth 100000
set_option linter.unusedVariables false
namespace Go.Proofs.Ythgpojlcbbgaoaa
open Go.ChangeShapes Go.WideShapes Go.ChangeAt Go.RowKit

theorem sized_field {H : Type} {P : Program} {ts : List TypeId} {ds : List (DataW H)} (h : (DataW.weightsEach P ts ds).all (· ≤ reachBytes) = true) {j : Nat} {t : TypeId} {fs : Array Field} {parts : List (DataW H)} (ht : ts[j]? = some t) (hd : ds[j]? = some (.agg parts)) (hu : P.underlying t = some (.struct fs)) :
    (DataW.weightsEach P (fs.toList.map (·.type)) parts).all (· ≤ reachBytes) = true := by
  rw [List.all_eq_true] at h ⊢
  intro n hn
  exact h n (DataW.weights_mem_each ht hd n (by simp only [DataW.weights, hu]; exact hn))
section
variable {H : Type} {enc : TypeId × Value → H} {W : World} {base : Nat} {sp : Nat → Bool} {held : Bool}
/-- A field, whatever its kind. -/
theorem fldT {fs : Array Field} {xs : List (DataW H × List MemPlace)} {cs : List Value} {m t : Nat} (j o n : Nat) {f : Field} (hi : ∀ (i : Nat) (f : Field), fs[i]? = some f → DataW.trod enc Try.prog W base sp held m f.type ((cs.drop f.offset).take (Try.prog.cellsOf f.type)) = xs[i]?)
    (hf : fs[j]? = some f) (ht : f.type = t) (ho : f.offset = o) (hc : Try.prog.cellsOf t = n) : DataW.trod enc Try.prog W base sp held m t ((cs.drop o).take n) = xs[j]? := by
  have h := hi j f hf
  rw [ht, ho, hc] at h
  exact h
/-- A slice of elements of several cells. -/
instance : Inhabited Key := ⟨⟨0#64, 0#64⟩⟩
theorem open_rows {α : Type} [Inhabited α] {f : α → List Value} {p : α → Prop} {sz : Nat} {t e : TypeId} {fuel : Nat} {cs : List Value} {x : DataW H × List MemPlace} (ht : Try.prog.underlying t = some (.slice e)) (hc : Try.prog.cellsOf e = sz) (hsz : 0 < sz)
    (hdec : ∀ (m : Nat) (cs : List Value) (x : DataW H × List MemPlace), DataW.trod enc Try.prog W base sp held m e cs = some x → ∃ z, cs = f z ∧ p z)
    (h : DataW.trod enc Try.prog W base sp held fuel t cs = some x) :
    ∃ (A : Option Addr) (n c : Nat) (l : List α), cs = [.slice A n c] ∧ n ≤ c ∧ l.length = n ∧ Rd W A (l.flatMap f) ∧ (∀ z ∈ l, p z) ∧ ((n = 0 ∧ x.1 = .nil) ∨ ∃ es ss, x.1 = .slice es ss ∧ es.length = n) := by
  rcases Go.Deep.open_slice ht h with ⟨rfl, rfl⟩ | ⟨a, len, cap, m, n, D, Pl, rfl, _, hlc, _, hm, rfl, hx⟩
  · exact ⟨none, 0, 0, [], rfl, Nat.le_refl _, rfl, .inl rfl, fun z hz => (by cases hz), .inl ⟨rfl, rfl⟩⟩
  · have hlm : len ≤ m := by rw [hm]; split <;> omega
    rw [hc] at hx
    have hz : ∀ i, i < len → ∃ z : α, W.cells? base (a.add (i * sz)) sz = some (f z) ∧ p z := fun i hi => by
      obtain ⟨cs', h1, h2⟩ := hx i (by omega)
      obtain ⟨z, rfl, hp⟩ := hdec _ _ _ h2
      exact ⟨z, h1, hp⟩
    obtain ⟨g, hg⟩ := Go.Deep.choose_lt hz
    have hlen : ∀ i, i < len → (f (g i)).length = sz := fun i hi => (World.cells?_some (hg i hi).1).2.1
    refine ⟨some a, len, cap, (List.range len).map g, rfl, hlc, by simp, ?_, fun z hz' => ?_, .inr ⟨_, _, rfl, by simp⟩⟩
    · rcases Nat.eq_zero_or_pos len with rfl | hpos
      · exact .inl rfl
      · obtain ⟨b, off, spot⟩ := a
        have h0 := (World.cells?_some (hg 0 hpos).1).2.2 0 hsz
        obtain rfl : spot = none := by
          rw [List.getElem?_eq_getElem (by rw [hlen 0 hpos]; exact hsz)] at h0
          have := World.cell?_spot h0
          simpa [Addr.add] using this
        refine .inr ⟨b, off, rfl, fun j u hj => ?_⟩
        -- which element
        have key : ∀ k, k ≤ len → ∀ j u, (((List.range k).map g).flatMap f)[j]? = some u → W.cell? ⟨b, off + j, none⟩ = some u := by
          intro k
          induction k with
          | zero => intro _ j u hj; cases hj
          | succ k ih =>
            intro hk j u hj
            rw [List.range_succ, List.map_append, List.flatMap_append, List.map_cons, List.map_nil, List.flatMap_cons, List.flatMap_nil, List.append_nil] at hj
            have hL : (((List.range k).map g).flatMap f).length = k * sz := by
              have : ∀ k, k ≤ len → (((List.range k).map g).flatMap f).length = k * sz := by
                intro k
                induction k with
                | zero => intro _; simp
                | succ k ih2 =>
                  intro hk
                  rw [List.range_succ, List.map_append, List.flatMap_append, List.length_append, ih2 (by omega), List.map_cons, List.map_nil, List.flatMap_cons, List.flatMap_nil, List.append_nil, hlen k (by omega), Nat.add_mul, Nat.one_mul]
              exact this k (by omega)
            rcases Nat.lt_or_ge j (k * sz) with hjk | hjk
            · rw [List.getElem?_append_left (by omega)] at hj
              exact ih (by omega) j u hj
            · rw [List.getElem?_append_right (by omega), hL] at hj
              have hjs : j - k * sz < sz := by
                have := (List.getElem?_eq_some_iff.1 hj).1
                rw [hlen k (by omega)] at this
                exact this
              have h3 := (World.cells?_some (hg k (by omega)).1).2.2 (j - k * sz) hjs
              rw [hj, add_loc, add_loc, show off + k * sz + (j - k * sz) = off + j by omega] at h3
              exact h3
        exact key len (Nat.le_refl _) j u hj
    · obtain ⟨i, hi, rfl⟩ := List.mem_map.1 hz'
      exact (hg i (List.mem_range.1 hi)).2
theorem cells2 : Try.prog.cellsOf 31 = 2 ∧ Try.prog.cellsOf 95 = 18 ∧ Try.prog.cellsOf 131 = 18 ∧ Try.prog.cellsOf 129 = 2 ∧ Try.prog.cellsOf 33 = 4 ∧ Try.prog.cellsOf 45 = 35 ∧ Try.prog.cellsOf 29 = 1 ∧ Try.prog.cellsOf 42 = 1 ∧ Try.prog.cellsOf 43 = 1 := by
  refine ⟨?_, ?_, ?_, ?_, ?_, ?_, ?_, ?_, ?_⟩ <;> kernel_rfl
theorem two_of {cs : List Value} {a b : Value} (hl : cs.length = 2) (h0 : cs[0]? = some a) (h1 : cs[1]? = some b) : cs = [a, b] := by
  match cs, hl with
  | [_, _], _ => simp_all
abbrev ptB (p : Nat × Nat) : Prop := p.1 < 18446744073709551616 ∧ p.2 < 18446744073709551616
theorem trod_pt {fuel : Nat} {cs : List Value} {x : DataW H × List MemPlace} (h : DataW.trod enc Try.prog W base sp held fuel 31 cs = some x) : ∃ p : Nat × Nat, cs = [U p.1, U p.2] ∧ ptB p := by
  obtain ⟨xs, m, _, _, hl, hlen, hi⟩ := DataW.trod_struct Try.underlying31 h
  rw [cells2.1] at hl
  obtain ⟨n0, e0, w0⟩ := fld 0 0 hi hlen rfl rfl rfl cells1.2.2.1 Try.underlying24
  obtain ⟨n1, e1, w1⟩ := fld 1 1 hi hlen rfl rfl rfl cells1.2.2.1 Try.underlying24
  obtain ⟨a0, rfl, b0⟩ := wf_u64 w0
  obtain ⟨a1, rfl, b1⟩ := wf_u64 w1
  exact ⟨(a0, a1), two_of hl e0 e1, b0, b1⟩
abbrev labB (l : Int × Int × Key) : Prop := (-9223372036854775808 ≤ l.1 ∧ l.1 < 9223372036854775808) ∧ -9223372036854775808 ≤ l.2.1 ∧ l.2.1 < 9223372036854775808
theorem lc_of {cs : List Value} {a b : Int} {k : Key} (hl : cs.length = 18) (h0 : cs[0]? = some (I a)) (h1 : cs[1]? = some (I b)) (h2 : (cs.drop 2).take 16 = kc k) : cs = lc (a, b, k) := by
  match cs, hl with
  | x :: y :: r, hl =>
    simp only [List.length_cons] at hl
    simp only [List.getElem?_cons_zero, List.getElem?_cons_succ, Option.some.injEq] at h0 h1
    rw [List.drop_succ_cons, List.drop_succ_cons, List.drop_zero, List.take_of_length_le (by omega)] at h2
    rw [h0, h1, h2]
    rfl
theorem trod_lab {fuel : Nat} {cs : List Value} {x : DataW H × List MemPlace} (h : DataW.trod enc Try.prog W base sp held fuel 95 cs = some x) : ∃ l : Int × Int × Key, cs = lc l ∧ labB l := by
  obtain ⟨xs, m, _, _, hl, hlen, hi⟩ := DataW.trod_struct Try.underlying95 h
  rw [cells2.2.1] at hl
  obtain ⟨n0, e0, w0⟩ := fld 0 0 hi hlen rfl rfl rfl cells1.2.2.2.1 Try.underlying3
  obtain ⟨n1, e1, w1⟩ := fld 1 1 hi hlen rfl rfl rfl cells1.2.2.2.1 Try.underlying3
  have g2 := fldT 2 2 16 hi rfl rfl rfl cells1.2.1
  rw [List.getElem?_eq_getElem (show 2 < xs.length by rw [hlen]; decide)] at g2
  obtain ⟨k, hk⟩ := trod_key g2
  exact ⟨(n0, n1, k), lc_of hl e0 e1 hk, wf_i64 w0, wf_i64 w1⟩
theorem trod_item {fuel : Nat} {cs : List Value} {x : DataW H × List MemPlace} (h : DataW.trod enc Try.prog W base sp held fuel 131 cs = some x) : ∃ l : Int × Int × Key, cs = lc l ∧ labB l := by
  obtain ⟨xs, m, _, _, hl, hlen, hi⟩ := DataW.trod_struct Try.underlying131 h
  rw [cells2.2.2.1] at hl
  have g0 := fldT 0 0 2 hi rfl rfl rfl cells2.2.2.2.1
  rw [List.getElem?_eq_getElem (show 0 < xs.length by rw [hlen]; decide)] at g0
  obtain ⟨ys, m', _, _, hl', hlen', hi'⟩ := DataW.trod_struct Try.underlying129 g0
  obtain ⟨n0, e0, w0⟩ := fld 0 0 hi' hlen' rfl rfl rfl cells1.2.2.2.1 Try.underlying3
  obtain ⟨n1, e1, w1⟩ := fld 1 1 hi' hlen' rfl rfl rfl cells1.2.2.2.1 Try.underlying3
  have g2 := fldT 1 2 16 hi rfl rfl rfl cells1.2.1
  rw [List.getElem?_eq_getElem (show 1 < xs.length by rw [hlen]; decide)] at g2
  obtain ⟨k, hk⟩ := trod_key g2
  have e0' := sub_at e0
  have e1' := sub_at e1
  exact ⟨(n0, n1, k), lc_of hl e0' e1' hk, wf_i64 w0, wf_i64 w1⟩
/-- What is said of a slice's length. -/
abbrev LenD (n : Nat) (d : DataW H) : Prop := (n = 0 ∧ d = .nil) ∨ ∃ es ss, d = .slice es ss ∧ es.length = n
theorem open_labs {r : Reach} {b0 : Nat} {v : Value} {d : DataW H} {ps : List MemPlace} (hv : Value.okWide Try.prog W r b0 29 v) (h : DataW.Trod enc Try.prog W base sp held 29 v d ps) :
    ∃ (A : Option Addr) (n c : Nat) (l : List (Int × Int × Key)), v = .slice A n c ∧ n ≤ c ∧ l.length = n ∧ Rd W A (l.flatMap lc) ∧ (∀ z ∈ l, labB z) ∧ LenD n d := by
  obtain ⟨a0, len, cap, rfl⟩ := okWide_slice Try.underlying29 hv
  obtain ⟨fuel, hf⟩ := h
  obtain ⟨A, n, c, l, e, rest⟩ := open_rows (f := lc) (p := labB) Try.underlying29 cells2.2.1 (by decide) (fun m cs x h => trod_lab h) (cs := [.slice a0 len cap]) hf
  exact ⟨A, n, c, l, by simpa using e, rest⟩
theorem open_pts {r : Reach} {b0 : Nat} {v : Value} {d : DataW H} {ps : List MemPlace} (hv : Value.okWide Try.prog W r b0 43 v) (h : DataW.Trod enc Try.prog W base sp held 43 v d ps) :
    ∃ (A : Option Addr) (n c : Nat) (l : List (Nat × Nat)), v = .slice A n c ∧ n ≤ c ∧ l.length = n ∧ Rd W A (l.flatMap fun p => [U p.1, U p.2]) ∧ (∀ z ∈ l, ptB z) ∧ LenD n d := by
  obtain ⟨a0, len, cap, rfl⟩ := okWide_slice Try.underlying43 hv
  obtain ⟨fuel, hf⟩ := h
  obtain ⟨A, n, c, l, e, rest⟩ := open_rows (f := fun p : Nat × Nat => [U p.1, U p.2]) (p := ptB) Try.underlying43 cells2.1 (by decide) (fun m cs x h => trod_pt h) (cs := [.slice a0 len cap]) hf
  exact ⟨A, n, c, l, by simpa using e, rest⟩
theorem four_of {cs : List Value} {a b c d : Value} (hl : cs.length = 4) (h0 : cs[0]? = some a) (h1 : cs[1]? = some b) (h2 : cs[2]? = some c) (h3 : cs[3]? = some d) : cs = [a, b, c, d] := by
  match cs, hl with
  | [_, _, _, _], _ => simp_all
theorem open_sec {r : Reach} {b0 : Nat} {v : Value} {d : DataW H} {ps : List MemPlace} (hv : Value.okWide Try.prog W r b0 33 v) (h : DataW.Trod enc Try.prog W base sp held 33 v d ps) :
    ∃ (rc : Int) (A : Option Addr) (n c : Nat) (l : List (Int × Int × Key)) (x y : Nat) (d0 d1 d2 : DataW H), v = SecV rc (.slice A n c) x y ∧ (-9223372036854775808 ≤ rc ∧ rc < 9223372036854775808) ∧ n ≤ c ∧ l.length = n ∧ Rd W A (l.flatMap lc) ∧ (∀ z ∈ l, labB z) ∧ x < 18446744073709551616 ∧ y < 18446744073709551616 ∧ d = .agg [d0, d1, d2] ∧ LenD n d1 := by
  obtain ⟨cs, rfl, _⟩ := okWide_struct Try.underlying33 hv
  obtain ⟨fuel, hf⟩ := h
  obtain ⟨xs, m, _, hx, hl, hlen, hi⟩ := DataW.trod_struct Try.underlying33 hf
  rw [cells2.2.2.2.2.1] at hl
  obtain ⟨n0, e0, w0⟩ := fld 0 0 hi hlen rfl rfl rfl cells1.2.2.2.1 Try.underlying3
  have g1 := fldT 1 1 1 hi rfl rfl rfl cells2.2.2.2.2.2.2.1
  have g2 := fldT 2 2 2 hi rfl rfl rfl cells2.1
  match xs, hlen, hx with
  | [x0, x1, x2], _, hx =>
    simp only [List.getElem?_cons_zero, List.getElem?_cons_succ] at g1 g2
    obtain ⟨A, n, c, l, e1, hc, hl1, hR, hp, hL⟩ := open_rows (f := lc) (p := labB) Try.underlying29 cells2.2.1 (by decide) (fun m cs x h => trod_lab h) g1
    obtain ⟨p, e2, hp1, hp2⟩ := trod_pt g2
    have e20 : cs.toList[2]? = some (U p.1) := sub_at (n := 2) (j := 0) (i := 2) (by rw [show (List.take 2 (List.drop 2 cs.toList)) = _ from e2]; rfl)
    have e21 : cs.toList[3]? = some (U p.2) := sub_at (n := 2) (j := 1) (i := 2) (by rw [show (List.take 2 (List.drop 2 cs.toList)) = _ from e2]; rfl)
    refine ⟨n0, A, n, c, l, p.1, p.2, x0.1, x1.1, x2.1, ?_, wf_i64 w0, hc, hl1, hR, hp, hp1, hp2, ?_, hL⟩
    · have h4 : cs.toList = [I n0, .slice A n c, U p.1, U p.2] := four_of hl e0 (one_of e1) e20 e21
      show Value.agg cs = .agg [I n0, .slice A n c, U p.1, U p.2].toArray
      rw [← h4]
    · have := congrArg Prod.fst hx
      simpa using this
theorem hcs_of {cs : List Value} {i b p : Value} {k1 k2 : Key} (hl : cs.length = 35) (h0 : cs[0]? = some i) (h1 : cs[1]? = some b) (h2 : cs[2]? = some p) (h3 : (cs.drop 3).take 16 = kc k1) (h4 : (cs.drop 19).take 16 = kc k2) : cs = [i, b, p] ++ (kc k1 ++ kc k2) := by
  match cs, hl with
  | x :: y :: z :: r, hl =>
    simp only [List.length_cons] at hl
    simp only [List.getElem?_cons_zero, List.getElem?_cons_succ, Option.some.injEq] at h0 h1 h2
    rw [List.drop_succ_cons, List.drop_succ_cons, List.drop_succ_cons, List.drop_zero] at h3
    rw [List.drop_succ_cons, List.drop_succ_cons, List.drop_succ_cons, List.take_of_length_le (by rw [List.length_drop]; omega)] at h4
    rw [h0, h1, h2, ← h3, ← h4, List.take_append_drop]
    rfl
theorem open_hdr {r : Reach} {b0 : Nat} {v : Value} {d : DataW H} {ps : List MemPlace} (hv : Value.okWide Try.prog W r b0 45 v) (h : DataW.Trod enc Try.prog W base sp held 45 v d ps) :
    ∃ (Ai : Option Addr) (ni ci : Nat) (its : List (Int × Int × Key)) (bs : Nat) (A : Option Addr) (n c : Nat) (l : List (Nat × Nat)) (box chk : Key) (d0 d1 d2 d3 d4 : DataW H), v = HV (.slice Ai ni ci) bs (.slice A n c) box chk ∧ bs < 18446744073709551616 ∧
      its.length = ni ∧ Rd W Ai (its.flatMap lc) ∧ n ≤ c ∧ l.length = n ∧ Rd W A (l.flatMap fun p => [U p.1, U p.2]) ∧ (∀ z ∈ l, ptB z) ∧ d = .agg [d0, d1, d2, d3, d4] ∧ LenD ni d0 ∧ LenD n d2 := by
  obtain ⟨cs, rfl, _⟩ := okWide_struct Try.underlying45 hv
  obtain ⟨fuel, hf⟩ := h
  obtain ⟨xs, m, _, hx, hl, hlen, hi⟩ := DataW.trod_struct Try.underlying45 hf
  rw [cells2.2.2.2.2.2.1] at hl
  obtain ⟨n1, e1, w1⟩ := fld 1 1 hi hlen rfl rfl rfl cells1.2.2.1 Try.underlying24
  obtain ⟨bs, rfl, hbs⟩ := wf_u64 w1
  have g0 := fldT 0 0 1 hi rfl rfl rfl cells2.2.2.2.2.2.2.2.1
  have g2 := fldT 2 2 1 hi rfl rfl rfl cells2.2.2.2.2.2.2.2.2
  have g3 := fldT 3 3 16 hi rfl rfl rfl cells1.2.1
  have g4 := fldT 4 19 16 hi rfl rfl rfl cells1.2.1
  match xs, hlen, hx with
  | [x0, x1, x2, x3, x4], _, hx =>
    simp only [List.getElem?_cons_zero, List.getElem?_cons_succ] at g0 g2 g3 g4
    obtain ⟨Ai, ni, ci, its, e0, _, hli, hRi, _, hLi⟩ := open_rows (f := lc) (p := labB) Try.underlying42 cells2.2.2.1 (by decide) (fun m cs x h => trod_item h) g0
    obtain ⟨A, n, c, l, e2, hc, hl2, hR, hp, hL⟩ := open_rows (f := fun p : Nat × Nat => [U p.1, U p.2]) (p := ptB) Try.underlying43 cells2.1 (by decide) (fun m cs x h => trod_pt h) g2
    obtain ⟨k3, e3⟩ := trod_key g3
    obtain ⟨k4, e4⟩ := trod_key g4
    refine ⟨Ai, ni, ci, its, bs, A, n, c, l, k3, k4, x0.1, x1.1, x2.1, x3.1, x4.1, ?_, hbs, hli, hRi, hc, hl2, hR, hp, ?_, hLi, hL⟩
    · have h4 : cs.toList = hcs (.slice Ai ni ci) bs (.slice A n c) k3 k4 := hcs_of hl (one_of e0) e1 (one_of e2) e3 e4
      show Value.agg cs = .agg (hcs (.slice Ai ni ci) bs (.slice A n c) k3 k4).toArray
      rw [← h4]
    · have := congrArg Prod.fst hx
      simpa using this
theorem bytes2 : Try.prog.bytesOf 95 = 32 ∧ Try.prog.bytesOf 131 = 32 ∧ Try.prog.bytesOf 31 = 16 ∧ Try.prog.bytesOf 24 = 8 := by
  refine ⟨?_, ?_, ?_, ?_⟩ <;> kernel_rfl
/-- .. and so its length is bounded. -/
theorem sized_len {ts : List TypeId} {ds : List (DataW H)} (h : (DataW.weightsEach Try.prog ts ds).all (· ≤ reachBytes) = true) {j n b : Nat} {t e : TypeId} {d : DataW H} (hL : LenD n d) (ht : ts[j]? = some t) (hd : ds[j]? = some d) (hu : Try.prog.underlying t = some (.slice e)) (hb : Try.prog.bytesOf e = b) (hb0 : 0 < b) : n * b ≤ 140737488351232 := by
  rcases hL with ⟨h0, _⟩ | ⟨es, ss, rfl, he⟩
  · subst h0; simp
  · have := sized_slice h ht hd hu
    rw [hb, show reachBytes = 140737488351232 by rfl, Nat.add_mul] at this
    rw [← he]
    omega
theorem trod_u64 {fuel : Nat} {cs : List Value} {x : DataW H × List MemPlace} (h : DataW.trod enc Try.prog W base sp held fuel 24 cs = some x) : ∃ n : Nat, cs = [U n] ∧ n < 18446744073709551616 := by
  obtain ⟨n, e, _, w⟩ := DataW.trod_int Try.underlying24 h
  obtain ⟨k, rfl, hk⟩ := wf_u64 w
  exact ⟨k, e, hk⟩
theorem fm_one (l : List Nat) : (l.flatMap fun n => [U n]) = l.map U := by
  induction l with
  | nil => rfl
  | cons a l ih => rw [List.flatMap_cons, ih]; rfl
theorem open_words {r : Reach} {b0 : Nat} {v : Value} {d : DataW H} {ps : List MemPlace} (hv : Value.okWide Try.prog W r b0 63 v) (h : DataW.Trod enc Try.prog W base sp held 63 v d ps) :
    ∃ (A : Option Addr) (n c : Nat) (l : List Nat), v = .slice A n c ∧ n ≤ c ∧ l.length = n ∧ Rd W A (l.map U) ∧ (∀ z ∈ l, z < 18446744073709551616) ∧ LenD n d := by
  obtain ⟨a0, len, cap, rfl⟩ := okWide_slice Try.underlying63 hv
  obtain ⟨fuel, hf⟩ := h
  obtain ⟨A, n, c, l, e, hc, hl, hR, rest⟩ := open_rows (f := fun n : Nat => [U n]) (p := fun n => n < 18446744073709551616) Try.underlying63 cells1.2.2.1 (by decide) (fun m cs x h => trod_u64 h) (cs := [.slice a0 len cap]) hf
  rw [fm_one] at hR
  exact ⟨A, n, c, l, by simpa using e, hc, hl, hR, rest⟩
end
end Go.Proofs.Ythgpojlcbbgaoaa
