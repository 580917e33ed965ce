/- Arguments opened: keys, schemes, numbers; a law's last step, whatever its arguments. Plain theorems. -/
import Derived.Test.YthgpojlcbbgaoaaPoly
import Derived.ProofKit
import Derived.SizedLaws
import Derived.Below
import Derived.ChangeSame
import Derived.WideKeyArgs
import Derived.OpenShut
import Derived.Deep.Slices
set_option autoImplicit false
set_option maxRecDepth 100000
set_option linter.unusedVariables false
namespace Go.Proofs.Ythgpojlcbbgaoaa
open Go.ChangeShapes Go.WideShapes Go.ChangeAt Go.RowKit

theorem ownT : ownKnob Try.prog.godebug = none := by kernel_rfl
theorem laidT : laidOutB Try.prog = true := by kernel_rfl

section
variable {H : Type} {enc : TypeId × Value → H}
theorem trodAll_staysP {P : Program} (hl : laidOutB P = true) {W W' : World} {sp : Nat → Bool} (hb : Below W.heap.size W W') : ∀ {ts : List TypeId} {vs : List Value} {ds : List (DataW H)} {ps : List MemPlace},
    (ts.all fun t => P.readableRec t && Nat.blt t P.types.size) = true → DataW.TrodAll enc P W 0 (fun _ => true) true ts vs ds ps → (∀ p ∈ ps, p.block < W.heap.size) → (∀ p ∈ ps, sp p.block = true) → DataW.TrodAll enc P W' 0 sp true ts vs ds ps
  | [], [], [], _, _, h, _, _ => h
  | t :: ts, v :: vs, d :: ds, ps, hr, ⟨p, q, h1, h2, e⟩, hlt, hsp => by
    rw [List.all_cons, Bool.and_eq_true, Bool.and_eq_true] at hr
    refine ⟨p, q, WideElems.Trod_stays hl hr.1.1 (by simpa [Nat.blt_eq] using hr.1.2) h1 (fun x hx => hb.same (hlt x (by rw [e]; exact List.mem_append_left _ hx))) (fun x hx => hsp x (by rw [e]; exact List.mem_append_left _ hx)), ?_, e⟩
    exact trodAll_staysP hl hb hr.2 h2 (fun x hx => hlt x (by rw [e]; exact List.mem_append_right _ hx)) (fun x hx => hsp x (by rw [e]; exact List.mem_append_right _ hx))
theorem trodAll_stays {W W' : World} {sp : Nat → Bool} (hb : Below W.heap.size W W') {ts : List TypeId} {vs : List Value} {ds : List (DataW H)} {ps : List MemPlace}
    (hr : (ts.all fun t => Try.prog.readableRec t && Nat.blt t Try.prog.types.size) = true) (h : DataW.TrodAll enc Try.prog W 0 (fun _ => true) true ts vs ds ps) (hlt : ∀ p ∈ ps, p.block < W.heap.size) (hsp : ∀ p ∈ ps, sp p.block = true) : DataW.TrodAll enc Try.prog W' 0 sp true ts vs ds ps :=
  trodAll_staysP laidT hb hr h hlt hsp

/-- The row's last step: the law has returned true, and nothing that was there has turned. -/
theorem post_law {f : Func} {s : ChangeSpec} {W W' : World} {args : Array Value} {ds : List (DataW H)} {before : List MemPlace}
    (hW : DataW.Whole enc Try.prog f.params.toList s.vars false W args.toList ds [] before) (hv : s.vars = []) (hs : s.fn H ds = { results := [.lit (.bool true)], args := ds }) (hr : f.resultTypes = #[4])
    (hrows : (f.params.toList.all fun t => Try.prog.readableRec t && Nat.blt t Try.prog.types.size) = true) (hb : Below W.heap.size W W') : s.post enc Try.prog f false true false false W args (.bool true) W' := by
  have hW0 := hW
  have hlt : ∀ p ∈ before, p.block < W.heap.size := fun p hp => hW.lt p hp
  have hold : ∀ p ∈ before, (fun b => decide (b < W.heap.size)) p.block = true := fun p hp => by simpa using hlt p hp
  obtain ⟨p, q, hA, hV, hpq, hfz, hnd⟩ := hW
  rw [hv] at hV
  obtain rfl : q = [] := hV
  rw [List.append_nil] at hpq
  subst hpq
  have hargs : ∀ sp : Nat → Bool, (∀ x ∈ before, sp x.block = true) → DataW.TrodAll enc Try.prog W' 0 sp true f.params.toList args.toList ds before := fun sp hsp => trodAll_stays hb hrows hA hlt hsp
  have hres : ∀ (b : Nat) (sp : Nat → Bool) (hd : Bool), DataW.TrodAll enc Try.prog W' b sp hd f.resultTypes.toList ((Value.bool true).resultList f.resultTypes.size) (s.fn H (ds ++ [])).results [] := fun b sp hd => by
    rw [List.append_nil, hs, hr]
    exact trodAll_mk1 (shut_bool Try.underlying4 _)
  have hvs : ∀ sp : Nat → Bool, (∀ x ∈ before, sp x.block = true) → DataW.TrodVars enc Try.prog W' sp s.vars (s.fn H (ds ++ [])).vars [] := fun sp _ => by
    rw [hv, List.append_nil, hs]
    rfl
  refine ⟨ds, [], before, [], before, [], hW0, hres _ _ _, by rw [List.append_nil, hs]; exact hargs _ hold, hvs _ hold, World.keptBut_mono (fun p hp => ⟨hp, ?_⟩) (hb.frame (· ∈ before)), fun h => by cases h⟩
  simpa using hp

/-! ### arguments -/
theorem okWide_array {t e : TypeId} {n : Nat} {P : Program} {w : World} {r : Reach} {base : Nat} {v : Value} (ht : P.underlying t = some (.array n e)) (h : Value.okWide P w r base t v) : ∃ cs, v = .agg cs ∧ cs.size = P.cellsOf t := by
  simp only [Value.okWide, ht] at h
  obtain ⟨cs, h1, h2, _⟩ := h
  exact ⟨cs, h1, h2⟩
theorem cells1 : Try.prog.cellsOf 5 = 1 ∧ Try.prog.cellsOf 23 = 16 ∧ Try.prog.cellsOf 24 = 1 ∧ Try.prog.cellsOf 3 = 1 ∧ Try.prog.cellsOf 26 = 3 ∧ Try.prog.cellsOf 28 = 6 ∧ Try.prog.cellsOf 31 = 2 ∧ Try.prog.cellsOf 95 = 18 ∧ Try.prog.cellsOf 29 = 1 ∧ Try.prog.cellsOf 33 = 4 := by
  refine ⟨?_, ?_, ?_, ?_, ?_, ?_, ?_, ?_, ?_, ?_⟩ <;> kernel_rfl
theorem wf_u8 {n : Int} (h : (Lit.int .u8 n).wf = true) : ∃ k : Nat, n = k ∧ k < 256 := by
  have : 0 ≤ n ∧ n ≤ 255 := by simpa [Lit.wf, IntKind.min, IntKind.max, IntKind.signed, IntKind.bits] using h
  exact ⟨n.toNat, by omega, by omega⟩
theorem wf_u64 {n : Int} (h : (Lit.int .u64 n).wf = true) : ∃ k : Nat, n = k ∧ k < 18446744073709551616 := by
  have : 0 ≤ n ∧ n ≤ 18446744073709551615 := by simpa [Lit.wf, IntKind.min, IntKind.max, IntKind.signed, IntKind.bits] using h
  exact ⟨n.toNat, by omega, by omega⟩
theorem wf_i64 {n : Int} (h : (Lit.int .i64 n).wf = true) : -9223372036854775808 ≤ n ∧ n < 9223372036854775808 := by
  have : -9223372036854775808 ≤ n ∧ n ≤ 9223372036854775807 := by simpa [Lit.wf, IntKind.min, IntKind.max, IntKind.signed, IntKind.bits] using h
  omega
theorem bl_of (l : List Nat) (hl : l.length = 8) (hb : ∀ b ∈ l, b < 256) : ∃ x, bl x = l := by
  match l, hl with
  | [a0, a1, a2, a3, a4, a5, a6, a7], _ =>
    have h0 := hb a0 (by simp)
    have h1 := hb a1 (by simp)
    have h2 := hb a2 (by simp)
    have h3 := hb a3 (by simp)
    have h4 := hb a4 (by simp)
    have h5 := hb a5 (by simp)
    have h6 := hb a6 (by simp)
    have h7 := hb a7 (by simp)
    obtain ⟨x, hx⟩ := bv_of (n := a0 * 72057594037927936 + a1 * 281474976710656 + a2 * 1099511627776 + a3 * 4294967296 + a4 * 16777216 + a5 * 65536 + a6 * 256 + a7) (by omega)
    refine ⟨x, ?_⟩
    have e : ∀ k, (x >>> k).toNat = x.toNat / 2 ^ k := fun k => by rw [BitVec.toNat_ushiftRight, Nat.shiftRight_eq_div_pow]
    simp only [bl, byteN, e, ← hx, List.range_succ, List.range_zero, List.nil_append, List.cons_append, List.map_cons, List.map_nil, List.cons.injEq, and_true]
    refine ⟨?_, ?_, ?_, ?_, ?_, ?_, ?_, ?_⟩ <;> omega
theorem kc_of (l : List Nat) (hl : l.length = 16) (hb : ∀ b ∈ l, b < 256) : ∃ k : Key, kb k = l := by
  obtain ⟨x, hx⟩ := bl_of (l.take 8) (by simp [hl]) (fun b h => hb b (List.mem_of_mem_take h))
  obtain ⟨y, hy⟩ := bl_of (l.drop 8) (by simp [hl]) (fun b h => hb b (List.mem_of_mem_drop h))
  exact ⟨⟨x, y⟩, by show bl x ++ bl y = l; rw [hx, hy, List.take_append_drop]⟩
variable {W : World} {base : Nat} {sp : Nat → Bool} {held : Bool}
theorem trod_key {fuel : Nat} {cs : List Value} {x : DataW H × List MemPlace} (h : DataW.trod enc Try.prog W base sp held fuel 23 cs = some x) : ∃ k : Key, cs = kc k := by
  obtain ⟨xs, m, _, _, hl, hlen, hi⟩ := DataW.trod_array Try.underlying23 h
  rw [cells1.2.1] at hl
  have hb : ∀ i, i < 16 → ∃ n : Nat, cs[i]? = some (B8 n) ∧ n < 256 := fun i h16 => by
    have h1 := hi i h16
    rw [cells1.1, Nat.mul_one, List.getElem?_eq_getElem (show i < xs.length by omega)] at h1
    obtain ⟨n, hc, _, hw⟩ := DataW.trod_int Try.underlying5 h1
    obtain ⟨k, rfl, hk⟩ := wf_u8 hw
    refine ⟨k, ?_, hk⟩
    have h2 : ((cs.drop i).take 1)[0]? = some (B8 k) := by rw [hc]; rfl
    rw [List.getElem?_take, if_pos (by decide), List.getElem?_drop] at h2
    exact h2
  obtain ⟨f, hf⟩ := Go.Deep.choose_lt hb
  have hcs : cs = ((List.range 16).map f).map B8 := by
    apply List.ext_getElem?
    intro i
    by_cases h16 : i < 16
    · rw [(hf i h16).1]
      simp [h16]
    · rw [List.getElem?_eq_none (by omega), List.getElem?_eq_none (by simp; omega)]
  obtain ⟨k, hk⟩ := kc_of ((List.range 16).map f) (by simp) (fun b hb' => by
    obtain ⟨i, hi, rfl⟩ := List.mem_map.1 hb'
    exact (hf i (List.mem_range.1 hi)).2)
  exact ⟨k, by rw [hcs, ← hk]; rfl⟩
theorem open_key {r : Reach} {b0 : Nat} {v : Value} {d : DataW H} {ps : List MemPlace} (hv : Value.okWide Try.prog W r b0 23 v) (h : DataW.Trod enc Try.prog W base sp held 23 v d ps) : ∃ k : Key, v = K k := by
  obtain ⟨cs, rfl, _⟩ := okWide_array Try.underlying23 hv
  obtain ⟨fuel, hf⟩ := h
  obtain ⟨k, hk⟩ := trod_key hf
  exact ⟨k, by show Value.agg cs = .agg (kc k).toArray; rw [← hk]; rfl⟩
theorem one_of {cs : List Value} {i : Nat} {v : Value} (h : (cs.drop i).take 1 = [v]) : cs[i]? = some v := by
  have h2 : ((cs.drop i).take 1)[0]? = some v := by rw [h]; rfl
  rw [List.getElem?_take, if_pos (by decide), List.getElem?_drop] at h2
  exact h2
theorem sub_at {cs : List Value} {i n j : Nat} {v : Value} (h : ((cs.drop i).take n)[j]? = some v) : cs[i + j]? = some v := by
  rw [List.getElem?_take] at h
  split at h
  · rwa [List.getElem?_drop] at h
  · cases h
/-- A field that is a number. -/
theorem fld {fs : Array Field} {xs : List (DataW H × List MemPlace)} {cs : List Value} {m t : Nat} {k : IntKind} (j o : Nat) {f : Field} (hi : ∀ (i : Nat) (f : Field), fs[i]? = some f → DataW.trod enc Try.prog W base sp held m f.type ((cs.drop f.offset).take (Try.prog.cellsOf f.type)) = xs[i]?)
    (hlen : xs.length = fs.size) (hf : fs[j]? = some f) (ht : f.type = t) (ho : f.offset = o) (hc : Try.prog.cellsOf t = 1) (hu : Try.prog.underlying t = some (.int k)) : ∃ n, cs[o]? = some (.int k n) ∧ (Lit.int k n).wf = true := by
  have h := hi j f hf
  have hj : j < xs.length := by rw [hlen]; exact (Array.getElem?_eq_some_iff.1 hf).1
  rw [ht, ho, hc, List.getElem?_eq_getElem hj] at h
  obtain ⟨n, e, _, w⟩ := DataW.trod_int hu h
  exact ⟨n, one_of e, w⟩
theorem six_of {cs : List Value} {a b c d e f : Value} (hl : cs.length = 6) (h0 : cs[0]? = some a) (h1 : cs[1]? = some b) (h2 : cs[2]? = some c) (h3 : cs[3]? = some d) (h4 : cs[4]? = some e) (h5 : cs[5]? = some f) : cs = [a, b, c, d, e, f] := by
  match cs, hl with
  | [_, _, _, _, _, _], _ => simp_all
theorem trod_sch {fuel : Nat} {cs : List Value} {x : DataW H × List MemPlace} (h : DataW.trod enc Try.prog W base sp held fuel 28 cs = some x) :
    ∃ (kd : Nat) (dp dg : Int) (p q g : Nat), cs = [B8 kd, I dp, I dg, U p, U q, U g] ∧ kd < 256 ∧ -9223372036854775808 ≤ dp ∧ dp < 9223372036854775808 ∧ -9223372036854775808 ≤ dg ∧ dg < 9223372036854775808 ∧ p < 18446744073709551616 ∧ q < 18446744073709551616 ∧ g < 18446744073709551616 := by
  obtain ⟨xs, m, _, _, hl, hlen, hi⟩ := DataW.trod_struct Try.underlying28 h
  rw [cells1.2.2.2.2.2.1] at hl
  obtain ⟨n0, e0, w0⟩ := fld 0 0 hi hlen rfl rfl rfl cells1.1 Try.underlying5
  obtain ⟨n1, e1, w1⟩ := fld 1 1 hi hlen rfl rfl rfl cells1.2.2.2.1 Try.underlying3
  obtain ⟨n2, e2, w2⟩ := fld 2 2 hi hlen rfl rfl rfl cells1.2.2.2.1 Try.underlying3
  have g3 := hi 3 _ rfl
  rw [List.getElem?_eq_getElem (show 3 < xs.length by rw [hlen]; decide)] at g3
  obtain ⟨ys, m', _, _, hl', hlen', hi'⟩ := DataW.trod_struct Try.underlying26 g3
  obtain ⟨n3, e3, w3⟩ := fld 0 0 hi' hlen' rfl rfl rfl cells1.2.2.1 Try.underlying24
  obtain ⟨n4, e4, w4⟩ := fld 1 1 hi' hlen' rfl rfl rfl cells1.2.2.1 Try.underlying24
  obtain ⟨n5, e5, w5⟩ := fld 2 2 hi' hlen' rfl rfl rfl cells1.2.2.1 Try.underlying24
  obtain ⟨a0, rfl, b0⟩ := wf_u8 w0
  obtain ⟨b1, b1'⟩ := wf_i64 w1
  obtain ⟨b2, b2'⟩ := wf_i64 w2
  obtain ⟨a3, rfl, b3⟩ := wf_u64 w3
  obtain ⟨a4, rfl, b4⟩ := wf_u64 w4
  obtain ⟨a5, rfl, b5⟩ := wf_u64 w5
  exact ⟨a0, n1, n2, a3, a4, a5, six_of hl e0 e1 e2 (sub_at e3) (sub_at e4) (sub_at e5), b0, b1, b1', b2, b2', b3, b4, b5⟩
theorem open_sch {r : Reach} {b0 : Nat} {v : Value} {d : DataW H} {ps : List MemPlace} (hv : Value.okWide Try.prog W r b0 28 v) (h : DataW.Trod enc Try.prog W base sp held 28 v d ps) :
    ∃ (kd : Nat) (dp dg : Int) (p q g : Nat), v = SV kd dp dg p q g ∧ kd < 256 ∧ -9223372036854775808 ≤ dp ∧ dp < 9223372036854775808 ∧ -9223372036854775808 ≤ dg ∧ dg < 9223372036854775808 ∧ p < 18446744073709551616 ∧ q < 18446744073709551616 ∧ g < 18446744073709551616 := by
  obtain ⟨cs, rfl, _⟩ := okWide_struct Try.underlying28 hv
  obtain ⟨fuel, hf⟩ := h
  obtain ⟨kd, dp, dg, p, q, g, hk, hrest⟩ := trod_sch hf
  exact ⟨kd, dp, dg, p, q, g, (by show Value.agg cs = .agg [B8 kd, I dp, I dg, U p, U q, U g].toArray; rw [← hk]; rfl), hrest⟩
theorem open_i64 {r : Reach} {b0 : Nat} {v : Value} {d : DataW H} {ps : List MemPlace} (hv : Value.okWide Try.prog W r b0 3 v) (h : DataW.Trod enc Try.prog W base sp held 3 v d ps) : ∃ n : Int, v = I n ∧ -9223372036854775808 ≤ n ∧ n < 9223372036854775808 := by
  obtain ⟨n, rfl, _, _, hw⟩ := open_int Try.underlying3 hv h
  exact ⟨n, rfl, wf_i64 hw⟩
theorem open_u64 {r : Reach} {b0 : Nat} {v : Value} {d : DataW H} {ps : List MemPlace} (hv : Value.okWide Try.prog W r b0 24 v) (h : DataW.Trod enc Try.prog W base sp held 24 v d ps) : ∃ n : Nat, v = U n ∧ n < 18446744073709551616 := by
  obtain ⟨n, rfl, _, _, hw⟩ := open_int Try.underlying24 hv h
  obtain ⟨k, rfl, hk⟩ := wf_u64 hw
  exact ⟨k, rfl, hk⟩
end
end Go.Proofs.Ythgpojlcbbgaoaa
