/- Texts of one proof, laid together: OpA. -/
import Derived.Test.YtpnfhcnnodolbaaZY15
import Derived.Test.YtpnfhcnnodolbaaZY17
import Derived.Test.YtpnfhcnnodolbaaZY18
import Derived.Deep.Matrix
set_option linter.unusedVariables false
set_option linter.unusedSimpArgs false
set_option linter.unusedSectionVars false
set_option linter.unnecessarySimpa false
set_option maxRecDepth 100000
namespace Go.Proofs.Ytpnfhcnnodolbaa
open Go Go.RowKit Go.ChangeShapes Go.WideShapes Go.ChangeAt Go.WideElems Go.Joins Go.Deep
instance : Inhabited Met := ⟨⟨0, 0, 0, 0, 0⟩⟩
theorem i64_wf {x : Int} (h : (Lit.int .i64 x).wf = true) : I64 x := by
 simpa [Lit.wf, IntKind.min, IntKind.max, IntKind.signed, IntKind.bits, I64] using h
theorem i8_of {x : Int} (h : (Lit.int .i8 x).wf = true) : -128 ≤ x ∧ x ≤ 127 := by
 simpa [Lit.wf, IntKind.min, IntKind.max, IntKind.signed, IntKind.bits] using h
theorem u8_of {x : Int} (h : (Lit.int .u8 x).wf = true) : 0 ≤ x ∧ x ≤ 255 := by
 simpa [Lit.wf, IntKind.min, IntKind.max, IntKind.signed, IntKind.bits] using h
theorem cellsOfInt : Try.prog.cellsOf 2 = 1 := by kernel_rfl
theorem plain_addr {w : World} {a : Addr} {v : Value} (h : w.cell? a = some v) : ∃ b off, a = ⟨b, off, none⟩ := by
 obtain ⟨b, off, s⟩ := a
 cases s with
 | none => exact ⟨b, off, rfl⟩
 | some s =>
  unfold World.cell? at h
  cases e : w.heap[b]? with
  | none => simp [e] at h
  | some o => cases o <;> simp [e] at h
theorem add_plain (b off i : Nat) : (⟨b, off, none⟩ : Addr).add i = ⟨b, off + i, none⟩ := by
 unfold Addr.add
 split
 ·rename_i h; subst h; rfl
 ·rfl
theorem add_zero' (a : Addr) : a.add 0 = a := by unfold Addr.add; simp
theorem u16_of {x : Int} (h : (Lit.int .u16 x).wf = true) : 0 ≤ x ∧ x ≤ 65535 := by
 simpa [Lit.wf, IntKind.min, IntKind.max, IntKind.signed, IntKind.bits] using h
theorem cellsOfWord : Try.prog.cellsOf 64 = 1 := by kernel_rfl
section
variable {H : Type} {enc : TypeId × Value → H} {W : World}
theorem open_longs_cs {fuel : Nat} {cs : List Value} {x : DataW H × List MemPlace} {sp : Nat → Bool} {hd : Bool} (h : DataW.trod enc Try.prog W 0 sp hd fuel 25 cs = some x) :
 ∃ (l : List Int) (a : Option Addr) (cap : Nat), cs = [.slice a l.length cap] ∧ Ints W a l ∧ l.length ≤ cap ∧ cap ≤ maxLen ∧ ∀ i, I64 (nth l i) := by
 rcases open_ints Try.underlying25 Try.underlying2 cellsOfInt h with ⟨rfl, _⟩ | ⟨a, len, cap, zs, rfl, _, hl, hm, hz, _, hc, hw⟩
 ·exact ⟨[], none, 0, rfl, Ints.nil _ _, Nat.le_refl _, by simp [maxLen], fun i => by simp [nth, I64]⟩
 ·have hlen : len ≤ zs.length := by rw [hz]; split <;> omega
  refine ⟨zs.take len, some a, cap, by simp [Nat.min_eq_left hlen], fun i hi => ?_, by simp [Nat.min_eq_left hlen, hl], hm, fun i => ?_⟩
  ·have hi2 : i < len := by simp at hi; omega
   have h1 := hc i (by omega)
   obtain ⟨b, off, e⟩ := plain_addr (hc 0 (by omega))
   rw [add_zero'] at e
   subst e
   refine ⟨b, off, rfl, ?_⟩
   rw [add_plain] at h1
   rw [h1]
   simp [nth, List.getElem?_take, hi2]
  ·by_cases g : i < (zs.take len).length
   ·rw [nth_lt g]
    exact i64_wf (hw _ (List.mem_of_mem_take (List.getElem_mem g)))
   ·simp [nth, List.getElem?_eq_none (Nat.le_of_not_lt g), I64]
theorem open_longs {base : Nat} {v : Value} {d : DataW H} {p : List MemPlace} {sp : Nat → Bool} {hd : Bool} (hv : Value.okWide Try.prog W .any base 25 v) (h : DataW.Trod enc Try.prog W 0 sp hd 25 v d p) :
 ∃ (l : List Int) (a : Option Addr) (cap : Nat), v = .slice a l.length cap ∧ (∀ i, I64 (nth l i)) ∧ Ints W a l ∧ l.length ≤ 9223372036854775807 := by
 obtain ⟨fuel, hf⟩ := h
 obtain ⟨a0, n0, c0, rfl⟩ := okWide_slice Try.underlying25 hv
 obtain ⟨l, a, cap, e, hB, hl, hm, hb⟩ := open_longs_cs hf
 have e : Value.slice a0 n0 c0 = .slice a l.length cap := by simpa [Value.cells] using e
 exact ⟨l, a, cap, e, hb, hB, by unfold maxLen at hm; omega⟩
theorem open_words_cs {fuel : Nat} {cs : List Value} {x : DataW H × List MemPlace} {sp : Nat → Bool} {hd : Bool} (h : DataW.trod enc Try.prog W 0 sp hd fuel 54 cs = some x) :
 ∃ (l : List Int) (a : Option Addr) (cap : Nat), cs = [.slice a l.length cap] ∧ Wrds W a l ∧ l.length ≤ cap ∧ cap ≤ maxLen ∧ ∀ i, 0 ≤ nth l i ∧ nth l i ≤ 65535 := by
 rcases open_ints Try.underlying54 Try.underlying64 cellsOfWord h with ⟨rfl, _⟩ | ⟨a, len, cap, zs, rfl, _, hl, hm, hz, _, hc, hw⟩
 ·exact ⟨[], none, 0, rfl, fun i hi => absurd hi (by simp), Nat.le_refl _, by simp [maxLen], fun i => by simp [nth]⟩
 ·have hlen : len ≤ zs.length := by rw [hz]; split <;> omega
  refine ⟨zs.take len, some a, cap, by simp [Nat.min_eq_left hlen], fun i hi => ?_, by simp [Nat.min_eq_left hlen, hl], hm, fun i => ?_⟩
  ·have hi2 : i < len := by simp at hi; omega
   have h1 := hc i (by omega)
   obtain ⟨b, off, e⟩ := plain_addr (hc 0 (by omega))
   have ea : a = ⟨b, off, none⟩ := by
    have : a.add 0 = a := by unfold Addr.add; simp
    rw [this] at e; exact e
   subst ea
   refine ⟨b, off, rfl, ?_⟩
   rw [add_plain] at h1
   rw [h1]
   simp [nth, List.getElem?_take, hi2]
  ·by_cases g : i < (zs.take len).length
   ·rw [nth_lt g]
    exact u16_of (hw _ (List.mem_of_mem_take (List.getElem_mem g)))
   ·simp [nth, List.getElem?_eq_none (Nat.le_of_not_lt g)]
theorem open_words {base : Nat} {v : Value} {d : DataW H} {p : List MemPlace} {sp : Nat → Bool} {hd : Bool} (hv : Value.okWide Try.prog W .any base 54 v) (h : DataW.Trod enc Try.prog W 0 sp hd 54 v d p) :
 ∃ (l : List Int) (a : Option Addr) (cap : Nat), v = .slice a l.length cap ∧ (∀ i, 0 ≤ nth l i ∧ nth l i ≤ 65535) ∧ Wrds W a l ∧ l.length ≤ 9223372036854775807 := by
 obtain ⟨fuel, hf⟩ := h
 obtain ⟨a0, n0, c0, rfl⟩ := okWide_slice Try.underlying54 hv
 obtain ⟨l, a, cap, e, hB, hl, hm, hb⟩ := open_words_cs hf
 have e : Value.slice a0 n0 c0 = .slice a l.length cap := by simpa [Value.cells] using e
 exact ⟨l, a, cap, e, hb, hB, by unfold maxLen at hm; omega⟩
theorem cellsOfRange : Try.prog.cellsOf 66 = 2 := by kernel_rfl
theorem cellsOfMetal : Try.prog.cellsOf 68 = 5 := by kernel_rfl
theorem cellsOfTouch : Try.prog.cellsOf 24 = 2 := by kernel_rfl
theorem cellsOfProof : Try.prog.cellsOf 45 = 4 := by kernel_rfl
theorem open_rng {fuel : Nat} {v0 v1 : Value} {x : DataW H × List MemPlace} {sp : Nat → Bool} {hd : Bool} (h : DataW.trod enc Try.prog W 0 sp hd fuel 66 [v0, v1] = some x) :
 ∃ a b : Int, v0 = .int .i64 a ∧ v1 = .int .i64 b ∧ I64 a ∧ I64 b := by
 obtain ⟨y0, y1, n, _, _, h0, h1⟩ := trod_struct2 Try.underlying66 h
 simp only [cellsOfInt, List.drop_zero, List.drop_succ_cons, List.take_succ_cons, List.take_zero] at h0 h1
 obtain ⟨a, e0, _, w0⟩ := DataW.trod_int Try.underlying2 h0
 obtain ⟨b, e1, _, w1⟩ := DataW.trod_int Try.underlying2 h1
 exact ⟨a, b, by simpa using e0, by simpa using e1, i64_wf w0, i64_wf w1⟩
theorem open_mets_cs {fuel : Nat} {cs : List Value} {x : DataW H × List MemPlace} {sp : Nat → Bool} {hd : Bool} (h : DataW.trod enc Try.prog W 0 sp hd fuel 22 cs = some x) :
 ∃ (l : List Met) (a : Option Addr) (cap : Nat), cs = [.slice a l.length cap] ∧ Mts W a l ∧ l.length ≤ cap ∧ cap ≤ maxLen ∧ FitM l := by
 rcases open_slice Try.underlying22 h with ⟨rfl, _⟩ | ⟨a, len, cap, m, n, D, Pl, rfl, hb, hl, hm, hmm, _, hc⟩
 ·exact ⟨[], none, 0, rfl, fun i hi => absurd hi (by simp), Nat.le_refl _, by simp [maxLen], fun i => by simp [mtl, I64]⟩
 ·have hlen : len ≤ m := by rw [hmm]; split <;> omega
  have each : ∀ i, i < m → ∃ q : Met, (W.cell? (a.add (i * 5)) = some (.int .i64 q.p) ∧ W.cell? (a.add (i * 5 + 1)) = some (.int .i64 q.ll) ∧ W.cell? (a.add (i * 5 + 2)) = some (.int .i64 q.lh) ∧ W.cell? (a.add (i * 5 + 3)) = some (.int .i64 q.cl) ∧ W.cell? (a.add (i * 5 + 4)) = some (.int .i64 q.ch)) ∧
   I64 q.p ∧ I64 q.ll ∧ I64 q.lh ∧ I64 q.cl ∧ I64 q.ch := by
   intro i hi
   obtain ⟨cs', h1, h2⟩ := hc i hi
   rw [cellsOfMetal] at h1
   obtain ⟨_, hln, hcell⟩ := World.cells?_some h1
   obtain ⟨y0, y1, y2, k, _, _, g0, g1, g2⟩ := trod_struct3 Try.underlying68 h2
   match cs', hln with
   | [v0, v1, v2, v3, v4], _ =>
    simp only [cellsOfInt, cellsOfRange, List.drop_zero, List.drop_succ_cons, List.take_succ_cons, List.take_zero] at g0 g1 g2
    obtain ⟨p, e0, _, w0⟩ := DataW.trod_int Try.underlying2 g0
    obtain ⟨ll, lh, rfl, rfl, w1, w2⟩ := open_rng g1
    obtain ⟨cl, ch, rfl, rfl, w3, w4⟩ := open_rng g2
    have e0 : v0 = .int .i64 p := by simpa using e0
    subst e0
    have c0 := hcell 0 (by decide); have c1 := hcell 1 (by decide); have c2 := hcell 2 (by decide); have c3 := hcell 3 (by decide); have c4 := hcell 4 (by decide)
    rw [add_add] at c0 c1 c2 c3 c4
    exact ⟨⟨p, ll, lh, cl, ch⟩, ⟨by simpa using c0, by simpa using c1, by simpa using c2, by simpa using c3, by simpa using c4⟩, i64_wf w0, w1, w2, w3, w4⟩
  obtain ⟨q, hq⟩ := choose_lt each
  have hg : ∀ i, i < len → mtl ((List.range len).map q) i = q i := fun i hi => by simp [mtl, List.getD_eq_getElem?_getD, hi]
  refine ⟨(List.range len).map q, some a, cap, by simp, fun i hi => ?_, by simpa using hl, hm, fun i => ?_⟩
  ·have hi2 : i < len := by simpa using hi
   obtain ⟨b, off, e⟩ := plain_addr (hq 0 (by omega)).1.1
   have ea : a = ⟨b, off, none⟩ := by
    have : a.add 0 = a := by unfold Addr.add; simp
    simpa [this] using e
   subst ea
   obtain ⟨c0, c1, c2, c3, c4⟩ := (hq i (by omega)).1
   rw [add_plain] at c0 c1 c2 c3 c4
   rw [hg i hi2]
   exact ⟨b, off, rfl, c0, c1, c2, c3, c4⟩
  ·by_cases g : i < len
   ·rw [hg i g]; exact (hq i (by omega)).2
   ·have : mtl ((List.range len).map q) i = ⟨0, 0, 0, 0, 0⟩ := by simp [mtl, List.getD_eq_getElem?_getD, List.getElem?_eq_none (show ((List.range len).map q).length ≤ i by simp; omega)]
    rw [this]
    simp [I64]
theorem open_mets {base : Nat} {v : Value} {d : DataW H} {p : List MemPlace} {sp : Nat → Bool} {hd : Bool} (hv : Value.okWide Try.prog W .any base 22 v) (h : DataW.Trod enc Try.prog W 0 sp hd 22 v d p) :
 ∃ (l : List Met) (a : Option Addr) (cap : Nat), v = .slice a l.length cap ∧ FitM l ∧ Mts W a l ∧ l.length ≤ 9223372036854775807 := by
 obtain ⟨fuel, hf⟩ := h
 obtain ⟨a0, n0, c0, rfl⟩ := okWide_slice Try.underlying22 hv
 obtain ⟨l, a, cap, e, hB, hl, hm, hq⟩ := open_mets_cs hf
 have e : Value.slice a0 n0 c0 = .slice a l.length cap := by simpa [Value.cells] using e
 exact ⟨l, a, cap, e, hq, hB, by unfold maxLen at hm; omega⟩
theorem open_touch {base : Nat} {v : Value} {d : DataW H} {p : List MemPlace} {sp : Nat → Bool} {hd : Bool} (hv : Value.okWide Try.prog W .any base 24 v) (h : DataW.Trod enc Try.prog W 0 sp hd 24 v d p) :
 ∃ x y : Int, v = .agg #[.int .i64 x, .int .i64 y] ∧ I64 x ∧ I64 y := by
 obtain ⟨v0, v1, y0, y1, n, rfl, rfl, rfl, h0, h1⟩ := open_agg2 Try.underlying24 (by kernel_rfl) cellsOfTouch hv h
 obtain ⟨x0, e0, _, w0⟩ := DataW.trod_int Try.underlying2 h0
 obtain ⟨x1, e1, _, w1⟩ := DataW.trod_int Try.underlying2 h1
 cases e0; cases e1
 exact ⟨x0, x1, rfl, i64_wf w0, i64_wf w1⟩
theorem open_proof {base : Nat} {v : Value} {d : DataW H} {p : List MemPlace} {sp : Nat → Bool} {hd : Bool} (hv : Value.okWide Try.prog W .any base 45 v) (h : DataW.Trod enc Try.prog W 0 sp hd 45 v d p) :
 ∃ x y z u : Int, v = .agg #[.int .i64 x, .int .i64 y, .int .i64 z, .int .i64 u] ∧ I64 x ∧ I64 y ∧ I64 z ∧ I64 u := by
 obtain ⟨v0, v1, v2, v3, y0, y1, y2, y3, n, rfl, rfl, rfl, h0, h1, h2, h3⟩ := open_agg4 Try.underlying45 (by kernel_rfl) cellsOfProof hv h
 obtain ⟨x0, e0, _, w0⟩ := DataW.trod_int Try.underlying2 h0
 obtain ⟨x1, e1, _, w1⟩ := DataW.trod_int Try.underlying2 h1
 obtain ⟨x2, e2, _, w2⟩ := DataW.trod_int Try.underlying2 h2
 obtain ⟨x3, e3, _, w3⟩ := DataW.trod_int Try.underlying2 h3
 cases e0; cases e1; cases e2; cases e3
 exact ⟨x0, x1, x2, x3, rfl, i64_wf w0, i64_wf w1, i64_wf w2, i64_wf w3⟩
end
theorem trodAll_five {H : Type} {enc : TypeId × Value → H} {P : Program} {w : World} {base : Nat} {spare : Nat → Bool} {held : Bool} {t0 t1 t2 t3 t4 : TypeId} {args : Array Value} {ds : List (DataW H)} {ps : List MemPlace} (h : DataW.TrodAll enc P w base spare held [t0, t1, t2, t3, t4] args.toList ds ps) :
 ∃ v0 v1 v2 v3 v4 d0 d1 d2 d3 d4 p0 p1 p2 p3 p4, args = #[v0, v1, v2, v3, v4] ∧ ds = [d0, d1, d2, d3, d4] ∧ ps = p0 ++ p1 ++ p2 ++ p3 ++ p4 ∧ DataW.Trod enc P w base spare held t0 v0 d0 p0 ∧ DataW.Trod enc P w base spare held t1 v1 d1 p1 ∧ DataW.Trod enc P w base spare held t2 v2 d2 p2 ∧ DataW.Trod enc P w base spare held t3 v3 d3 p3 ∧ DataW.Trod enc P w base spare held t4 v4 d4 p4 := by
 obtain ⟨v0, vs0, d0, ds0, p0, q0, hargs, rfl, rfl, h0, r0⟩ := trodAll_cons h
 obtain ⟨v1, vs1, d1, ds1, p1, q1, rfl, rfl, rfl, h1, r1⟩ := trodAll_cons r0
 obtain ⟨v2, vs2, d2, ds2, p2, q2, rfl, rfl, rfl, h2, r2⟩ := trodAll_cons r1
 obtain ⟨v3, vs3, d3, ds3, p3, q3, rfl, rfl, rfl, h3, r3⟩ := trodAll_cons r2
 obtain ⟨v4, vs4, d4, ds4, p4, q4, rfl, rfl, rfl, h4, r4⟩ := trodAll_cons r3
 obtain ⟨rfl, rfl, rfl⟩ := trodAll_nil r4
 exact ⟨v0, v1, v2, v3, v4, d0, d1, d2, d3, d4, p0, p1, p2, p3, p4, by cases args; simp_all, rfl, by simp, h0, h1, h2, h3, h4⟩
theorem trodAll_six {H : Type} {enc : TypeId × Value → H} {P : Program} {w : World} {base : Nat} {spare : Nat → Bool} {held : Bool} {t0 t1 t2 t3 t4 t5 : TypeId} {args : Array Value} {ds : List (DataW H)} {ps : List MemPlace} (h : DataW.TrodAll enc P w base spare held [t0, t1, t2, t3, t4, t5] args.toList ds ps) :
 ∃ v0 v1 v2 v3 v4 v5 d0 d1 d2 d3 d4 d5 p0 p1 p2 p3 p4 p5, args = #[v0, v1, v2, v3, v4, v5] ∧ ds = [d0, d1, d2, d3, d4, d5] ∧ ps = p0 ++ p1 ++ p2 ++ p3 ++ p4 ++ p5 ∧ DataW.Trod enc P w base spare held t0 v0 d0 p0 ∧ DataW.Trod enc P w base spare held t1 v1 d1 p1 ∧ DataW.Trod enc P w base spare held t2 v2 d2 p2 ∧ DataW.Trod enc P w base spare held t3 v3 d3 p3 ∧ DataW.Trod enc P w base spare held t4 v4 d4 p4 ∧ DataW.Trod enc P w base spare held t5 v5 d5 p5 := by
 obtain ⟨v0, vs0, d0, ds0, p0, q0, hargs, rfl, rfl, h0, r0⟩ := trodAll_cons h
 obtain ⟨v1, vs1, d1, ds1, p1, q1, rfl, rfl, rfl, h1, r1⟩ := trodAll_cons r0
 obtain ⟨v2, vs2, d2, ds2, p2, q2, rfl, rfl, rfl, h2, r2⟩ := trodAll_cons r1
 obtain ⟨v3, vs3, d3, ds3, p3, q3, rfl, rfl, rfl, h3, r3⟩ := trodAll_cons r2
 obtain ⟨v4, vs4, d4, ds4, p4, q4, rfl, rfl, rfl, h4, r4⟩ := trodAll_cons r3
 obtain ⟨v5, vs5, d5, ds5, p5, q5, rfl, rfl, rfl, h5, r5⟩ := trodAll_cons r4
 obtain ⟨rfl, rfl, rfl⟩ := trodAll_nil r5
 exact ⟨v0, v1, v2, v3, v4, v5, d0, d1, d2, d3, d4, d5, p0, p1, p2, p3, p4, p5, by cases args; simp_all, rfl, by simp, h0, h1, h2, h3, h4, h5⟩
end Go.Proofs.Ytpnfhcnnodolbaa
