/- The reference's heldBy, Held. -/
import Derived.Test.YtogglbhidlnijaaRefH
import Derived.Deep.Upon
namespace Go.Proofs.Ytogglbhidlnijaa
set_option linter.unusedVariables false
set_option linter.unusedSimpArgs false
set_option linter.unusedSectionVars false
set_option linter.unnecessarySimpa false
open Go Go.RowKit

theorem upto_len (lo hi : Int) : (upto lo hi).length = (hi + 1 - lo).toNat := by simp [upto]
theorem upto_snoc {lo h : Int} (hh : lo ≤ h) : upto lo h = upto lo (h - 1) ++ [h] := by
  unfold upto
  rw [show (h + 1 - lo).toNat = (h - 1 + 1 - lo).toNat + 1 by omega, List.range_succ, List.map_append]
  congr 1
  simp
  omega
theorem upto_nil {lo h : Int} (hh : h < lo) : upto lo h = [] := by
  unfold upto; rw [show (h + 1 - lo).toNat = 0 by omega]; rfl

theorem flat_len {α : Type} (l : List α) (f : α → List Int) (c : Nat) (h : ∀ x ∈ l, (f x).length ≤ c) : (l.flatMap f).length ≤ l.length * c := by
  induction l with
  | nil => simp
  | cons y l ih =>
    simp only [List.flatMap_cons, List.length_append, List.length_cons, Nat.succ_mul]
    have := h y (by simp)
    have := ih fun x hx => h x (by simp [hx])
    omega

/-- The ranges are right from a place on. -/
def okL (rs : List (Int × Int)) : Prop := ∀ r ∈ rs, okR r.1 r.2
theorem okL_of {d : Dent} (v : VldD d) : okL d.rs := fun r hr => by
  obtain ⟨i, hi, rfl⟩ := List.getElem_of_mem hr
  have := v.ok i hi
  rwa [pa_lt hi, pb_lt hi] at this
theorem trs_len {rs : List (Int × Int)} (h : okL rs) : 0 < (trs rs).length ∧ (trs rs).length ≤ 11 ^ rs.length := by
  induction rs with
  | nil => simp [trs]
  | cons r rs ih =>
    obtain ⟨i1, i2⟩ := ih fun x hx => h x (by simp [hx])
    have hr := h r (by simp)
    unfold okR at hr
    have e : (trs (r :: rs)).length = (upto r.1 r.2).length * (trs rs).length := by
      show ((upto r.1 r.2).flatMap fun h => (trs rs).map (h :: ·)).length = _
      generalize upto r.1 r.2 = l
      induction l with
      | nil => simp
      | cons y l ih2 => simp [List.flatMap_cons, ih2, Nat.succ_mul, Nat.add_comm]
    rw [e, upto_len, List.length_cons, Nat.pow_succ]
    constructor
    · exact Nat.mul_pos (by omega) i1
    · rw [Nat.mul_comm (11 ^ rs.length)]
      exact Nat.mul_le_mul (by omega) i2
theorem heldFrom_len {d : Dent} (v : VldD d) (t : Int) (b : List Int) : 0 < (heldFrom d t b).length ∧ (heldFrom d t b).length ≤ 14641 := by
  obtain ⟨h1, h2⟩ := trs_len (rs := d.rs.drop b.length) fun r hr => okL_of v r (List.mem_of_mem_drop hr)
  unfold heldFrom
  rw [List.length_map]
  refine ⟨h1, Nat.le_trans h2 ?_⟩
  have hn : (d.rs.drop b.length).length ≤ 4 := by rw [List.length_drop]; have := v.n4; omega
  exact Nat.le_trans (Nat.pow_le_pow_right (by omega) hn) (by decide)

/-- The part of heldFrom with the next height up to h. -/
def heldTo (d : Dent) (t : Int) (b : List Int) (lo h : Int) : List Int := (upto lo h).flatMap fun y => heldFrom d t (b ++ [y])
theorem heldTo_snoc {d : Dent} {t : Int} {b : List Int} {lo h : Int} (hh : lo ≤ h) : heldTo d t b lo h = heldTo d t b lo (h - 1) ++ heldFrom d t (b ++ [h]) := by
  unfold heldTo; rw [upto_snoc hh, List.flatMap_append]; simp
theorem heldTo_len {d : Dent} (v : VldD d) (t : Int) (b : List Int) (lo h : Int) (hh : h ≤ lo + 10) : (heldTo d t b lo h).length ≤ 161051 := by
  have := flat_len (upto lo h) (fun y => heldFrom d t (b ++ [y])) 14641 fun x _ => (heldFrom_len v t _).2
  rw [upto_len] at this
  have h2 : (h + 1 - lo).toNat * 14641 ≤ 11 * 14641 := Nat.mul_le_mul_right _ (by omega)
  unfold heldTo
  omega
theorem heldFrom_step {d : Dent} {t : Int} {b : List Int} (h : b.length < d.rs.length) : heldFrom d t b = heldTo d t b (pa d.rs b.length) (pb d.rs b.length) := by
  unfold heldFrom heldTo
  rw [List.drop_eq_getElem_cons h, pa_lt h, pb_lt h, trs, List.map_flatMap]
  congr 1
  funext y
  unfold heldFrom
  simp [List.map_map, Function.comp_def]
theorem heldFrom_end {d : Dent} {t : Int} {b : List Int} (h : b.length = d.rs.length) : heldFrom d t b = [holds (meas d b) t] := by
  unfold heldFrom
  rw [h, List.drop_length]
  simp [trs]

/-- b begins a truth. -/
structure PreT (d : Dent) (b : List Int) : Prop where
  len : b.length ≤ d.rs.length
  ok : ∀ i, i < b.length → pa d.rs i ≤ nth b i ∧ nth b i ≤ pb d.rs i
theorem PreT.snoc {d : Dent} {b : List Int} (h : PreT d b) (hl : b.length < d.rs.length) {y : Int} (h0 : pa d.rs b.length ≤ y) (h1 : y ≤ pb d.rs b.length) : PreT d (b ++ [y]) := by
  refine ⟨by simp; omega, fun i hi => ?_⟩
  rcases Nat.lt_or_ge i b.length with g | g
  · rw [nth_append_left g]; exact h.ok i g
  · obtain rfl : i = b.length := by simp at hi; omega
    rw [nth_append_right (Nat.le_refl _), Nat.sub_self]
    exact ⟨h0, h1⟩
theorem PreT.isT {d : Dent} {b : List Int} (h : PreT d b) (hl : b.length = d.rs.length) : IsT d.rs b := isT_iff.2 ⟨hl, fun i hi => h.ok i (by omega)⟩

theorem ints_one {w : World} {x : Int} {t : TypeId} {n : Nat} (h : n = w.heap.size) : Ints (w.alloc (.cells #[.int .i64 x] t)) (some ⟨n, 0, none⟩) [x] := fun i hi => by
  subst h
  obtain rfl : i = 0 := by simpa using hi
  exact ⟨_, _, rfl, by simp [go_sem, nth]⟩

/-- Nothing is appended. -/
theorem appNone_wp {P : Program} {w : World} {o : Oper} {a : Act} {K : Act → World → Prop} {Q : Exit → Act → World → Prop} (s x : Operand) (t : TypeId)
    (ho : o.op = .call { callee := .builtin .append, args := #[s, x], argTypes := #[t, t] })
    (e : TypeId) (ht : P.underlying t = some (.slice e)) (he : ElemI P e) (ad0 : Option Addr) (n c0 : Nat) (hs : a.eval s = .slice ad0 n c0) (hn : n ≤ c0) (ad : Option Addr) (c : Nat) (hx : a.eval x = .slice ad 0 c)
    (h : K (a.put o.dst (.slice ad0 n c0)) w) : o.wp P a w K Q := by
  obtain ⟨i, hi, hz, hsz, hby⟩ := he
  have hr : (Builtin.append_ #[t, t] o.type #[.slice ad0 n c0, .slice ad 0 c]).run P w = .ok (.slice ad0 n c0) w := by
    refine run_append_nothing w t t o.type e i ht hi ad0 n c0 hn _ ⟨.inl ⟨e, ht⟩, fun _ => rfl, ?_, ?_, by simp, by simp⟩
    · cases ad <;> simp [Builtin.firstCells, loadCells, loadCellsFrom]
    · cases ad <;> simp [Builtin.firstCells, loadCells, loadCellsFrom]
  unfold Oper.wp execOp
  simp only [ho, resolve, invoke, builtin, Sem.run_bind, Sem.run_pure, Result.andThen_ok, List.map_toArray, List.map_cons, List.map_nil, hs, hx, hr]
  exact h

/-- append of a whole list, be it empty, to an empty slice of the call's own. -/
theorem appE_wp {P : Program} {w : World} {o : Oper} {a : Act} {K : Act → World → Prop} {Q : Exit → Act → World → Prop} (s x : Operand) (t : TypeId)
    (ho : o.op = .call { callee := .builtin .append, args := #[s, x], argTypes := #[t, t] })
    (e : TypeId) (ht : P.underlying t = some (.slice e)) (he : ElemI P e) (base : Nat) (k : List Int) (g0 : Nat) (hs : a.eval s = .slice (some ⟨g0, 0, none⟩) 0 0) (ad : Option Addr) (c : Nat) (hx : a.eval x = .slice ad k.length c)
    (hown : OwnI w base e (.slice (some ⟨g0, 0, none⟩) 0 0) []) (hc : Ints w ad k) (hl : k.length ≤ 1099511627776) (hb : base ≤ w.heap.size)
    (h : ∀ g cap w', base ≤ g → OwnI w' base e (.slice (some ⟨g, 0, none⟩) k.length cap) k → Ext w w' → K (a.put o.dst (.slice (some ⟨g, 0, none⟩) k.length cap)) w') : o.wp P a w K Q := by
  cases k with
  | nil => exact appNone_wp s x t ho e ht he _ 0 0 hs (Nat.le_refl _) ad c hx (h g0 0 w (hown.block g0 rfl).1 hown (Ext.refl w))
  | cons y k =>
    exact appFreshI_wp s x t ho e ht he (y :: k) _ hs ad c hx hc (by simp) hl fun cap w' own ext => h _ cap w' hb (own.mono hb) ext

/-- The call returns the integers l. -/
def RetL (l : List Int) (w : World) (e : Ending) (w' : World) : Prop :=
  ∃ a cap, e = .returned (.slice a l.length cap) ∧ Ints w' a l ∧ Ext w w'

set_option maxRecDepth 100000 in
set_option maxHeartbeats 4000000 in
theorem heldBy_any (d : Dent) (v : VldD d) (a : Option Addr) (cap : Nat) (t : Int) (h0 : -20 ≤ t) (h1 : t ≤ 20) (k : Nat) : ∀ (b : List Int) (a2 : Option Addr) (n2 cap2 : Nat) (w : World), n2 = b.length → b.length + k = d.rs.length → PreT d b → Prs w a d.rs → Ints w a2 b →
    Calls Try.prog 101 #[(.agg #[.int .i64 d.L, .int .i64 d.R, .slice a d.rs.length cap]), .int .i64 t, .slice a2 n2 cap2] w (RetL (heldFrom d t b) w) := by
  have n1 := v.n1
  have n4 := v.n4
  induction k with
  | zero =>
    intro b a2 n2 cap2 w hn2 hk hb hP hX
    subst hn2
    have hB := (Ext.refl w).alloc (.cells #[.int .i64 d.L, .int .i64 d.R, .slice a d.rs.length cap] 50)
    have H := hid (heldFrom_end (t := t) (show b.length = d.rs.length by omega))
    have hv := meas_vld v (hb.isT (by omega))
    rw [show b.length = d.rs.length by omega]
    have hlb := hid (show b.length = d.rs.length by omega)
    clear hk
    go_enter Try.func101, Try.ntmps101
    go_wp2_with fail
    refine (measureR_any d a a2 cap d.rs.length cap2 _).mono ?_; rintro e w1 ⟨rfl, hE⟩
    go_wp2_with fail
    have hc := fun W hW => holdsOf_any (meas d b) hv a2 cap2 t W hW h0 h1
    rw [show (meas d b).hs = b from rfl, hlb.out] at hc
    refine (hc _ (hX.ext (by repeat (with_reducible first | assumption | exact Ext.refl _ | refine Ext.drew ?_ | refine Ext.drewN ?_ _ | refine Ext.alloc ?_ _ | (refine Ext.setCell ?_ ?sz _; case sz => (first | (simp; done) | (simp; omega))) | refine Ext.trans ?_ (by assumption))))).mono ?_; rintro e w2 ⟨rfl, hE2⟩
    go_wp2_with fail
    go_ret
    exact ⟨some ⟨w2.heap.size, 0, none⟩, 1, by rw [H.out]; rfl, by rw [H.out]; exact ints_one rfl, (by repeat (with_reducible first | assumption | exact Ext.refl _ | refine Ext.drew ?_ | refine Ext.drewN ?_ _ | refine Ext.alloc ?_ _ | (refine Ext.setCell ?_ ?sz _; case sz => (first | (simp; done) | (simp; omega))) | refine Ext.trans ?_ (by assumption)))⟩
  | succ k ih =>
    intro b a2 n2 cap2 w hn2 hk hb hP hX
    subst hn2
    have hlt : b.length < d.rs.length := by omega
    have hB := (Ext.refl w).alloc (.cells #[.int .i64 d.L, .int .i64 d.R, .slice a d.rs.length cap] 50)
    have H := hid (heldFrom_step (t := t) hlt)
    obtain ⟨blk, off, rfl, hbk, hc⟩ := hP.at (by omega)
    obtain ⟨e0, e1⟩ := hc b.length hlt
    have e0 := hB.cell e0
    have e1 := hB.cell e1
    have hok := v.ok b.length hlt
    unfold okR at hok
    have hsn := hid (fun y h0 h1 => PreT.snoc hb hlt (y := y) h0 h1)
    generalize hlo : pa d.rs b.length = lo at *
    generalize hhi : pb d.rs b.length = hi at *
    replace hlo := hid hlo
    replace hhi := hid hhi
    replace hc := hid hc
    have hdc : (((b.length : Nat) : Int) == ((d.rs.length : Nat) : Int)) = false := by rw [beq_eq_false_iff_ne]; omega
    go_enter Try.func101, Try.ntmps101
    go_wp2_with fail
    go_loopw [7, 9] (fun o i wr => ∃ y : Int, lo ≤ y ∧ y ≤ hi + 1 ∧ i = .int .i64 y ∧ OwnI wr (w.heap.size + 2) 2 o (heldTo d t b lo (y - 1)) ∧ Ext ((w.alloc (.cells #[.int .i64 d.L, .int .i64 d.R, .slice (some ⟨blk, off, none⟩) d.rs.length cap] 50)).alloc (.cells #[.int .i64 lo, .int .i64 hi] 52)) wr) (fun _ i _ => (hi + 1 - intOf i).toNat)
    case atStart => exact ⟨lo, by omega, by omega, rfl, by rw [show heldTo d t b lo (lo - 1) = [] by unfold heldTo; rw [upto_nil (by omega)]; rfl]; exact OwnI.nil _ _ _, Ext.refl _⟩
    case round =>
      obtain ⟨y, hy0, hy1, rfl, ho, hw⟩ := hrel
      have zw := Ext.size hw
      simp at zw
      obtain ⟨c0, c1, c2⟩ := box3 (show Ext (w.alloc (.cells #[.int .i64 d.L, .int .i64 d.R, .slice (some ⟨blk, off, none⟩) d.rs.length cap] 50)) wr from (by repeat (with_reducible first | assumption | exact Ext.refl _ | refine Ext.drew ?_ | refine Ext.drewN ?_ _ | refine Ext.alloc ?_ _ | (refine Ext.setCell ?_ ?sz _; case sz => (first | (simp; done) | (simp; omega))) | refine Ext.trans ?_ (by assumption))))
      have c3 := hw.cell (p := ⟨w.heap.size + 1, 0, none⟩) (v := .int .i64 lo) (by simp [go_sem])
      have c4 := hw.cell (p := ⟨w.heap.size + 1, 1, none⟩) (v := .int .i64 hi) (by simp [go_sem])
      by_cases hlt2 : y ≤ hi
      · have hpre := hsn.out y hy0 hlt2
        have hhl := heldFrom_len v t (b ++ [y])
        have htl := heldTo_len v t b lo (y - 1) (by omega)
        have hsnoc := hid (heldTo_snoc (d := d) (t := t) (b := b) (lo := lo) (h := y) hy0)
        have hbl : (b ++ [y]).length + k = d.rs.length := by simp; omega
        have hXr : Ints wr a2 b := hX.ext (by repeat (with_reducible first | assumption | exact Ext.refl _ | refine Ext.drew ?_ | refine Ext.drewN ?_ _ | refine Ext.alloc ?_ _ | (refine Ext.setCell ?_ ?sz _; case sz => (first | (simp; done) | (simp; omega))) | refine Ext.trans ?_ (by assumption)))
        have hPr : Prs wr (some ⟨blk, off, none⟩) d.rs := hP.ext (by repeat (with_reducible first | assumption | exact Ext.refl _ | refine Ext.drew ?_ | refine Ext.drewN ?_ _ | refine Ext.alloc ?_ _ | (refine Ext.setCell ?_ ?sz _; case sz => (first | (simp; done) | (simp; omega))) | refine Ext.trans ?_ (by assumption)))
        go_wp2_with fail
        go_region_held3 (fun w' => w'.cell? ⟨w.heap.size, 0, none⟩ = some (.int .i64 d.L) ∧ w'.cell? ⟨w.heap.size, 1, none⟩ = some (.int .i64 d.R) ∧ w'.cell? ⟨w.heap.size, 2, none⟩ = some (.slice (some ⟨blk, off, none⟩) d.rs.length cap) ∧ Ext ((w.alloc (.cells #[.int .i64 d.L, .int .i64 d.R, .slice (some ⟨blk, off, none⟩) d.rs.length cap] 50)).alloc (.cells #[.int .i64 lo, .int .i64 hi] 52)) w')
            (((try go_split_ands); (repeat' apply And.intro) <;> (first | (with_reducible assumption) | exact Ext.cell (w := (w.alloc (.cells #[.int .i64 d.L, .int .i64 d.R, .slice (some ⟨blk, off, none⟩) d.rs.length cap] 50)).alloc (.cells #[.int .i64 lo, .int .i64 hi] 52)) (by repeat (with_reducible first | assumption | exact Ext.refl _ | refine Ext.drew ?_ | refine Ext.drewN ?_ _ | refine Ext.alloc ?_ _ | (refine Ext.setCell ?_ ?sz _; case sz => (first | (simp; done) | (simp; omega))) | refine Ext.trans ?_ (by assumption))) (by simp [go_sem]; done) | exact (by repeat (with_reducible first | assumption | exact Ext.refl _ | refine Ext.drew ?_ | refine Ext.drewN ?_ _ | refine Ext.alloc ?_ _ | (refine Ext.setCell ?_ ?sz _; case sz => (first | (simp; done) | (simp; omega))) | refine Ext.trans ?_ (by assumption))))))
            (first | (go_at_call 101; refine (ih (b ++ [y]) (some ⟨b4, 0, none⟩) _ cp4 _ (by simp) hbl hpre (hPr.ext (by repeat (with_reducible first | assumption | exact Ext.refl _ | refine Ext.drew ?_ | refine Ext.drewN ?_ _ | refine Ext.alloc ?_ _ | (refine Ext.setCell ?_ ?sz _; case sz => (first | (simp; done) | (simp; omega))) | refine Ext.trans ?_ (by assumption)))) ?ce).mono ?_; (case ce => exact (by cases hv5; exact hI5.ext (by repeat (with_reducible first | assumption | exact Ext.refl _ | refine Ext.drew ?_ | refine Ext.drewN ?_ _ | refine Ext.alloc ?_ _ | (refine Ext.setCell ?_ ?sz _; case sz => (first | (simp; done) | (simp; omega))) | refine Ext.trans ?_ (by assumption))))); rintro e w5 ⟨a6, c6, rfl, hI6, hE6⟩)
                        | (rw [if_pos (by rfl)]; refine appE_wp _ _ _ rfl 2 Try.underlying22 elemI64 wr.heap.size b _ rfl a2 cap2 rfl ?cm ?ca (by omega) ?cz ?_; (case cm => first | exact OwnI.ext (OwnI.made wr (Nat.le_refl _) 2) (by repeat (with_reducible first | assumption | exact Ext.refl _ | refine Ext.drew ?_ | refine Ext.drewN ?_ _ | refine Ext.alloc ?_ _ | (refine Ext.setCell ?_ ?sz _; case sz => (first | (simp; done) | (simp; omega))) | refine Ext.trans ?_ (by assumption))) | (have hmd := OwnI.made (base := wr.heap.size) (wr.alloc (.cells #[.int .i64 y] 2)) (by simp) 2; simp only [World.size_alloc] at hmd; exact hmd)); (case ca => exact hXr.ext (by repeat (with_reducible first | assumption | exact Ext.refl _ | refine Ext.drew ?_ | refine Ext.drewN ?_ _ | refine Ext.alloc ?_ _ | (refine Ext.setCell ?_ ?sz _; case sz => (first | (simp; done) | (simp; omega))) | refine Ext.trans ?_ (by assumption)))); (case cz => exact Ext.size (by repeat (with_reducible first | assumption | exact Ext.refl _ | refine Ext.drew ?_ | refine Ext.drewN ?_ _ | refine Ext.alloc ?_ _ | (refine Ext.setCell ?_ ?sz _; case sz => (first | (simp; done) | (simp; omega))) | refine Ext.trans ?_ (by assumption)))); intro g3 cp3 w3 hg3 ho3 hE3)
                        | (rw [if_pos (by rfl)]; refine appI_wp _ _ _ rfl 2 Try.underlying22 elemI64 wr.heap.size b [y] _ rfl _ 1 rfl ?cb ?cc (by simp) (by simp; omega) ?cd ?_; (case cb => exact OwnI.ext ho3 (by repeat (with_reducible first | assumption | exact Ext.refl _ | refine Ext.drew ?_ | refine Ext.drewN ?_ _ | refine Ext.alloc ?_ _ | (refine Ext.setCell ?_ ?sz _; case sz => (first | (simp; done) | (simp; omega))) | refine Ext.trans ?_ (by assumption)))); (case cc => first | exact ints_one rfl | exact Ints.ext (w := wr.alloc (.cells #[.int .i64 y] 2)) (ints_one rfl) (by repeat (with_reducible first | assumption | exact Ext.refl _ | refine Ext.drew ?_ | refine Ext.drewN ?_ _ | refine Ext.alloc ?_ _ | (refine Ext.setCell ?_ ?sz _; case sz => (first | (simp; done) | (simp; omega))) | refine Ext.trans ?_ (by assumption))) | exact Ints.ext (w := (wr.alloc (.cells #[] 2)).alloc (.cells #[.int .i64 y] 2)) (ints_one (by simp)) (by repeat (with_reducible first | assumption | exact Ext.refl _ | refine Ext.drew ?_ | refine Ext.drewN ?_ _ | refine Ext.alloc ?_ _ | (refine Ext.setCell ?_ ?sz _; case sz => (first | (simp; done) | (simp; omega))) | refine Ext.trans ?_ (by assumption)))); (case cd => exact Ext.size (by repeat (with_reducible first | assumption | exact Ext.refl _ | refine Ext.drew ?_ | refine Ext.drewN ?_ _ | refine Ext.alloc ?_ _ | (refine Ext.setCell ?_ ?sz _; case sz => (first | (simp; done) | (simp; omega))) | refine Ext.trans ?_ (by assumption)))); intro b4 cp4 w4 ho4 hx4 hb4; have hE4 := hx4 wr (by repeat (with_reducible first | assumption | exact Ext.refl _ | refine Ext.drew ?_ | refine Ext.drewN ?_ _ | refine Ext.alloc ?_ _ | (refine Ext.setCell ?_ ?sz _; case sz => (first | (simp; done) | (simp; omega))) | refine Ext.trans ?_ (by assumption))) (Nat.le_refl _); obtain ⟨a5, c5, hv5, hI5⟩ := ho4.slice; clear hx4)
                        | (rw [if_pos (by rfl)]; refine appI_wp _ _ _ rfl 2 Try.underlying22 elemI64 (w.heap.size + 2) (heldTo d t b lo (y - 1)) (heldFrom d t (b ++ [y])) _ rfl a6 c6 rfl ?cf ?cg hhl.1 (by omega) ?ch ?_; (case cf => exact ho.ext (by repeat (with_reducible first | assumption | exact Ext.refl _ | refine Ext.drew ?_ | refine Ext.drewN ?_ _ | refine Ext.alloc ?_ _ | (refine Ext.setCell ?_ ?sz _; case sz => (first | (simp; done) | (simp; omega))) | refine Ext.trans ?_ (by assumption)))); (case cg => exact hI6.ext (by repeat (with_reducible first | assumption | exact Ext.refl _ | refine Ext.drew ?_ | refine Ext.drewN ?_ _ | refine Ext.alloc ?_ _ | (refine Ext.setCell ?_ ?sz _; case sz => (first | (simp; done) | (simp; omega))) | refine Ext.trans ?_ (by assumption)))); (case ch => exact Nat.le_trans (by omega) (Ext.size (w := wr) (by repeat (with_reducible first | assumption | exact Ext.refl _ | refine Ext.drew ?_ | refine Ext.drewN ?_ _ | refine Ext.alloc ?_ _ | (refine Ext.setCell ?_ ?sz _; case sz => (first | (simp; done) | (simp; omega))) | refine Ext.trans ?_ (by assumption))))); intro b7 cp7 w7 ho7 hx7 hb7; have hE7 := hx7 ((w.alloc (.cells #[.int .i64 d.L, .int .i64 d.R, .slice (some ⟨blk, off, none⟩) d.rs.length cap] 50)).alloc (.cells #[.int .i64 lo, .int .i64 hi] 52)) (by repeat (with_reducible first | assumption | exact Ext.refl _ | refine Ext.drew ?_ | refine Ext.drewN ?_ _ | refine Ext.alloc ?_ _ | (refine Ext.setCell ?_ ?sz _; case sz => (first | (simp; done) | (simp; omega))) | refine Ext.trans ?_ (by assumption))) (by simp); clear hx7))
        all_goals
          go_wp2_with fail
          go_roundw
          case rel => exact ⟨y + 1, by omega, by omega, rfl, by rw [show y + 1 - 1 = y by omega, hsnoc.out]; simpa only [List.length_append] using ho7, (by repeat (with_reducible first | assumption | exact Ext.refl _ | refine Ext.drew ?_ | refine Ext.drewN ?_ _ | refine Ext.alloc ?_ _ | (refine Ext.setCell ?_ ?sz _; case sz => (first | (simp; done) | (simp; omega))) | refine Ext.trans ?_ (by assumption)))⟩
          case measure => simp [intOf]; omega
      · have e : y = hi + 1 := by omega
        subst e
        rw [show hi + 1 - 1 = hi by omega, ← H.out] at ho
        obtain ⟨bb, cp, rfl, hi2⟩ := ho.slice
        go_wp2_with fail
        go_ret
        exact ⟨bb, cp, rfl, hi2, (by repeat (with_reducible first | assumption | exact Ext.refl _ | refine Ext.drew ?_ | refine Ext.drewN ?_ _ | refine Ext.alloc ?_ _ | (refine Ext.setCell ?_ ?sz _; case sz => (first | (simp; done) | (simp; omega))) | refine Ext.trans ?_ (by assumption)))⟩

set_option maxHeartbeats 400000 in
theorem held_any (d : Dent) (v : VldD d) (a : Option Addr) (cap : Nat) (t : Int) (h0 : -20 ≤ t) (h1 : t ≤ 20) (w : World) (hP : Prs w a d.rs) :
    Calls Try.prog 88 #[(.agg #[.int .i64 d.L, .int .i64 d.R, .slice a d.rs.length cap]), .int .i64 t] w (RetL (held d t) w) := by
  have hB := (Ext.refl w).alloc (.cells #[.int .i64 d.L, .int .i64 d.R, .slice a d.rs.length cap] 50)
  have hq := fun W hW => heldBy_any d v a cap t h0 h1 d.rs.length [] none 0 0 W rfl (by simp) ⟨by simp, fun i hi => absurd hi (by simp)⟩ hW (Ints.nil _ _)
  have e : heldFrom d t [] = held d t := by simp [heldFrom, held]
  rw [e] at hq
  have HQ := hid hq
  clear hq e
  go_enter Try.func88, Try.ntmps88
  go_wp2_with fail
  refine (HQ.out _ (hP.ext (by repeat (with_reducible first | assumption | exact Ext.refl _ | refine Ext.drew ?_ | refine Ext.drewN ?_ _ | refine Ext.alloc ?_ _ | (refine Ext.setCell ?_ ?sz _; case sz => (first | (simp; done) | (simp; omega))) | refine Ext.trans ?_ (by assumption))))).mono ?_; rintro e w1 ⟨a1, c1, rfl, hI, hE⟩
  go_wp2_with fail
  go_ret
  exact ⟨a1, c1, rfl, hI, (by repeat (with_reducible first | assumption | exact Ext.refl _ | refine Ext.drew ?_ | refine Ext.drewN ?_ _ | refine Ext.alloc ?_ _ | (refine Ext.setCell ?_ ?sz _; case sz => (first | (simp; done) | (simp; omega))) | refine Ext.trans ?_ (by assumption)))⟩

end Go.Proofs.Ytogglbhidlnijaa

