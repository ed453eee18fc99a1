/- The program's Best, whole. -/
import Derived.Test.YtogglbhidlnijaaPinG
import Derived.Laws.EntriesVeiled
namespace Go.Proofs.Ytogglbhidlnijaa
set_option linter.unusedVariables false
set_option linter.unusedSimpArgs false
set_option linter.unusedSectionVars false
set_option linter.unnecessarySimpa false
open Go Go.RowKit

/-- What the closures of Best read. -/
structure Env (w : World) (m : Meas) (t : Int) (a : Option Addr) (cap mb tb cb : Nat) : Prop where
  hI : Ints w a m.hs
  c0 : w.cell? ⟨mb, 0, none⟩ = some (.int .i64 m.L)
  c1 : w.cell? ⟨mb, 1, none⟩ = some (.int .i64 m.R)
  c2 : w.cell? ⟨mb, 2, none⟩ = some (.slice a m.hs.length cap)
  ct : w.cell? ⟨tb, 0, none⟩ = some (.int .i64 t)
  cf : w.cell? ⟨cb, 0, none⟩ = some (.func (.func 79) #[] #[.pointer (some ⟨mb, 0, none⟩), .pointer (some ⟨tb, 0, none⟩)])
theorem Env.ext {w w' : World} {m : Meas} {t : Int} {a : Option Addr} {cap mb tb cb : Nat} (h : Env w m t a cap mb tb cb) (k : Ext w w') : Env w' m t a cap mb tb cb :=
  ⟨h.hI.ext k, k.cell h.c0, k.cell h.c1, k.cell h.c2, k.cell h.ct, k.cell h.cf⟩

set_option maxHeartbeats 1000000 in
theorem best2_any (m : Meas) (v : Vld m) (a : Option Addr) (cap : Nat) (t : Int) (h0 : -20 ≤ t) (h1 : t ≤ 20) (mb tb cb : Nat) (x y : Nat) (hx : x < m.hs.length) (hy : y < m.hs.length) (w : World) (hV : Env w m t a cap mb tb cb) :
    Calls Try.prog 83 #[.int .i64 x, .int .i64 y, .pointer (some ⟨cb, 0, none⟩)] w fun e w' => e = .returned (.bool (decide (out0 m t y < out0 m t x))) ∧ Ext w w' := by
  have n8 := v.n8
  have n1 := v.n1
  have cf := hV.cf
  go_enter Try.func83, Try.ntmps83
  go_wp2_with fail
  go_region_held3 (fun w' => w'.cell? ⟨cb, 0, none⟩ = some (.func (.func 79) #[] #[.pointer (some ⟨mb, 0, none⟩), .pointer (some ⟨tb, 0, none⟩)]) ∧ Env w' m t a cap mb tb cb ∧ Ext w w')
    (((try go_split_ands); (repeat' apply And.intro) <;> (first | exact Ext.cell (w := w) (by repeat (with_reducible first | assumption | exact Ext.refl _ | refine Ext.drew ?_ | refine Ext.drewN ?_ _ | refine Ext.alloc ?_ _ | (refine Ext.setCell ?_ ?sz _; case sz => (first | (simp; done) | (simp; omega))) | refine Ext.trans ?_ (by assumption))) (by assumption) | exact Env.ext hV (by repeat (with_reducible first | assumption | exact Ext.refl _ | refine Ext.drew ?_ | refine Ext.drewN ?_ _ | refine Ext.alloc ?_ _ | (refine Ext.setCell ?_ ?sz _; case sz => (first | (simp; done) | (simp; omega))) | refine Ext.trans ?_ (by assumption))) | exact (by repeat (with_reducible first | assumption | exact Ext.refl _ | refine Ext.drew ?_ | refine Ext.drewN ?_ _ | refine Ext.alloc ?_ _ | (refine Ext.setCell ?_ ?sz _; case sz => (first | (simp; done) | (simp; omega))) | refine Ext.trans ?_ (by assumption))))))
    (first | (go_at_call 79; go_split_ands; refine (best1_any m v a cap t h0 h1 mb tb _ (by omega) _ (Env.hI (by assumption)) (Env.c0 (by assumption)) (Env.c1 (by assumption)) (Env.c2 (by assumption)) (Env.ct (by assumption))).mono ?_; rintro e w1 ⟨rfl, hE⟩))
  all_goals
    go_wp2_with fail
    go_ret
    exact ⟨rfl, (by repeat (with_reducible first | assumption | exact Ext.refl _ | refine Ext.drew ?_ | refine Ext.drewN ?_ _ | refine Ext.alloc ?_ _ | (refine Ext.setCell ?_ ?sz _; case sz => (first | (simp; done) | (simp; omega))) | refine Ext.trans ?_ (by assumption)))⟩

set_option maxHeartbeats 1000000 in
theorem bestI_any (m : Meas) (v : Vld m) (a : Option Addr) (cap : Nat) (t : Int) (h0 : -20 ≤ t) (h1 : t ≤ 20) (mb tb cb : Nat) (la : Option Addr) (lcap : Nat) (hlc : m.hs.length ≤ lcap) (hlm : lcap ≤ 9223372036854775807) (l : List Int) (hl : l.length = m.hs.length) (hln : ∀ i, i < m.hs.length → nth l i = i) (w : World) (hL : Ints w la l) (hV : Env w m t a cap mb tb cb) :
    Calls Try.prog 82 #[.slice la m.hs.length lcap, .func (.func 83) #[] #[.pointer (some ⟨cb, 0, none⟩)]] w fun e w' => e = .returned (.int .i64 (bst m t m.hs.length)) ∧ Ext w w' := by
  have n8 := v.n8
  have n1 := v.n1
  obtain ⟨b, off, rfl, hb, hc⟩ := hL.at (by omega)
  have e0 := hc 0 (by omega)
  rw [hln 0 (by omega), Nat.add_zero] at e0
  replace hl := hid hl
  have hcell : ∀ i : Nat, i < m.hs.length → w.cell? ⟨b, off + i, none⟩ = some (.int .i64 i) := fun i hi => by rw [hc i (by have := hl.out; omega), hln i hi]
  replace hcell := hid hcell
  clear hc hL hln
  by_cases hcap : lcap = 1
  · have hn : m.hs.length = 1 := by omega
    have hr := hid (show bst m t m.hs.length = 0 by rw [hn]; simp [bst])
    rw [hn]
    rw [hn] at hr
    subst hcap
    replace hn := hid hn
    clear hl hlc hlm n8 n1
    go_enter Try.func82, Try.ntmps82
    go_wp2_with fail
    go_loop [5, 14] (fun o i => i = .int .i64 0 ∧ o = .int .i64 0) (fun _ _ => 0)
    case atStart => exact ⟨rfl, rfl⟩
    case round =>
      obtain ⟨rfl, rfl⟩ := hrel
      go_wp2_with fail
      go_ret
      exact ⟨ret_int (by rw [hr.out]; rfl), (by repeat (with_reducible first | assumption | exact Ext.refl _ | refine Ext.drew ?_ | refine Ext.drewN ?_ _ | refine Ext.alloc ?_ _ | (refine Ext.setCell ?_ ?sz _; case sz => (first | (simp; done) | (simp; omega))) | refine Ext.trans ?_ (by assumption)))⟩
  · go_enter Try.func82, Try.ntmps82
    go_wp2_with fail
    go_loopw [5, 14] (fun o i wr => ∃ k : Nat, k + 1 ≤ m.hs.length ∧ i = .int .i64 k ∧ o = .int .i64 (bst m t (k + 1)) ∧ Ext w wr) (fun _ i _ => (m.hs.length - intOf i).toNat)
    case atStart => exact ⟨0, by omega, rfl, by simp [bst], Ext.refl _⟩
    case round =>
      obtain ⟨k, hk, rfl, rfl, hw⟩ := hrel
      by_cases hlt : k < m.hs.length - 1
      · obtain ⟨x, hx⟩ : ∃ x, x = k + 1 := ⟨_, rfl⟩
        have ck := hw.cell (hcell.out (k + 1) (by omega))
        rw [← hx, hx, ← Nat.add_assoc, Nat.add_right_comm] at ck
        rw [← hx] at ck
        have hbl := bst_lt m t (k + 1) m.hs.length hk n1
        have hs := hid (show bst m t (k + 1 + 1) = if out0 m t (bst m t (k + 1)) < out0 m t x then x else bst m t (k + 1) by rw [hx]; rw [bst])
        generalize bst m t (k + 1) = bb at *
        have hxl : x < m.hs.length := by omega
        replace hx := hid hx
        by_cases hg : out0 m t bb < out0 m t x
        all_goals
          go_wp2_with fail
          refine (best2_any m v a cap t h0 h1 mb tb cb x bb hxl hbl _ (hV.ext (by repeat (with_reducible first | assumption | exact Ext.refl _ | refine Ext.drew ?_ | refine Ext.drewN ?_ _ | refine Ext.alloc ?_ _ | (refine Ext.setCell ?_ ?sz _; case sz => (first | (simp; done) | (simp; omega))) | refine Ext.trans ?_ (by assumption))))).mono ?_
          rintro e w2 ⟨rfl, hE⟩
          go_wp2_with fail
          go_roundw
          case rel => exact ⟨k + 1, by have := hx.out; omega, by go_num, by rw [hs.out]; split <;> first | rfl | (exfalso; omega), (by repeat (with_reducible first | assumption | exact Ext.refl _ | refine Ext.drew ?_ | refine Ext.drewN ?_ _ | refine Ext.alloc ?_ _ | (refine Ext.setCell ?_ ?sz _; case sz => (first | (simp; done) | (simp; omega))) | refine Ext.trans ?_ (by assumption)))⟩
          case measure => have := hx.out; simp [intOf]; omega
      · have hr := hid (show k + 1 = m.hs.length by omega)
        go_wp2_with fail
        go_ret
        exact ⟨ret_int (by rw [hr.out]), (by repeat (with_reducible first | assumption | exact Ext.refl _ | refine Ext.drew ?_ | refine Ext.drewN ?_ _ | refine Ext.alloc ?_ _ | (refine Ext.setCell ?_ ?sz _; case sz => (first | (simp; done) | (simp; omega))) | refine Ext.trans ?_ (by assumption)))⟩


theorem elemI64n : ElemI Try.prog 3 := elemI_mk (by kernel_rfl)
def ups (k : Nat) : List Int := (List.range k).map (fun i : Nat => Int.ofNat i)
theorem ups_len (k : Nat) : (ups k).length = k := by simp [ups]
theorem ups_succ (k : Nat) : ups (k + 1) = ups k ++ [(k : Int)] := by simp [ups, List.range_succ]
theorem ups_nth {k i : Nat} (h : i < k) : nth (ups k) i = i := by unfold ups; rw [nth_map_range _ _ _ h]; rfl

set_option maxHeartbeats 2000000 in
theorem best_any (m : Meas) (q : Fit m) (a : Option Addr) (cap : Nat) (t : Int) (w : World) (hI : Ints w a m.hs) (hl : m.hs.length ≤ 1000) (ht : I64 t) :
    Calls Try.prog 37 #[(.agg #[.int .i64 m.L, .int .i64 m.R, .slice a m.hs.length cap]), .int .i64 t] w fun e w' => e = .returned (.tuple #[.int .i64 (bestOf m t), .int .i64 (moreOf m t), .int .i64 (tlt m t)]) ∧ Ext w w' := by
  have hB : Ext w ((w.alloc (.cells #[.int .i64 m.L, .int .i64 m.R, .slice a m.hs.length cap] 24)).alloc (.cells #[.int .i64 t] 2)) := (by repeat (with_reducible first | assumption | exact Ext.refl _ | refine Ext.drew ?_ | refine Ext.drewN ?_ _ | refine Ext.alloc ?_ _ | (refine Ext.setCell ?_ ?sz _; case sz => (first | (simp; done) | (simp; omega))) | refine Ext.trans ?_ (by assumption)))
  go_enter Try.func37, Try.ntmps37
  go_wp2_with fail
  (refine (open0_any m q a cap t _ (by first | assumption | exact Ints.ext hI (by repeat (with_reducible first | assumption | exact Ext.refl _ | refine Ext.drew ?_ | refine Ext.drewN ?_ _ | refine Ext.alloc ?_ _ | (refine Ext.setCell ?_ ?sz _; case sz => (first | (simp; done) | (simp; omega))) | refine Ext.trans ?_ (by assumption)))) hl ht).mono ?_)
  rintro e w1 (⟨g, rfl, hE⟩ | ⟨g, tt, rfl, hT, hE⟩)
  · have g0 : (tlt m t != 0) = true := by simp [g]
    have H1 := hid (show bestOf m t = 0 by unfold bestOf; rw [if_neg g])
    have H2 := hid (show moreOf m t = 0 by unfold moreOf; rw [if_neg g])
    clear g
    go_wp2_with fail
    go_ret3
    exact ⟨ret3i H1.out.symm H2.out.symm rfl, (by repeat (with_reducible first | assumption | exact Ext.refl _ | refine Ext.drew ?_ | refine Ext.drewN ?_ _ | refine Ext.alloc ?_ _ | (refine Ext.setCell ?_ ?sz _; case sz => (first | (simp; done) | (simp; omega))) | refine Ext.trans ?_ (by assumption)))⟩
  · have k := tlt_ok.1 g
    have n8 := k.v.n8
    have n1 := k.v.n1
    have H1 := hid (show bestOf m t = bst m t m.hs.length by unfold bestOf; rw [if_pos g])
    have H2 := hid (show moreOf m t = out0 m t (bst m t m.hs.length) - holds m t by unfold moreOf; rw [if_pos g])
    replace g := hid g
    have c0 := hE.cell (p := ⟨w.heap.size, 0, none⟩) (v := .int .i64 m.L) (by simp [go_sem])
    have c1 := hE.cell (p := ⟨w.heap.size, 1, none⟩) (v := .int .i64 m.R) (by simp [go_sem])
    have c2 := hE.cell (p := ⟨w.heap.size, 2, none⟩) (v := .slice a m.hs.length cap) (by simp [go_sem])
    have ct := hE.cell (p := ⟨w.heap.size + 1, 0, none⟩) (v := .int .i64 t) (by simp [go_sem])
    have z0 := Ext.size hE
    simp at z0
    have z1 : w.heap.size < w1.heap.size := by omega
    have z2 : w.heap.size + 1 < w1.heap.size := by omega
    go_wp2_with fail
    have hW : Ext w1 (w1.alloc (.cells #[(.func (.func 79) #[] #[.pointer (some ⟨w.heap.size, 0, none⟩), .pointer (some ⟨w.heap.size + 1, 0, none⟩)])] 101)) := (by repeat (with_reducible first | assumption | exact Ext.refl _ | refine Ext.drew ?_ | refine Ext.drewN ?_ _ | refine Ext.alloc ?_ _ | (refine Ext.setCell ?_ ?sz _; case sz => (first | (simp; done) | (simp; omega))) | refine Ext.trans ?_ (by assumption)))
    go_loopw [10, 26] (fun o i wr => ∃ k : Nat, k ≤ m.hs.length ∧ i = .int .i64 k ∧ OwnI wr (w1.heap.size + 1) 3 o (ups k) ∧ Ext (w1.alloc (.cells #[(.func (.func 79) #[] #[.pointer (some ⟨w.heap.size, 0, none⟩), .pointer (some ⟨w.heap.size + 1, 0, none⟩)])] 101)) wr) (fun _ i _ => (m.hs.length - intOf i).toNat)
    case atStart => exact ⟨0, by omega, rfl, OwnI.nil _ _ _, Ext.refl _⟩
    case round =>
      obtain ⟨j, hj, rfl, ho, hw⟩ := hrel
      have cf := hw.cell (p := ⟨w1.heap.size, 0, none⟩) (v := (.func (.func 79) #[] #[.pointer (some ⟨w.heap.size, 0, none⟩), .pointer (some ⟨w.heap.size + 1, 0, none⟩)])) (by simp [go_sem])
      have zw := Ext.size hw
      simp at zw
      by_cases hlt : j < m.hs.length
      · go_wp2_with (at_builtin; refine app_int rfl _ _ _ rfl 3 Try.underlying107 elemI64n (w1.heap.size + 1) (ups j) j _ rfl _ rfl (ho.ext ((Ext.refl wr).alloc _)) ?c1 ?c2 ?c3 ?_)
        case c1 => simp [go_sem]
        case c2 => rw [ups_len]; omega
        case c3 => simp; omega
        intro bb cp w3 ho3 hx hbb hg
        have hE3 := hx _ (hw.alloc _) (by simp)
        rw [← ups_succ] at ho3
        clear hx hg
        go_wp2_with fail
        go_roundw
        case rel => exact ⟨j + 1, by omega, by go_num, ho3, hE3⟩
        case measure => simp [intOf]; omega
      · obtain rfl : j = m.hs.length := by omega
        obtain ⟨b, cp, hv, hi⟩ := ho.slice
        have hcp : m.hs.length ≤ cp ∧ cp ≤ 9223372036854775807 := by
          rcases ho.2 with ⟨_, e1⟩ | ⟨g, cap, cur, e1, hb, hg, hn, hm, hs, ht⟩
          · rw [ups_len] at e1; omega
          · subst e1; cases hv; rw [ups_len] at hn; unfold maxLen at hm; exact ⟨by omega, by omega⟩
        rw [ups_len] at hv
        subst hv
        have ulen := ups_len m.hs.length
        clear ho
        have hV : Env wr m t a cap w.heap.size (w.heap.size + 1) w1.heap.size := ⟨(by first | assumption | exact Ints.ext hI (by repeat (with_reducible first | assumption | exact Ext.refl _ | refine Ext.drew ?_ | refine Ext.drewN ?_ _ | refine Ext.alloc ?_ _ | (refine Ext.setCell ?_ ?sz _; case sz => (first | (simp; done) | (simp; omega))) | refine Ext.trans ?_ (by assumption)))), hw.cell (hW.cell c0), hw.cell (hW.cell c1), hw.cell (hW.cell c2), hw.cell (hW.cell ct), cf⟩
        go_wp2_with fail
        refine (bestI_any m k.v a cap t k.t0 k.t1 w.heap.size (w.heap.size + 1) w1.heap.size b cp hcp.1 hcp.2 (ups m.hs.length) ulen (fun i hi => ups_nth hi) _ hi hV).mono ?_
        rintro e w2 ⟨rfl, hE2⟩
        have hV2 := hV.ext hE2
        have hbl := bst_lt m t m.hs.length m.hs.length (Nat.le_refl _) n1
        have cf2 := hV2.cf
        have hT2 := hT.ext (show Ext w1 w2 from (by repeat (with_reducible first | assumption | exact Ext.refl _ | refine Ext.drew ?_ | refine Ext.drewN ?_ _ | refine Ext.alloc ?_ _ | (refine Ext.setCell ?_ ?sz _; case sz => (first | (simp; done) | (simp; omega))) | refine Ext.trans ?_ (by assumption))))
        obtain ⟨o0, o1⟩ := out0_bd k.v k.t0 k.t1 (bst m t m.hs.length)
        obtain ⟨p0, p1⟩ := holds_bd k.v k.t0 k.t1
        generalize bst m t m.hs.length = bb at *
        go_wp2_with fail
        refine (best1_any m k.v a cap t k.t0 k.t1 w.heap.size (w.heap.size + 1) bb hbl _ hV2.hI hV2.c0 hV2.c1 hV2.c2 hV2.ct).mono ?_
        rintro e w3 ⟨rfl, hE3⟩
        have hT3 := hT2.ext hE3
        go_wp2_with fail
        refine (holdsT_any m k.v tt a cap t _ hT3 k.t0 k.t1).mono ?_
        rintro e w4 ⟨rfl, rfl⟩
        go_wp2_with fail
        go_ret3
        exact ⟨ret3i H1.out.symm H2.out.symm g.out.symm, (by repeat (with_reducible first | assumption | exact Ext.refl _ | refine Ext.drew ?_ | refine Ext.drewN ?_ _ | refine Ext.alloc ?_ _ | (refine Ext.setCell ?_ ?sz _; case sz => (first | (simp; done) | (simp; omega))) | refine Ext.trans ?_ (by assumption)))⟩

end Go.Proofs.Ytogglbhidlnijaa
