/- The program's truths. -/
import Derived.Test.YtogglbhidlnijaaPinK
import Derived.Test.YtogglbhidlnijaaRound
import Derived.Test.YtogglbhidlnijaaSpan
import Derived.Deep.QuietTactic
import Derived.BigQuiet
namespace Go.Proofs.Ytogglbhidlnijaa
set_option linter.unusedVariables false
set_option linter.unusedSimpArgs false
set_option linter.unusedSectionVars false
set_option linter.unnecessarySimpa false
open Go Go.RowKit
set_option maxRecDepth 100000
attribute [local go_sem] Oper.semAt_some

theorem bottoms_any (d : Dent) (a : Option Addr) (cap : Nat) (w : World) :
    Calls Try.prog 99 #[(.agg #[.int .i64 d.L, .int .i64 d.R, .slice a d.rs.length cap])] w fun e w' => e = .returned (.func (.func 104) #[] #[.pointer (some ⟨w.heap.size, 0, none⟩)]) ∧ w' = w.alloc (.cells #[.int .i64 d.L, .int .i64 d.R, .slice a d.rs.length cap] 50) := by
  go_enter Try.func99, Try.ntmps99
  go_wp2_with fail
  go_ret
  exact ⟨rfl, rfl⟩

theorem cellG {w w' : World} {b o : Nat} {v : Value} {l : Nat} (h : w.cell? ⟨b, o, none⟩ = some v) (g : w.grownBy w' (some l)) (hne : b ≠ l) : w'.cell? ⟨b, o, none⟩ = some v :=
  g.cell h (fun e => hne (Option.some.inj e))

theorem putT_wp {w : World} {o : Oper} {a : Act} {K : Act → World → Prop} {Q : Exit → Act → World → Prop} {b n c : Nat} {l : List (List Int × Int)} (m x v : Operand) (hop : o.op = Op.mapUpdate 110 m x v)
    (hm : a.eval m = .map (some b)) (h : TM w b n c l) (hc : c < 1000000) (y : List Int) (z : Int) (hy : T4 n y) (hz : I64 z) (hn : y ∉ l.map Prod.fst) (hx : a.eval x = kv y) (hv : a.eval v = .int .i64 z)
    (hK : ∀ w', TM w' b n (c + 1) (l ++ [(y, z)]) → w.grownBy w' (some b) → K (a.put o.dst undef) w') : o.wp Try.prog a w K Q := by
  obtain ⟨k, D, own, d⟩ := h
  obtain ⟨w', hrun, r1, r2⟩ := own.update keyed Try.underlying110 (by unfold maxLen; omega) (klOf_spec hy) (plainElem_int Try.underlying2 (wf64 hz))
  unfold Oper.wp
  simp [execOp, hop, hm, hx, hv, hrun, Result.andThen]
  exact hK w' ⟨k.app hy hz hn, _, r1, d.put k hy hn⟩ r2

theorem newTableD_any (d : Dent) (x : List Int) (v : Vld (meas d x)) (a : Option Addr) (cap : Nat) (t : Int) (w : World) (hI : Ints w a x) (h0 : -20 ≤ t) (h1 : t ≤ 20) :
    Calls Try.prog 81 #[.agg #[.int .i64 d.L, .int .i64 d.R, .slice a x.length cap], .int .i64 t] w (RetTab (meas d x) t a cap w) := newTable_any (meas d x) v a cap t w hI h0 h1

theorem allT_len {d : Dent} (v : VldD d) : (allT d.rs).length ≤ 14641 := by
  rw [(allT_perm (okL_of v)).length_eq]
  refine Nat.le_trans (trs_len (okL_of v)).2 ?_
  exact Nat.le_trans (Nat.pow_le_pow_right (by omega) v.n4) (by decide)

/-- The error of truths: of the dented measure, of the tilt, of what is asked. -/
def errT (d : Dent) (t : Int) (al : List (Int × Int)) : Int := if dtd d t ≠ 0 then dtd d t else if anyR gtB al = true then 3 else 0
theorem errT_none (d : Dent) (t : Int) : errT d t [] = dtd d t := by
  unfold errT anyR
  split
  · rfl
  · rename_i h; simp at h ⊢; exact h.symm
theorem errT_one (d : Dent) (t x y : Int) : errT d t [(x, y)] = ask d t x y := by
  unfold errT ask anyR gtB
  simp

/-- What the map holds. -/
def heldAll (d : Dent) (t : Int) : List (List Int × Int) := (allT d.rs).map fun x => (x, holds (meas d x) t)

/-- The two ways out. -/
def TruthsP (d : Dent) (t : Int) (al : List (Int × Int)) (w : World) (e : Ending) (w' : World) : Prop :=
  Ext w w' ∧ ((errT d t al ≠ 0 ∧ e = .returned (.tuple #[.map none, .int .i64 (errT d t al)])) ∨
    (errT d t al = 0 ∧ ∃ b, w.heap.size ≤ b ∧ e = .returned (.tuple #[.map (some b), .int .i64 0]) ∧ TM w' b d.rs.length (allT d.rs).length (heldAll d t)))

set_option maxHeartbeats 2000000 in
theorem truths_bad (d : Dent) (q : FitD d) (a aa : Option Addr) (cap acap : Nat) (t : Int) (al : List (Int × Int)) (w : World) (hP : Prs w a d.rs) (hl : d.rs.length ≤ 1000) (ht : I64 t) (hA : Prs w aa al) (hal : al.length ≤ 1000)
    (h1 : ∀ i, I64 (pa al i)) (h2 : ∀ i, I64 (pb al i)) (hbad : errT d t al ≠ 0) :
    Calls Try.prog 84 #[(.agg #[.int .i64 d.L, .int .i64 d.R, .slice a d.rs.length cap]), .int .i64 t, .slice aa al.length acap] w (TruthsP d t al w) := by
  have hB := (Ext.refl w).alloc (.cells #[.int .i64 d.L, .int .i64 d.R, .slice a d.rs.length cap] 50)
  have HP := hid hP
  have HA := hid hA
  clear hP hA
  by_cases g : chkD d = 0
  · have gz : (chkD d != 0) = false := by simp [g]
    have HC := hid (fun (h : t < -20 ∨ 20 < t) => show errT d t al = 3 by
      have e : dtd d t = 3 := by unfold dtd; rw [if_neg (by simp [g]), if_pos h]
      unfold errT; rw [e]; rfl)
    have HC2 := hid (fun (h : ¬ (t < -20 ∨ 20 < t)) => show dtd d t = 0 by unfold dtd; rw [if_neg (by simp [g]), if_neg h])
    clear g
    cases g1 : inR (-20) 20 t with
    | false =>
      have H := hid (HC.out (by have := mt inR_iff.2 (by simpa using g1); omega))
      have g2 : (!inR (-20) 20 t) = true := by rw [g1]; rfl
      clear g1
      replace hbad := hid hbad
      go_enter Try.func84, Try.ntmps84
      go_wp2_with fail
      refine (checkDented_any d q a cap _ (HP.out.ext (by repeat (with_reducible first | assumption | exact Ext.refl _ | refine Ext.drew ?_ | refine Ext.drewN ?_ _ | refine Ext.alloc ?_ _ | (refine Ext.setCell ?_ ?sz _; case sz => (first | (simp; done) | (simp; omega))) | refine Ext.trans ?_ (by assumption)))) hl).mono ?_; rintro e w1 ⟨rfl, hE⟩
      have c4 := hE.cell (p := ⟨w.heap.size + 1, 0, none⟩) (v := .int .i64 t) (by simp [go_sem])
      go_wp2_with fail
      refine (within1_any (-20) 20 _ _ _ (by exact lit1 (by simp)) ht).mono ?_
      rintro e w2 ⟨rfl, hE2⟩
      go_wp2_with fail
      go_ret2
      exact ⟨(by repeat (with_reducible first | assumption | exact Ext.refl _ | refine Ext.drew ?_ | refine Ext.drewN ?_ _ | refine Ext.alloc ?_ _ | (refine Ext.setCell ?_ ?sz _; case sz => (first | (simp; done) | (simp; omega))) | refine Ext.trans ?_ (by assumption))), .inl ⟨hbad.out, by rw [H.out]; rfl⟩⟩
    | true =>
      have hd := HC2.out (by have := inR_iff.1 g1; omega)
      have g2 : (!inR (-20) 20 t) = false := by rw [g1]; rfl
      cases g3 : anyR gtB al with
      | false => exact absurd (by unfold errT; rw [if_neg (by simp [hd]), g3]; rfl) hbad
      | true =>
        have H := hid (show errT d t al = 3 by unfold errT; rw [if_neg (by simp [hd]), g3]; rfl)
        clear g1 hd
        replace hbad := hid hbad
        go_enter Try.func84, Try.ntmps84
        go_wp2_with fail
        refine (checkDented_any d q a cap _ (HP.out.ext (by repeat (with_reducible first | assumption | exact Ext.refl _ | refine Ext.drew ?_ | refine Ext.drewN ?_ _ | refine Ext.alloc ?_ _ | (refine Ext.setCell ?_ ?sz _; case sz => (first | (simp; done) | (simp; omega))) | refine Ext.trans ?_ (by assumption)))) hl).mono ?_; rintro e w1 ⟨rfl, hE⟩
        have c4 := hE.cell (p := ⟨w.heap.size + 1, 0, none⟩) (v := .int .i64 t) (by simp [go_sem])
        go_wp2_with fail
        refine (within1_any (-20) 20 _ _ _ (by exact lit1 (by simp)) ht).mono ?_
        rintro e w2 ⟨rfl, hE2⟩
        go_wp2_with fail
        refine (containsGt_any aa acap al _ (HA.out.ext (by repeat (with_reducible first | assumption | exact Ext.refl _ | refine Ext.drew ?_ | refine Ext.drewN ?_ _ | refine Ext.alloc ?_ _ | (refine Ext.setCell ?_ ?sz _; case sz => (first | (simp; done) | (simp; omega))) | refine Ext.trans ?_ (by assumption)))) (by omega) h1 h2).mono ?_
        rintro e w3 ⟨rfl, hE3⟩
        go_wp2_with fail
        go_ret2
        exact ⟨(by repeat (with_reducible first | assumption | exact Ext.refl _ | refine Ext.drew ?_ | refine Ext.drewN ?_ _ | refine Ext.alloc ?_ _ | (refine Ext.setCell ?_ ?sz _; case sz => (first | (simp; done) | (simp; omega))) | refine Ext.trans ?_ (by assumption))), .inl ⟨hbad.out, by rw [H.out]; rfl⟩⟩
  · have gz : (chkD d != 0) = true := by simp [g]
    have H := hid (show errT d t al = chkD d by
      have e : dtd d t = chkD d := by unfold dtd; rw [if_pos (by simpa using g)]
      unfold errT; rw [if_pos (by rw [e]; exact g), e])
    clear g
    replace hbad := hid hbad
    go_enter Try.func84, Try.ntmps84
    go_wp2_with fail
    refine (checkDented_any d q a cap _ (HP.out.ext (by repeat (with_reducible first | assumption | exact Ext.refl _ | refine Ext.drew ?_ | refine Ext.drewN ?_ _ | refine Ext.alloc ?_ _ | (refine Ext.setCell ?_ ?sz _; case sz => (first | (simp; done) | (simp; omega))) | refine Ext.trans ?_ (by assumption)))) hl).mono ?_; rintro e w1 ⟨rfl, hE⟩
    go_wp2_with fail
    go_ret2
    exact ⟨(by repeat (with_reducible first | assumption | exact Ext.refl _ | refine Ext.drew ?_ | refine Ext.drewN ?_ _ | refine Ext.alloc ?_ _ | (refine Ext.setCell ?_ ?sz _; case sz => (first | (simp; done) | (simp; omega))) | refine Ext.trans ?_ (by assumption))), .inl ⟨hbad.out, by rw [H.out]; rfl⟩⟩

set_option maxHeartbeats 4000000 in
theorem truths_good (d : Dent) (q : FitD d) (a aa : Option Addr) (cap acap : Nat) (t : Int) (al : List (Int × Int)) (w : World) (hP : Prs w a d.rs) (hl : d.rs.length ≤ 1000) (ht : I64 t) (hA : Prs w aa al) (hal : al.length ≤ 1000)
    (h1 : ∀ i, I64 (pa al i)) (h2 : ∀ i, I64 (pb al i)) (hok : errT d t al = 0) :
    Calls Try.prog 84 #[(.agg #[.int .i64 d.L, .int .i64 d.R, .slice a d.rs.length cap]), .int .i64 t, .slice aa al.length acap] w (TruthsP d t al w) := by
  have hB := (Ext.refl w).alloc (.cells #[.int .i64 d.L, .int .i64 d.R, .slice a d.rs.length cap] 50)
  have hd0 : dtd d t = 0 := by
    unfold errT at hok
    split at hok
    · rename_i h; exact absurd hok h
    · rename_i h; simpa using h
  have k := dtd_ok.1 hd0
  have g3 : anyR gtB al = false := by
    cases e : anyR gtB al with
    | false => rfl
    | true => unfold errT at hok; rw [if_neg (by simp [hd0]), if_pos e] at hok; cases hok
  have g := chkD_ok.2 k.v
  have gz : (chkD d != 0) = false := by simp [g]
  have g2 : (!inR (-20) 20 t) = false := by rw [inR_iff.2 ⟨k.t0, k.t1⟩]; rfl
  obtain ⟨bb, off, rfl, hbb, hcc⟩ := hP.at (by have := k.v.n1; omega)
  have HP := hid hP
  have HA := hid hA
  have HCC := hid hcc
  replace hok := hid hok
  clear hP hA hcc hd0 g
  have hmm := @run_makeMap Try.prog
  refine (callsIn_wide (n := 9)).1 ?_
  refine callsIn_of_wp_marks Try.func84 rfl trivial ?_ rfl
  simp only [Try.ntmps84, List.size_toArray, List.length_cons, List.length_nil, Nat.reduceAdd, Nat.reduceSub, Array.replicate_succ, Array.replicate_zero, List.push_toArray, List.append_toArray, List.nil_append, List.cons_append]
  gi_wp2_with fail
  refine ⟨trivial, ?_⟩; refine (callsIn_wide.2 (checkDented_any d q _ cap _ (HP.out.ext (by repeat (with_reducible first | assumption | exact Ext.refl _ | refine Ext.drew ?_ | refine Ext.drewN ?_ _ | refine Ext.alloc ?_ _ | (refine Ext.setCell ?_ ?sz _; case sz => (first | (simp; done) | (simp; omega))) | refine Ext.trans ?_ (by assumption)))) hl)).mono ?_; rintro e w1 ⟨rfl, hE⟩
  have c4 := hE.cell (p := ⟨w.heap.size + 1, 0, none⟩) (v := .int .i64 t) (by simp [go_sem])
  gi_wp2_with fail
  refine ⟨trivial, ?_⟩; refine (callsIn_wide.2 (within1_any (-20) 20 _ _ _ (by exact lit1 (by simp)) ht)).mono ?_; rintro e w2 ⟨rfl, hE2⟩
  gi_wp2_with fail
  refine ⟨trivial, ?_⟩; refine (callsIn_wide.2 (containsGt_any aa acap al _ (HA.out.ext (by repeat (with_reducible first | assumption | exact Ext.refl _ | refine Ext.drew ?_ | refine Ext.drewN ?_ _ | refine Ext.alloc ?_ _ | (refine Ext.setCell ?_ ?sz _; case sz => (first | (simp; done) | (simp; omega))) | refine Ext.trans ?_ (by assumption)))) (by omega) h1 h2)).mono ?_; rintro e w3 ⟨rfl, hE3⟩
  have x12 : Ext w1 w2 := (by repeat (with_reducible first | assumption | exact Ext.refl _ | refine Ext.drew ?_ | refine Ext.drewN ?_ _ | refine Ext.alloc ?_ _ | (refine Ext.setCell ?_ ?sz _; case sz => (first | (simp; done) | (simp; omega))) | refine Ext.trans ?_ (by assumption)))
  have c43 := hE3.cell (x12.cell c4)
  have e0 : Ext (w.alloc (.cells #[.int .i64 d.L, .int .i64 d.R, .slice (some ⟨bb, off, none⟩) d.rs.length cap] 50)) w3 := (by repeat (with_reducible first | assumption | exact Ext.refl _ | refine Ext.drew ?_ | refine Ext.drewN ?_ _ | refine Ext.alloc ?_ _ | (refine Ext.setCell ?_ ?sz _; case sz => (first | (simp; done) | (simp; omega))) | refine Ext.trans ?_ (by assumption)))
  obtain ⟨c0, c1, c2⟩ := box3 e0
  have z3 : w.heap.size < w3.heap.size := by have := e0.size; simp at this; omega
  gi_wp2_with fail
  refine ⟨trivial, ?_⟩; refine (callsIn_wide.2 (bottoms_any d _ cap _)).mono ?_; rintro e w4 ⟨rfl, hw4⟩
  have x4 : Ext w3 w4 := by rw [hw4]; exact (by repeat (with_reducible first | assumption | exact Ext.refl _ | refine Ext.drew ?_ | refine Ext.drewN ?_ _ | refine Ext.alloc ?_ _ | (refine Ext.setCell ?_ ?sz _; case sz => (first | (simp; done) | (simp; omega))) | refine Ext.trans ?_ (by assumption)))
  have o4 : w4.cell? ⟨w3.heap.size + 1, 0, none⟩ = some (.map (some w3.heap.size)) := by rw [hw4]; simp [go_sem]
  have d4 : w4.cell? ⟨w3.heap.size + 1 + 1, 2, none⟩ = some (.slice (some ⟨bb, off, none⟩) d.rs.length cap) := by rw [hw4]; simp [go_sem]
  have z4 : w4.heap.size = w3.heap.size + 1 + 1 + 1 := by rw [hw4]; simp
  have t4 : TM w4 w3.heap.size d.rs.length 0 [] := by rw [hw4]; exact (TM.made w3 _).ext (by repeat (with_reducible first | assumption | exact Ext.refl _ | refine Ext.drew ?_ | refine Ext.drewN ?_ _ | refine Ext.alloc ?_ _ | (refine Ext.setCell ?_ ?sz _; case sz => (first | (simp; done) | (simp; omega))) | refine Ext.trans ?_ (by assumption)))
  have c4w : w4.cell? ⟨w.heap.size + 1, 0, none⟩ = some (.int .i64 t) := x4.cell c43
  have hW : Ext w w4 := (by repeat (with_reducible first | assumption | exact Ext.refl _ | refine Ext.drew ?_ | refine Ext.drewN ?_ _ | refine Ext.alloc ?_ _ | (refine Ext.setCell ?_ ?sz _; case sz => (first | (simp; done) | (simp; omega))) | refine Ext.trans ?_ (by assumption)))
  have x03 : Ext w w3 := (by repeat (with_reducible first | assumption | exact Ext.refl _ | refine Ext.drew ?_ | refine Ext.drewN ?_ _ | refine Ext.alloc ?_ _ | (refine Ext.setCell ?_ ?sz _; case sz => (first | (simp; done) | (simp; omega))) | refine Ext.trans ?_ (by assumption)))
  replace x03 := hid x03
  have z3b : w.heap.size + 1 < w3.heap.size := by have := e0.size; have := hE.size; have := hE2.size; have := hE3.size; simp at *; omega
  have HDF : DF w4 w4.heap.size (w3.heap.size + 1 + 1) d bb off cap := by
    have hh : Ext w w4 := hW
    exact ⟨d4, fun i hi => ⟨hh.cell (HCC.out i hi).1, hh.cell (HCC.out i hi).2⟩, by omega, Nat.lt_of_lt_of_le hbb hh.size, Nat.le_refl _⟩
  replace HDF := hid HDF
  replace hW := hid hW
  replace o4 := hid o4
  replace t4 := hid t4
  clear hw4 d4 hE hE2 hE3 e0 hB
  gi_wp2_with fail
  refine range_yields (F := Fence.wide) (n := 9) rfl (by omega) (gf := 104) (lb := #[.pointer (some ⟨w3.heap.size + 1 + 1, 0, none⟩)]) rfl trivial (enters_of Try.func104 (by kernel_rfl) rfl)
    (bottoms1_yields d k.v 8 _ bb off cap w4 HDF.out) (Ext.refl _) (fun _ => rfl)
    (fun pre W => Ext w3 W ∧ W.cell? ⟨w3.heap.size + 1, 0, none⟩ = some (.map (some w3.heap.size)) ∧ TM W w3.heap.size d.rs.length pre.length ((pre.map (·.1)).map fun x => (x, holds (meas d x) t)))
    (fun _ _ _ => False) ?hI (fun _ _ _ _ _ _ _ hs => hs) ⟨x4, o4.out, t4.out⟩ ?round ?done (fun _ _ _ _ _ _ h _ => h.elim)
  case hI =>
    intro pre A C row ⟨ha, hb, hc⟩ hg hr
    refine ⟨ha.grown hg fun r e => by have := hr r e; omega, hg.cell hb fun e => by have h : w4.heap.size ≤ w3.heap.size + 1 := hr _ e.symm; omega, hc.kept hg fun e => by have h := hr _ e.symm; omega⟩
  case round =>
    rintro l pre x W hG ⟨hE, hc, hT⟩ hl1 hl2
    have hfr : x.1 ∉ ((pre.map (·.1)).map fun x => (x, holds (meas d x) t)).map Prod.fst := by
      have hnd := (allT_nodup (okL_of k.v)).sublist hG.sublist
      rw [List.map_append, List.nodup_append] at hnd
      intro hm
      rw [List.map_map] at hm
      obtain ⟨z, hz, e⟩ := List.mem_map.1 hm
      exact hnd.2.2 z hz x.1 (by simp) e
    simp only [encT, kv]
    gi_wp2
    have hx := isT_fit k.v x.2
    have hT4 : T4 d.rs.length x.1 := ⟨hx.1, hx.2.1, fun i => ⟨by have := (hx.2.2 i); omega, by have := (hx.2.2 i); omega⟩⟩
    clear hx
    have hvm := meas_vld k.v x.2
    have hhb := holds_bd hvm k.t0 k.t1
    refine ⟨(KeepsOthers.alloc _ _).from _, KeepC.of_ext ((Ext.refl W).alloc _), fun o => ?_⟩
    obtain ⟨Wb, hWb⟩ : ∃ Wb, Wb = (W.alloc (.cells #[.int .i64 (nth x.1 0), .int .i64 (nth x.1 1), .int .i64 (nth x.1 2), .int .i64 (nth x.1 3)] 115)).putObj l o := ⟨_, rfl⟩
    have g1 := World.grownBy_alloc W (.cells #[.int .i64 (nth x.1 0), .int .i64 (nth x.1 1), .int .i64 (nth x.1 2), .int .i64 (nth x.1 3)] 115) none
    have g2 := grownBy_putObj' (W.alloc (.cells #[.int .i64 (nth x.1 0), .int .i64 (nth x.1 1), .int .i64 (nth x.1 2), .int .i64 (nth x.1 3)] 115)) l o
    rw [← hWb] at g2 ⊢
    have xb : Ext w3 Wb := (hE.grown g1 (fun _ e => by cases e)).grown g2 (fun r e => by cases e; omega)
    have ob : Wb.cell? ⟨w3.heap.size + 1, 0, none⟩ = some (.map (some w3.heap.size)) := cellG (g1.cell hc (fun e => by cases e)) g2 (by omega)
    have tb := (hT.kept g1 (fun e => by cases e)).kept g2 (fun e => by cases e; omega)
    have y0 : Wb.cell? ⟨W.heap.size, 0, none⟩ = some (.int .i64 (nth x.1 0)) := cellG (by simp [go_sem]) g2 (by omega)
    have y1 : Wb.cell? ⟨W.heap.size, 1, none⟩ = some (.int .i64 (nth x.1 1)) := cellG (by simp [go_sem]) g2 (by omega)
    have y2 : Wb.cell? ⟨W.heap.size, 2, none⟩ = some (.int .i64 (nth x.1 2)) := cellG (by simp [go_sem]) g2 (by omega)
    have y3 : Wb.cell? ⟨W.heap.size, 3, none⟩ = some (.int .i64 (nth x.1 3)) := cellG (by simp [go_sem]) g2 (by omega)
    have v0 := xb.cell c0
    have v1 := xb.cell c1
    have v2 := xb.cell c2
    have v4 := xb.cell c43
    clear hWb g1 g2
    gi_wp2
    refine region_round (S := fun w' => w'.cell? ⟨w3.heap.size + 1, 0, none⟩ = some (.map (some w3.heap.size)) ∧ w'.cell? ⟨W.heap.size, 0, none⟩ = some (.int .i64 (nth x.1 0)) ∧ w'.cell? ⟨W.heap.size, 1, none⟩ = some (.int .i64 (nth x.1 1)) ∧ w'.cell? ⟨W.heap.size, 2, none⟩ = some (.int .i64 (nth x.1 2)) ∧ w'.cell? ⟨W.heap.size, 3, none⟩ = some (.int .i64 (nth x.1 3)) ∧
      w'.cell? ⟨w.heap.size, 0, none⟩ = some (.int .i64 d.L) ∧ w'.cell? ⟨w.heap.size, 1, none⟩ = some (.int .i64 d.R) ∧ w'.cell? ⟨w.heap.size, 2, none⟩ = some (.slice (some ⟨bb, off, none⟩) d.rs.length cap) ∧ w'.cell? ⟨w.heap.size + 1, 0, none⟩ = some (.int .i64 t))
      (by kernel_rfl) (by kernel_rfl) (by rintro ⟨_, _, h⟩; exact h) ⟨ob, y0, y1, y2, y3, v0, v1, v2, v4⟩ fun hHeld => ?_
    refine wpAnyH_take (i := 0) (oi := _) (v := ?_) rfl (by kernel_rfl) (by kernel_rfl) (by kernel_rfl) (fun _ _ _ h => h) (Or.inl ⟨by rfl, ?yl⟩) (by assumption) ?_
    case yl => (intro w hSw; (try dsimp only at hSw); go_simp); with_reducible rfl
    try simp only [Act.put, List.setIfInBounds_toArray, List.set_cons_zero, List.set_cons_succ]
    refine wpAnyH_take (i := 1) (oi := _) (v := ?_) rfl (by kernel_rfl) (by kernel_rfl) (by kernel_rfl) (fun _ _ _ h => h) (Or.inl ⟨by rfl, ?yl⟩) (by assumption) ?_
    case yl => (intro w hSw; (try dsimp only at hSw); go_simp); with_reducible rfl
    try simp only [Act.put, List.setIfInBounds_toArray, List.set_cons_zero, List.set_cons_succ]
    refine wpAnyH_take (i := 2) (oi := _) (v := ?_) rfl (by kernel_rfl) (by kernel_rfl) (by kernel_rfl) (fun _ _ _ h => h) (Or.inl ⟨by rfl, ?yl⟩) (by assumption) ?_
    case yl => (intro w hSw; (try dsimp only at hSw); go_simp); with_reducible rfl
    try simp only [Act.put, List.setIfInBounds_toArray, List.set_cons_zero, List.set_cons_succ]
    refine wpAnyH_take (i := 3) (oi := _) (v := ?_) rfl (by kernel_rfl) (by kernel_rfl) (by kernel_rfl) (fun _ _ _ h => h) (Or.inl ⟨by rfl, ?yl⟩) (by assumption) ?_
    case yl => (intro w hSw; (try dsimp only at hSw); go_simp); with_reducible rfl
    try simp only [Act.put, List.setIfInBounds_toArray, List.set_cons_zero, List.set_cons_succ]
    refine wpAnyH_take (i := 5) (oi := _) (v := ?_) rfl (by kernel_rfl) (by kernel_rfl) (by kernel_rfl) (fun _ _ _ h => h) (Or.inl ⟨by rfl, ?yl⟩) (by assumption) ?_
    case yl => (intro w hSw; (try dsimp only at hSw); go_simp); with_reducible rfl
    try simp only [Act.put, List.setIfInBounds_toArray, List.set_cons_zero, List.set_cons_succ]
    refine wpAnyH_ready (rs := [4]) (by kernel_rfl) (by simp) ?_
    refine AllReadyH.cons (o := _) rfl (fun K hK => ?_) AllReadyH.nil
    go_simp
    refine (measure_any d _ cap x.1 hT4 _).mono ?_; rintro e w5 ⟨b5, cp5, rfl, hI5, hE5⟩
    have x5 : Ext Wb w5 := (by repeat (with_reducible first | assumption | exact Ext.refl _ | refine Ext.drew ?_ | refine Ext.drewN ?_ _ | refine Ext.alloc ?_ _ | (refine Ext.setCell ?_ ?sz _; case sz => (first | (simp; done) | (simp; omega))) | refine Ext.trans ?_ (by assumption)))
    refine hK.out _ _ ⟨x5.cell ob, x5.cell y0, x5.cell y1, x5.cell y2, x5.cell y3, x5.cell v0, x5.cell v1, x5.cell v2, x5.cell v4⟩ (fun hHeld => ?_)
    clear hK K
    try simp only [Act.put, List.setIfInBounds_toArray, List.set_cons_zero, List.set_cons_succ]
    refine wpAnyH_ready (rs := [6]) (by kernel_rfl) (by simp) ?_
    refine AllReadyH.cons (o := _) rfl (fun K hK => ?_) AllReadyH.nil
    go_simp
    refine (newTableD_any d x.1 hvm _ cp5 t _ hI5 k.t0 k.t1).mono ?_; rintro e w6 ⟨tb6, rfl, hT6, hE6⟩
    have x6 : Ext Wb w6 := x5.trans hE6
    refine hK.out _ _ ⟨x6.cell ob, x6.cell y0, x6.cell y1, x6.cell y2, x6.cell y3, x6.cell v0, x6.cell v1, x6.cell v2, x6.cell v4⟩ (fun hHeld => ?_)
    clear hK K
    try simp only [Act.put, List.setIfInBounds_toArray, List.set_cons_zero, List.set_cons_succ]
    refine wpAnyH_ready (rs := [7]) (by kernel_rfl) (by simp) ?_
    refine AllReadyH.cons (o := _) rfl (fun K hK => ?_) AllReadyH.nil
    go_simp
    refine (holdsT_any (meas d x.1) hvm tb6 _ cp5 t _ hT6 k.t0 k.t1).mono ?_; rintro e w7 ⟨rfl, rfl⟩
    refine hK.out _ _ ⟨x6.cell ob, x6.cell y0, x6.cell y1, x6.cell y2, x6.cell y3, x6.cell v0, x6.cell v1, x6.cell v2, x6.cell v4⟩ (fun hHeld => ?_)
    clear hK K
    try simp only [Act.put, List.setIfInBounds_toArray, List.set_cons_zero, List.set_cons_succ]
    refine wpAnyH_ready (rs := [8]) (by kernel_rfl) (by simp) ?_
    refine AllReadyH.cons (o := _) rfl (fun K hK => ?_) AllReadyH.nil
    rw [if_pos (by rfl)]
    refine putT_wp _ _ _ rfl rfl (tb.ext x6) ?hc x.1 (holds (meas d x.1) t) hT4 ⟨by omega, by omega⟩ hfr rfl rfl ?_
    case hc =>
      have h1 := hG.length_le
      have h2 := allT_len k.v
      simp at h1
      omega
    intro w8 tb8 g8
    refine hK.out _ _ ⟨cellG (x6.cell ob) g8 (by omega), cellG (x6.cell y0) g8 (by omega), cellG (x6.cell y1) g8 (by omega), cellG (x6.cell y2) g8 (by omega), cellG (x6.cell y3) g8 (by omega), cellG (x6.cell v0) g8 (by omega), cellG (x6.cell v1) g8 (by omega), cellG (x6.cell v2) g8 (by omega), cellG (x6.cell v4) g8 (by omega)⟩ (fun hHeld => ?_)
    refine wpAnyH_done (by kernel_rfl) ?_ _
    refine ⟨⟨Nat.le_trans x6.size g8.size, fun j o hj ho hc => (g8.block j (lt_of_heap (x6.heap ho)) (fun e => by cases e; omega)).trans (x6.heap ho)⟩, (KeepC.of_ext x6).trans ⟨g8.size, fun j o ho hc => ?_⟩, ((xb.trans x6).grown g8 fun r e => by cases e; exact Nat.le_refl _), cellG (x6.cell ob) g8 (by omega), ?_⟩
    · refine (g8.block j (lt_of_heap ho) (fun e => ?_)).trans ho
      cases e
      obtain ⟨o', ho', hn⟩ := (tb.ext x6).isMap
      rw [ho'] at ho
      cases ho
      rw [hn] at hc
      cases hc
    · simpa using tb8
  case done =>
    rintro D ys W hD hS ⟨hE, hc, hT⟩ hK
    have hlen : (allT d.rs).length = ys.length := by rw [← hS]; simp
    have hT' : TM W w3.heap.size d.rs.length (allT d.rs).length (heldAll d t) := by unfold heldAll; rw [← hS]; simpa using hT
    replace hT' := hid hT'
    clear hT hS
    gi_wp2
    refine ⟨by simp, .inl ⟨_, _, rfl, run_takeDeferred hK, ?_⟩⟩
    refine ⟨.tuple #[.map (some w3.heap.size), .int .i64 0], ?_, ?_⟩
    · simp [results, Try.results84, go_sem]
    · exact ⟨(x03.out.trans hE).grown (grownBy_putObj' W D _) (fun r e => by cases e; have := x03.out.size; omega), .inr ⟨hok.out, _, x03.out.size, rfl, hT'.out.kept (grownBy_putObj' W D _) (fun e => by cases e; omega)⟩⟩

theorem truths_any (d : Dent) (q : FitD d) (a aa : Option Addr) (cap acap : Nat) (t : Int) (al : List (Int × Int)) (w : World) (hP : Prs w a d.rs) (hl : d.rs.length ≤ 1000) (ht : I64 t) (hA : Prs w aa al) (hal : al.length ≤ 1000)
    (h1 : ∀ i, I64 (pa al i)) (h2 : ∀ i, I64 (pb al i)) :
    Calls Try.prog 84 #[(.agg #[.int .i64 d.L, .int .i64 d.R, .slice a d.rs.length cap]), .int .i64 t, .slice aa al.length acap] w (TruthsP d t al w) := by
  by_cases h : errT d t al = 0
  · exact truths_good d q a aa cap acap t al w hP hl ht hA hal h1 h2 h
  · exact truths_bad d q a aa cap acap t al w hP hl ht hA hal h1 h2 h

end Go.Proofs.Ytogglbhidlnijaa
