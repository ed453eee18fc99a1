/- The program's keep and first. -/
import Derived.Test.YtogglbhidlnijaaPinL
namespace Go.Proofs.Ytogglbhidlnijaa
set_option linter.unusedVariables false
set_option linter.unusedSimpArgs false
set_option linter.unusedSectionVars false
set_option linter.unnecessarySimpa false
open Go Go.RowKit
set_option maxRecDepth 100000

theorem RT.perm {w : World} {b r n c : Nat} {l k todo : List (List Int × Int)} (h : RT w b r n c l todo) (p : l.Perm k) : RT w b r n c k todo :=
  let ⟨kk, s, nd, D, left, cnt, o, d, h1, h2⟩ := h
  ⟨kk.perm p, fun q hq => p.mem_iff.1 (s q hq), nd, D, left, cnt, o, d.perm p, h1, h2⟩
theorem RT.uniq {w : World} {b r n c : Nat} {l todo : List (List Int × Int)} (h : RT w b r n c l todo) : (todo.map Prod.fst).Nodup := let ⟨_, _, nd, _⟩ := h; nd
theorem RT.kl {w : World} {b r n c : Nat} {l todo : List (List Int × Int)} (h : RT w b r n c l todo) : KL n l := h.1
theorem RT.sub {w : World} {b r n c : Nat} {l todo : List (List Int × Int)} (h : RT w b r n c l todo) : ∀ p ∈ todo, p ∈ l := h.2.1

/-- What is struck. -/
theorem strike_perm {l rest : List (List Int × Int)} {p : List Int × Int} (h : (l.map Prod.fst).Nodup) (hp : l.Perm (p :: rest)) : (l.filter fun q => q.1 ≠ p.1).Perm rest :=
  List.Perm.cons_inv ((todo_split (n := 0) h (hp.mem_iff.2 (by simp))).symm.trans hp)

/-- The map b is what has turned: it holds those that are good. -/
def KeepP (good : Int → Bool) (b n c : Nat) (l : List (List Int × Int)) (w : World) (e : Ending) (w' : World) : Prop :=
  e = .returned (.map (some b)) ∧ w.grownBy w' (some b) ∧ ∃ k, TM w' b n c k ∧ k.Perm (l.filter fun p => good p.2)

def inB (x y : Int) (n : Int) : Bool := decide (x ≤ n ∧ n ≤ y)
def outB (x y : Int) (n : Int) : Bool := !decide (x ≤ n ∧ n ≤ y)


set_option maxHeartbeats 2000000 in
  theorem keepIn_any (x y : Int) (b n c : Nat) (l : List (List Int × Int)) (w : World) (hT : TM w b n c l) (hq : True) :
    Calls Try.prog 89 #[.map (some b), (.func (.func 90) #[.agg #[.int .i64 x, .int .i64 y]] #[])] w (KeepP (inB x y) b n c l w) := by
   have hbl := hT.lt
   replace hT := hid hT
   go_enter Try.func89, Try.ntmps89
   go_wp2_with (at_range; refine rangeT rfl _ rfl rfl hT.out ?_; intro w0 hR0 hg0 hs0)
   go_frame
   replace hR0 := hid hR0
   go_loopw [6] (fun _ wr => ∃ dn td : List (List Int × Int), Hid ((dn ++ td).Perm l) ∧ Hid (RT wr b w.heap.size n c (dn.filter (fun p => inB x y p.2) ++ td) td) ∧ Hid (w.grownBy wr (some b))) (fun _ wr => wr.rangeLeft b w.heap.size)
   case atStart => exact ⟨[], l, hid (by simp), hR0, hid (hg0.but _)⟩
   case round =>
    obtain ⟨dn, td, hp, hR, hg⟩ := hrel
    go_wp2_with (at_next; refine nextT rfl _ rfl rfl hR.out ?_ ?_)
    · intro htd
      have htd := htd.out
      subst htd
      go_wp2_with fail
      go_ret
      refine ⟨rfl, hg.out, _, hR.out.tm, ?_⟩
      have := (hp.out.filter fun p => inB x y p.2)
      simpa using this
    · intro u v td2 w1 hcm
      have hen := hcm.run
      have hv := hcm.val
      unfold kv
      unfold kv at hen
      have hsz := hcm.size
      skip
      replace hcm := hid hcm
      have hlt := hR.out.lt
      have hsz2 : b < w1.heap.size := by omega
      replace hsz := hid hsz
      go_wp2_with fail
      refine (has_any x y _ _).mono ?_; rintro e w2 ⟨rfl, hE⟩
      have q0 := hE.cell (p := ⟨w1.heap.size, 0, none⟩) (v := .int .i64 (nth u 0)) (by simp [go_sem])
      have q1 := hE.cell (p := ⟨w1.heap.size, 1, none⟩) (v := .int .i64 (nth u 1)) (by simp [go_sem])
      have q2 := hE.cell (p := ⟨w1.heap.size, 2, none⟩) (v := .int .i64 (nth u 2)) (by simp [go_sem])
      have q3 := hE.cell (p := ⟨w1.heap.size, 3, none⟩) (v := .int .i64 (nth u 3)) (by simp [go_sem])
      have x12 : Ext w1 w2 := (by repeat (with_reducible first | assumption | exact Ext.refl _ | refine Ext.drew ?_ | refine Ext.drewN ?_ _ | refine Ext.alloc ?_ _ | (refine Ext.setCell ?_ ?sz _; case sz => (first | (simp; done) | (simp; omega))) | refine Ext.trans ?_ (by assumption)))
      have hpm := hcm.out.perm
      have hR2 := hid (hcm.out.rt.ext x12)
      have hg2 : w.grownBy w2 (some b) := (hg.out.andThen hcm.out.grown (fun j e => by cases e; exact .inl (Nat.le_refl _))).andThen x12.grows (fun j e => by cases e)
      replace hg2 := hid hg2
      have hls := hcm.out.less
      have hsame : w2.rangeLeft b w.heap.size = w1.rangeLeft b w.heap.size := by
        obtain ⟨_, _, _, D, left, cnt, o1, _⟩ := hcm.out.rt
        rw [o1.left_eq, (o1.kept x12.grows (by simp) (by simp)).left_eq]
      have hdt : Hid ((dn ++ [(u, v)] ++ td2).Perm l) := by
        refine hid (List.Perm.trans ?_ hp.out)
        rw [List.append_assoc]
        exact hpm.symm.append_left dn
      have hin := hid hcm.out.inl
      have hun := hid hcm.out.rt.uniq
      have hfr : Hid (td2.filter (fun q => q.1 ≠ u) = td2) := by
        refine hid (List.filter_eq_self.2 fun q hq => ?_)
        have hnd := (hpm.map Prod.fst).nodup_iff.1 hR.out.uniq
        rw [List.map_cons, List.nodup_cons] at hnd
        simp only [ne_eq, decide_not, Bool.not_eq_eq_eq_not, Bool.not_true, decide_eq_false_iff_not]
        intro e
        exact hnd.1 (List.mem_map.2 ⟨q, hq, e⟩)
      replace hpm := hid hpm
      replace hls := hid hls
      replace hsame := hid hsame
      cases hgd : inB x y v with
      | true =>
        have G : decide (x ≤ v ∧ v ≤ y) = true := by have h2 := hgd; simp only [inB] at h2; revert h2; cases decide (x ≤ v ∧ v ≤ y) <;> simp
        rw [G]
        replace hgd := hid hgd
        replace G := hid G
        go_wp2_with fail
        go_roundw
        case rel =>
          refine ⟨dn ++ [(u, v)], td2, hdt, hid (hR2.out.perm ?_), hg2⟩
          rw [List.filter_append, List.filter_cons_of_pos (by simpa using hgd.out), List.append_assoc]
          exact hpm.out.append_left _
        case measure => have h1 := hls.out; have h2 := hsame.out; omega
      | false =>
        have G : decide (x ≤ v ∧ v ≤ y) = !true := by have h2 := hgd; simp only [inB] at h2; revert h2; cases decide (x ≤ v ∧ v ≤ y) <;> simp
        rw [G]
        replace hgd := hid hgd
        replace G := hid G
        go_wp2_with (at_delete; refine dropT rfl _ _ rfl rfl hR2.out u v hin.out rfl ?_; intro w3 hdr)
        go_frame
        go_roundw
        case rel =>
          refine ⟨dn ++ [(u, v)], td2, hdt, hid ?_, hid (hg2.out.andThen hdr.grown (fun j e => .inr e))⟩
          have hr3 := hdr.rt
          rw [hfr.out] at hr3
          refine hr3.perm ?_
          refine strike_perm hR2.out.kl.nd (p := (u, v)) ?_
          rw [List.filter_append, List.filter_cons_of_neg (by simp [hgd.out]), List.filter_nil, List.append_nil]
          exact (hpm.out.append_left _).trans List.perm_middle
        case measure => have h1 := hls.out; have h2 := hsame.out; have h3 := hdr.le; omega

set_option maxHeartbeats 2000000 in
  theorem keepOut_any (x y : Int) (b n c : Nat) (l : List (List Int × Int)) (w : World) (hT : TM w b n c l) (p : Addr) (hq : w.cell? p = some (.func (.func 90) #[.agg #[.int .i64 x, .int .i64 y]] #[])) (hpb : p.block ≠ b) (hpl : p.block < w.heap.size) :
    Calls Try.prog 89 #[.map (some b), (.func (.func 95) #[] #[.pointer (some p)])] w (KeepP (outB x y) b n c l w) := by
   have hbl := hT.lt
   replace hT := hid hT
   go_enter Try.func89, Try.ntmps89
   go_wp2_with (at_range; refine rangeT rfl _ rfl rfl hT.out ?_; intro w0 hR0 hg0 hs0)
   go_frame
   replace hR0 := hid hR0
   go_loopw [6] (fun _ wr => ∃ dn td : List (List Int × Int), Hid ((dn ++ td).Perm l) ∧ Hid (RT wr b w.heap.size n c (dn.filter (fun p => outB x y p.2) ++ td) td) ∧ Hid (w.grownBy wr (some b))) (fun _ wr => wr.rangeLeft b w.heap.size)
   case atStart => exact ⟨[], l, hid (by simp), hR0, hid (hg0.but _)⟩
   case round =>
    obtain ⟨dn, td, hp, hR, hg⟩ := hrel
    go_wp2_with (at_next; refine nextT rfl _ rfl rfl hR.out ?_ ?_)
    · intro htd
      have htd := htd.out
      subst htd
      go_wp2_with fail
      go_ret
      refine ⟨rfl, hg.out, _, hR.out.tm, ?_⟩
      have := (hp.out.filter fun p => outB x y p.2)
      simpa using this
    · intro u v td2 w1 hcm
      have hen := hcm.run
      have hv := hcm.val
      unfold kv
      unfold kv at hen
      have hsz := hcm.size
      have hqq := hcm.grown.cell (hg.out.cell hq (fun e => hpb (Option.some.inj e))) (fun e => by have := Option.some.inj e; omega)
      replace hcm := hid hcm
      have hlt := hR.out.lt
      have hsz2 : b < w1.heap.size := by omega
      replace hsz := hid hsz
      go_wp2_with fail
      refine (wrongF_any x y _ p _ (Ext.cell (w := w1) (by repeat (with_reducible first | assumption | exact Ext.refl _ | refine Ext.drew ?_ | refine Ext.drewN ?_ _ | refine Ext.alloc ?_ _ | (refine Ext.setCell ?_ ?sz _; case sz => (first | (simp; done) | (simp; omega))) | refine Ext.trans ?_ (by assumption))) hqq)).mono ?_; rintro e w2 ⟨rfl, hE⟩
      have q0 := hE.cell (p := ⟨w1.heap.size, 0, none⟩) (v := .int .i64 (nth u 0)) (by simp [go_sem])
      have q1 := hE.cell (p := ⟨w1.heap.size, 1, none⟩) (v := .int .i64 (nth u 1)) (by simp [go_sem])
      have q2 := hE.cell (p := ⟨w1.heap.size, 2, none⟩) (v := .int .i64 (nth u 2)) (by simp [go_sem])
      have q3 := hE.cell (p := ⟨w1.heap.size, 3, none⟩) (v := .int .i64 (nth u 3)) (by simp [go_sem])
      have x12 : Ext w1 w2 := (by repeat (with_reducible first | assumption | exact Ext.refl _ | refine Ext.drew ?_ | refine Ext.drewN ?_ _ | refine Ext.alloc ?_ _ | (refine Ext.setCell ?_ ?sz _; case sz => (first | (simp; done) | (simp; omega))) | refine Ext.trans ?_ (by assumption)))
      have hpm := hcm.out.perm
      have hR2 := hid (hcm.out.rt.ext x12)
      have hg2 : w.grownBy w2 (some b) := (hg.out.andThen hcm.out.grown (fun j e => by cases e; exact .inl (Nat.le_refl _))).andThen x12.grows (fun j e => by cases e)
      replace hg2 := hid hg2
      have hls := hcm.out.less
      have hsame : w2.rangeLeft b w.heap.size = w1.rangeLeft b w.heap.size := by
        obtain ⟨_, _, _, D, left, cnt, o1, _⟩ := hcm.out.rt
        rw [o1.left_eq, (o1.kept x12.grows (by simp) (by simp)).left_eq]
      have hdt : Hid ((dn ++ [(u, v)] ++ td2).Perm l) := by
        refine hid (List.Perm.trans ?_ hp.out)
        rw [List.append_assoc]
        exact hpm.symm.append_left dn
      have hin := hid hcm.out.inl
      have hun := hid hcm.out.rt.uniq
      have hfr : Hid (td2.filter (fun q => q.1 ≠ u) = td2) := by
        refine hid (List.filter_eq_self.2 fun q hq => ?_)
        have hnd := (hpm.map Prod.fst).nodup_iff.1 hR.out.uniq
        rw [List.map_cons, List.nodup_cons] at hnd
        simp only [ne_eq, decide_not, Bool.not_eq_eq_eq_not, Bool.not_true, decide_eq_false_iff_not]
        intro e
        exact hnd.1 (List.mem_map.2 ⟨q, hq, e⟩)
      replace hpm := hid hpm
      replace hls := hid hls
      replace hsame := hid hsame
      cases hgd : outB x y v with
      | true =>
        have G : decide (x ≤ v ∧ v ≤ y) = false := by have h2 := hgd; simp only [outB] at h2; revert h2; cases decide (x ≤ v ∧ v ≤ y) <;> simp
        rw [G]
        replace hgd := hid hgd
        replace G := hid G
        go_wp2_with fail
        go_roundw
        case rel =>
          refine ⟨dn ++ [(u, v)], td2, hdt, hid (hR2.out.perm ?_), hg2⟩
          rw [List.filter_append, List.filter_cons_of_pos (by simpa using hgd.out), List.append_assoc]
          exact hpm.out.append_left _
        case measure => have h1 := hls.out; have h2 := hsame.out; omega
      | false =>
        have G : decide (x ≤ v ∧ v ≤ y) = !false := by have h2 := hgd; simp only [outB] at h2; revert h2; cases decide (x ≤ v ∧ v ≤ y) <;> simp
        rw [G]
        replace hgd := hid hgd
        replace G := hid G
        go_wp2_with (at_delete; refine dropT rfl _ _ rfl rfl hR2.out u v hin.out rfl ?_; intro w3 hdr)
        go_frame
        go_roundw
        case rel =>
          refine ⟨dn ++ [(u, v)], td2, hdt, hid ?_, hid (hg2.out.andThen hdr.grown (fun j e => .inr e))⟩
          have hr3 := hdr.rt
          rw [hfr.out] at hr3
          refine hr3.perm ?_
          refine strike_perm hR2.out.kl.nd (p := (u, v)) ?_
          rw [List.filter_append, List.filter_cons_of_neg (by simp [hgd.out]), List.filter_nil, List.append_nil]
          exact (hpm.out.append_left _).trans List.perm_middle
        case measure => have h1 := hls.out; have h2 := hsame.out; have h3 := hdr.le; omega

end Go.Proofs.Ytogglbhidlnijaa
