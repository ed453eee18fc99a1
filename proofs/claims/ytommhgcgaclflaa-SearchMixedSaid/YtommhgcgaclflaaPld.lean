/- A plan by numbers: the walk of porringerlaw03.Planned. -/
import Derived.Test.YtommhgcgaclflaaZB7
import Derived.Test.YtommhgcgaclflaaOpU
import Derived.Test.YtommhgcgaclflaaZB14
namespace Go.Proofs.Ytommhgcgaclflaa
set_option linter.unusedVariables false
set_option linter.unusedSimpArgs false
set_option linter.unusedSectionVars false
set_option linter.unnecessarySimpa false
open Go Go.RowKit Game
set_option maxRecDepth 100000

def plN (l : List Int) (i : Nat) : Int := if l.length = 0 then 0 else nth l (i % l.length)
def pln (m : Nat) (l : List Int) : List Int := if psum (mkL m (plN l)) = 0 then mkL m (fun i => if i = 0 then 1 else plN l i) else mkL m (plN l)
theorem mkL_snoc (k : Nat) (f : Nat → Int) : mkL (k + 1) f = mkL k f ++ [f k] := by unfold mkL; rw [List.range_succ, List.map_append]; rfl
theorem plN_bd {l : List Int} (h : ∀ i, 0 ≤ nth l i ∧ nth l i ≤ 65535) (i : Nat) : 0 ≤ plN l i ∧ plN l i ≤ 65535 := by
 unfold plN; split
 ·omega
 ·exact h _
theorem nth_mkL_out {n : Nat} {f : Nat → Int} {i : Nat} (h : n ≤ i) : nth (mkL n f) i = 0 := nth_ge (by rw [mkL_len]; exact h)
theorem pln_len (m : Nat) (l : List Int) : (pln m l).length = m := by unfold pln; split <;> exact mkL_len _ _
theorem pln_vld {m : Nat} {l : List Int} (h : ∀ i, 0 ≤ nth l i ∧ nth l i ≤ 65535) (m1 : 1 ≤ m) : VldP (pln m l) m := by
 have hb : ∀ i, 0 ≤ nth (pln m l) i ∧ nth (pln m l) i ≤ 65535 := fun i => by
  unfold pln
  rcases Nat.lt_or_ge i m with g | g
  ·split
   ·rw [mkL_nth _ g]; (try dsimp only); split
    ·omega
    ·exact plN_bd h i
   ·rw [mkL_nth _ g]; exact plN_bd h i
  ·split <;> (rw [nth_mkL_out g]; omega)
 refine ⟨pln_len m l, fun i => (hb i).1, fun i => by have := (hb i).2; omega, ?_⟩
 unfold psum
 rw [pln_len]
 by_cases hs : psum (mkL m (plN l)) = 0
 ·have e : nth (pln m l) 0 = 1 := by unfold pln; rw [if_pos hs, mkL_nth _ (by omega)]; rfl
  exact sm_pos (fun i _ => (hb i).1) (i := 0) (by omega) (by omega)
 ·have e : pln m l = mkL m (plN l) := by unfold pln; rw [if_neg hs]
  rw [e]
  have h0 : 0 ≤ psum (mkL m (plN l)) := psum_nn fun i => by have := (hb i).1; rwa [e] at this
  unfold psum at hs h0
  rw [mkL_len] at hs h0
  omega

set_option maxHeartbeats 4000000 in
theorem plannedL_any (m : Nat) (m4 : m ≤ 4) (l : List Int) (h : ∀ i, 0 ≤ nth l i ∧ nth l i ≤ 65535) (hl : l.length ≤ 9223372036854775807) (a : Option Addr) (cap : Nat) (w : World) (hI : Wrds w a l) :
 Calls Try.prog 42 #[.int .i64 m, .slice a l.length cap] w (RetI (pln m l) w) := by
 have hI' := hid hI
 have hbd := hid (plN_bd h)
 have hpn : Hid (∀ i, plN l i = if l.length = 0 then 0 else nth l (i % l.length)) := hid fun i => rfl
 have hpl : Hid (pln m l = if psum (mkL m (plN l)) = 0 then mkL m (fun i => if i = 0 then 1 else plN l i) else mkL m (plN l)) := hid rfl
 have hsm := hid (fun a cap W hW => sumR_any (mkL m (plN l)) (fun i => by
  rcases Nat.lt_or_ge i m with g | g
  ·rw [mkL_nth _ g]; have := plN_bd h i; omega
  ·rw [nth_mkL_out g]; omega) (by rw [mkL_len]; omega) a cap W hW)
 rw [mkL_len] at hsm
 obtain ⟨f, hf⟩ : ∃ f, plN l = f := ⟨_, rfl⟩
 rw [hf] at hbd hpn hpl hsm
 replace hf := hid hf
 obtain ⟨n, hn⟩ : ∃ n, l.length = n := ⟨_, rfl⟩
 rw [hn] at hpn hl ⊢
 have hww : Hid (∀ i, i < n → ∃ b off, a = some ⟨b, off, none⟩ ∧ w.cell? ⟨b, off + i, none⟩ = some (.int .u16 (nth l i))) := hid (by rw [← hn]; exact hI)
 replace hn := hid hn
 clear hI h
 go_enter Try.func42, Try.ntmps42
 go_wp2_with fail
 go_loopw [5, 6] (fun s i wr => ∃ k : Nat, k ≤ m ∧ i = .int .i64 k ∧ Hid (OwnI wr w.heap.size 2 s (mkL k f)) ∧ Hid (Ext w wr)) (fun _ i _ => (m - intOf i).toNat)
 case atStart => exact ⟨0, by omega, rfl, hid (OwnI.nil _ _ _), hid (Ext.refl _)⟩
 case round =>
  obtain ⟨k, hk, rfl, ho, hx⟩ := hrel
  by_cases hkl : k < m
  ·have hst := hid (mkL_snoc k f)
   have hlk := hid (mkL_len k f)
   have hfb := hbd.out k
   have hpk := hid (hpn.out k)
   have u2 := Go.IntWalk.i64_in ((k : Int) + 1) (by omega)
   have hkl2 : (k : Int) < (m : Int) := by omega
   obtain ⟨x, hxv⟩ : ∃ x, f k = x := ⟨_, rfl⟩
   rw [hxv] at hst hfb hpk
   replace hxv := hid hxv
   obtain ⟨s0, hs0⟩ : ∃ s0, mkL k f = s0 := ⟨_, rfl⟩
   rw [hs0] at ho hst hlk
   replace hs0 := hid hs0
   by_cases hn0 : n = 0
   ·rw [if_pos hn0] at hpk
    have hx0 : x = 0 := hpk.out
    subst hx0
    subst hn0
    clear hpk
    go_wp2_with (at_builtin; refine app_int rfl _ _ _ rfl 2 Try.underlying25 elemI64 w.heap.size s0 0 _ rfl _ rfl (ho.out.ext (by repeat (with_reducible first | assumption | exact Ext.refl _ | refine Ext.drew ?_ | refine Ext.drewN ?_ _ | refine Ext.alloc ?_ _ | refine xS ?_ _ | refine xT ?_ (by assumption)))) ?c1 ?c2 ?c3 ?_; (case c1 => simp [go_sem]); (case c2 => rw [hlk.out]; omega); (case c3 => have := Ext.size hx.out; simp; omega); intro b9 cp9 w9 own9 ext9 hb9 g9; have own9 := hid own9; have hE9 := hid (ext9 w (by have := hx.out; exact (by repeat (with_reducible first | assumption | exact Ext.refl _ | refine Ext.drew ?_ | refine Ext.drewN ?_ _ | refine Ext.alloc ?_ _ | refine xS ?_ _ | refine xT ?_ (by assumption)))) (Nat.le_refl _)))
    go_roundw
    case rel => exact ⟨k + 1, by omega, by go_num, hid (by rw [hst.out]; have h := own9.out; simp only [List.length_append, List.length_singleton] at h; exact h), hE9⟩
    case measure => simp [intOf]; omega
   ·rw [if_neg hn0] at hpk
    have hn1 : 0 < n := by omega
    have hmod := Nat.mod_lt k hn1
    obtain ⟨b, off, rfl, hc⟩ := hww.out _ hmod
    replace hc := hx.out.cell hc
    rw [← hpk.out] at hc
    have hn2 : (0 : Int) < (n : Int) := by omega
    have e1 : ((k : Int)).tmod (n : Int) = ((k % n : Nat) : Int) := by rw [Int.tmod_eq_emod_of_nonneg (by omega)]; rfl
    have e0 : ((n : Int) == 0) = false := by rw [beq_eq_false_iff_ne]; omega
    have e3 : (n : Int) ≠ 0 := by omega
    obtain ⟨r, hr⟩ : ∃ r, k % n = r := ⟨_, rfl⟩
    rw [hr] at hc e1 hmod
    replace hr := hid hr
    clear hpk
    go_wp2_with (at_builtin; refine app_int rfl _ _ _ rfl 2 Try.underlying25 elemI64 w.heap.size s0 x _ rfl _ rfl (ho.out.ext (by repeat (with_reducible first | assumption | exact Ext.refl _ | refine Ext.drew ?_ | refine Ext.drewN ?_ _ | refine Ext.alloc ?_ _ | refine xS ?_ _ | refine xT ?_ (by assumption)))) ?c1 ?c2 ?c3 ?_; (case c1 => simp [go_sem]); (case c2 => rw [hlk.out]; omega); (case c3 => have := Ext.size hx.out; simp; omega); intro b9 cp9 w9 own9 ext9 hb9 g9; have own9 := hid own9; have hE9 := hid (ext9 w (by have := hx.out; exact (by repeat (with_reducible first | assumption | exact Ext.refl _ | refine Ext.drew ?_ | refine Ext.drewN ?_ _ | refine Ext.alloc ?_ _ | refine xS ?_ _ | refine xT ?_ (by assumption)))) (Nat.le_refl _)))
    go_roundw
    case rel => exact ⟨k + 1, by omega, by go_num, hid (by rw [hst.out]; have h := own9.out; simp only [List.length_append, List.length_singleton] at h; exact h), hE9⟩
    case measure => simp [intOf]; omega
  ·have hkm : k = m := by omega
   have hnl : ¬ (k : Int) < (m : Int) := by omega
   rw [hkm] at ho
   have hnm : ¬ (m : Int) < (m : Int) := by omega
   have hlm := hid (mkL_len m f)
   by_cases hm0 : m = 0
   ·obtain ⟨aa, cc, rfl, hIs⟩ := ho.out.slice
    have hz : ¬ (0 : Int) < (m : Int) := by omega
    have hp0 : Hid (pln m l = mkL m f) := hid (by
     rw [hpl.out, hm0]
     split <;> rfl)
    replace hIs := hid hIs
    rw [hlm.out]
    clear hkm hm0 hsm
    go_wp2_with fail
    go_ret
    exact ⟨aa, cc, by rw [hp0.out, hlm.out]; rfl, by rw [hp0.out]; exact hIs.out, hx.out⟩
   ·have hm1 : 0 < m := by omega
    obtain ⟨gg, cc, rfl⟩ : ∃ gg cc, u5 = .slice (some ⟨gg, 0, none⟩) m cc := by
     rcases ho.out.2 with ⟨e1, e2⟩ | ⟨g, cap', cur, e1, _⟩
     ·exfalso; rw [hlm.out] at e2; omega
     ·exact ⟨g, cap', by rw [e1, hlm.out]⟩
    have hfa := ho.out.facts (j := 0) (by rw [hlm.out]; exact hm1)
    have q0 := hfa.1
    have q1 := hfa.2.1
    have hown := hid (show OwnI wr w.heap.size 2 (.slice (some ⟨gg, 0, none⟩) (mkL m f).length cc) (mkL m f) by rw [hlm.out]; exact ho.out)
    have hIs := hid (show Ints wr (some ⟨gg, 0, none⟩) (mkL m f) by
     obtain ⟨a', c', e', hi⟩ := hown.out.slice
     simp only [Value.slice.injEq] at e'
     rw [e'.1]; exact hi)
    have hgw := hid ((ho.out.block gg (by simp [Value.ownBlock])).1)
    have hz : (0 : Int) < (m : Int) := by omega
    obtain ⟨ps, hps⟩ : ∃ x, psum (mkL m f) = x := ⟨_, rfl⟩
    rw [hps] at hsm hpl
    replace hps := hid hps
    obtain ⟨q9, hq9⟩ : ∃ x, nth (mkL m f) 0 = x := ⟨_, rfl⟩
    rw [hq9] at q0
    replace hq9 := hid hq9
    clear hfa hkm ho
    by_cases hs : ps = 0
    ·have e0 : (ps == 0) = true := by rw [beq_iff_eq]; exact hs
     rw [if_pos hs] at hpl
     replace hs := hid hs
     go_wp2_with fail
     refine (hsm.out _ _ _ (hIs.out.ext (by repeat (with_reducible first | assumption | exact Ext.refl _ | refine Ext.drew ?_ | refine Ext.drewN ?_ _ | refine Ext.alloc ?_ _ | refine xS ?_ _ | refine xT ?_ (by assumption))))).mono ?_; rintro e w5 ⟨rfl, hE5⟩
     have x5 : Ext wr w5 := (by repeat (with_reducible first | assumption | exact Ext.refl _ | refine Ext.drew ?_ | refine Ext.drewN ?_ _ | refine Ext.alloc ?_ _ | refine xS ?_ _ | refine xT ?_ (by assumption)))
     have q1 := (x5.frozen (cell_lt q0)).trans q1
     have q0 := x5.cell q0
     have h2 := OwnI.set (l := mkL m f) (hown.out.ext x5) (i := 0) 1
     rw [mkL_set, mkL_len] at h2
     have hI5 := hid (show Ints (w5.setCell ⟨gg, 0, none⟩ (.int .i64 1)) (some ⟨gg, 0, none⟩) (pln m l) by
      rw [hpl.out]
      obtain ⟨a', c', e', hi⟩ := h2.slice
      simp only [Value.slice.injEq] at e'
      rw [e'.1]; exact hi)
     have hl5 := hid (pln_len m l)
     have hX5 := hid (hx.out.trans x5)
     have hg5 := hgw.out
     clear h2 hE5 x5
     go_wp2_with fail
     go_ret
     exact ⟨_, cc, by rw [hl5.out]; rfl, hI5.out, hX5.out.setCell (by simp; omega) _⟩
    ·have e0 : (ps == 0) = false := by rw [beq_eq_false_iff_ne]; exact hs
     rw [if_neg hs] at hpl
     go_wp2_with fail
     refine (hsm.out _ _ _ (hIs.out.ext (by repeat (with_reducible first | assumption | exact Ext.refl _ | refine Ext.drew ?_ | refine Ext.drewN ?_ _ | refine Ext.alloc ?_ _ | refine xS ?_ _ | refine xT ?_ (by assumption))))).mono ?_; rintro e w5 ⟨rfl, hE5⟩
     have x5 : Ext wr w5 := (by repeat (with_reducible first | assumption | exact Ext.refl _ | refine Ext.drew ?_ | refine Ext.drewN ?_ _ | refine Ext.alloc ?_ _ | refine xS ?_ _ | refine xT ?_ (by assumption)))
     have hI5 := hid (show Ints w5 (some ⟨gg, 0, none⟩) (pln m l) by rw [hpl.out]; exact hIs.out.ext x5)
     have hl5 := hid (pln_len m l)
     have hX5 := hid (hx.out.trans x5)
     clear hE5 x5
     go_wp2_with fail
     go_ret
     exact ⟨_, cc, by rw [hl5.out]; rfl, hI5.out, hX5.out⟩

end Go.Proofs.Ytommhgcgaclflaa
