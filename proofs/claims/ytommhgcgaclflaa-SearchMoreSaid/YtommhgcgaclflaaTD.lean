/- The program's Left. -/
import Derived.Test.YtommhgcgaclflaaZB7
import Derived.Test.YtommhgcgaclflaaZB21
import Derived.Test.YtommhgcgaclflaaZB14
import Derived.WalkMore
namespace Go.Proofs.Ytommhgcgaclflaa
set_option linter.unusedVariables false
set_option linter.unusedSimpArgs false
set_option linter.unusedSectionVars false
set_option linter.unnecessarySimpa false
open Go Go.RowKit Game
set_option maxRecDepth 100000

theorem all_own (m : Nat) (hm : m ≤ 4) (w : World) :
 Calls Try.prog 81 #[.int .i64 m] w fun e w' => ∃ a cap, e = .returned (.slice a m cap) ∧ OwnI w' w.heap.size 3 (.slice a m cap) (nats (List.range m)) ∧ Ext w w' := by
 have h1 := hid (listed_own (2 ^ m - 1) (all_bits m hm))
 have h2 := shl_one m hm
 have h3 := shl_all m hm
 have hr := range_bits m hm
 have hl : (bitsTo (2 ^ m - 1) 4).length = m := by rw [hr, nats_len, List.length_range]
 rw [hl, hr] at h1
 obtain ⟨y, hy⟩ : ∃ y, (2 ^ m - 1 : Nat) = y := ⟨_, rfl⟩
 obtain ⟨z, hz⟩ : ∃ z, (2 ^ m : Nat) = z := ⟨_, rfl⟩
 rw [hy] at h1 h3
 rw [hz] at h2 h3
 replace hy := hid hy
 replace hz := hid hz
 clear hr hl
 go_enter Try.func81, Try.ntmps81
 go_wp2_with fail
 refine (h1.out _).mono ?_; rintro e w1 ⟨aa, cc, rfl, hI, hE⟩
 go_wp2_with fail
 go_ret
 exact ⟨aa, cc, rfl, hI, (by repeat (with_reducible first | assumption | exact Ext.refl _ | refine Ext.drew ?_ | refine Ext.drewN ?_ _ | refine Ext.alloc ?_ _ | refine xS ?_ _ | refine xT ?_ (by assumption)))⟩
theorem OwnI.addr {w : World} {base : Nat} {e : TypeId} {a : Option Addr} {n cap : Nat} {l : List Int} (h : OwnI w base e (.slice a n cap) l) (hl : 0 < l.length) : ∃ g, a = some ⟨g, 0, none⟩ := by
 obtain ⟨h1, ⟨_, h2⟩ | ⟨g, cap', cur, hv, hb, hg, hn, hm, hs, ht⟩⟩ := h
 ·omega
 ·cases hv; exact ⟨g, rfl⟩
theorem own_kept {w w' : World} {base : Nat} {e : TypeId} {v : Value} {l : List Int} {g : Nat} (h : OwnI w base e v l) (k : w.grownBy w' (some g)) (hne : v.ownBlock ≠ some g) : OwnI w' base e v l := by
 refine World.ownsRow.kept h k ?_
 cases hub : v.ownBlock with
 | none => exact .inl rfl
 | some b => exact .inr fun h => hne (by rw [hub, h])
def lenOf : Value → Nat
 | .slice _ n _ => n
 | _ => 0
def leftR (t : List (List Int)) : List Int := if chkT t = 0 then nats (leftE t).1 else []
def leftC (t : List (List Int)) : List Int := if chkT t = 0 then nats (leftE t).2 else []
def RetLeft (t : List (List Int)) (w : World) (e : Ending) (w' : World) : Prop :=
 ∃ a1 c1 a2 c2, e = .returned (.tuple #[.slice a1 (leftR t).length c1, .slice a2 (leftC t).length c2, .int .i64 (chkT t)]) ∧ Ints w' a1 (leftR t) ∧ Ints w' a2 (leftC t) ∧ Ext w w'

set_option maxHeartbeats 4000000 in
theorem left_any (t : List (List Int)) (q : FitT t) (a : Option Addr) (cap : Nat) (w : World) (hT : Tab w a t) (hl : t.length ≤ 1000) (hw : ∀ i, (row t i).length ≤ 1000) :
 Calls Try.prog 38 #[(.agg #[.slice a t.length cap])] w (RetLeft t w) := by
 by_cases hv : chkT t = 0
 case neg =>
  have h1 := hid (open_no t q hv a cap)
  have hT' := hid hT
  have g1 : (chkT t != 0) = true := by simpa using hv
  have e1 : Hid (leftR t = [] ∧ leftC t = []) := hid (by unfold leftR leftC; rw [if_neg hv, if_neg hv]; exact ⟨rfl, rfl⟩)
  have hl' := hid hl
  have hw' := hid hw
  clear hT hv hl hw
  go_enter Try.func38, Try.ntmps38
  go_wp2_with fail
  go_step3
  go_wp2_with fail
  refine (h1.out _ (hT'.out.ext (by repeat (with_reducible first | assumption | exact Ext.refl _ | refine Ext.drew ?_ | refine Ext.drewN ?_ _ | refine Ext.alloc ?_ _ | refine xS ?_ _ | refine xT ?_ (by assumption)))) hl'.out hw'.out).mono ?_; rintro e w1 ⟨rfl, hE⟩
  go_wp2_with fail
  go_ret3
  exact ⟨none, 0, none, 0, by rw [e1.out.1, e1.out.2]; rfl, by rw [e1.out.1]; exact Ints.nil _ _, by rw [e1.out.2]; exact Ints.nil _ _, (by repeat (with_reducible first | assumption | exact Ext.refl _ | refine Ext.drew ?_ | refine Ext.drewN ?_ _ | refine Ext.alloc ?_ _ | refine xS ?_ _ | refine xT ?_ (by assumption)))⟩
 case pos =>
  have v := chkT_ok.1 hv
  have v2 := turn_vld v
  have m1 := v.m1; have m4 := v.m4; have n1 := v.n1; have n4 := v.n4
  have hlt : (turn t).length = wid t := turn_len t
  have hwt : wid (turn t) = t.length := turn_wid (by omega)
  obtain ⟨b, off, rfl, hb, hcc⟩ := hT.at (by omega)
  obtain ⟨ai, ci, hr0, _⟩ := hcc 0 (by omega)
  rw [Nat.add_zero] at hr0
  rw [show (row t 0).length = wid t from rfl] at hr0
  have h1 := hid (open_yes t v (some ⟨b, off, none⟩) cap)
  have hT' := hid hT
  have hvv := hid v
  have hvv2 := hid v2
  have ec := hid hv
  have hLl := hid (LS.left t)
  have hall := hid all_own
  clear hT hv v v2 hlt hwt hcc
  have m4' := hid m4
  have n4' := hid n4
  obtain ⟨m, hm⟩ : ∃ m, t.length = m := ⟨_, rfl⟩
  obtain ⟨n, hn⟩ : ∃ n, wid t = n := ⟨_, rfl⟩
  rw [hm] at m1 m4 m4' h1
  rw [hn] at n1 n4 n4' hr0
  rw [hm]
  replace hm := hid hm
  replace hn := hid hn
  have hm0 : 0 < m := by omega
  have hm00 : (0 : Int) < (m : Int) := by omega
  go_enter Try.func38, Try.ntmps38
  go_wp2_with fail
  go_step3
  go_wp2_with fail
  refine (h1.out _ (hT'.out.ext (by repeat (with_reducible first | assumption | exact Ext.refl _ | refine Ext.drew ?_ | refine Ext.drewN ?_ _ | refine Ext.alloc ?_ _ | refine xS ?_ _ | refine xT ?_ (by assumption))))).mono ?_; rintro e w1 ⟨D, E, rfl, hD, hE, hX⟩
  have x1 : Ext w w1 := (by repeat (with_reducible first | assumption | exact Ext.refl _ | refine Ext.drew ?_ | refine Ext.drewN ?_ _ | refine Ext.alloc ?_ _ | refine xS ?_ _ | refine xT ?_ (by assumption)))
  have tc := hX.cell (p := ⟨w.heap.size, 0, none⟩) (v := .slice (some ⟨b, off, none⟩) m cap) (by simp [go_sem])
  have r0 := x1.cell hr0
  have hD := hid hD
  have hE := hid hE
  have hX1 := hid x1
  clear x1 hX
  go_wp2_with fail
  refine wp_region_held_drew (S := fun w' => w'.cell? ⟨w.heap.size, 0, none⟩ = some (.slice (some ⟨b, off, none⟩) m cap) ∧ w'.cell? ⟨b, off, none⟩ = some (.slice ai n ci)) (by kernel_rfl) ⟨(show Ext w1 _ from (by repeat (with_reducible first | assumption | exact Ext.refl _ | refine Ext.drew ?_ | refine Ext.drewN ?_ _ | refine Ext.alloc ?_ _ | refine xS ?_ _ | refine xT ?_ (by assumption)))).cell tc, (show Ext w1 _ from (by repeat (with_reducible first | assumption | exact Ext.refl _ | refine Ext.drew ?_ | refine Ext.drewN ?_ _ | refine Ext.alloc ?_ _ | refine xS ?_ _ | refine xT ?_ (by assumption)))).cell r0⟩ fun hHeld => ?_
  refine tkA (i := 0) (v := ?_) rfl (fun _ _ _ h => h) (Or.inl ⟨by rfl, ?yl⟩) (by assumption) ?_
  case yl => (intro w hSw; (try dsimp only at hSw); (try obtain ⟨k1, k2, k3⟩ := hSw); go_simp); with_reducible rfl
  try simp only [Act.put, List.setIfInBounds_toArray, List.set_cons_zero, List.set_cons_succ]
  refine tkA (i := 1) (v := ?_) rfl (fun _ _ _ h => h) (Or.inl ⟨by rfl, ?yl⟩) (by assumption) ?_
  case yl => (intro w hSw; (try dsimp only at hSw); (try obtain ⟨k1, k2, k3⟩ := hSw); go_simp); with_reducible rfl
  try simp only [Act.put, List.setIfInBounds_toArray, List.set_cons_zero, List.set_cons_succ]
  refine tkA (i := 2) (v := ?_) rfl (fun _ _ _ h => h) (Or.inl ⟨by rfl, ?yl⟩) (by assumption) ?_
  case yl => (intro w hSw; (try dsimp only at hSw); (try obtain ⟨k1, k2, k3⟩ := hSw); go_simp); with_reducible rfl
  try simp only [Act.put, List.setIfInBounds_toArray, List.set_cons_zero, List.set_cons_succ]
  refine tkA (i := 4) (v := ?_) rfl (fun _ _ _ h => h) (Or.inl ⟨by rfl, ?yl⟩) (by assumption) ?_
  case yl => (intro w hSw; (try dsimp only at hSw); (try obtain ⟨k1, k2, k3⟩ := hSw); go_simp); with_reducible rfl
  try simp only [Act.put, List.setIfInBounds_toArray, List.set_cons_zero, List.set_cons_succ]
  refine tkA (i := 5) (v := ?_) rfl (fun _ _ _ h => h) (Or.inl ⟨by rfl, ?yl⟩) (by assumption) ?_
  case yl => (intro w hSw; (try dsimp only at hSw); (try obtain ⟨k1, k2, k3⟩ := hSw); go_simp); with_reducible rfl
  try simp only [Act.put, List.setIfInBounds_toArray, List.set_cons_zero, List.set_cons_succ]
  refine tkA (i := 6) (v := ?_) rfl (fun _ _ _ h => h) (Or.inl ⟨by rfl, ?yl⟩) (by assumption) ?_
  case yl => (intro w hSw; (try dsimp only at hSw); (try obtain ⟨k1, k2, k3⟩ := hSw); go_simp); with_reducible rfl
  try simp only [Act.put, List.setIfInBounds_toArray, List.set_cons_zero, List.set_cons_succ]
  refine tkA (i := 7) (v := ?_) rfl (fun _ _ _ h => h) (Or.inl ⟨by rfl, ?yl⟩) (by assumption) ?_
  case yl => (intro w hSw; (try dsimp only at hSw); (try obtain ⟨k1, k2, k3⟩ := hSw); go_simp); with_reducible rfl
  try simp only [Act.put, List.setIfInBounds_toArray, List.set_cons_zero, List.set_cons_succ]
  refine tkA (i := 8) (v := ?_) rfl (fun _ _ _ h => h) (Or.inl ⟨by rfl, ?yl⟩) (by assumption) ?_
  case yl => (intro w hSw; (try dsimp only at hSw); (try obtain ⟨k1, k2, k3⟩ := hSw); go_simp); with_reducible rfl
  try simp only [Act.put, List.setIfInBounds_toArray, List.set_cons_zero, List.set_cons_succ]
  refine wpAnyH_ready (rs := [3]) (by kernel_rfl) (by simp) ?_
  refine AllReadyH.cons (o := _) rfl (fun K hK => ?_) AllReadyH.nil
  go_simp
  refine (hall.out m m4 _).mono ?_; rintro e w2 ⟨aR, cR, rfl, hoR, hE2⟩
  have x2 : Ext w1 w2 := (by repeat (with_reducible first | assumption | exact Ext.refl _ | refine Ext.drew ?_ | refine Ext.drewN ?_ _ | refine Ext.alloc ?_ _ | refine xS ?_ _ | refine xT ?_ (by assumption)))
  have hs2 := hE2.size
  refine hK.out _ _ ⟨x2.cell tc, x2.cell r0⟩ (fun hHeld => ?_)
  clear hK K
  try simp only [Act.put, List.setIfInBounds_toArray, List.set_cons_zero, List.set_cons_succ]
  refine wpAnyH_ready (rs := [9]) (by kernel_rfl) (by simp) ?_
  refine AllReadyH.cons (o := _) rfl (fun K hK => ?_) AllReadyH.nil
  go_simp
  refine (hall.out n n4 _).mono ?_; rintro e w3 ⟨aC, cC, rfl, hoC, hE3⟩
  have x3 : Ext w1 w3 := (by repeat (with_reducible first | assumption | exact Ext.refl _ | refine Ext.drew ?_ | refine Ext.drewN ?_ _ | refine Ext.alloc ?_ _ | refine xS ?_ _ | refine xT ?_ (by assumption)))
  refine hK.out _ _ ⟨x3.cell tc, x3.cell r0⟩ (fun hHeld => ?_)
  clear hK K
  try simp only [Act.put, List.setIfInBounds_toArray, List.set_cons_zero, List.set_cons_succ]
  refine tkA (i := 10) (v := ?_) rfl (fun _ _ _ h => h) (Or.inl ⟨by rfl, ?yl⟩) (by assumption) ?_
  case yl => (intro w hSw; (try dsimp only at hSw); (try obtain ⟨k1, k2, k3⟩ := hSw); go_simp); with_reducible rfl
  try simp only [Act.put, List.setIfInBounds_toArray, List.set_cons_zero, List.set_cons_succ]
  refine tkA (i := 11) (v := ?_) rfl (fun _ _ _ h => h) (Or.inl ⟨by rfl, ?yl⟩) (by assumption) ?_
  case yl => (intro w hSw; (try dsimp only at hSw); (try obtain ⟨k1, k2, k3⟩ := hSw); go_simp); with_reducible rfl
  try simp only [Act.put, List.setIfInBounds_toArray, List.set_cons_zero, List.set_cons_succ]
  refine wpAnyH_done (by kernel_rfl) ?_ _
  simp only [sxA, sxB, sxC, Act.put, sxD, sxE, sxF]
  clear hHeld
  have hbC := hoC.block
  have hbR := hoR.block
  have hoR3 : Hid (OwnI w3 w1.heap.size 3 (.slice aR m cR) (nats (List.range m))) := hid ((hoR.ext hE3).mono (by simp))
  have hoC3 : Hid (OwnI w3 w1.heap.size 3 (.slice aC n cC) (nats (List.range n))) := hid (hoC.mono x2.size)
  have hap : Hid (∀ k, Value.ownBlock (.slice aR m cR) = some k → Value.ownBlock (.slice aC n cC) ≠ some k) := hid fun k h1 h2 => by
   have h3 := (hbR k h1).2
   have h4 := (hbC k h2).1
   omega
  have hx3 := hid x3
  clear x2 x3 hE2 hE3 hoR hoC hbC hbR hs2
  go_wp2_with fail
  go_step3
  go_wp2_with fail
  go_loopw [8, 9] (fun r c wr => ∃ (k : Nat) (a1 : Option Addr) (c1 : Nat) (a2 : Option Addr) (c2 : Nat), k + (leftN t k).1.length + (leftN t k).2.length = m + n ∧ r = .slice a1 (leftN t k).1.length c1 ∧ c = .slice a2 (leftN t k).2.length c2 ∧ Hid (OwnI wr w1.heap.size 3 (.slice a1 (leftN t k).1.length c1) (nats (leftN t k).1)) ∧ Hid (OwnI wr w1.heap.size 3 (.slice a2 (leftN t k).2.length c2) (nats (leftN t k).2)) ∧
   Hid (∀ g, Value.ownBlock (.slice a1 (leftN t k).1.length c1) = some g → Value.ownBlock (.slice a2 (leftN t k).2.length c2) ≠ some g) ∧ Ext w1 wr) (fun r c _ => lenOf r + lenOf c)
  case atStart =>
   have e1 : (leftN t 0).1 = List.range m := by show List.range t.length = _; rw [hm.out]
   have e2 : (leftN t 0).2 = List.range n := by show List.range (wid t) = _; rw [hn.out]
   refine ⟨0, aR, cR, aC, cC, ?_, ?_, ?_, ?_, ?_, ?_, hx3.out⟩
   ·rw [e1, e2, List.length_range, List.length_range]; omega
   ·rw [e1, List.length_range]
   ·rw [e2, List.length_range]
   ·rw [e1, List.length_range]; exact hoR3
   ·rw [e2, List.length_range]; exact hoC3
   ·rw [e1, e2, List.length_range, List.length_range]; exact hap
  case round =>
   obtain ⟨k, a1, c1, a2, c2, hsum, rfl, rfl, hR, hC, hap, hw⟩ := hrel
   have hls := hLl.out k
   have hfx := hid (fun h => left_fix (t := t) (k := k) h)
   have hstp : Hid (leftN t (k + 1) = stepL t (leftN t k)) := hid rfl
   have hsd : Hid (stepL t (leftN t k) = if (leftN t k).1.findIdx (spB t (leftN t k).1 (leftN t k).2) < (leftN t k).1.length then (cutN (leftN t k).1 ((leftN t k).1.findIdx (spB t (leftN t k).1 (leftN t k).2)), (leftN t k).2)
    else if (leftN t k).2.findIdx (spB (turn t) (leftN t k).2 (leftN t k).1) < (leftN t k).2.length then ((leftN t k).1, cutN (leftN t k).2 ((leftN t k).2.findIdx (spB (turn t) (leftN t k).2 (leftN t k).1)))
    else leftN t k) := hid rfl
   obtain ⟨S, hS⟩ : ∃ S, leftN t k = S := ⟨_, rfl⟩
   rw [hS] at hls hsum hR hC hap hfx hstp hsd
   simp only [hS]
   obtain ⟨R, C⟩ := S
   dsimp only at hls hsum hR hC hap hfx hstp hsd ⊢
   have hRs := hls.rs
   have hCs := hls.cs
   have hRb := hls.rb
   have hCb := hls.cb
   dsimp only at hRs hCs hRb hCb
   have hR4 : R.length ≤ 4 := ss_len hRs hRb hvv.out.m4
   have hC4 : C.length ≤ 4 := ss_len hCs hCb hvv.out.n4
   have hR1 : ∀ x ∈ R, x < 1000 := fun x hx => by have := hRb x hx; have := hvv.out.m4; omega
   have hC1 : ∀ x ∈ C, x < 1000 := fun x hx => by have := hCb x hx; have := hvv.out.n4; omega
   have hw0 := hid hw
   have hs1 := hid (fun W (h : Ext wr W) => spare_any t hvv.out D R C hRb hR4 hCb hC4 a1 R.length c1 rfl a2 C.length c2 rfl W (hD.out.ext (hw0.out.trans h)) ((OwnI.ints hR.out).ext h) ((OwnI.ints hC.out).ext h))
   have hs2 := hid (fun W (h : Ext wr W) => spare_any (turn t) hvv2.out E C R (fun x hx => by rw [turn_len]; exact hCb x hx) hC4 (fun x hx => by rw [turn_wid (by have := hvv.out.n1; omega)]; exact hRb x hx) hR4 a2 C.length c2 rfl a1 R.length c1 rfl W (hE.out.ext (hw0.out.trans h)) ((OwnI.ints hC.out).ext h) ((OwnI.ints hR.out).ext h))
   have hxw := hid (hX1.out.trans hw)
   have hgR := hid hR.out.block
   have hgC := hid hC.out.block
   have hsz := hw.size
   clear hw hls
   obtain ⟨p, hpe⟩ : ∃ p, R.findIdx (spB t R C) = p := ⟨_, rfl⟩
   obtain ⟨p2, hpe2⟩ : ∃ p, C.findIdx (spB (turn t) C R) = p := ⟨_, rfl⟩
   rw [hpe, hpe2] at hsd
   by_cases hp : p < R.length
   ·rw [if_pos hp] at hsd
    have hf1 := findIdx_at (f := spB t R C) (l := R) (by rw [hpe]; exact hp)
    rw [hpe] at hf1
    have hv1 : spr t R C = (R.getD p 0 : Nat) := by unfold spr; rw [find_nat hp hf1.2 hf1.1]; rfl
    rw [hv1] at hs1
    obtain ⟨g, rfl⟩ := OwnI.addr hR.out (by rw [nats_len]; omega)
    obtain ⟨mR, hmR⟩ : ∃ mR, R.length = mR + 1 := ⟨R.length - 1, by omega⟩
    have hgg := hgR.out g rfl
    have hnC : Value.ownBlock (.slice a2 C.length c2) ≠ some g := hap.out g rfl
    have hdl := hid (fun Pi W hpi hne ho => delLeft1_any R hR4 hRs hR1 p hp Pi w1.heap.size g R.length mR c1 rfl hmR W hpi hne ho)
    have hlen := hid (cutN_len hp)
    have hR1p := hR1 _ (getD_mem hp)
    obtain ⟨r, hr⟩ : ∃ r, R.getD p 0 = r := ⟨_, rfl⟩
    rw [hr] at hs1 hdl hR1p
    obtain ⟨cv, hcv⟩ : ∃ cv, spr (turn t) C R = cv := ⟨_, rfl⟩
    rw [hcv] at hs2
    replace hr := hid hr
    replace hcv := hid hcv
    obtain ⟨nR, hnR⟩ : ∃ nR, R.length = nR := ⟨_, rfl⟩
    obtain ⟨nC, hnC2⟩ : ∃ nC, C.length = nC := ⟨_, rfl⟩
    rw [hnR] at hs1 hs2 hR hdl hmR hsum hp hlen
    rw [hnC2] at hs1 hs2 hC hnC hsum
    have h0r : (0 : Int) ≤ (r : Int) := by omega
    replace hmR := hid hmR
    replace hnR := hid hnR
    replace hnC2 := hid hnC2
    replace hsum := hid hsum
    replace hpe := hid hpe
    clear hv1 hf1 hRs hCs hRb hCb hR1 hC1 hap hgR hgC
    rw [hnR.out, hnC2.out]
    go_wp2_with fail
    refine (hs1.out _ (by repeat (with_reducible first | assumption | exact Ext.refl _ | refine Ext.drew ?_ | refine Ext.drewN ?_ _ | refine Ext.alloc ?_ _ | refine xS ?_ _ | refine xT ?_ (by assumption)))).mono ?_; rintro e w4 ⟨rfl, hE4⟩
    have x4 := hid (show Ext wr w4 from (by repeat (with_reducible first | assumption | exact Ext.refl _ | refine Ext.drew ?_ | refine Ext.drewN ?_ _ | refine Ext.alloc ?_ _ | refine xS ?_ _ | refine xT ?_ (by assumption))))
    have hx4 := hid hE4
    go_wp2_with fail
    refine (hs2.out _ (by have := x4.out; exact (by repeat (with_reducible first | assumption | exact Ext.refl _ | refine Ext.drew ?_ | refine Ext.drewN ?_ _ | refine Ext.alloc ?_ _ | refine xS ?_ _ | refine xT ?_ (by assumption))))).mono ?_; rintro e w5 ⟨rfl, hE5⟩
    have x5 := hid (x4.out.trans hE5)
    have l5 := x5.out.size
    have l6 : g < w5.heap.size := by omega
    clear hE4 hE5
    go_wp2_with fail
    refine (hdl.out w5.heap.size ((w5.alloc (.cells #[.int .i64 r] 3)).alloc (.cells #[.int .i64 cv] 3)) (by simp [go_sem]) (by omega) (hR.out.ext (by have := x5.out; exact (by repeat (with_reducible first | assumption | exact Ext.refl _ | refine Ext.drew ?_ | refine Ext.drewN ?_ _ | refine Ext.alloc ?_ _ | refine xS ?_ _ | refine xT ?_ (by assumption)))))).mono ?_; rintro e w6 ⟨rfl, hoR6, hg6⟩
    have hx6 : Ext w1 w6 := Ext.grown (show Ext w1 ((w5.alloc (.cells #[.int .i64 r] 3)).alloc (.cells #[.int .i64 cv] 3)) from by have h1 := hw0.out; have h2 := x5.out; exact (by repeat (with_reducible first | assumption | exact Ext.refl _ | refine Ext.drew ?_ | refine Ext.drewN ?_ _ | refine Ext.alloc ?_ _ | refine xS ?_ _ | refine xT ?_ (by assumption)))) hg6 (fun j e => by cases e; exact hgg.1)
    have hC6 := own_kept (hC.out.ext (show Ext wr ((w5.alloc (.cells #[.int .i64 r] 3)).alloc (.cells #[.int .i64 cv] 3)) from by have h2 := x5.out; exact (by repeat (with_reducible first | assumption | exact Ext.refl _ | refine Ext.drew ?_ | refine Ext.drewN ?_ _ | refine Ext.alloc ?_ _ | refine xS ?_ _ | refine xT ?_ (by assumption))))) hg6 hnC
    have hst2 : Hid (leftN t (k + 1) = (cutN R p, C)) := hid (by rw [hstp.out, hsd.out])
    have hlm : Hid ((cutN R p).length = mR) := hid (by rw [hlen.out, hmR.out]; rfl)
    replace hoR6 := hid hoR6
    replace hC6 := hid hC6
    replace hx6 := hid hx6
    clear hg6
    go_wp2_with fail
    go_roundw
    case rel =>
     refine ⟨k + 1, some ⟨g, 0, none⟩, c1, a2, c2, ?_, ?_, ?_, ?_, ?_, ?_, hx6.out⟩
     ·rw [hst2.out]; have h1 := hlm.out; have h2 := hsum.out; have h3 := hmR.out; have h4 := hnC2.out; dsimp only; omega
     ·rw [hst2.out]; show _ = Value.slice _ (cutN R p).length _; rw [hlm.out]
     ·rw [hst2.out]; show _ = Value.slice _ C.length _; rw [hnC2.out]
     ·rw [hst2.out]; show Hid (OwnI _ _ _ (Value.slice _ (cutN R p).length _) (nats (cutN R p))); rw [hlm.out]; exact hoR6
     ·rw [hst2.out]; show Hid (OwnI _ _ _ (Value.slice _ C.length _) (nats C)); rw [hnC2.out]; exact hC6
     ·rw [hst2.out]; exact hid fun g' h1 h2 => hnC (by cases h1; dsimp only at h2; rw [hnC2.out] at h2; exact h2)
    case measure => have := hmR.out; simp [lenOf]; omega
   ·rw [if_neg hp] at hsd
    have hf1 := findIdx_no (f := spB t R C) (l := R) (by rw [hpe]; exact hp)
    have hv1 : spr t R C = -1 := by unfold spr; rw [find_none hf1]; rfl
    rw [hv1] at hs1
    by_cases hp2 : p2 < C.length
    ·rw [if_pos hp2] at hsd
     have hf2 := findIdx_at (f := spB (turn t) C R) (l := C) (by rw [hpe2]; exact hp2)
     rw [hpe2] at hf2
     have hv2 : spr (turn t) C R = (C.getD p2 0 : Nat) := by unfold spr; rw [find_nat hp2 hf2.2 hf2.1]; rfl
     rw [hv2] at hs2
     obtain ⟨g, rfl⟩ := OwnI.addr hC.out (by rw [nats_len]; omega)
     obtain ⟨mC, hmC⟩ : ∃ mC, C.length = mC + 1 := ⟨C.length - 1, by omega⟩
     have hgg := hgC.out g rfl
     have hnC : Value.ownBlock (.slice a1 R.length c1) ≠ some g := fun e => hap.out g e rfl
     have hdl := hid (fun Pi W hpi hne ho => delLeft2_any C hC4 hCs hC1 p2 hp2 Pi w1.heap.size g C.length mC c2 rfl hmC W hpi hne ho)
     have hlen := hid (cutN_len hp2)
     have hC1p := hC1 _ (getD_mem hp2)
     obtain ⟨r, hr⟩ : ∃ r, C.getD p2 0 = r := ⟨_, rfl⟩
     rw [hr] at hs2 hdl hC1p
     replace hr := hid hr
     obtain ⟨nR, hnR⟩ : ∃ nR, R.length = nR := ⟨_, rfl⟩
     obtain ⟨nC, hnC2⟩ : ∃ nC, C.length = nC := ⟨_, rfl⟩
     rw [hnR] at hs1 hs2 hR hnC hsum
     rw [hnC2] at hs1 hs2 hC hdl hmC hsum hp2 hlen
     have h0r : (0 : Int) ≤ (r : Int) := by omega
     replace hmC := hid hmC
     replace hnR := hid hnR
     replace hnC2 := hid hnC2
     replace hsum := hid hsum
     replace hpe2 := hid hpe2
     clear hv1 hv2 hf1 hf2 hRs hCs hRb hCb hR1 hC1 hap hgR hgC hp hpe
     rw [hnR.out, hnC2.out]
     go_wp2_with fail
     refine (hs1.out _ (by repeat (with_reducible first | assumption | exact Ext.refl _ | refine Ext.drew ?_ | refine Ext.drewN ?_ _ | refine Ext.alloc ?_ _ | refine xS ?_ _ | refine xT ?_ (by assumption)))).mono ?_; rintro e w4 ⟨rfl, hE4⟩
     have x4 := hid (show Ext wr w4 from (by repeat (with_reducible first | assumption | exact Ext.refl _ | refine Ext.drew ?_ | refine Ext.drewN ?_ _ | refine Ext.alloc ?_ _ | refine xS ?_ _ | refine xT ?_ (by assumption))))
     go_wp2_with fail
     refine (hs2.out _ (by have := x4.out; exact (by repeat (with_reducible first | assumption | exact Ext.refl _ | refine Ext.drew ?_ | refine Ext.drewN ?_ _ | refine Ext.alloc ?_ _ | refine xS ?_ _ | refine xT ?_ (by assumption))))).mono ?_; rintro e w5 ⟨rfl, hE5⟩
     have x5 := hid (x4.out.trans hE5)
     have l5 := x5.out.size
     have l6 : g < w5.heap.size := by omega
     clear hE4 hE5
     go_wp2_with fail
     refine (hdl.out (w5.heap.size + 1) ((w5.alloc (.cells #[.int .i64 (-1)] 3)).alloc (.cells #[.int .i64 r] 3)) (by simp [go_sem]) (by omega) (hC.out.ext (by have := x5.out; exact (by repeat (with_reducible first | assumption | exact Ext.refl _ | refine Ext.drew ?_ | refine Ext.drewN ?_ _ | refine Ext.alloc ?_ _ | refine xS ?_ _ | refine xT ?_ (by assumption)))))).mono ?_; rintro e w6 ⟨rfl, hoR6, hg6⟩
     have hx6 : Ext w1 w6 := Ext.grown (show Ext w1 ((w5.alloc (.cells #[.int .i64 (-1)] 3)).alloc (.cells #[.int .i64 r] 3)) from by have h1 := hw0.out; have h2 := x5.out; exact (by repeat (with_reducible first | assumption | exact Ext.refl _ | refine Ext.drew ?_ | refine Ext.drewN ?_ _ | refine Ext.alloc ?_ _ | refine xS ?_ _ | refine xT ?_ (by assumption)))) hg6 (fun j e => by cases e; exact hgg.1)
     have hC6 := own_kept (hR.out.ext (show Ext wr ((w5.alloc (.cells #[.int .i64 (-1)] 3)).alloc (.cells #[.int .i64 r] 3)) from by have h2 := x5.out; exact (by repeat (with_reducible first | assumption | exact Ext.refl _ | refine Ext.drew ?_ | refine Ext.drewN ?_ _ | refine Ext.alloc ?_ _ | refine xS ?_ _ | refine xT ?_ (by assumption))))) hg6 hnC
     have hst2 : Hid (leftN t (k + 1) = (R, cutN C p2)) := hid (by rw [hstp.out, hsd.out])
     have hlm : Hid ((cutN C p2).length = mC) := hid (by rw [hlen.out, hmC.out]; rfl)
     replace hoR6 := hid hoR6
     replace hC6 := hid hC6
     replace hx6 := hid hx6
     clear hg6
     go_wp2_with fail
     go_roundw
     case rel =>
      refine ⟨k + 1, a1, c1, some ⟨g, 0, none⟩, c2, ?_, ?_, ?_, ?_, ?_, ?_, hx6.out⟩
      ·rw [hst2.out]; have h1 := hlm.out; have h2 := hsum.out; have h3 := hmC.out; have h4 := hnR.out; dsimp only; omega
      ·rw [hst2.out]; show _ = Value.slice _ R.length _; rw [hnR.out]
      ·rw [hst2.out]; show _ = Value.slice _ (cutN C p2).length _; rw [hlm.out]
      ·rw [hst2.out]; show Hid (OwnI _ _ _ (Value.slice _ R.length _) (nats R)); rw [hnR.out]; exact hC6
      ·rw [hst2.out]; show Hid (OwnI _ _ _ (Value.slice _ (cutN C p2).length _) (nats (cutN C p2))); rw [hlm.out]; exact hoR6
      ·rw [hst2.out]; exact hid fun g' h1 h2 => hnC (by cases h2; dsimp only at h1; rw [hnR.out] at h1; exact h1)
     case measure => have := hmC.out; simp [lenOf]; omega
    ·rw [if_neg hp2] at hsd
     have hf2 := findIdx_no (f := spB (turn t) C R) (l := C) (by rw [hpe2]; exact hp2)
     have hv2 : spr (turn t) C R = -1 := by unfold spr; rw [find_none hf2]; rfl
     rw [hv2] at hs2
     have hfin : Hid (leftE t = (R, C)) := hid (by rw [show leftE t = leftN t 8 from rfl, hfx.out hsd.out 8 (by have := m4'.out; have := n4'.out; omega)])
     have hLR : Hid (leftR t = nats R ∧ leftC t = nats C) := hid (by unfold leftR leftC; rw [if_pos ec.out, if_pos ec.out, hfin.out]; exact ⟨rfl, rfl⟩)
     have hII := hid (OwnI.ints hR.out)
     have hJJ := hid (OwnI.ints hC.out)
     clear hv1 hv2 hf1 hf2 hRs hCs hRb hCb hR1 hC1 hap hgR hgC hp hpe hp2 hpe2
     go_wp2_with fail
     refine (hs1.out _ (by repeat (with_reducible first | assumption | exact Ext.refl _ | refine Ext.drew ?_ | refine Ext.drewN ?_ _ | refine Ext.alloc ?_ _ | refine xS ?_ _ | refine xT ?_ (by assumption)))).mono ?_; rintro e w4 ⟨rfl, hE4⟩
     have x4 := hid (show Ext wr w4 from (by repeat (with_reducible first | assumption | exact Ext.refl _ | refine Ext.drew ?_ | refine Ext.drewN ?_ _ | refine Ext.alloc ?_ _ | refine xS ?_ _ | refine xT ?_ (by assumption))))
     go_wp2_with fail
     refine (hs2.out _ (by have := x4.out; exact (by repeat (with_reducible first | assumption | exact Ext.refl _ | refine Ext.drew ?_ | refine Ext.drewN ?_ _ | refine Ext.alloc ?_ _ | refine xS ?_ _ | refine xT ?_ (by assumption))))).mono ?_; rintro e w5 ⟨rfl, hE5⟩
     have x5 := hid (x4.out.trans hE5)
     clear hE4 hE5
     go_wp2_with fail
     try rw [Exit.noGoto_ret]
     go_ret3
     refine ⟨a1, c1, a2, c2, by rw [hLR.out.1, hLR.out.2, nats_len, nats_len, ec.out]; rfl, ?_, ?_, by have h1 := hxw.out; have h2 := x5.out; exact (by repeat (with_reducible first | assumption | exact Ext.refl _ | refine Ext.drew ?_ | refine Ext.drewN ?_ _ | refine Ext.alloc ?_ _ | refine xS ?_ _ | refine xT ?_ (by assumption)))⟩
     ·rw [hLR.out.1]; exact hII.out.ext (by have h2 := x5.out; exact (by repeat (with_reducible first | assumption | exact Ext.refl _ | refine Ext.drew ?_ | refine Ext.drewN ?_ _ | refine Ext.alloc ?_ _ | refine xS ?_ _ | refine xT ?_ (by assumption))))
     ·rw [hLR.out.2]; exact hJJ.out.ext (by have h2 := x5.out; exact (by repeat (with_reducible first | assumption | exact Ext.refl _ | refine Ext.drew ?_ | refine Ext.drewN ?_ _ | refine Ext.alloc ?_ _ | refine xS ?_ _ | refine xT ?_ (by assumption))))

end Go.Proofs.Ytommhgcgaclflaa
