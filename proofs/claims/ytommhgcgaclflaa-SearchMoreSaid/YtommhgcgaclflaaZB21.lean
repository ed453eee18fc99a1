/- Texts of one proof, laid together: TB, TC. -/
import Derived.Test.YtommhgcgaclflaaZB7
import Derived.Test.YtommhgcgaclflaaZB17
import Derived.Test.YtommhgcgaclflaaZB20
import Derived.Laws.EntriesVeiled
namespace Go.Proofs.Ytommhgcgaclflaa
set_option linter.unusedVariables false
set_option linter.unusedSimpArgs false
set_option linter.unusedSectionVars false
set_option linter.unnecessarySimpa false
open Go Go.RowKit Game
set_option maxRecDepth 100000

theorem Dsk.full {w : World} {D : Nat} {t : List (List Int)} (h : Dsk w D t) (v : VldT t) : ∃ cap b off, ∃ B O C : Nat → Nat, w.cell? ⟨D, 0, none⟩ = some (.slice (some ⟨b, off, none⟩) t.length cap) ∧
 ∀ i, i < t.length → w.cell? ⟨b, off + i, none⟩ = some (.slice (some ⟨B i, O i, none⟩) (wid t) (C i)) ∧ ∀ k, k < wid t → w.cell? ⟨B i, O i + k, none⟩ = some (.int .i64 (ent t i k)) := by
 obtain ⟨a, cap, hc, hT⟩ := h
 have m1 := v.m1; have n1 := v.n1
 obtain ⟨b, off, B, O, C, rfl, hb, hcc⟩ := hT.full (by omega) v.eq (by omega)
 exact ⟨cap, b, off, B, O, C, hc, fun i hi => ⟨(hcc i hi).1, (hcc i hi).2.2⟩⟩

set_option maxHeartbeats 8000000 in
theorem beaten_any (t : List (List Int)) (v : VldT t) (r o : Nat) (hr : r < t.length) (ho : o < t.length) (C : List Nat) (hC : ∀ x ∈ C, x < wid t) (hl : C.length ≤ 4) (D : Nat) (a : Option Addr) (n cap : Nat) (hn : n = C.length) (w : World) (hD : Dsk w D t) (hI : Ints w a (nats C)) :
 Calls Try.prog 103 #[.pointer (some ⟨D, 0, none⟩), .int .i64 r, .int .i64 o, .slice a n cap] w fun e w' => e = .returned (.bool (btn t C r o)) ∧ Ext w w' := by
 subst hn
 have m4 := v.m4; have n4 := v.n4
 obtain ⟨dc, b, off, B, O, Cp, hDc, hcc⟩ := hD.full v
 obtain ⟨r0, hr0⟩ := hcc r hr
 obtain ⟨o0, ho0⟩ := hcc o ho
 have hr0 := hid hr0
 have ho0 := hid ho0
 have hCI : Hid (∀ k, k < C.length → ∃ g of, a = some ⟨g, of, none⟩ ∧ w.cell? ⟨g, of + k, none⟩ = some (.int .i64 (C.getD k 0 : Nat)) ∧ C.getD k 0 < wid t) := hid fun k hk => by
  obtain ⟨g, of, e, h⟩ := hI k (by rw [nats_len]; exact hk)
  rw [nats_nth] at h
  exact ⟨g, of, e, h, hC _ (getD_mem hk)⟩
 have hge : Hid (∀ k, geTo t r o C (k + 1) = (geTo t r o C k && decide (ent t r (C.getD k 0) ≤ ent t o (C.getD k 0)))) := hid fun k => rfl
 have hmr : Hid (∀ k, mrTo t r o C (decide (o < r)) (k + 1) = (mrTo t r o C (decide (o < r)) k || decide (ent t r (C.getD k 0) < ent t o (C.getD k 0)))) := hid fun k => rfl
 have hm0 : Hid (mrTo t r o C (decide (o < r)) 0 = decide (o < r)) := hid rfl
 have hbt : Hid (btn t C r o = (geTo t r o C C.length && mrTo t r o C (decide (o < r)) C.length && decide (o ≠ r))) := hid rfl
 have hno : Hid (∀ k, k < C.length → ent t o (C.getD k 0) < ent t r (C.getD k 0) → btn t C r o = false) := hid fun k hk h => geTo_no hk h
 have hg0 : Hid (geTo t r o C 0 = true) := hid rfl
 obtain ⟨G, hG⟩ : ∃ G, geTo t r o C = G := ⟨_, rfl⟩
 obtain ⟨M, hM⟩ : ∃ M, mrTo t r o C (decide (o < r)) = M := ⟨_, rfl⟩
 rw [hG] at hge hbt hg0
 rw [hM] at hmr hm0 hbt
 obtain ⟨N, hN⟩ : ∃ N, C.length = N := ⟨_, rfl⟩
 rw [hN] at hl hCI hbt hno ⊢
 replace hN := hid hN
 replace hG := hid hG
 replace hM := hid hM
 obtain ⟨m, hm⟩ : ∃ m, t.length = m := ⟨_, rfl⟩
 rw [hm] at hr ho hDc m4
 obtain ⟨wd, hwd⟩ : ∃ wd, wid t = wd := ⟨_, rfl⟩
 rw [hwd] at r0 o0 hr0 ho0 hCI n4
 replace hm := hid hm
 replace hwd := hid hwd
 obtain ⟨bt, hb⟩ : ∃ bt, btn t C r o = bt := ⟨_, rfl⟩
 rw [hb] at hbt hno ⊢
 replace hb := hid hb
 have hri : (0 : Int) ≤ (r : Int) := by omega
 have hoi : (0 : Int) ≤ (o : Int) := by omega
 clear hD hI hcc hC v
 go_enter Try.func103, Try.ntmps103
 go_wp2_with fail
 go_loopw [9, 17] (fun mr i wr => ∃ k : Nat, k ≤ N ∧ i = .int .i64 k ∧ mr = .bool (M k) ∧ Hid (G k = true) ∧ Ext w wr) (fun _ i _ => (N - intOf i).toNat)
 case atStart => exact ⟨0, by omega, rfl, by rw [hm0.out], hg0, Ext.refl _⟩
 case round =>
  obtain ⟨k, hk, rfl, rfl, hgk, hw⟩ := hrel
  by_cases hkN : k < N
  ·obtain ⟨g, of, rfl, p0, hcw⟩ := hCI.out k hkN
   have p0 := hw.cell p0
   have d0 := hw.cell hDc
   have r1 := hw.cell r0
   have o1 := hw.cell o0
   have hg2 := hid (hge.out k)
   have hm2 := hid (hmr.out k)
   have hn2 := hid (hno.out k hkN)
   obtain ⟨ck, hck⟩ : ∃ c, C.getD k 0 = c := ⟨_, rfl⟩
   rw [hck] at p0 hcw hg2 hm2 hn2
   replace hck := hid hck
   have r2 := hw.cell (hr0.out ck hcw)
   have o2 := hw.cell (ho0.out ck hcw)
   obtain ⟨x, hx⟩ : ∃ x, ent t r ck = x := ⟨_, rfl⟩
   obtain ⟨y, hy⟩ : ∃ y, ent t o ck = y := ⟨_, rfl⟩
   rw [hx] at r2 hg2 hm2 hn2
   rw [hy] at o2 hg2 hm2 hn2
   replace hx := hid hx
   replace hy := hid hy
   obtain ⟨mk, hmk⟩ : ∃ y, M k = y := ⟨_, rfl⟩
   rw [hmk] at hm2 ⊢
   replace hmk := hid hmk
   have hW := hid hw
   clear hw
   by_cases h1 : y < x
   ·have hd1 : decide (y < x) = true := decide_eq_true h1
    go_wp2_with fail
    go_quiet (fail)
    have hbf := hn2.out h1
    replace hbf := hid hbf
    go_wp2_with fail
    go_ret
    exact ⟨by rw [hbf.out]; rfl, by have := hW.out; exact (by repeat (with_reducible first | assumption | exact Ext.refl _ | refine Ext.drew ?_ | refine Ext.drewN ?_ _ | refine Ext.alloc ?_ _ | refine xS ?_ _ | refine xT ?_ (by assumption)))⟩
   ·have hd1 : decide (y < x) = false := decide_eq_false h1
    have hgn : Hid (G (k + 1) = true) := hid (by rw [hg2.out, hgk.out, decide_eq_true (show x ≤ y by omega)]; rfl)
    by_cases h2 : x < y
    ·have hd2 : decide (x < y) = true := decide_eq_true h2
     have hmn : Hid (M (k + 1) = true) := hid (by rw [hm2.out, decide_eq_true h2, Bool.or_true])
     replace h1 := hid h1
     go_wp2_with fail
     go_quiet (fail)
     go_wp2_with fail
     go_quiet (fail)
     go_wp2_with fail
     go_roundw
     case rel => exact ⟨k + 1, by omega, by go_num, by rw [hmn.out], hgn, by have := hW.out; exact (by repeat (with_reducible first | assumption | exact Ext.refl _ | refine Ext.drew ?_ | refine Ext.drewN ?_ _ | refine Ext.alloc ?_ _ | refine xS ?_ _ | refine xT ?_ (by assumption)))⟩
     case measure => simp [intOf]; omega
    ·have hd2 : decide (x < y) = false := decide_eq_false h2
     have hmn : Hid (M (k + 1) = mk) := hid (by rw [hm2.out, decide_eq_false h2, Bool.or_false])
     replace h1 := hid h1
     replace h2 := hid h2
     go_wp2_with fail
     go_quiet (fail)
     go_wp2_with fail
     go_quiet (fail)
     go_wp2_with fail
     go_roundw
     case rel => exact ⟨k + 1, by omega, by go_num, by rw [hmn.out], hgn, by have := hW.out; exact (by repeat (with_reducible first | assumption | exact Ext.refl _ | refine Ext.drew ?_ | refine Ext.drewN ?_ _ | refine Ext.alloc ?_ _ | refine xS ?_ _ | refine xT ?_ (by assumption)))⟩
     case measure => simp [intOf]; omega
  ·obtain rfl : N = k := by omega
   rw [hgk.out] at hbt
   have hwx := hid hw
   cases hMN : M N with
   | false =>
    rw [hMN] at hbt
    replace hMN := hid hMN
    go_wp2_with fail
    go_ret
    exact ⟨by rw [hbt.out]; rfl, hwx.out⟩
   | true =>
    rw [hMN] at hbt
    replace hMN := hid hMN
    by_cases hor : o = r
    ·have hq : ((o : Int) != (r : Int)) = false := by rw [hor]; simp
     have hq2 : ((o : Int) == (r : Int)) = true := by rw [hor]; simp
     replace hor := hid hor
     go_wp2_with fail
     go_ret
     exact ⟨by rw [hbt.out, decide_eq_false (by simp [hor.out])]; simp [hor.out], hwx.out⟩
    ·have hq : ((o : Int) != (r : Int)) = true := by simp; omega
     have hq2 : ((o : Int) == (r : Int)) = false := by rw [beq_eq_false_iff_ne]; omega
     replace hor := hid hor
     go_wp2_with fail
     go_ret
     exact ⟨by rw [hbt.out, decide_eq_true hor.out]; simp [hor.out], hwx.out⟩


structure SpC (w : World) (D : Nat) (R C : List Nat) (Pr Pb Pc : Nat) : Prop where
 r : ∃ a cap, w.cell? ⟨Pr, 0, none⟩ = some (.slice a R.length cap) ∧ Ints w a (nats R)
 b : w.cell? ⟨Pb, 0, none⟩ = some (.func (.func 103) #[.pointer (some ⟨D, 0, none⟩)] #[])
 c : ∃ a cap, w.cell? ⟨Pc, 0, none⟩ = some (.slice a C.length cap) ∧ Ints w a (nats C)
theorem SpC.ext {w w' : World} {D : Nat} {R C : List Nat} {Pr Pb Pc : Nat} (h : SpC w D R C Pr Pb Pc) (k : Ext w w') : SpC w' D R C Pr Pb Pc :=
 ⟨let ⟨a, c, h1, h2⟩ := h.r; ⟨a, c, k.cell h1, h2.ext k⟩, k.cell h.b, let ⟨a, c, h1, h2⟩ := h.c; ⟨a, c, k.cell h1, h2.ext k⟩⟩

theorem spare11_any (t : List (List Int)) (v : VldT t) (D : Nat) (R C : List Nat) (hC : ∀ x ∈ C, x < wid t) (hl : C.length ≤ 4) (Pr Pb Pc Pi : Nat) (i k : Nat) (hi : i < t.length) (hk : k < t.length) (w : World) (hD : Dsk w D t) (hS : SpC w D R C Pr Pb Pc) (hpi : w.cell? ⟨Pi, 0, none⟩ = some (.int .i64 i)) :
 Calls Try.prog 107 #[.int .i64 k, .pointer (some ⟨Pb, 0, none⟩), .pointer (some ⟨Pi, 0, none⟩), .pointer (some ⟨Pc, 0, none⟩)] w fun e w' => e = .returned (.bool (btn t C i k)) ∧ Ext w w' := by
 obtain ⟨a, cap, hc, hI⟩ := hS.c
 have hb := hS.b
 have hbn := hid (fun W h => beaten_any t v i k hi hk C hC hl D a C.length cap rfl W (hD.ext h) (hI.ext h))
 clear hS hI hD
 go_enter Try.func107, Try.ntmps107
 go_wp2_with fail
 refine (hbn.out _ (by repeat (with_reducible first | assumption | exact Ext.refl _ | refine Ext.drew ?_ | refine Ext.drewN ?_ _ | refine Ext.alloc ?_ _ | refine xS ?_ _ | refine xT ?_ (by assumption)))).mono ?_; rintro e w1 ⟨rfl, hE⟩
 go_wp2_with fail
 go_ret
 exact ⟨rfl, (by repeat (with_reducible first | assumption | exact Ext.refl _ | refine Ext.drew ?_ | refine Ext.drewN ?_ _ | refine Ext.alloc ?_ _ | refine xS ?_ _ | refine xT ?_ (by assumption)))⟩

-- the index of the first number of which a word is said

set_option maxHeartbeats 1000000 in
 theorem idxSpare_any (FX : Nat → Bool) (Pb Pi Pc : Nat) (R : List Nat) (hR : ∀ x ∈ R, x < 1000) (hl9 : R.length ≤ 1000) (a : Option Addr) (n cap : Nat) (hn : n = R.length) (w : World) (hI : Ints w a (nats R)) (hF : ∀ x W, x ∈ R → Ext w W → Calls Try.prog 107 #[.int .i64 x, .pointer (some ⟨Pb, 0, none⟩), .pointer (some ⟨Pi, 0, none⟩), .pointer (some ⟨Pc, 0, none⟩)] W fun e w' => e = .returned (.bool (FX x)) ∧ Ext W w') :
  Calls Try.prog 108 #[.slice a n cap, (.func (.func 107) #[] #[.pointer (some ⟨Pb, 0, none⟩), .pointer (some ⟨Pi, 0, none⟩), .pointer (some ⟨Pc, 0, none⟩)])] w fun e w' => Ext w w' ∧ ((∃ k : Nat, k < R.length ∧ e = .returned (.int .i64 k) ∧ FX (R.getD k 0) = true ∧ ∀ j, j < k → FX (R.getD j 0) = false) ∨ (e = .returned (.int .i64 (-1)) ∧ ∀ j, j < R.length → FX (R.getD j 0) = false)) := by
  subst hn
  have hC : Hid (∀ k, k < R.length → ∃ g of, a = some ⟨g, of, none⟩ ∧ w.cell? ⟨g, of + k, none⟩ = some (.int .i64 (R.getD k 0 : Nat)) ∧ R.getD k 0 ∈ R) := hid fun k hk => by
   obtain ⟨g, of, e, h⟩ := hI k (by rw [nats_len]; exact hk)
   rw [nats_nth] at h
   exact ⟨g, of, e, h, getD_mem hk⟩
  have hF := hid hF
  have hR := hid hR
  obtain ⟨N, hN⟩ : ∃ N, R.length = N := ⟨_, rfl⟩
  rw [hN] at hC hl9 ⊢
  replace hN := hid hN
  clear hI
  go_enter Try.func108, Try.ntmps108
  go_wp2_with fail
  go_loopw [8] (fun i wr => ∃ k : Nat, k ≤ N ∧ i = .int .i64 k ∧ Hid (∀ j, j < k → FX (R.getD j 0) = false) ∧ Ext w wr) (fun i _ => (N - intOf i).toNat)
  case atStart => exact ⟨0, by omega, rfl, hid fun j hj => by omega, Ext.refl _⟩
  case round =>
   obtain ⟨k, hk, rfl, hno, hw⟩ := hrel
   by_cases hkN : k < N
   ·obtain ⟨g, of, rfl, p0, hm⟩ := hC.out k hkN
    have p0 := hw.cell p0
    have hW := hid hw
    have hb := hid (fun W h => hF.out _ W hm (hW.out.trans h))
    have hR1 := hR.out _ hm
    cases hbb : FX (R.getD k 0) with
    | true =>
     have hbq := hid hbb
     simp only [hbb] at hb
     obtain ⟨x, hx⟩ : ∃ x, R.getD k 0 = x := ⟨_, rfl⟩
     rw [hx] at p0 hb hR1
     replace hx := hid hx
     clear hw hbb
     go_wp2_with fail
     refine (hb.out _ (by repeat (with_reducible first | assumption | exact Ext.refl _ | refine Ext.drew ?_ | refine Ext.drewN ?_ _ | refine Ext.alloc ?_ _ | refine xS ?_ _ | refine xT ?_ (by assumption)))).mono ?_; rintro e w1 ⟨rfl, hE1⟩
     go_wp2_with fail
     go_ret
     exact ⟨by have := hW.out; exact (by repeat (with_reducible first | assumption | exact Ext.refl _ | refine Ext.drew ?_ | refine Ext.drewN ?_ _ | refine Ext.alloc ?_ _ | refine xS ?_ _ | refine xT ?_ (by assumption))), .inl ⟨k, hkN, rfl, hbq.out, hno.out⟩⟩
    | false =>
     have hn2 : Hid (∀ j, j < k + 1 → FX (R.getD j 0) = false) := hid fun j hj => by
      by_cases e : j = k
      ·rw [e]; exact hbb
      ·exact hno.out j (by omega)
     simp only [hbb] at hb
     obtain ⟨x, hx⟩ : ∃ x, R.getD k 0 = x := ⟨_, rfl⟩
     rw [hx] at p0 hb hR1
     replace hx := hid hx
     clear hw hbb
     go_wp2_with fail
     refine (hb.out _ (by repeat (with_reducible first | assumption | exact Ext.refl _ | refine Ext.drew ?_ | refine Ext.drewN ?_ _ | refine Ext.alloc ?_ _ | refine xS ?_ _ | refine xT ?_ (by assumption)))).mono ?_; rintro e w1 ⟨rfl, hE1⟩
     go_wp2_with fail
     go_roundw
     case rel => exact ⟨k + 1, by omega, by go_num, hn2, by have := hW.out; exact (by repeat (with_reducible first | assumption | exact Ext.refl _ | refine Ext.drew ?_ | refine Ext.drewN ?_ _ | refine Ext.alloc ?_ _ | refine xS ?_ _ | refine xT ?_ (by assumption)))⟩
     case measure => simp [intOf]; omega
   ·obtain rfl : N = k := by omega
    have hW := hid hw
    go_wp2_with fail
    go_ret
    exact ⟨hW.out, .inr ⟨rfl, hno.out⟩⟩
set_option maxHeartbeats 1000000 in
 theorem idxLeft1_any (FX : Nat → Bool) (Pi : Nat) (R : List Nat) (hR : ∀ x ∈ R, x < 1000) (hl9 : R.length ≤ 1000) (a : Option Addr) (n cap : Nat) (hn : n = R.length) (w : World) (hI : Ints w a (nats R)) (hF : ∀ x W, x ∈ R → Ext w W → Calls Try.prog 84 #[.int .i64 x, .pointer (some ⟨Pi, 0, none⟩)] W fun e w' => e = .returned (.bool (FX x)) ∧ Ext W w') :
  Calls Try.prog 108 #[.slice a n cap, (.func (.func 84) #[] #[.pointer (some ⟨Pi, 0, none⟩)])] w fun e w' => Ext w w' ∧ ((∃ k : Nat, k < R.length ∧ e = .returned (.int .i64 k) ∧ FX (R.getD k 0) = true ∧ ∀ j, j < k → FX (R.getD j 0) = false) ∨ (e = .returned (.int .i64 (-1)) ∧ ∀ j, j < R.length → FX (R.getD j 0) = false)) := by
  subst hn
  have hC : Hid (∀ k, k < R.length → ∃ g of, a = some ⟨g, of, none⟩ ∧ w.cell? ⟨g, of + k, none⟩ = some (.int .i64 (R.getD k 0 : Nat)) ∧ R.getD k 0 ∈ R) := hid fun k hk => by
   obtain ⟨g, of, e, h⟩ := hI k (by rw [nats_len]; exact hk)
   rw [nats_nth] at h
   exact ⟨g, of, e, h, getD_mem hk⟩
  have hF := hid hF
  have hR := hid hR
  obtain ⟨N, hN⟩ : ∃ N, R.length = N := ⟨_, rfl⟩
  rw [hN] at hC hl9 ⊢
  replace hN := hid hN
  clear hI
  go_enter Try.func108, Try.ntmps108
  go_wp2_with fail
  go_loopw [8] (fun i wr => ∃ k : Nat, k ≤ N ∧ i = .int .i64 k ∧ Hid (∀ j, j < k → FX (R.getD j 0) = false) ∧ Ext w wr) (fun i _ => (N - intOf i).toNat)
  case atStart => exact ⟨0, by omega, rfl, hid fun j hj => by omega, Ext.refl _⟩
  case round =>
   obtain ⟨k, hk, rfl, hno, hw⟩ := hrel
   by_cases hkN : k < N
   ·obtain ⟨g, of, rfl, p0, hm⟩ := hC.out k hkN
    have p0 := hw.cell p0
    have hW := hid hw
    have hb := hid (fun W h => hF.out _ W hm (hW.out.trans h))
    have hR1 := hR.out _ hm
    cases hbb : FX (R.getD k 0) with
    | true =>
     have hbq := hid hbb
     simp only [hbb] at hb
     obtain ⟨x, hx⟩ : ∃ x, R.getD k 0 = x := ⟨_, rfl⟩
     rw [hx] at p0 hb hR1
     replace hx := hid hx
     clear hw hbb
     go_wp2_with fail
     refine (hb.out _ (by repeat (with_reducible first | assumption | exact Ext.refl _ | refine Ext.drew ?_ | refine Ext.drewN ?_ _ | refine Ext.alloc ?_ _ | refine xS ?_ _ | refine xT ?_ (by assumption)))).mono ?_; rintro e w1 ⟨rfl, hE1⟩
     go_wp2_with fail
     go_ret
     exact ⟨by have := hW.out; exact (by repeat (with_reducible first | assumption | exact Ext.refl _ | refine Ext.drew ?_ | refine Ext.drewN ?_ _ | refine Ext.alloc ?_ _ | refine xS ?_ _ | refine xT ?_ (by assumption))), .inl ⟨k, hkN, rfl, hbq.out, hno.out⟩⟩
    | false =>
     have hn2 : Hid (∀ j, j < k + 1 → FX (R.getD j 0) = false) := hid fun j hj => by
      by_cases e : j = k
      ·rw [e]; exact hbb
      ·exact hno.out j (by omega)
     simp only [hbb] at hb
     obtain ⟨x, hx⟩ : ∃ x, R.getD k 0 = x := ⟨_, rfl⟩
     rw [hx] at p0 hb hR1
     replace hx := hid hx
     clear hw hbb
     go_wp2_with fail
     refine (hb.out _ (by repeat (with_reducible first | assumption | exact Ext.refl _ | refine Ext.drew ?_ | refine Ext.drewN ?_ _ | refine Ext.alloc ?_ _ | refine xS ?_ _ | refine xT ?_ (by assumption)))).mono ?_; rintro e w1 ⟨rfl, hE1⟩
     go_wp2_with fail
     go_roundw
     case rel => exact ⟨k + 1, by omega, by go_num, hn2, by have := hW.out; exact (by repeat (with_reducible first | assumption | exact Ext.refl _ | refine Ext.drew ?_ | refine Ext.drewN ?_ _ | refine Ext.alloc ?_ _ | refine xS ?_ _ | refine xT ?_ (by assumption)))⟩
     case measure => simp [intOf]; omega
   ·obtain rfl : N = k := by omega
    have hW := hid hw
    go_wp2_with fail
    go_ret
    exact ⟨hW.out, .inr ⟨rfl, hno.out⟩⟩
set_option maxHeartbeats 1000000 in
 theorem idxLeft2_any (FX : Nat → Bool) (Pi : Nat) (R : List Nat) (hR : ∀ x ∈ R, x < 1000) (hl9 : R.length ≤ 1000) (a : Option Addr) (n cap : Nat) (hn : n = R.length) (w : World) (hI : Ints w a (nats R)) (hF : ∀ x W, x ∈ R → Ext w W → Calls Try.prog 85 #[.int .i64 x, .pointer (some ⟨Pi, 0, none⟩)] W fun e w' => e = .returned (.bool (FX x)) ∧ Ext W w') :
  Calls Try.prog 108 #[.slice a n cap, (.func (.func 85) #[] #[.pointer (some ⟨Pi, 0, none⟩)])] w fun e w' => Ext w w' ∧ ((∃ k : Nat, k < R.length ∧ e = .returned (.int .i64 k) ∧ FX (R.getD k 0) = true ∧ ∀ j, j < k → FX (R.getD j 0) = false) ∨ (e = .returned (.int .i64 (-1)) ∧ ∀ j, j < R.length → FX (R.getD j 0) = false)) := by
  subst hn
  have hC : Hid (∀ k, k < R.length → ∃ g of, a = some ⟨g, of, none⟩ ∧ w.cell? ⟨g, of + k, none⟩ = some (.int .i64 (R.getD k 0 : Nat)) ∧ R.getD k 0 ∈ R) := hid fun k hk => by
   obtain ⟨g, of, e, h⟩ := hI k (by rw [nats_len]; exact hk)
   rw [nats_nth] at h
   exact ⟨g, of, e, h, getD_mem hk⟩
  have hF := hid hF
  have hR := hid hR
  obtain ⟨N, hN⟩ : ∃ N, R.length = N := ⟨_, rfl⟩
  rw [hN] at hC hl9 ⊢
  replace hN := hid hN
  clear hI
  go_enter Try.func108, Try.ntmps108
  go_wp2_with fail
  go_loopw [8] (fun i wr => ∃ k : Nat, k ≤ N ∧ i = .int .i64 k ∧ Hid (∀ j, j < k → FX (R.getD j 0) = false) ∧ Ext w wr) (fun i _ => (N - intOf i).toNat)
  case atStart => exact ⟨0, by omega, rfl, hid fun j hj => by omega, Ext.refl _⟩
  case round =>
   obtain ⟨k, hk, rfl, hno, hw⟩ := hrel
   by_cases hkN : k < N
   ·obtain ⟨g, of, rfl, p0, hm⟩ := hC.out k hkN
    have p0 := hw.cell p0
    have hW := hid hw
    have hb := hid (fun W h => hF.out _ W hm (hW.out.trans h))
    have hR1 := hR.out _ hm
    cases hbb : FX (R.getD k 0) with
    | true =>
     have hbq := hid hbb
     simp only [hbb] at hb
     obtain ⟨x, hx⟩ : ∃ x, R.getD k 0 = x := ⟨_, rfl⟩
     rw [hx] at p0 hb hR1
     replace hx := hid hx
     clear hw hbb
     go_wp2_with fail
     refine (hb.out _ (by repeat (with_reducible first | assumption | exact Ext.refl _ | refine Ext.drew ?_ | refine Ext.drewN ?_ _ | refine Ext.alloc ?_ _ | refine xS ?_ _ | refine xT ?_ (by assumption)))).mono ?_; rintro e w1 ⟨rfl, hE1⟩
     go_wp2_with fail
     go_ret
     exact ⟨by have := hW.out; exact (by repeat (with_reducible first | assumption | exact Ext.refl _ | refine Ext.drew ?_ | refine Ext.drewN ?_ _ | refine Ext.alloc ?_ _ | refine xS ?_ _ | refine xT ?_ (by assumption))), .inl ⟨k, hkN, rfl, hbq.out, hno.out⟩⟩
    | false =>
     have hn2 : Hid (∀ j, j < k + 1 → FX (R.getD j 0) = false) := hid fun j hj => by
      by_cases e : j = k
      ·rw [e]; exact hbb
      ·exact hno.out j (by omega)
     simp only [hbb] at hb
     obtain ⟨x, hx⟩ : ∃ x, R.getD k 0 = x := ⟨_, rfl⟩
     rw [hx] at p0 hb hR1
     replace hx := hid hx
     clear hw hbb
     go_wp2_with fail
     refine (hb.out _ (by repeat (with_reducible first | assumption | exact Ext.refl _ | refine Ext.drew ?_ | refine Ext.drewN ?_ _ | refine Ext.alloc ?_ _ | refine xS ?_ _ | refine xT ?_ (by assumption)))).mono ?_; rintro e w1 ⟨rfl, hE1⟩
     go_wp2_with fail
     go_roundw
     case rel => exact ⟨k + 1, by omega, by go_num, hn2, by have := hW.out; exact (by repeat (with_reducible first | assumption | exact Ext.refl _ | refine Ext.drew ?_ | refine Ext.drewN ?_ _ | refine Ext.alloc ?_ _ | refine xS ?_ _ | refine xT ?_ (by assumption)))⟩
     case measure => simp [intOf]; omega
   ·obtain rfl : N = k := by omega
    have hW := hid hw
    go_wp2_with fail
    go_ret
    exact ⟨hW.out, .inr ⟨rfl, hno.out⟩⟩

theorem containsSpare_any (t : List (List Int)) (v : VldT t) (D : Nat) (R C : List Nat) (hR : ∀ x ∈ R, x < t.length) (hl9 : R.length ≤ 4) (hC : ∀ x ∈ C, x < wid t) (hl : C.length ≤ 4) (Pr Pb Pc Pi : Nat) (i : Nat) (hi : i < t.length) (a : Option Addr) (n cap : Nat) (hn : n = R.length) (w : World) (hD : Dsk w D t) (hS : SpC w D R C Pr Pb Pc) (hpi : w.cell? ⟨Pi, 0, none⟩ = some (.int .i64 i)) (hI : Ints w a (nats R)) :
 Calls Try.prog 106 #[.slice a n cap, .func (.func 107) #[] #[.pointer (some ⟨Pb, 0, none⟩), .pointer (some ⟨Pi, 0, none⟩), .pointer (some ⟨Pc, 0, none⟩)]] w fun e w' => e = .returned (.bool (spB t R C i)) ∧ Ext w w' := by
 have m4 := v.m4
 have h := hid (idxSpare_any (btn t C i) Pb Pi Pc R (fun x hx => by have := hR x hx; omega) (by omega) a n cap hn w hI (fun x W hx h => spare11_any t v D R C hC hl Pr Pb Pc Pi i x hi (hR x hx) W (hD.ext h) (hS.ext h) (h.cell hpi)))
 have hyes : Hid (∀ k, k < R.length → btn t C i (R.getD k 0) = true → spB t R C i = true) := hid fun k hk h => List.any_eq_true.2 ⟨_, getD_mem hk, h⟩
 have hno : Hid ((∀ k, k < R.length → btn t C i (R.getD k 0) = false) → spB t R C i = false) := hid fun h => List.any_eq_false.2 fun x hx => by
  obtain ⟨k, hk, rfl⟩ := List.mem_iff_getElem.1 hx
  have := h k hk
  simp [hk] at this
  simp [this]
 clear hD hS hI hpi hn
 go_enter Try.func106, Try.ntmps106
 go_wp2_with fail
 refine h.out.mono ?_
 rintro e w1 ⟨hE, ⟨k, hk, rfl, hb, _⟩ | ⟨rfl, hb⟩⟩
 ·have hq := hid (hyes.out k hk hb)
  have h0 : (0 : Int) ≤ (k : Int) := by omega
  clear hb
  go_wp2_with fail
  go_ret
  exact ⟨by rw [hq.out]; rfl, (by repeat (with_reducible first | assumption | exact Ext.refl _ | refine Ext.drew ?_ | refine Ext.drewN ?_ _ | refine Ext.alloc ?_ _ | refine xS ?_ _ | refine xT ?_ (by assumption)))⟩
 ·have hq := hid (hno.out hb)
  clear hb
  go_wp2_with fail
  go_ret
  exact ⟨by rw [hq.out]; rfl, (by repeat (with_reducible first | assumption | exact Ext.refl _ | refine Ext.drew ?_ | refine Ext.drewN ?_ _ | refine Ext.alloc ?_ _ | refine xS ?_ _ | refine xT ?_ (by assumption)))⟩

set_option maxHeartbeats 1000000 in
theorem spare1_any (t : List (List Int)) (v : VldT t) (D : Nat) (R C : List Nat) (hR : ∀ x ∈ R, x < t.length) (hl9 : R.length ≤ 4) (hC : ∀ x ∈ C, x < wid t) (hl : C.length ≤ 4) (Pr Pb Pc : Nat) (i : Nat) (hi : i < t.length) (w : World) (hD : Dsk w D t) (hS : SpC w D R C Pr Pb Pc) :
 Calls Try.prog 105 #[.int .i64 i, .pointer (some ⟨Pr, 0, none⟩), .pointer (some ⟨Pb, 0, none⟩), .pointer (some ⟨Pc, 0, none⟩)] w fun e w' => e = .returned (.bool (spB t R C i)) ∧ Ext w w' := by
 obtain ⟨a, cap, hc, hI⟩ := hS.r
 have hlt := cell_lt hc
 dsimp only at hlt
 have hb := hid (fun Pi W h hp => containsSpare_any t v D R C hR hl9 hC hl Pr Pb Pc Pi i hi a R.length cap rfl W (hD.ext h) (hS.ext h) hp (hI.ext h))
 clear hS hI hD
 go_enter Try.func105, Try.ntmps105
 go_wp2_with fail
 refine (hb.out w.heap.size (w.alloc (.cells #[.int .i64 i] 3)) (by repeat (with_reducible first | assumption | exact Ext.refl _ | refine Ext.drew ?_ | refine Ext.drewN ?_ _ | refine Ext.alloc ?_ _ | refine xS ?_ _ | refine xT ?_ (by assumption))) (by simp [go_sem])).mono ?_; rintro e w1 ⟨rfl, hE⟩
 go_wp2_with fail
 go_ret
 exact ⟨rfl, (by repeat (with_reducible first | assumption | exact Ext.refl _ | refine Ext.drew ?_ | refine Ext.drewN ?_ _ | refine Ext.alloc ?_ _ | refine xS ?_ _ | refine xT ?_ (by assumption)))⟩

set_option maxHeartbeats 1000000 in
theorem findSpare_any (FX : Nat → Bool) (Pr Pb Pc : Nat) (R : List Nat) (hR : ∀ x ∈ R, x < 1000) (hl9 : R.length ≤ 1000) (a : Option Addr) (n cap : Nat) (hn : n = R.length) (w : World) (hI : Ints w a (nats R))
 (hF : ∀ x W, x ∈ R → Ext w W → Calls Try.prog 105 #[.int .i64 x, .pointer (some ⟨Pr, 0, none⟩), .pointer (some ⟨Pb, 0, none⟩), .pointer (some ⟨Pc, 0, none⟩)] W fun e w' => e = .returned (.bool (FX x)) ∧ Ext W w') :
 Calls Try.prog 104 #[.slice a n cap, .func (.func 105) #[] #[.pointer (some ⟨Pr, 0, none⟩), .pointer (some ⟨Pb, 0, none⟩), .pointer (some ⟨Pc, 0, none⟩)]] w fun e w' => Ext w w' ∧
  ((∃ k : Nat, k < R.length ∧ e = .returned (.tuple #[.int .i64 (R.getD k 0 : Nat), .bool true]) ∧ FX (R.getD k 0) = true ∧ ∀ j, j < k → FX (R.getD j 0) = false) ∨ (e = .returned (.tuple #[.int .i64 0, .bool false]) ∧ ∀ j, j < R.length → FX (R.getD j 0) = false)) := by
 subst hn
 have hC : Hid (∀ k, k < R.length → ∃ g of, a = some ⟨g, of, none⟩ ∧ w.cell? ⟨g, of + k, none⟩ = some (.int .i64 (R.getD k 0 : Nat)) ∧ R.getD k 0 ∈ R) := hid fun k hk => by
  obtain ⟨g, of, e, h⟩ := hI k (by rw [nats_len]; exact hk)
  rw [nats_nth] at h
  exact ⟨g, of, e, h, getD_mem hk⟩
 have hF := hid hF
 have hR := hid hR
 obtain ⟨N, hN⟩ : ∃ N, R.length = N := ⟨_, rfl⟩
 rw [hN] at hC hl9 ⊢
 replace hN := hid hN
 clear hI
 go_enter Try.func104, Try.ntmps104
 go_wp2_with fail
 go_loopw [11] (fun i wr => ∃ k : Nat, k ≤ N ∧ i = .int .i64 k ∧ Hid (∀ j, j < k → FX (R.getD j 0) = false) ∧ Ext w wr) (fun i _ => (N - intOf i).toNat)
 case atStart => exact ⟨0, by omega, rfl, hid fun j hj => by omega, Ext.refl _⟩
 case round =>
  obtain ⟨k, hk, rfl, hno, hw⟩ := hrel
  by_cases hkN : k < N
  ·obtain ⟨g, of, rfl, p0, hm⟩ := hC.out k hkN
   have p0 := hw.cell p0
   have hW := hid hw
   have hb := hid (fun W h => hF.out _ W hm (hW.out.trans h))
   have hR1 := hR.out _ hm
   cases hbb : FX (R.getD k 0) with
   | true =>
    have hbq := hid hbb
    simp only [hbb] at hb
    obtain ⟨x, hx⟩ : ∃ x, R.getD k 0 = x := ⟨_, rfl⟩
    rw [hx] at p0 hb hR1
    replace hx := hid hx
    clear hw hbb
    go_wp2_with fail
    refine (hb.out _ (by repeat (with_reducible first | assumption | exact Ext.refl _ | refine Ext.drew ?_ | refine Ext.drewN ?_ _ | refine Ext.alloc ?_ _ | refine xS ?_ _ | refine xT ?_ (by assumption)))).mono ?_; rintro e w1 ⟨rfl, hE1⟩
    go_wp2_with fail
    go_ret2
    exact ⟨by have := hW.out; exact (by repeat (with_reducible first | assumption | exact Ext.refl _ | refine Ext.drew ?_ | refine Ext.drewN ?_ _ | refine Ext.alloc ?_ _ | refine xS ?_ _ | refine xT ?_ (by assumption))), .inl ⟨k, hkN, by rw [hx.out]; rfl, hbq.out, hno.out⟩⟩
   | false =>
    have hn2 : Hid (∀ j, j < k + 1 → FX (R.getD j 0) = false) := hid fun j hj => by
     by_cases e : j = k
     ·rw [e]; exact hbb
     ·exact hno.out j (by omega)
    simp only [hbb] at hb
    obtain ⟨x, hx⟩ : ∃ x, R.getD k 0 = x := ⟨_, rfl⟩
    rw [hx] at p0 hb hR1
    replace hx := hid hx
    clear hw hbb
    go_wp2_with fail
    refine (hb.out _ (by repeat (with_reducible first | assumption | exact Ext.refl _ | refine Ext.drew ?_ | refine Ext.drewN ?_ _ | refine Ext.alloc ?_ _ | refine xS ?_ _ | refine xT ?_ (by assumption)))).mono ?_; rintro e w1 ⟨rfl, hE1⟩
    go_wp2_with fail
    go_roundw
    case rel => exact ⟨k + 1, by omega, by go_num, hn2, by have := hW.out; exact (by repeat (with_reducible first | assumption | exact Ext.refl _ | refine Ext.drew ?_ | refine Ext.drewN ?_ _ | refine Ext.alloc ?_ _ | refine xS ?_ _ | refine xT ?_ (by assumption)))⟩
    case measure => simp [intOf]; omega
  ·obtain rfl : N = k := by omega
   have hW := hid hw
   go_wp2_with fail
   go_ret2
   exact ⟨hW.out, .inr ⟨rfl, hno.out⟩⟩
theorem find_nat {f : Nat → Bool} {l : List Nat} {k : Nat} (hk : k < l.length) (h : ∀ j, j < k → f (l.getD j 0) = false) (g : f (l.getD k 0) = true) : l.find? f = some (l.getD k 0) := by
 induction l generalizing k with
 | nil => simp at hk
 | cons a l ih =>
  cases k with
  | zero => simp at g; simp [g]
  | succ k =>
   have h0 := h 0 (by omega)
   simp at h0
   rw [List.find?_cons_of_neg (by simp [h0])]
   simp only [List.getD_cons_succ] at g ⊢
   exact ih (by simpa using hk) (fun j hj => by have := h (j + 1) (by omega); simpa using this) g
theorem find_none {f : Nat → Bool} {l : List Nat} (h : ∀ j, j < l.length → f (l.getD j 0) = false) : l.find? f = none := by
 refine List.find?_eq_none.2 fun x hx => ?_
 obtain ⟨k, hk, rfl⟩ := List.mem_iff_getElem.1 hx
 have := h k hk
 simp [hk] at this
 simp [this]

set_option maxHeartbeats 1000000 in
theorem spare_any (t : List (List Int)) (v : VldT t) (D : Nat) (R C : List Nat) (hR : ∀ x ∈ R, x < t.length) (hl9 : R.length ≤ 4) (hC : ∀ x ∈ C, x < wid t) (hl : C.length ≤ 4) (a : Option Addr) (n cap : Nat) (hn : n = R.length) (a2 : Option Addr) (n2 cap2 : Nat) (hn2 : n2 = C.length) (w : World) (hD : Dsk w D t) (hI : Ints w a (nats R)) (hJ : Ints w a2 (nats C)) :
 Calls Try.prog 82 #[.pointer (some ⟨D, 0, none⟩), .slice a n cap, .slice a2 n2 cap2] w fun e w' => e = .returned (.int .i64 (spr t R C)) ∧ Ext w w' := by
 subst hn
 subst hn2
 have m4 := v.m4
 have hfd := hid (fun W (h : Ext w W) (hS : SpC W D R C w.heap.size (w.heap.size + 1 + 1) (w.heap.size + 1)) => findSpare_any (spB t R C) w.heap.size (w.heap.size + 1 + 1) (w.heap.size + 1) R (fun x hx => by have := hR x hx; omega) (by omega) a R.length cap rfl W (hI.ext h)
  (fun x W2 hx h2 => spare1_any t v D R C hR hl9 hC hl _ _ _ x (hR x hx) W2 (hD.ext (h.trans h2)) (hS.ext h2)))
 have hII := hid hI
 have hJJ := hid hJ
 have hRb : Hid (∀ k, k < R.length → R.getD k 0 < t.length) := hid fun k hk => hR _ (getD_mem hk)
 have hyes : Hid (∀ k, k < R.length → (∀ j, j < k → spB t R C (R.getD j 0) = false) → spB t R C (R.getD k 0) = true → spr t R C = (R.getD k 0 : Nat)) := hid fun k hk h1 h2 => by unfold spr; rw [find_nat hk h1 h2]; rfl
 have hno : Hid ((∀ j, j < R.length → spB t R C (R.getD j 0) = false) → spr t R C = -1) := hid fun h => by unfold spr; rw [find_none h]; rfl
 clear hD hI hJ hR hC
 go_enter Try.func82, Try.ntmps82
 go_wp2_with fail
 refine (hfd.out (((w.alloc (.cells #[.slice a R.length cap] 42)).alloc (.cells #[.slice a2 C.length cap2] 42)).alloc (.cells #[.func (.func 103) #[.pointer (some ⟨D, 0, none⟩)] #[]] 116)) (by repeat (with_reducible first | assumption | exact Ext.refl _ | refine Ext.drew ?_ | refine Ext.drewN ?_ _ | refine Ext.alloc ?_ _ | refine xS ?_ _ | refine xT ?_ (by assumption))) ⟨⟨a, cap, by simp [go_sem], hII.out.ext (by repeat (with_reducible first | assumption | exact Ext.refl _ | refine Ext.drew ?_ | refine Ext.drewN ?_ _ | refine Ext.alloc ?_ _ | refine xS ?_ _ | refine xT ?_ (by assumption)))⟩, by simp [go_sem], ⟨a2, cap2, by simp [go_sem], hJJ.out.ext (by repeat (with_reducible first | assumption | exact Ext.refl _ | refine Ext.drew ?_ | refine Ext.drewN ?_ _ | refine Ext.alloc ?_ _ | refine xS ?_ _ | refine xT ?_ (by assumption)))⟩⟩).mono ?_
 rintro e w1 ⟨hE, ⟨k, hk, rfl, hb, hpre⟩ | ⟨rfl, hb⟩⟩
 ·have hq := hid (hyes.out k hk hpre hb)
  obtain ⟨x, hx⟩ : ∃ x, R.getD k 0 = x := ⟨_, rfl⟩
  rw [hx] at hq ⊢
  clear hb hpre
  go_wp2_with fail
  go_ret
  exact ⟨by rw [hq.out]; rfl, (by repeat (with_reducible first | assumption | exact Ext.refl _ | refine Ext.drew ?_ | refine Ext.drewN ?_ _ | refine Ext.alloc ?_ _ | refine xS ?_ _ | refine xT ?_ (by assumption)))⟩
 ·have hq := hid (hno.out hb)
  clear hb
  go_wp2_with fail
  go_ret
  exact ⟨by rw [hq.out]; rfl, (by repeat (with_reducible first | assumption | exact Ext.refl _ | refine Ext.drew ?_ | refine Ext.drewN ?_ _ | refine Ext.alloc ?_ _ | refine xS ?_ _ | refine xT ?_ (by assumption)))⟩

end Go.Proofs.Ytommhgcgaclflaa
namespace Go.Proofs.Ytommhgcgaclflaa
set_option linter.unusedVariables false
set_option linter.unusedSimpArgs false
set_option linter.unusedSectionVars false
set_option linter.unnecessarySimpa false
open Go Go.RowKit Game
set_option maxRecDepth 100000

theorem clear_last {P : Program} {w : World} {t e ty : TypeId} (ht : P.underlying t = some (.slice e)) (hv : ∀ w, (zeroValue e).run P w = .ok (.int .i64 0) w) {base g n m cap c : Nat} {l : List Int}
 (hn : n = l.length) (hm : n = m + 1) (h : OwnI w base e (.slice (some ⟨g, 0, none⟩) n cap) l) :
 (Builtin.clear_ #[t] ty #[.slice (some ⟨g, m, none⟩) 1 c]).run P w = .ok (.tuple #[]) (w.setCell ⟨g, m, none⟩ (.int .i64 0)) ∧
 OwnI (w.setCell ⟨g, m, none⟩ (.int .i64 0)) base e (.slice (some ⟨g, 0, none⟩) m cap) (l.take m) ∧ w.grownBy (w.setCell ⟨g, m, none⟩ (.int .i64 0)) (some g) := by
 subst hn
 obtain ⟨h1, h2 | ⟨g', cap', cur, hv', hb, hg, hnc, hcm, hcs, hta⟩⟩ := h
 ·simp at h2
 ·simp only [Value.slice.injEq, Option.some.injEq, Addr.mk.injEq, and_true, true_and] at hv'
  obtain ⟨rfl, rfl⟩ := hv'
  have e1 : (l.take m).length = m := by simp; omega
  have hcs2 : cur.size = cap := by simpa using hcs
  refine ⟨?_, ⟨by simp, .inr ⟨g, cap, cur.setIfInBounds m (.int .i64 0), by rw [e1], hb, heap_setCell_same w g _ cur e _ hg, by rw [e1]; omega, hcm, by simpa using hcs, ?_⟩⟩, ⟨rfl, rfl, rfl, by simp, fun k _ hk => heap_setCell_other w ⟨g, m, none⟩ k _ (fun e => hk (by simp [e]))⟩⟩
  ·rw [Lib.run_clear_slice w t e ty (.int .i64 0) ht hv rfl rfl g m 1 c (by omega) (fun j hj => by
    obtain rfl : j = 0 := by omega
    rw [cell_of_row w g _ cur e (0, 0) hg]
    simp; omega) (fun j hj => by
    exact frozen_of_row w g _ cur e hg)]
   rfl
  ·rw [e1, Array.toList_setIfInBounds, Nat.mul_one, List.take_set_of_le (by omega), List.map_take, ← hta, List.take_take]
   congr 1; omega

def cutF (l : List Nat) (p j : Nat) (r : Nat) : Int := if r < p then (l.getD r 0 : Nat) else if r + 1 < j then (l.getD (r + 1) 0 : Nat) else (l.getD r 0 : Nat)
theorem cutF_start (l : List Nat) (p : Nat) : mkL l.length (cutF l p (p + 1)) = nats l := by
 refine nth_ext (by rw [mkL_len, nats_len]) fun i hi => ?_
 rw [mkL_len] at hi
 rw [mkL_nth _ hi, nats_nth]
 unfold cutF
 by_cases h : i < p
 ·rw [if_pos h]
 ·rw [if_neg h, if_neg (by omega)]
theorem cutF_step (l : List Nat) (p j : Nat) (h : p < j) : (fun r => if r = j - 1 then ((l.getD j 0 : Nat) : Int) else cutF l p j r) = cutF l p (j + 1) := by
 funext r
 unfold cutF
 by_cases e : r = j - 1
 ·subst e
  rw [if_pos rfl, if_neg (by omega), if_pos (by omega), show j - 1 + 1 = j by omega]
 ·rw [if_neg e]
  by_cases h1 : r < p
  ·rw [if_pos h1, if_pos h1]
  ·rw [if_neg h1, if_neg h1]
   by_cases h2 : r + 1 < j
   ·rw [if_pos h2, if_pos (by omega)]
   ·rw [if_neg h2, if_neg (by omega)]
theorem cutF_end {l : List Nat} {p : Nat} (h : p < l.length) : (mkL l.length (cutF l p l.length)).take (l.length - 1) = nats (cutN l p) := by
 refine nth_ext (by simp [mkL_len, nats_len, cutN_len h]) fun i hi => ?_
 have hi2 : i < l.length - 1 := by simp [mkL_len] at hi; omega
 rw [nats_nth, cutN_at h]
 have e : nth ((mkL l.length (cutF l p l.length)).take (l.length - 1)) i = nth (mkL l.length (cutF l p l.length)) i := by
  unfold nth
  simp only [List.getD_eq_getElem?_getD]
  rw [List.getElem?_take, if_pos hi2]
 rw [e, mkL_nth _ (by omega)]
 unfold cutF
 by_cases h1 : i < p
 ·rw [if_pos h1, if_pos h1]
 ·rw [if_neg h1, if_neg h1, if_pos (by omega)]
theorem cutF_at {l : List Nat} {p j : Nat} (h : p < j) : cutF l p j j = (l.getD j 0 : Nat) := by
 unfold cutF; rw [if_neg (by omega), if_neg (by omega)]

theorem left1_any (x r Pi : Nat) (w : World) (hp : w.cell? ⟨Pi, 0, none⟩ = some (.int .i64 r)) :
 Calls Try.prog 84 #[.int .i64 x, .pointer (some ⟨Pi, 0, none⟩)] w fun e w' => e = .returned (.bool (decide (x = r))) ∧ Ext w w' := by
 by_cases h : x = r
 ·have q : ((x : Int) == (r : Int)) = true := by rw [h]; simp
  have hd := hid (decide_eq_true h)
  replace h := hid h
  go_enter Try.func84, Try.ntmps84
  go_wp2_with fail
  go_ret
  exact ⟨by rw [hd.out]; rfl, (by repeat (with_reducible first | assumption | exact Ext.refl _ | refine Ext.drew ?_ | refine Ext.drewN ?_ _ | refine Ext.alloc ?_ _ | refine xS ?_ _ | refine xT ?_ (by assumption)))⟩
 ·have q : ((x : Int) == (r : Int)) = false := by rw [beq_eq_false_iff_ne]; omega
  have hd := hid (decide_eq_false h)
  replace h := hid h
  go_enter Try.func84, Try.ntmps84
  go_wp2_with fail
  go_ret
  exact ⟨by rw [hd.out]; rfl, (by repeat (with_reducible first | assumption | exact Ext.refl _ | refine Ext.drew ?_ | refine Ext.drewN ?_ _ | refine Ext.alloc ?_ _ | refine xS ?_ _ | refine xT ?_ (by assumption)))⟩
theorem left2_any (x r Pi : Nat) (w : World) (hp : w.cell? ⟨Pi, 0, none⟩ = some (.int .i64 r)) :
 Calls Try.prog 85 #[.int .i64 x, .pointer (some ⟨Pi, 0, none⟩)] w fun e w' => e = .returned (.bool (decide (x = r))) ∧ Ext w w' := by
 by_cases h : x = r
 ·have q : ((x : Int) == (r : Int)) = true := by rw [h]; simp
  have hd := hid (decide_eq_true h)
  replace h := hid h
  go_enter Try.func85, Try.ntmps85
  go_wp2_with fail
  go_ret
  exact ⟨by rw [hd.out]; rfl, (by repeat (with_reducible first | assumption | exact Ext.refl _ | refine Ext.drew ?_ | refine Ext.drewN ?_ _ | refine Ext.alloc ?_ _ | refine xS ?_ _ | refine xT ?_ (by assumption)))⟩
 ·have q : ((x : Int) == (r : Int)) = false := by rw [beq_eq_false_iff_ne]; omega
  have hd := hid (decide_eq_false h)
  replace h := hid h
  go_enter Try.func85, Try.ntmps85
  go_wp2_with fail
  go_ret
  exact ⟨by rw [hd.out]; rfl, (by repeat (with_reducible first | assumption | exact Ext.refl _ | refine Ext.drew ?_ | refine Ext.drewN ?_ _ | refine Ext.alloc ?_ _ | refine xS ?_ _ | refine xT ?_ (by assumption)))⟩

theorem zeroInt64 (w : World) : (zeroValue 3).run Try.prog w = .ok (.int .i64 0) w := by kernel_rfl

set_option maxHeartbeats 400000 in
 theorem delLeft1_any (l : List Nat) (hl9 : l.length ≤ 4) (hss : l.Pairwise (· < ·)) (hb : ∀ x ∈ l, x < 1000) (p : Nat) (hp : p < l.length) (Pi : Nat) (base g n m cap : Nat) (hn : n = l.length) (hm : n = m + 1) (w : World) (hpi : w.cell? ⟨Pi, 0, none⟩ = some (.int .i64 (l.getD p 0 : Nat))) (hne : Pi ≠ g) (ho : OwnI w base 3 (.slice (some ⟨g, 0, none⟩) n cap) (nats l)) :
  Calls Try.prog 83 #[.slice (some ⟨g, 0, none⟩) n cap, .func (.func 84) #[] #[.pointer (some ⟨Pi, 0, none⟩)]] w fun e w' => e = .returned (.slice (some ⟨g, 0, none⟩) m cap) ∧ OwnI w' base 3 (.slice (some ⟨g, 0, none⟩) m cap) (nats (cutN l p)) ∧ w.grownBy w' (some g) := by
  have hnd : ∀ i j, i < l.length → j < l.length → l.getD i 0 = l.getD j 0 → i = j := fun i j hi hj e => by
   have e1 : l.getD i 0 = l[i] := by simp [hi]
   have e2 : l.getD j 0 = l[j] := by simp [hj]
   rw [e1, e2] at e
   exact (List.getElem_inj (sorted_nodup hss)).1 e
  obtain ⟨r, hr⟩ : ∃ r, l.getD p 0 = r := ⟨_, rfl⟩
  rw [hr] at hpi
  have hcap := hid ho.cap.2
  have hbase := hid (ho.block g rfl)
  have hidx := hid (idxLeft1_any (fun x => decide (x = r)) Pi l hb (by omega) (some ⟨g, 0, none⟩) n cap hn w (OwnI.ints ho) (fun x W hx h => left1_any x r Pi W (h.cell hpi)))
  have hlf := hid (fun x W (h : W.cell? ⟨Pi, 0, none⟩ = some (.int .i64 r)) => left1_any x r Pi W h)
  have hst := hid (cutF_start l p)
  have hen := hid (cutF_end hp)
  have hat := hid (fun j (h : p < j) => cutF_at (l := l) h)
  have hsp := hid (fun j (h : p < j) => cutF_step l p j h)
  have hnn : Hid (∀ j, p < j → j < n → decide (l.getD j 0 = r) = false) := hid fun j h1 h2 => decide_eq_false fun e => by
   have := hnd j p (by omega) hp (by rw [e, hr]); omega
  have hoo := hid ho
  have hpl := cell_lt hpi
  dsimp only at hpl
  have hpn : p < n := by omega
  have hbd : Hid (∀ j, j < n → l.getD j 0 < 1000) := hid fun j hj => hb _ (getD_mem (by omega))
  have hrp : Hid (∀ k, k < l.length → decide (l.getD k 0 = r) = true → k = p) := hid fun k hk h => hnd k p hk hp (by rw [of_decide_eq_true h, hr])
  have hpr : Hid (decide (l.getD p 0 = r) = true) := hid (decide_eq_true hr)
  have hpl2 := hid hp
  rw [← hn] at hst hen hl9
  have hnl := hid hn
  replace hr := hid hr
  have hM := hid hm
  have hcap2 : n ≤ cap := hcap.out
  clear ho hnd hss hb hn hp hm
  go_enter Try.func83, Try.ntmps83
  go_wp2_with fail
  refine hidx.out.mono ?_
  rintro e w1 ⟨hE, ⟨k, hk, rfl, hb, _⟩ | ⟨rfl, hb⟩⟩
  case inr =>
   have := hb p hpl2.out
   rw [hpr.out] at this
   cases this
  obtain rfl : k = p := hrp.out k hk hb
  have hX := hid hE
  have hk1 : ((k : Int) == -1) = false := by rw [beq_eq_false_iff_ne]; omega
  have hk2 : ¬ (k : Int) = -1 := by omega
  have ho1 := hoo.out.ext hE
  rw [← hst.out] at ho1
  replace ho1 := hid ho1
  clear hE hb hk
  go_wp2_with fail
  go_loopw [5, 6] (fun i j wr => ∃ q : Nat, k + 1 ≤ q ∧ q ≤ n ∧ i = .int .i64 ((q : Int) - 1) ∧ j = .int .i64 q ∧ Hid (OwnI wr base 3 (.slice (some ⟨g, 0, none⟩) n cap) (mkL n (cutF l k q))) ∧ Hid (w.grownBy wr (some g)) ∧ Hid (wr.cell? ⟨Pi, 0, none⟩ = some (.int .i64 r))) (fun _ j _ => (n - intOf j).toNat)
  case atStart => exact ⟨k + 1, by omega, by omega, by congr 1; omega, by go_num, ho1, hid ((grows_ext hX.out).but _), hid (hX.out.cell hpi)⟩
  case round =>
   obtain ⟨q, hq1, hq2, rfl, rfl, ho, hx, hpq⟩ := hrel
   by_cases hqn : q < n
   ·have hf0 := hat.out q (by omega)
    have hs0 := hsp.out q (by omega)
    have hn0 := hnn.out q (by omega) hqn
    have hb0 := hbd.out q hqn
    have h2 : ∀ W, OwnI W base 3 (.slice (some ⟨g, 0, none⟩) n cap) (mkL n (cutF l k q)) → OwnI (W.setCell ⟨g, q - 1, none⟩ (.int .i64 (l.getD q 0 : Nat))) base 3 (.slice (some ⟨g, 0, none⟩) n cap) (mkL n (cutF l k (q + 1))) := fun W hW => by
     have h2 := OwnI.set (l := mkL n (cutF l k q)) (by rw [mkL_len]; exact hW) (i := q - 1) (l.getD q 0 : Nat)
     rwa [mkL_set, mkL_len, hs0] at h2
    obtain ⟨f1, f2, -, f4⟩ := ho.out.facts (j := q - 1) (by rw [mkL_len]; omega)
    obtain ⟨p1, -, -, -⟩ := ho.out.facts (j := q) (by rw [mkL_len]; omega)
    rw [mkL_nth _ hqn, hf0] at p1
    have e1 : ((q : Int) - 1) = ((q - 1 : Nat) : Int) := by omega
    obtain ⟨q1, hq1e⟩ : ∃ q1, q - 1 = q1 := ⟨_, rfl⟩
    rw [hq1e] at h2 f1 f2 e1
    rw [e1]
    obtain ⟨x, hx0⟩ : ∃ x, l.getD q 0 = x := ⟨_, rfl⟩
    rw [hx0] at h2 p1 hn0 hb0
    have h2 := hid h2
    have hq1e := hid hq1e
    have hn0 := hid hn0
    have hx0 := hid hx0
    have hq1n : q1 < n := by have := hq1e.out; omega
    have hpq1 := hpq.out
    have hlx := hid (fun W h => hlf.out x W h)
    have u1 := Go.IntWalk.i64_in ((q1 : Int) + 1) (by omega)
    have u2 := Go.IntWalk.i64_in ((q : Int) + 1) (by omega)
    clear hf0 hs0 e1
    go_wp2_with fail
    refine (hlx.out _ hpq1).mono ?_; rintro e w5 ⟨rfl, hE5⟩
    rw [hn0.out]
    have f1 := hE5.cell f1
    have f2 := (hE5.frozen (by simpa using f4)).trans f2
    have h5 := hid (h2.out _ (ho.out.ext hE5))
    have hp5 := hid (hE5.cell hpq.out)
    have f5 : g < w5.heap.size := Nat.lt_of_lt_of_le f4 hE5.size
    have hX5 := hid (hx.out.andThen (grows_ext hE5) (fun j e => by cases e))
    clear hE5 p1 hpq1 f4
    go_wp2_with fail
    go_roundw
    case rel => exact ⟨q + 1, by omega, by omega, by go_num, by go_num, h5.out, hid (hX5.out.andThen (grown_set _ _ _) (fun j e => .inr e)), hid (by rw [World.cell?_setCell_other _ _ _ _ (by simp <;> omega)]; exact hp5.out)⟩
    case measure => simp [intOf]; omega
   ·obtain rfl : n = q := by omega
    have hen2 := hen.out
    have e1 : ((n : Int) - 1) = (m : Int) := by have := hM.out; omega
    rw [e1]
    obtain ⟨c1, c2, c3⟩ := clear_last (P := Try.prog) (c := cap - m) (ty := 0) Try.underlying42 zeroInt64 (mkL_len n (cutF l k n)).symm hM.out ho.out
    have e2 : n - 1 = m := by have := hM.out; omega
    rw [e2] at hen2
    rw [hen2] at c2
    have c2 := hid c2
    have c3 := hid c3
    have r1 : (m : Int) ≤ (n : Int) := by have := hM.out; omega
    have r2 : (0 : Int) ≤ (m : Int) := by omega
    have r3 : (m : Int) ≤ (cap : Int) := by have := hM.out; omega
    have r4 : n - m = 1 := by have := hM.out; omega
    have r5 : (n : Int) ≤ (cap : Int) := by omega
    have m1 : ¬ cap = m := by have := hM.out; omega
    have m2 : ¬ cap ≤ m := by have := hM.out; omega
    have m3 : m < cap := by have := hM.out; omega
    clear hen2 e1 e2
    go_wp2_with fail
    go_ret
    exact ⟨rfl, c2.out, hx.out.andThen c3.out (fun j e => .inr e)⟩
set_option maxHeartbeats 400000 in
 theorem delLeft2_any (l : List Nat) (hl9 : l.length ≤ 4) (hss : l.Pairwise (· < ·)) (hb : ∀ x ∈ l, x < 1000) (p : Nat) (hp : p < l.length) (Pi : Nat) (base g n m cap : Nat) (hn : n = l.length) (hm : n = m + 1) (w : World) (hpi : w.cell? ⟨Pi, 0, none⟩ = some (.int .i64 (l.getD p 0 : Nat))) (hne : Pi ≠ g) (ho : OwnI w base 3 (.slice (some ⟨g, 0, none⟩) n cap) (nats l)) :
  Calls Try.prog 83 #[.slice (some ⟨g, 0, none⟩) n cap, .func (.func 85) #[] #[.pointer (some ⟨Pi, 0, none⟩)]] w fun e w' => e = .returned (.slice (some ⟨g, 0, none⟩) m cap) ∧ OwnI w' base 3 (.slice (some ⟨g, 0, none⟩) m cap) (nats (cutN l p)) ∧ w.grownBy w' (some g) := by
  have hnd : ∀ i j, i < l.length → j < l.length → l.getD i 0 = l.getD j 0 → i = j := fun i j hi hj e => by
   have e1 : l.getD i 0 = l[i] := by simp [hi]
   have e2 : l.getD j 0 = l[j] := by simp [hj]
   rw [e1, e2] at e
   exact (List.getElem_inj (sorted_nodup hss)).1 e
  obtain ⟨r, hr⟩ : ∃ r, l.getD p 0 = r := ⟨_, rfl⟩
  rw [hr] at hpi
  have hcap := hid ho.cap.2
  have hbase := hid (ho.block g rfl)
  have hidx := hid (idxLeft2_any (fun x => decide (x = r)) Pi l hb (by omega) (some ⟨g, 0, none⟩) n cap hn w (OwnI.ints ho) (fun x W hx h => left2_any x r Pi W (h.cell hpi)))
  have hlf := hid (fun x W (h : W.cell? ⟨Pi, 0, none⟩ = some (.int .i64 r)) => left2_any x r Pi W h)
  have hst := hid (cutF_start l p)
  have hen := hid (cutF_end hp)
  have hat := hid (fun j (h : p < j) => cutF_at (l := l) h)
  have hsp := hid (fun j (h : p < j) => cutF_step l p j h)
  have hnn : Hid (∀ j, p < j → j < n → decide (l.getD j 0 = r) = false) := hid fun j h1 h2 => decide_eq_false fun e => by
   have := hnd j p (by omega) hp (by rw [e, hr]); omega
  have hoo := hid ho
  have hpl := cell_lt hpi
  dsimp only at hpl
  have hpn : p < n := by omega
  have hbd : Hid (∀ j, j < n → l.getD j 0 < 1000) := hid fun j hj => hb _ (getD_mem (by omega))
  have hrp : Hid (∀ k, k < l.length → decide (l.getD k 0 = r) = true → k = p) := hid fun k hk h => hnd k p hk hp (by rw [of_decide_eq_true h, hr])
  have hpr : Hid (decide (l.getD p 0 = r) = true) := hid (decide_eq_true hr)
  have hpl2 := hid hp
  rw [← hn] at hst hen hl9
  have hnl := hid hn
  replace hr := hid hr
  have hM := hid hm
  have hcap2 : n ≤ cap := hcap.out
  clear ho hnd hss hb hn hp hm
  go_enter Try.func83, Try.ntmps83
  go_wp2_with fail
  refine hidx.out.mono ?_
  rintro e w1 ⟨hE, ⟨k, hk, rfl, hb, _⟩ | ⟨rfl, hb⟩⟩
  case inr =>
   have := hb p hpl2.out
   rw [hpr.out] at this
   cases this
  obtain rfl : k = p := hrp.out k hk hb
  have hX := hid hE
  have hk1 : ((k : Int) == -1) = false := by rw [beq_eq_false_iff_ne]; omega
  have hk2 : ¬ (k : Int) = -1 := by omega
  have ho1 := hoo.out.ext hE
  rw [← hst.out] at ho1
  replace ho1 := hid ho1
  clear hE hb hk
  go_wp2_with fail
  go_loopw [5, 6] (fun i j wr => ∃ q : Nat, k + 1 ≤ q ∧ q ≤ n ∧ i = .int .i64 ((q : Int) - 1) ∧ j = .int .i64 q ∧ Hid (OwnI wr base 3 (.slice (some ⟨g, 0, none⟩) n cap) (mkL n (cutF l k q))) ∧ Hid (w.grownBy wr (some g)) ∧ Hid (wr.cell? ⟨Pi, 0, none⟩ = some (.int .i64 r))) (fun _ j _ => (n - intOf j).toNat)
  case atStart => exact ⟨k + 1, by omega, by omega, by congr 1; omega, by go_num, ho1, hid ((grows_ext hX.out).but _), hid (hX.out.cell hpi)⟩
  case round =>
   obtain ⟨q, hq1, hq2, rfl, rfl, ho, hx, hpq⟩ := hrel
   by_cases hqn : q < n
   ·have hf0 := hat.out q (by omega)
    have hs0 := hsp.out q (by omega)
    have hn0 := hnn.out q (by omega) hqn
    have hb0 := hbd.out q hqn
    have h2 : ∀ W, OwnI W base 3 (.slice (some ⟨g, 0, none⟩) n cap) (mkL n (cutF l k q)) → OwnI (W.setCell ⟨g, q - 1, none⟩ (.int .i64 (l.getD q 0 : Nat))) base 3 (.slice (some ⟨g, 0, none⟩) n cap) (mkL n (cutF l k (q + 1))) := fun W hW => by
     have h2 := OwnI.set (l := mkL n (cutF l k q)) (by rw [mkL_len]; exact hW) (i := q - 1) (l.getD q 0 : Nat)
     rwa [mkL_set, mkL_len, hs0] at h2
    obtain ⟨f1, f2, -, f4⟩ := ho.out.facts (j := q - 1) (by rw [mkL_len]; omega)
    obtain ⟨p1, -, -, -⟩ := ho.out.facts (j := q) (by rw [mkL_len]; omega)
    rw [mkL_nth _ hqn, hf0] at p1
    have e1 : ((q : Int) - 1) = ((q - 1 : Nat) : Int) := by omega
    obtain ⟨q1, hq1e⟩ : ∃ q1, q - 1 = q1 := ⟨_, rfl⟩
    rw [hq1e] at h2 f1 f2 e1
    rw [e1]
    obtain ⟨x, hx0⟩ : ∃ x, l.getD q 0 = x := ⟨_, rfl⟩
    rw [hx0] at h2 p1 hn0 hb0
    have h2 := hid h2
    have hq1e := hid hq1e
    have hn0 := hid hn0
    have hx0 := hid hx0
    have hq1n : q1 < n := by have := hq1e.out; omega
    have hpq1 := hpq.out
    have hlx := hid (fun W h => hlf.out x W h)
    have u1 := Go.IntWalk.i64_in ((q1 : Int) + 1) (by omega)
    have u2 := Go.IntWalk.i64_in ((q : Int) + 1) (by omega)
    clear hf0 hs0 e1
    go_wp2_with fail
    refine (hlx.out _ hpq1).mono ?_; rintro e w5 ⟨rfl, hE5⟩
    rw [hn0.out]
    have f1 := hE5.cell f1
    have f2 := (hE5.frozen (by simpa using f4)).trans f2
    have h5 := hid (h2.out _ (ho.out.ext hE5))
    have hp5 := hid (hE5.cell hpq.out)
    have f5 : g < w5.heap.size := Nat.lt_of_lt_of_le f4 hE5.size
    have hX5 := hid (hx.out.andThen (grows_ext hE5) (fun j e => by cases e))
    clear hE5 p1 hpq1 f4
    go_wp2_with fail
    go_roundw
    case rel => exact ⟨q + 1, by omega, by omega, by go_num, by go_num, h5.out, hid (hX5.out.andThen (grown_set _ _ _) (fun j e => .inr e)), hid (by rw [World.cell?_setCell_other _ _ _ _ (by simp <;> omega)]; exact hp5.out)⟩
    case measure => simp [intOf]; omega
   ·obtain rfl : n = q := by omega
    have hen2 := hen.out
    have e1 : ((n : Int) - 1) = (m : Int) := by have := hM.out; omega
    rw [e1]
    obtain ⟨c1, c2, c3⟩ := clear_last (P := Try.prog) (c := cap - m) (ty := 0) Try.underlying42 zeroInt64 (mkL_len n (cutF l k n)).symm hM.out ho.out
    have e2 : n - 1 = m := by have := hM.out; omega
    rw [e2] at hen2
    rw [hen2] at c2
    have c2 := hid c2
    have c3 := hid c3
    have r1 : (m : Int) ≤ (n : Int) := by have := hM.out; omega
    have r2 : (0 : Int) ≤ (m : Int) := by omega
    have r3 : (m : Int) ≤ (cap : Int) := by have := hM.out; omega
    have r4 : n - m = 1 := by have := hM.out; omega
    have r5 : (n : Int) ≤ (cap : Int) := by omega
    have m1 : ¬ cap = m := by have := hM.out; omega
    have m2 : ¬ cap ≤ m := by have := hM.out; omega
    have m3 : m < cap := by have := hM.out; omega
    clear hen2 e1 e2
    go_wp2_with fail
    go_ret
    exact ⟨rfl, c2.out, hx.out.andThen c3.out (fun j e => .inr e)⟩

end Go.Proofs.Ytommhgcgaclflaa
