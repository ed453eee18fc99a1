/- Texts of one proof, laid together: Lng, UH, UI. -/
import Derived.Test.YtommhgcgaclflaaTH
import Derived.Test.YtommhgcgaclflaaZB14
import Derived.Test.YtommhgcgaclflaaZB12
import Derived.Test.YtommhgcgaclflaaZB7
import Derived.Test.YtommhgcgaclflaaZUses31
import Derived.Test.YtommhgcgaclflaaUB
import Derived.Test.YtommhgcgaclflaaZB23
import Derived.Test.YtommhgcgaclflaaTD
namespace Go.Proofs.Ytommhgcgaclflaa
set_option linter.unusedVariables false
set_option linter.unusedSimpArgs false
set_option linter.unusedSectionVars false
set_option linter.unnecessarySimpa false
open Go Go.RowKit Game
theorem longC_any (p : List Int) (hl : p.length ≤ 9223372036854775807) (a : Option Addr) (cap : Nat) (b : Bool) (hb : decide (8 < p.length) = b) (w : World) : Calls Try.prog 17 #[.slice a p.length cap] w fun e w' => e = .returned (.bool b) ∧ Ext w w' := by
 subst hb; exact long_any p hl a cap w

end Go.Proofs.Ytommhgcgaclflaa
namespace Go.Proofs.Ytommhgcgaclflaa
set_option linter.unusedVariables false
set_option linter.unusedSimpArgs false
set_option linter.unusedSectionVars false
set_option linter.unnecessarySimpa false
open Go Go.RowKit Game
set_option maxRecDepth 100000
set_option maxHeartbeats 2000000 in
theorem withoutR_any (l : List Nat) (p : Nat) (hp : p < l.length) (hl : l.length ≤ 8) (a : Option Addr) (cap : Nat) (hc : l.length ≤ cap) (w : World) (hI : Ints w a (nats l)) :
 Calls Try.prog 86 #[.slice a l.length cap, .int .i64 p] w fun e w' => ∃ a' c', e = .returned (.slice a' (cutN l p).length c') ∧ Ints w' a' (nats (cutN l p)) ∧ (cutN l p).length ≤ c' ∧ Ext w w' := by
 obtain ⟨b, off, rfl, hb, hcc⟩ := hI.at (by rw [nats_len]; omega)
 have hI' := hid hI
 have hcut : Hid (nats (cutN l p) = (nats l).take p ++ (nats l).drop (p + 1)) := hid (by unfold nats cutN; rw [List.map_append, List.map_take, List.map_drop])
 have hcl := hid (cutN_len hp)
 have hnl := hid (nats_len l)
 obtain ⟨N, hN⟩ : ∃ N, l.length = N := ⟨_, rfl⟩
 rw [hN] at hp hl hc hcl hnl ⊢
 obtain ⟨L, hL⟩ : ∃ L, nats l = L := ⟨_, rfl⟩
 rw [hL] at hI' hcut hnl
 have l1 : Hid ((L.take p).length = p) := hid (by rw [List.length_take, hnl.out]; omega)
 have l2 : Hid ((L.drop (p + 1)).length = N - (p + 1)) := hid (by rw [List.length_drop, hnl.out])
 have l3 : Hid (p + (N - (p + 1)) = N - 1) := hid (by omega)
 replace hN := hid hN
 replace hL := hid hL
 have q4 : (p : Int) ≤ (N : Int) := by omega
 have q5 : (p : Int) + 1 ≤ (N : Int) := by omega
 have q6 : (0 : Int) ≤ (p : Int) := by omega
 have q8 : (p : Int) ≤ (cap : Int) := by omega
 have q9 : (N : Int) ≤ (cap : Int) := by omega
 have qa : (0 : Int) ≤ (p : Int) + 1 := by omega
 have qb : ((p : Int) + 1).toNat = p + 1 := by omega
 have q7 := Go.IntWalk.i64_in ((p : Int) + 1) (by omega)
 rw [hcl.out]
 clear hI hcc hb
 go_enter Try.func86, Try.ntmps86
 go_wp2_with fail
 refine wp_region_held_drew (S := fun w' => Ext w w') (by kernel_rfl) (by repeat (with_reducible first | assumption | exact Ext.refl _ | refine Ext.drew ?_ | refine Ext.drewN ?_ _ | refine Ext.alloc ?_ _ | refine xS ?_ _ | refine xT ?_ (by assumption))) fun hHeld => ?_
 refine tkA (i := 1) (v := ?_) rfl (fun _ _ _ h => h) (Or.inl ⟨by rfl, ?yl⟩) (by assumption) ?_
 case yl => (intro w hSw; (try dsimp only at hSw); go_simp); with_reducible rfl
 try simp only [sxA, sxB, sxC, Act.put, sxD, sxE, sxF]
 refine tkA (i := 2) (v := ?_) rfl (fun _ _ _ h => h) (Or.inl ⟨by rfl, ?yl⟩) (by assumption) ?_
 case yl => (intro w hSw; (try dsimp only at hSw); go_simp); with_reducible rfl
 try simp only [sxA, sxB, sxC, Act.put, sxD, sxE, sxF]
 refine tkA (i := 3) (v := ?_) rfl (fun _ _ _ h => h) (Or.inl ⟨by rfl, ?yl⟩) (by assumption) ?_
 case yl => (intro w hSw; (try dsimp only at hSw); go_simp); with_reducible rfl
 try simp only [sxA, sxB, sxC, Act.put, sxD, sxE, sxF]
 refine tkA (i := 5) (v := ?_) rfl (fun _ _ _ h => h) (Or.inl ⟨by rfl, ?yl⟩) (by assumption) ?_
 case yl => (intro w hSw; (try dsimp only at hSw); go_simp); with_reducible rfl
 try simp only [sxA, sxB, sxC, Act.put, sxD, sxE, sxF]
 refine tkA (i := 6) (v := ?_) rfl (fun _ _ _ h => h) (Or.inl ⟨by rfl, ?yl⟩) (by assumption) ?_
 case yl => (intro w hSw; (try dsimp only at hSw); go_simp); with_reducible rfl
 try simp only [sxA, sxB, sxC, Act.put, sxD, sxE, sxF]
 refine tkA (i := 7) (v := ?_) rfl (fun _ _ _ h => h) (Or.inl ⟨by rfl, ?yl⟩) (by assumption) ?_
 case yl => (intro w hSw; (try dsimp only at hSw); go_simp); with_reducible rfl
 try simp only [sxA, sxB, sxC, Act.put, sxD, sxE, sxF]
 refine tkA (i := 8) (v := ?_) rfl (fun _ _ _ h => h) (Or.inl ⟨by rfl, ?yl⟩) (by assumption) ?_
 case yl => (intro w hSw; (try dsimp only at hSw); go_simp); with_reducible rfl
 try simp only [sxA, sxB, sxC, Act.put, sxD, sxE, sxF]
 refine wpAnyH_ready (rs := [0]) (by kernel_rfl) (by simp) ?_
 refine AllReadyH.cons (o := _) rfl (fun K hK => ?_) AllReadyH.nil
 go_simp
 refine hK.out _ _ (by repeat (with_reducible first | assumption | exact Ext.refl _ | refine Ext.drew ?_ | refine Ext.drewN ?_ _ | refine Ext.alloc ?_ _ | refine xS ?_ _ | refine xT ?_ (by assumption))) (fun hHeld => ?_)
 clear hK K
 refine wpAnyH_ready (rs := [4]) (by kernel_rfl) (by simp) ?_
 refine AllReadyH.cons (o := _) rfl (fun K hK => ?_) AllReadyH.nil
 rw [if_pos (by rfl)]
 refine appK_wp _ _ _ rfl 3 Try.underlying42 elemInt w.heap.size [] (L.take p) _ rfl _ _ _ rfl l1.out.symm ?ca ?cb ?cc ?cd ?_
 case ca => exact OwnI.ext (OwnI.made w (Nat.le_refl _) 3) (by repeat (with_reducible first | assumption | exact Ext.refl _ | refine Ext.drew ?_ | refine Ext.drewN ?_ _ | refine Ext.alloc ?_ _ | refine xS ?_ _ | refine xT ?_ (by assumption)))
 case cb => exact (hI'.out.ext (by repeat (with_reducible first | assumption | exact Ext.refl _ | refine Ext.drew ?_ | refine Ext.drewN ?_ _ | refine Ext.alloc ?_ _ | refine xS ?_ _ | refine xT ?_ (by assumption)))).take p
 case cc => rw [l1.out]; simp; omega
 case cd => exact Ext.size (w := w) (by repeat (with_reducible first | assumption | exact Ext.refl _ | refine Ext.drew ?_ | refine Ext.drewN ?_ _ | refine Ext.alloc ?_ _ | refine xS ?_ _ | refine xT ?_ (by assumption)))
 intro a3 cp3 w3 ho3 hx3
 have hE3 := hx3 w (by repeat (with_reducible first | assumption | exact Ext.refl _ | refine Ext.drew ?_ | refine Ext.drewN ?_ _ | refine Ext.alloc ?_ _ | refine xS ?_ _ | refine xT ?_ (by assumption))) (Nat.le_refl _)
 clear hx3
 rw [l1.out] at ho3 ⊢
 simp only [List.length_nil, Nat.zero_add, List.nil_append] at ho3 ⊢
 refine hK.out _ _ (by repeat (with_reducible first | assumption | exact Ext.refl _ | refine Ext.drew ?_ | refine Ext.drewN ?_ _ | refine Ext.alloc ?_ _ | refine xS ?_ _ | refine xT ?_ (by assumption))) (fun hHeld => ?_)
 clear hK K
 try simp only [sxA, sxB, sxC, Act.put, sxD, sxE, sxF]
 refine wpAnyH_ready (rs := [9]) (by kernel_rfl) (by simp) ?_
 refine AllReadyH.cons (o := _) rfl (fun K hK => ?_) AllReadyH.nil
 rw [if_pos (by rfl)]
 refine appK_wp _ _ _ rfl 3 Try.underlying42 elemInt w.heap.size (L.take p) (L.drop (p + 1)) _ rfl _ _ _ rfl l2.out.symm ho3 ?ci ?cj ?ck ?_
 case ci =>
  have hd := (hI'.out.ext (show Ext w w3 from (by repeat (with_reducible first | assumption | exact Ext.refl _ | refine Ext.drew ?_ | refine Ext.drewN ?_ _ | refine Ext.alloc ?_ _ | refine xS ?_ _ | refine xT ?_ (by assumption))))).drop (p + 1)
  by_cases hz : cap = p + 1
  ·rw [List.eq_nil_of_length_eq_zero (l := L.drop (p + 1)) (by rw [l2.out]; omega)]; exact Ints.nil _ _
  ·rw [if_neg hz]; exact hd
 case cj => rw [l1.out, l2.out]; omega
 case ck => exact Ext.size (w := w) (by repeat (with_reducible first | assumption | exact Ext.refl _ | refine Ext.drew ?_ | refine Ext.drewN ?_ _ | refine Ext.alloc ?_ _ | refine xS ?_ _ | refine xT ?_ (by assumption)))
 intro a4 cp4 w4 ho4 hx4
 have hE4 := hx4 w (by repeat (with_reducible first | assumption | exact Ext.refl _ | refine Ext.drew ?_ | refine Ext.drewN ?_ _ | refine Ext.alloc ?_ _ | refine xS ?_ _ | refine xT ?_ (by assumption))) (Nat.le_refl _)
 clear hx4 ho3
 rw [l1.out, l2.out, l3.out, ← hcut.out] at ho4
 rw [l1.out, l2.out, l3.out]
 refine hK.out _ _ (by repeat (with_reducible first | assumption | exact Ext.refl _ | refine Ext.drew ?_ | refine Ext.drewN ?_ _ | refine Ext.alloc ?_ _ | refine xS ?_ _ | refine xT ?_ (by assumption))) (fun hHeld => ?_)
 clear hK K
 try simp only [sxA, sxB, sxC, Act.put, sxD, sxE, sxF]
 refine tkA (i := 10) (v := ?_) rfl (fun _ _ _ h => h) (Or.inl ⟨by rfl, ?yl⟩) (by assumption) ?_
 case yl => (intro w hSw; (try dsimp only at hSw); go_simp); with_reducible rfl
 try simp only [sxA, sxB, sxC, Act.put, sxD, sxE, sxF]
 refine wpAnyH_done (by kernel_rfl) ?_ _
 try simp only [sxA, sxB, sxC, Act.put, sxD, sxE, sxF]
 have hcap4 := hid ho4.cap.2
 obtain ⟨a', c', e', hI4⟩ := ho4.slice
 simp only [Value.slice.injEq] at e'
 obtain ⟨rfl, -, rfl⟩ := e'
 replace hI4 := hid hI4
 clear ho4 hHeld
 go_wp2_with fail
 ·go_ret
  exact ⟨_, _, rfl, hI4.out, by have := hcap4.out; omega, hE4⟩
 ·go_ret
  exact ⟨_, _, rfl, hI4.out, by have := hcap4.out; omega, hE4⟩

set_option maxHeartbeats 1000000 in
theorem listedR_cap (b n : Nat) (hb : b < 16) (hn : n ≤ 4) (w : World) :
 Calls Try.prog 50 #[.int .i64 b, .int .i64 n] w fun e w' => ∃ a cap, e = .returned (.slice a (bitsTo b n).length cap) ∧ Ints w' a (bitsTo b n) ∧ (bitsTo b n).length ≤ cap ∧ Ext w w' := by
 go_enter Try.func50, Try.ntmps50
 go_wp2_with fail
 go_loopw [5, 6] (fun s i wr => ∃ k : Nat, k ≤ n ∧ i = .int .i64 k ∧ OwnI wr w.heap.size 3 s (bitsTo b k) ∧ Ext w wr) (fun _ i _ => (n - intOf i).toNat)
 case atStart => exact ⟨0, by omega, rfl, OwnI.nil _ _ _, Ext.refl _⟩
 case round =>
  obtain ⟨k, hk, rfl, ho, hv⟩ := hrel
  by_cases hkl : k < n
  ·have hx := shr_nat b k
   have hx16 : b / 2 ^ k < 16 := Nat.lt_of_le_of_lt (Nat.div_le_self _ _) hb
   have hy := and_one _ hx16
   have ht := hid (testBit_mod b k)
   have hlk := bitsTo_len b k
   have hsz := Ext.size hv
   obtain ⟨x, hxx⟩ : ∃ x, b / 2 ^ k = x := ⟨_, rfl⟩
   rw [hxx] at hx hy hx16 ht
   by_cases h1 : x % 2 = 1
   ·have hst := hid (show bitsTo b (k + 1) = bitsTo b k ++ [(k : Int)] by simp only [bitsTo]; rw [ht.out, if_pos (by simpa using h1)])
    rw [h1] at hy
    replace h1 := hid h1
    obtain ⟨s0, hs0⟩ : ∃ s0, bitsTo b k = s0 := ⟨_, rfl⟩
    rw [hs0] at ho hst hlk
    replace hs0 := hid hs0
    replace hxx := hid hxx
    have hV := hid hv
    clear hv
    go_wp2_with (at_builtin; refine app_int rfl _ _ _ rfl 3 Try.underlying42 elemInt w.heap.size s0 (k : Int) _ rfl _ rfl (ho.ext (by repeat (with_reducible first | assumption | exact Ext.refl _ | refine Ext.drew ?_ | refine Ext.drewN ?_ _ | refine Ext.alloc ?_ _ | refine xS ?_ _ | refine xT ?_ (by assumption)))) ?c1 ?c2 ?c3 ?_; (case c1 => simp [go_sem]); (case c2 => omega); (case c3 => simp; omega); intro b9 cp9 w9 own9 ext9 hb9 g9)
    go_roundw
    case rel => exact ⟨k + 1, by omega, by go_num, by rw [hst.out]; have h := own9; simp only [List.length_append, List.length_singleton] at h; exact h, ext9 w (by have := hV.out; exact (by repeat (with_reducible first | assumption | exact Ext.refl _ | refine Ext.drew ?_ | refine Ext.drewN ?_ _ | refine Ext.alloc ?_ _ | refine xS ?_ _ | refine xT ?_ (by assumption)))) (Nat.le_refl _)⟩
    case measure => simp [intOf]; omega
   ·have hst := hid (show bitsTo b (k + 1) = bitsTo b k by simp only [bitsTo]; rw [ht.out, if_neg (by simpa using h1)])
    have h0 : x % 2 = 0 := by omega
    rw [h0] at hy
    replace h0 := hid h0
    replace h1 := hid h1
    replace hxx := hid hxx
    go_wp2_with fail
    go_roundw
    case rel => exact ⟨k + 1, by omega, by go_num, by rw [hst.out]; exact ho, (by repeat (with_reducible first | assumption | exact Ext.refl _ | refine Ext.drew ?_ | refine Ext.drewN ?_ _ | refine Ext.alloc ?_ _ | refine xS ?_ _ | refine xT ?_ (by assumption)))⟩
    case measure => simp [intOf]; omega
  ·obtain rfl : k = n := by omega
   have hcp := hid (fun a n c (e : u5 = .slice a n c) => (OwnI.cap (e ▸ ho)).2)
   obtain ⟨aa, cc, rfl, hI⟩ := ho.slice
   have hcp := hid (hcp.out _ _ _ rfl)
   go_wp2_with fail
   go_ret
   exact ⟨aa, cc, rfl, hI, hcp.out, (by repeat (with_reducible first | assumption | exact Ext.refl _ | refine Ext.drew ?_ | refine Ext.drewN ?_ _ | refine Ext.alloc ?_ _ | refine xS ?_ _ | refine xT ?_ (by assumption)))⟩

theorem cut_len {t : List (List Int)} {R C : List Nat} (h : R.findIdx (spB t R C) < R.length) : 1 ≤ (cutN R (R.findIdx (spB t R C))).length := by
 have h1 := (findIdx_at h).1
 have hr : R.getD (R.findIdx (spB t R C)) 0 ∈ R := getD_mem h
 rw [cutN_len h]
 generalize R.getD (R.findIdx (spB t R C)) 0 = r at h1 hr
 unfold spB at h1
 rw [List.any_eq_true] at h1
 obtain ⟨o, ho, hb⟩ := h1
 unfold btn at hb
 simp only [Bool.and_eq_true, decide_eq_true_eq] at hb
 rcases Nat.lt_or_ge 1 R.length with g | g
 ·omega
 ·exfalso
  have hl : R.length = 1 := by omega
  obtain ⟨x, hx⟩ := List.length_eq_one_iff.1 hl
  rw [hx, List.mem_singleton] at ho hr
  exact hb.2 (by rw [ho, hr])
theorem left_ne {t : List (List Int)} (v : VldT t) : ∀ k, 1 ≤ (leftN t k).1.length ∧ 1 ≤ (leftN t k).2.length
 | 0 => by simp only [leftN, List.length_range]; exact ⟨v.m1, v.n1⟩
 | k + 1 => by
  have ih := left_ne v k
  show 1 ≤ (stepL t (leftN t k)).1.length ∧ 1 ≤ (stepL t (leftN t k)).2.length
  unfold stepL
  split
  ·rename_i h; exact ⟨cut_len h, ih.2⟩
  ·split
   ·rename_i h; exact ⟨ih.1, cut_len h⟩
   ·exact ih

end Go.Proofs.Ytommhgcgaclflaa
namespace Go.Proofs.Ytommhgcgaclflaa
set_option linter.unusedVariables false
set_option linter.unusedSimpArgs false
set_option linter.unusedSectionVars false
set_option linter.unnecessarySimpa false
open Go Go.RowKit Game
set_option maxRecDepth 100000

theorem shl_oneW : ∀ m : Nat, m ≤ 4 → IntKind.i64.wrap ((2 : Int) ^ m) = ((2 ^ m : Nat) : Int) := by decide +kernel
theorem shl_allW : ∀ m : Nat, m ≤ 4 → IntKind.i64.wrap (((2 ^ m : Nat) : Int) - 1) = ((2 ^ m - 1 : Nat) : Int) := by decide +kernel
theorem range_nat : ∀ m : Nat, m ≤ 4 → bitsTo (2 ^ m - 1) m = nats (List.range m) := by decide +kernel
theorem listedR_all (m : Nat) (hm : m ≤ 4) (w : World) :
 Calls Try.prog 50 #[.int .i64 ((2 ^ m - 1 : Nat)), .int .i64 m] w fun e w' => ∃ a cap, e = .returned (.slice a m cap) ∧ (Ints w' a (nats (List.range m)) ∧ m ≤ cap) ∧ Ext w w' := by
 refine (listedR_cap (2 ^ m - 1) m (all_bits m hm) hm w).mono ?_
 rintro e w' ⟨a, cap, rfl, hI, hc, hE⟩
 have hl : (nats (List.range m)).length = m := by rw [nats_len, List.length_range]
 rw [range_nat m hm] at hI hc ⊢
 rw [hl] at hc ⊢
 exact ⟨a, cap, rfl, ⟨hI, hc⟩, hE⟩

set_option maxHeartbeats 8000000 in
theorem leftR_any (t : List (List Int)) (q : FitT t) (a : Option Addr) (cap : Nat) (w : World) (hT : Tab w a t) (hl : t.length ≤ 1000) (hw : ∀ i, (row t i).length ≤ 1000) :
 Calls Try.prog 39 #[(.agg #[.slice a t.length cap])] w (RetLeft t w) := by
 have hT' := hid hT
 have hw' := hid hw
 have hop := hid (fun W hW => checkTableR_any t q a cap W hW hl hw'.out)
 by_cases hv : chkT t = 0
 case neg =>
  have g1 : (chkT t != 0) = true := by simpa using hv
  have e1 : Hid (leftR t = [] ∧ leftC t = []) := hid (by unfold leftR leftC; rw [if_neg hv, if_neg hv]; exact ⟨rfl, rfl⟩)
  clear hT hv hl hw
  go_enter Try.func39, Try.ntmps39
  go_wp2_with fail
  refine (hop.out _ (hT'.out.ext (by repeat (with_reducible first | assumption | exact Ext.refl _ | refine Ext.drew ?_ | refine Ext.drewN ?_ _ | refine Ext.alloc ?_ _ | refine xS ?_ _ | refine xT ?_ (by assumption))))).mono ?_; rintro e w1 ⟨rfl, hE⟩
  have c0 := hE.cell (p := ⟨w.heap.size, 0, none⟩) (v := .slice a t.length cap) (by simp [go_sem])
  go_wp2_with fail
  refine (hop.out _ (hT'.out.ext (by repeat (with_reducible first | assumption | exact Ext.refl _ | refine Ext.drew ?_ | refine Ext.drewN ?_ _ | refine Ext.alloc ?_ _ | refine xS ?_ _ | refine xT ?_ (by assumption))))).mono ?_; rintro e w2 ⟨rfl, hE2⟩
  go_wp2_with fail
  go_ret3
  exact ⟨none, 0, none, 0, by rw [e1.out.1, e1.out.2]; rfl, by rw [e1.out.1]; exact Ints.nil _ _, by rw [e1.out.2]; exact Ints.nil _ _, (by repeat (with_reducible first | assumption | exact Ext.refl _ | refine Ext.drew ?_ | refine Ext.drewN ?_ _ | refine Ext.alloc ?_ _ | refine xS ?_ _ | refine xT ?_ (by assumption)))⟩
 case pos =>
  have v := chkT_ok.1 hv
  have v2 := turn_vld v
  have m1 := v.m1; have m4 := v.m4; have n1 := v.n1; have n4 := v.n4
  obtain ⟨b, off, rfl, hb, hcc⟩ := hT.at (by omega)
  obtain ⟨ai, ci, r0, _⟩ := hcc 0 (by omega)
  rw [Nat.add_zero] at r0
  rw [show (row t 0).length = wid t from rfl] at r0
  have hLl := hid (LS.left t)
  have hne := hid (left_ne v)
  have hr4 : Hid (∀ k, (leftN t k).1.length ≤ 4 ∧ (leftN t k).2.length ≤ 4) := hid fun k => ⟨ss_len (LS.left t k).rs (LS.left t k).rb m4, ss_len (LS.left t k).cs (LS.left t k).cb n4⟩
  have hpa : Hid (∀ k W ar ac cr cc, Tab W (some ⟨b, off, none⟩) t → Ints W ar (nats (leftN t k).1) → Ints W ac (nats (leftN t k).2) → Calls Try.prog 49 #[(.agg #[.slice (some ⟨b, off, none⟩) t.length cap]), .slice ar (leftN t k).1.length cr, .slice ac (leftN t k).2.length cc] W fun e w' => ∃ a' c', e = .returned (.agg #[.slice a' (leftN t k).1.length c']) ∧ Tab w' a' (ptab t (leftN t k).1 (leftN t k).2) ∧ Ext W w') :=
   hid fun k W ar ac cr cc hW h1 h2 => by
    have h := partR_any t v _ _ (LS.left t k).rb (LS.left t k).cb (by have := (hr4.out k).1; omega) (by have := (hr4.out k).2; omega) _ cap ar ac cr cc W hW h1 h2
    unfold RetT at h
    rw [ptab_len] at h
    exact h
  have hpv : Hid (∀ k, VldT (ptab t (leftN t k).1 (leftN t k).2)) := hid fun k => ptab_vld v (left_ne v k).1 (hr4.out k).1 (left_ne v k).2 (hr4.out k).2
  have hpt : Hid (∀ k, turn (ptab t (leftN t k).1 (leftN t k).2) = ptab (turn t) (leftN t k).2 (leftN t k).1) := hid fun k => turn_ptab (left_ne v k).1 (LS.left t k).rb (LS.left t k).cb
  have hs1 : Hid (∀ k aa cc W, Tab W aa (ptab t (leftN t k).1 (leftN t k).2) → Calls Try.prog 52 #[.agg #[.slice aa (leftN t k).1.length cc]] W fun e w' => e = .returned (.int .i64 (if (leftN t k).1.findIdx (spB t (leftN t k).1 (leftN t k).2) < (leftN t k).1.length then ((leftN t k).1.findIdx (spB t (leftN t k).1 (leftN t k).2) : Nat) else -1)) ∧ Ext W w') :=
   hid fun k aa cc W hW => by
    have h := spareR_any _ (hpv.out k) aa cc W hW
    rw [spI_ptab (left_ne v k).1 (LS.left t k).rs, ptab_len] at h
    exact h
  have ht1 : Hid (∀ k aa cc W, Tab W aa (ptab t (leftN t k).1 (leftN t k).2) → Calls Try.prog 53 #[.agg #[.slice aa (leftN t k).1.length cc]] W fun e w' => ∃ a' c', e = .returned (.agg #[.slice a' (leftN t k).2.length c']) ∧ Tab w' a' (ptab (turn t) (leftN t k).2 (leftN t k).1) ∧ Ext W w') :=
   hid fun k aa cc W hW => by
    have h := turnedR_any _ (hpv.out k) aa cc W hW
    unfold RetT at h
    rw [hpt.out k, ptab_len, ptab_len] at h
    exact h
  have hs2 : Hid (∀ k aa cc W, Tab W aa (ptab (turn t) (leftN t k).2 (leftN t k).1) → Calls Try.prog 52 #[.agg #[.slice aa (leftN t k).2.length cc]] W fun e w' => e = .returned (.int .i64 (if (leftN t k).2.findIdx (spB (turn t) (leftN t k).2 (leftN t k).1) < (leftN t k).2.length then ((leftN t k).2.findIdx (spB (turn t) (leftN t k).2 (leftN t k).1) : Nat) else -1)) ∧ Ext W w') :=
   hid fun k aa cc W hW => by
    have h := spareR_any _ (ptab_vld v2 (left_ne v k).2 (hr4.out k).2 (left_ne v k).1 (hr4.out k).1) aa cc W hW
    rw [spI_ptab (left_ne v k).2 (LS.left t k).cs, ptab_len] at h
    exact h
  have hwo := hid (fun (l : List Nat) p hp hl a cap hc W hI => withoutR_any l p hp hl a cap hc W hI)
  have hst : Hid (∀ k, leftN t (k + 1) = stepL t (leftN t k)) := hid fun k => rfl
  have h00 : Hid (leftN t 0 = (List.range t.length, List.range (wid t))) := hid rfl
  have e1 : Hid (leftR t = nats (leftN t 8).1 ∧ leftC t = nats (leftN t 8).2) := hid (by unfold leftR leftC; rw [if_pos hv, if_pos hv]; exact ⟨rfl, rfl⟩)
  have hl1 := hid (fun W => listedR_all t.length m4 W)
  have hl2 := hid (fun W => listedR_all (wid t) n4 W)
  have z1 := shl_oneW _ m4
  have z2 := shl_oneW _ n4
  have z3 := shl_allW _ m4
  have z4 := shl_allW _ n4
  obtain ⟨P, hP⟩ : ∃ P, (2 ^ t.length - 1 : Nat) = P := ⟨_, rfl⟩
  obtain ⟨P2, hP2⟩ : ∃ P, (2 ^ wid t - 1 : Nat) = P := ⟨_, rfl⟩
  obtain ⟨Q1, hQ1⟩ : ∃ P, (2 ^ t.length : Nat) = P := ⟨_, rfl⟩
  obtain ⟨Q2, hQ2⟩ : ∃ P, (2 ^ wid t : Nat) = P := ⟨_, rfl⟩
  rw [hP] at hl1 z3
  rw [hP2] at hl2 z4
  rw [hQ1] at z1 z3
  rw [hQ2] at z2 z4
  replace hP := hid hP
  replace hP2 := hid hP2
  replace hQ1 := hid hQ1
  replace hQ2 := hid hQ2
  have hlen0 : Hid ((leftN t 0).1.length = t.length ∧ (leftN t 0).2.length = wid t) := hid (by rw [h00.out]; simp)
  obtain ⟨m, hm⟩ : ∃ m, t.length = m := ⟨_, rfl⟩
  obtain ⟨n, hn⟩ : ∃ n, wid t = n := ⟨_, rfl⟩
  rw [hm] at m1 m4 hop hl1 hlen0 z1 hpa h00 ⊢
  rw [hn] at n1 n4 hl2 hlen0 z2 r0 h00
  replace hm := hid hm
  replace hn := hid hn
  have ec := hid hv
  rw [ec.out] at hop
  have hm0 : 0 < m := by omega
  have hm00 : (0 : Int) < (m : Int) := by omega
  clear hT hv v v2 hcc hl hw hpv hpt hb
  go_enter Try.func39, Try.ntmps39
  go_wp2_with fail
  refine (hop.out _ (hT'.out.ext (by repeat (with_reducible first | assumption | exact Ext.refl _ | refine Ext.drew ?_ | refine Ext.drewN ?_ _ | refine Ext.alloc ?_ _ | refine xS ?_ _ | refine xT ?_ (by assumption))))).mono ?_; rintro e w1 ⟨rfl, hE⟩
  have c0 := hE.cell (p := ⟨w.heap.size, 0, none⟩) (v := .slice (some ⟨b, off, none⟩) m cap) (by simp [go_sem])
  have X := hid (show Ext w w1 from (by repeat (with_reducible first | assumption | exact Ext.refl _ | refine Ext.drew ?_ | refine Ext.drewN ?_ _ | refine Ext.alloc ?_ _ | refine xS ?_ _ | refine xT ?_ (by assumption))))
  have r0 := X.out.cell r0
  obtain ⟨Bx, hBx⟩ : ∃ B, w.heap.size = B := ⟨_, rfl⟩
  rw [hBx] at c0 ⊢
  replace hBx := hid hBx
  clear hE
  go_wp2_with fail
  refine name_act (fun A_ hA_ => ?_)
  obtain ⟨Q2, hQ2⟩ : ∃ Q2 : Exit → Act → World → Prop, Q2 = fun e a' w' => e = .normal ∧ ∃ (ar : Option Addr) (cr : Nat) (ac : Option Addr) (cc : Nat) (v0_ v1_ v2_ v3_ v4_ v5_ v6_ v7_ v9_ v10_ v11_ v12_ v13_ v14_ v15_ v16_ v17_ v18_ v19_ v20_ : Value), a' = ((((((((((((((((((((((((A_.put (some 16) (v0_)).put (some 17) (v1_)).put (some 18) (v2_)).put (some 19) (v3_)).put (some 20) (v4_)).put (some 21) (v5_)).put (some 22) (v6_)).put (some 23) (v7_)).put (some 24) (.slice ar m cr)).put (some 25) (v9_)).put (some 26) (v10_)).put (some 27) (v11_)).put (some 28) (v12_)).put (some 29) (v13_)).put (some 30) (v14_)).put (some 31) (v15_)).put (some 32) (v16_)).put (some 33) (v17_)).put (some 34) (v18_)).put (some 35) (v19_)).put (some 36) (v20_)).put (some 37) (.slice ac n cc)).put (some 5) (.slice ar m cr)).put (some 6) (.slice ac n cc)) ∧ Ext w1 w' ∧ (Ints w' ar (nats (List.range m)) ∧ m ≤ cr) ∧ (Ints w' ac (nats (List.range n)) ∧ n ≤ cc) := ⟨_, rfl⟩
  have hpan : ∀ c a a' w w', Q2 (.panic c) a w → Q2 (.panic c) a' w' := by rw [hQ2]; rintro c a a' w w' ⟨h, _⟩; cases h
  replace hQ2 := hid hQ2
  refine wp_mono (Q := Q2) ?_ ?_
  ·subst hA_
   refine wp_region_held_drew (S := fun w' => Ext w1 w') (by kernel_rfl) (by repeat (with_reducible first | assumption | exact Ext.refl _ | refine Ext.drew ?_ | refine Ext.drewN ?_ _ | refine Ext.alloc ?_ _ | refine xS ?_ _ | refine xT ?_ (by assumption))) fun hHeld => ?_
   refine name_any (fun W0 hW => ?_)
   have s0 : Ext w1 W0 := by rw [hW]; exact hHeld
   clear hW hHeld
   refine tkA (i := 0) (v := ?_) rfl (fun c a w h => hpan c _ _ _ _ h) (Or.inl ⟨by rfl, ?yl⟩) (by assumption) ?_
   case yl => (intro w hSw; (try dsimp only at hSw); have k_0 := Ext.cell hSw c0; have k_1 := Ext.cell hSw r0; go_simp); with_reducible rfl
   try simp only [sxA, sxB, sxC, Act.put, sxD, sxE, sxF]
   refine tkA (i := 1) (v := ?_) rfl (fun c a w h => hpan c _ _ _ _ h) (Or.inl ⟨by rfl, ?yl⟩) (by assumption) ?_
   case yl => (intro w hSw; (try dsimp only at hSw); have k_0 := Ext.cell hSw c0; have k_1 := Ext.cell hSw r0; go_simp); with_reducible rfl
   try simp only [sxA, sxB, sxC, Act.put, sxD, sxE, sxF]
   refine tkA (i := 2) (v := ?_) rfl (fun c a w h => hpan c _ _ _ _ h) (Or.inl ⟨by rfl, ?yl⟩) (by assumption) ?_
   case yl => (intro w hSw; (try dsimp only at hSw); have k_0 := Ext.cell hSw c0; have k_1 := Ext.cell hSw r0; go_simp); with_reducible rfl
   try simp only [sxA, sxB, sxC, Act.put, sxD, sxE, sxF]
   refine tkA (i := 3) (v := ?_) rfl (fun c a w h => hpan c _ _ _ _ h) (Or.inl ⟨by rfl, ?yl⟩) (by assumption) ?_
   case yl => (intro w hSw; (try dsimp only at hSw); have k_0 := Ext.cell hSw c0; have k_1 := Ext.cell hSw r0; go_simp); with_reducible rfl
   try simp only [sxA, sxB, sxC, Act.put, sxD, sxE, sxF]
   refine tkA (i := 4) (v := ?_) rfl (fun c a w h => hpan c _ _ _ _ h) (Or.inl ⟨by rfl, ?yl⟩) (by assumption) ?_
   case yl => (intro w hSw; (try dsimp only at hSw); have k_0 := Ext.cell hSw c0; have k_1 := Ext.cell hSw r0; go_simp); with_reducible rfl
   try simp only [sxA, sxB, sxC, Act.put, sxD, sxE, sxF]
   refine tkA (i := 5) (v := ?_) rfl (fun c a w h => hpan c _ _ _ _ h) (Or.inl ⟨by rfl, ?yl⟩) (by assumption) ?_
   case yl => (intro w hSw; (try dsimp only at hSw); have k_0 := Ext.cell hSw c0; have k_1 := Ext.cell hSw r0; go_simp); with_reducible rfl
   try simp only [sxA, sxB, sxC, Act.put, sxD, sxE, sxF]
   refine tkA (i := 6) (v := ?_) rfl (fun c a w h => hpan c _ _ _ _ h) (Or.inl ⟨by rfl, ?yl⟩) (by assumption) ?_
   case yl => (intro w hSw; (try dsimp only at hSw); have k_0 := Ext.cell hSw c0; have k_1 := Ext.cell hSw r0; go_simp); with_reducible rfl
   try simp only [sxA, sxB, sxC, Act.put, sxD, sxE, sxF]
   refine tkA (i := 7) (v := ?_) rfl (fun c a w h => hpan c _ _ _ _ h) (Or.inl ⟨by rfl, ?yl⟩) (by assumption) ?_
   case yl => (intro w hSw; (try dsimp only at hSw); have k_0 := Ext.cell hSw c0; have k_1 := Ext.cell hSw r0; go_simp); with_reducible rfl
   try simp only [sxA, sxB, sxC, Act.put, sxD, sxE, sxF]
   refine tkA (i := 9) (v := ?_) rfl (fun c a w h => hpan c _ _ _ _ h) (Or.inl ⟨by rfl, ?yl⟩) (by assumption) ?_
   case yl => (intro w hSw; (try dsimp only at hSw); have k_0 := Ext.cell hSw c0; have k_1 := Ext.cell hSw r0; go_simp); with_reducible rfl
   try simp only [sxA, sxB, sxC, Act.put, sxD, sxE, sxF]
   refine tkA (i := 10) (v := ?_) rfl (fun c a w h => hpan c _ _ _ _ h) (Or.inl ⟨by rfl, ?yl⟩) (by assumption) ?_
   case yl => (intro w hSw; (try dsimp only at hSw); have k_0 := Ext.cell hSw c0; have k_1 := Ext.cell hSw r0; go_simp); with_reducible rfl
   try simp only [sxA, sxB, sxC, Act.put, sxD, sxE, sxF]
   refine tkA (i := 11) (v := ?_) rfl (fun c a w h => hpan c _ _ _ _ h) (Or.inl ⟨by rfl, ?yl⟩) (by assumption) ?_
   case yl => (intro w hSw; (try dsimp only at hSw); have k_0 := Ext.cell hSw c0; have k_1 := Ext.cell hSw r0; go_simp); with_reducible rfl
   try simp only [sxA, sxB, sxC, Act.put, sxD, sxE, sxF]
   refine tkA (i := 12) (v := ?_) rfl (fun c a w h => hpan c _ _ _ _ h) (Or.inl ⟨by rfl, ?yl⟩) (by assumption) ?_
   case yl => (intro w hSw; (try dsimp only at hSw); have k_0 := Ext.cell hSw c0; have k_1 := Ext.cell hSw r0; go_simp); with_reducible rfl
   try simp only [sxA, sxB, sxC, Act.put, sxD, sxE, sxF]
   refine tkA (i := 13) (v := ?_) rfl (fun c a w h => hpan c _ _ _ _ h) (Or.inl ⟨by rfl, ?yl⟩) (by assumption) ?_
   case yl => (intro w hSw; (try dsimp only at hSw); have k_0 := Ext.cell hSw c0; have k_1 := Ext.cell hSw r0; go_simp); with_reducible rfl
   try simp only [sxA, sxB, sxC, Act.put, sxD, sxE, sxF]
   refine tkA (i := 14) (v := ?_) rfl (fun c a w h => hpan c _ _ _ _ h) (Or.inl ⟨by rfl, ?yl⟩) (by assumption) ?_
   case yl => (intro w hSw; (try dsimp only at hSw); have k_0 := Ext.cell hSw c0; have k_1 := Ext.cell hSw r0; go_simp); with_reducible rfl
   try simp only [sxA, sxB, sxC, Act.put, sxD, sxE, sxF]
   refine tkA (i := 15) (v := ?_) rfl (fun c a w h => hpan c _ _ _ _ h) (Or.inl ⟨by rfl, ?yl⟩) (by assumption) ?_
   case yl => (intro w hSw; (try dsimp only at hSw); have k_0 := Ext.cell hSw c0; have k_1 := Ext.cell hSw r0; go_simp); with_reducible rfl
   try simp only [sxA, sxB, sxC, Act.put, sxD, sxE, sxF]
   refine tkA (i := 16) (v := ?_) rfl (fun c a w h => hpan c _ _ _ _ h) (Or.inl ⟨by rfl, ?yl⟩) (by assumption) ?_
   case yl => (intro w hSw; (try dsimp only at hSw); have k_0 := Ext.cell hSw c0; have k_1 := Ext.cell hSw r0; go_simp); with_reducible rfl
   try simp only [sxA, sxB, sxC, Act.put, sxD, sxE, sxF]
   refine tkA (i := 17) (v := ?_) rfl (fun c a w h => hpan c _ _ _ _ h) (Or.inl ⟨by rfl, ?yl⟩) (by assumption) ?_
   case yl => (intro w hSw; (try dsimp only at hSw); have k_0 := Ext.cell hSw c0; have k_1 := Ext.cell hSw r0; go_simp); with_reducible rfl
   try simp only [sxA, sxB, sxC, Act.put, sxD, sxE, sxF]
   refine tkA (i := 18) (v := ?_) rfl (fun c a w h => hpan c _ _ _ _ h) (Or.inl ⟨by rfl, ?yl⟩) (by assumption) ?_
   case yl => (intro w hSw; (try dsimp only at hSw); have k_0 := Ext.cell hSw c0; have k_1 := Ext.cell hSw r0; go_simp); with_reducible rfl
   try simp only [sxA, sxB, sxC, Act.put, sxD, sxE, sxF]
   refine tkA (i := 19) (v := ?_) rfl (fun c a w h => hpan c _ _ _ _ h) (Or.inl ⟨by rfl, ?yl⟩) (by assumption) ?_
   case yl => (intro w hSw; (try dsimp only at hSw); have k_0 := Ext.cell hSw c0; have k_1 := Ext.cell hSw r0; go_simp); with_reducible rfl
   try simp only [sxA, sxB, sxC, Act.put, sxD, sxE, sxF]
   refine tkA (i := 20) (v := ?_) rfl (fun c a w h => hpan c _ _ _ _ h) (Or.inl ⟨by rfl, ?yl⟩) (by assumption) ?_
   case yl => (intro w hSw; (try dsimp only at hSw); have k_0 := Ext.cell hSw c0; have k_1 := Ext.cell hSw r0; go_simp); with_reducible rfl
   try simp only [sxA, sxB, sxC, Act.put, sxD, sxE, sxF]
   refine wpAnyH_ready (rs := [8]) (by kernel_rfl) (by simp) ?_
   refine AllReadyH.cons (o := _) rfl (fun K hK => ?_) AllReadyH.nil
   go_simp
   try rw [z1, z3]
   refine (hl1.out _).mono ?_; rintro e W1 ⟨ar, cr, rfl, hI_, e1⟩
   have s1 := s0.trans e1
   have hI := hid hI_; clear hI_
   refine hK.out _ _ s1 (fun _ => ?_)
   clear hK K
   (try simp only [sxA, sxB, sxC, Act.put, sxD, sxE, sxF])
   refine wpAnyH_ready (rs := [21]) (by kernel_rfl) (by simp) ?_
   refine AllReadyH.cons (o := _) rfl (fun K hK => ?_) AllReadyH.nil
   go_simp
   try rw [z2, z4]
   refine (hl2.out _).mono ?_; rintro e W2 ⟨ac, cc, rfl, hJ_, e2⟩
   have s2 := s1.trans e2
   have hJ := hid hJ_; clear hJ_
   refine hK.out _ _ s2 (fun _ => ?_)
   clear hK K
   (try simp only [sxA, sxB, sxC, Act.put, sxD, sxE, sxF])
   refine tkA (i := 22) (v := ?_) rfl (fun c a w h => hpan c _ _ _ _ h) (Or.inl ⟨by rfl, ?yl⟩) (by assumption) ?_
   case yl => (intro w hSw; (try dsimp only at hSw); have k_0 := Ext.cell hSw c0; have k_1 := Ext.cell hSw r0; go_simp); with_reducible rfl
   try simp only [sxA, sxB, sxC, Act.put, sxD, sxE, sxF]
   refine tkA (i := 23) (v := ?_) rfl (fun c a w h => hpan c _ _ _ _ h) (Or.inl ⟨by rfl, ?yl⟩) (by assumption) ?_
   case yl => (intro w hSw; (try dsimp only at hSw); have k_0 := Ext.cell hSw c0; have k_1 := Ext.cell hSw r0; go_simp); with_reducible rfl
   try simp only [sxA, sxB, sxC, Act.put, sxD, sxE, sxF]
   refine wpAnyH_done (by kernel_rfl) ?_ _
   try simp only [sxA, sxB, sxC, Act.put, sxD, sxE, sxF]
   rw [hQ2.out]
   refine ⟨rfl, ar, cr, ac, cc, ?u1_0_1, ?u1_1_1, ?u1_2_1, ?u1_3_1, ?u1_4_1, ?u1_5_1, ?u1_6_1, ?u1_7_1, ?u1_8_1, ?u1_9_1, ?u1_10_1, ?u1_11_1, ?u1_12_1, ?u1_13_1, ?u1_14_1, ?u1_15_1, ?u1_16_1, ?u1_17_1, ?u1_18_1, ?u1_19_1, ?eq1_1, s2, (⟨hI.out.1.ext ((Ext.refl W1).trans e2), hI.out.2⟩), (⟨hJ.out.1.ext (Ext.refl W2), hJ.out.2⟩)⟩
   case eq1_1 => ((try simp only [sxA, sxB, sxC, Act.put, sxD, sxE, sxF]); first | done | with_reducible rfl | rfl)
  rw [hQ2.out]
  rintro e a' w2 ⟨rfl, ar, cr, ac, cc, v0_, v1_, v2_, v3_, v4_, v5_, v6_, v7_, v9_, v10_, v11_, v12_, v13_, v14_, v15_, v16_, v17_, v18_, v19_, v20_, rfl, x, hI, hJ⟩
  clear hQ2 hpan; clear Q2
  subst hA_
  simp only [sxA, sxB, sxC, Act.put, sxD, sxE, sxF]
  obtain ⟨hI, hcr⟩ := hI
  obtain ⟨hJ, hcc⟩ := hJ
  have x2 := hid x
  have hI0 := hid hI
  have hJ0 := hid hJ
  have C0 := hid c0
  clear x hI hJ hl1 hl2 z1 z2 z3 z4 c0 r0 hm00
  go_wp2_with fail
  go_loopw [5, 6, 7] (fun rs cs i wr => ∃ (k : Nat) (ar ac : Option Addr) (cr cc : Nat), k ≤ 8 ∧ i = .int .i64 k ∧ rs = .slice ar (leftN t k).1.length cr ∧ cs = .slice ac (leftN t k).2.length cc ∧ Hid (Ints wr ar (nats (leftN t k).1)) ∧ Hid (Ints wr ac (nats (leftN t k).2)) ∧ Hid ((leftN t k).1.length ≤ cr ∧ (leftN t k).2.length ≤ cc) ∧ Hid (Ext w1 wr)) (fun _ _ i _ => (8 - intOf i).toNat)
  case atStart => exact ⟨0, ar, ac, cr, cc, by omega, rfl, by rw [hlen0.out.1], by rw [hlen0.out.2], hid (by rw [h00.out]; exact hI0.out), hid (by rw [h00.out]; exact hJ0.out), hid (by rw [hlen0.out.1, hlen0.out.2]; exact ⟨hcr, hcc⟩), x2⟩
  case round =>
   clear hI0 hJ0 hcr hcc x2 hlen0 h00
   obtain ⟨k, ar, ac, cr, cc, hk, rfl, rfl, rfl, hI, hJ, hcp, hx⟩ := hrel
   have q0 := hx.out.cell C0.out
   by_cases hkl : k < 8
   ·skip
    have hpk := hid (hpa.out k)
    have hsk := hid (hs1.out k)
    have htk := hid (ht1.out k)
    have hck := hid (hs2.out k)
    have hstk := hid (hst.out k)
    have h4 := hid (hr4.out k)
    have hpr : leftN t k = ((leftN t k).1, (leftN t k).2) := rfl
    rw [hpr] at hstk
    obtain ⟨R, hR⟩ : ∃ x, (leftN t k).1 = x := ⟨_, rfl⟩
    obtain ⟨C, hC⟩ : ∃ x, (leftN t k).2 = x := ⟨_, rfl⟩
    rw [hR, hC] at hpk hsk htk hck hstk h4 hcp
    rw [hR] at hI ⊢
    rw [hC] at hJ ⊢
    replace hR := hid hR
    replace hC := hid hC
    clear hpr
    obtain ⟨fr, hfr⟩ : ∃ x, R.findIdx (spB t R C) = x := ⟨_, rfl⟩
    obtain ⟨fc, hfc⟩ : ∃ x, C.findIdx (spB (turn t) C R) = x := ⟨_, rfl⟩
    have hstp : Hid (leftN t (k + 1) = if fr < R.length then (cutN R fr, C) else if fc < C.length then (R, cutN C fc) else (R, C)) := hid (by rw [hstk.out]; unfold stepL; dsimp only; rw [hfr, hfc])
    rw [hfr] at hsk
    rw [hfc] at hck
    replace hfr := hid hfr
    replace hfc := hid hfc
    obtain ⟨w3, rfl⟩ : ∃ w4 : World, w4 = wr := ⟨_, rfl⟩
    have hX := hid (X.out.trans hx.out)
    have hwr := hid (fun p hp aa cp hc W hW => hwo.out R p hp (by have := h4.out.1; omega) aa cp hc W hW)
    have hwc := hid (fun p hp aa cp hc W hW => hwo.out C p hp (by have := h4.out.2; omega) aa cp hc W hW)
    have hcr := hid hcp.out.1
    have hcc := hid hcp.out.2
    obtain ⟨rl, hrl⟩ : ∃ x, R.length = x := ⟨_, rfl⟩
    obtain ⟨cl, hcl⟩ : ∃ x, C.length = x := ⟨_, rfl⟩
    rw [hrl, hcl] at hstp hpk h4
    rw [hrl] at hsk htk hwr hcr ⊢
    rw [hcl] at hck htk hwc hcc ⊢
    have hkl2 : (k : Int) < 8 := by omega
    have u2 := Go.IntWalk.i64_in ((k : Int) + 1) (by omega)
    clear hstk hcp
    by_cases hf : fr < rl
    ·rw [if_pos hf] at hsk hstp
     obtain ⟨cw, hcw⟩ : ∃ x : Int, (if fc < cl then (fc : Int) else -1) = x := ⟨_, rfl⟩
     rw [hcw] at hck
     replace hcw := hid hcw
     go_wp2_with fail
     refine (hpk.out _ _ _ _ _ (hT'.out.ext (hX.out.trans (by repeat (with_reducible first | assumption | exact Ext.refl _ | refine Ext.drew ?_ | refine Ext.drewN ?_ _ | refine Ext.alloc ?_ _ | refine xS ?_ _ | refine xT ?_ (by assumption))))) (hI.out.ext (by repeat (with_reducible first | assumption | exact Ext.refl _ | refine Ext.drew ?_ | refine Ext.drewN ?_ _ | refine Ext.alloc ?_ _ | refine xS ?_ _ | refine xT ?_ (by assumption)))) (hJ.out.ext (by repeat (with_reducible first | assumption | exact Ext.refl _ | refine Ext.drew ?_ | refine Ext.drewN ?_ _ | refine Ext.alloc ?_ _ | refine xS ?_ _ | refine xT ?_ (by assumption))))).mono ?_; rintro e w4 ⟨pa, pc, rfl, hTp, hE4⟩
     have y4 := hid (show Ext w3 w4 from (by repeat (with_reducible first | assumption | exact Ext.refl _ | refine Ext.drew ?_ | refine Ext.drewN ?_ _ | refine Ext.alloc ?_ _ | refine xS ?_ _ | refine xT ?_ (by assumption))))
     replace hTp := hid hTp
     clear hE4
     go_wp2_with fail
     refine name_wp (fun w5 hw5 => ?_)
     have y5 := hid (show Ext w4 w5 by rw [hw5]; exact (by repeat (with_reducible first | assumption | exact Ext.refl _ | refine Ext.drew ?_ | refine Ext.drewN ?_ _ | refine Ext.alloc ?_ _ | refine xS ?_ _ | refine xT ?_ (by assumption))))
     have p0 : w5.cell? ⟨w4.heap.size, 0, none⟩ = some (.slice pa rl pc) := by rw [hw5]; simp [go_sem]
     replace hTp := hid (hTp.out.ext y5.out)
     clear hw5
     obtain ⟨Bp, hBp⟩ : ∃ B, w4.heap.size = B := ⟨_, rfl⟩
     rw [hBp] at p0 ⊢
     replace hBp := hid hBp
     refine name_act (fun A_ hA_ => ?_)
     obtain ⟨Q2, hQ2⟩ : ∃ Q2 : Exit → Act → World → Prop, Q2 = fun e a' w' => e = .normal ∧ ∃ (ta : Option Addr) (tc : Nat) (v0_ v2_ : Value), a' = (((((((A_.put (some 46) (v0_)).put (some 47) (.int .i64 (fr : Nat))).put (some 48) (v2_)).put (some 49) (.agg #[.slice ta cl tc])).put (some 50) (.int .i64 cw)).put (some 9) (.int .i64 (fr : Nat))).put (some 10) (.int .i64 cw)) ∧ Ext w5 w' ∧ Tab w' ta (ptab (turn t) C R) := ⟨_, rfl⟩
     have hpan : ∀ c a a' w w', Q2 (.panic c) a w → Q2 (.panic c) a' w' := by rw [hQ2]; rintro c a a' w w' ⟨h, _⟩; cases h
     replace hQ2 := hid hQ2
     refine wp_mono (Q := Q2) ?_ ?_
     ·subst hA_
      refine wp_region_held_drew (S := fun w' => Ext w5 w') (by kernel_rfl) (by repeat (with_reducible first | assumption | exact Ext.refl _ | refine Ext.drew ?_ | refine Ext.drewN ?_ _ | refine Ext.alloc ?_ _ | refine xS ?_ _ | refine xT ?_ (by assumption))) fun hHeld => ?_
      refine name_any (fun W0 hW => ?_)
      have s0 : Ext w5 W0 := by rw [hW]; exact hHeld
      clear hW hHeld
      refine tkA (i := 0) (v := ?_) rfl (fun c a w h => hpan c _ _ _ _ h) (Or.inl ⟨by rfl, ?yl⟩) (by assumption) ?_
      case yl => (intro w hSw; (try dsimp only at hSw); have k_0 := Ext.cell hSw p0; go_simp); with_reducible rfl
      try simp only [sxA, sxB, sxC, Act.put, sxD, sxE, sxF]
      refine tkA (i := 2) (v := ?_) rfl (fun c a w h => hpan c _ _ _ _ h) (Or.inl ⟨by rfl, ?yl⟩) (by assumption) ?_
      case yl => (intro w hSw; (try dsimp only at hSw); have k_0 := Ext.cell hSw p0; go_simp); with_reducible rfl
      try simp only [sxA, sxB, sxC, Act.put, sxD, sxE, sxF]
      refine wpAnyH_ready (rs := [1]) (by kernel_rfl) (by simp) ?_
      refine AllReadyH.cons (o := _) rfl (fun K hK => ?_) AllReadyH.nil
      go_simp
      refine (hsk.out _ _ _ (hTp.out.ext s0)).mono ?_; rintro e W1 ⟨rfl, e1⟩
      have s1 := s0.trans e1
      refine hK.out _ _ s1 (fun _ => ?_)
      clear hK K
      (try simp only [sxA, sxB, sxC, Act.put, sxD, sxE, sxF])
      refine wpAnyH_ready (rs := [3]) (by kernel_rfl) (by simp) ?_
      refine AllReadyH.cons (o := _) rfl (fun K hK => ?_) AllReadyH.nil
      go_simp
      refine (htk.out _ _ _ (hTp.out.ext s1)).mono ?_; rintro e W2 ⟨ta, tc, rfl, hTt_, e2⟩
      have s2 := s1.trans e2
      have hTt := hid hTt_; clear hTt_
      refine hK.out _ _ s2 (fun _ => ?_)
      clear hK K
      (try simp only [sxA, sxB, sxC, Act.put, sxD, sxE, sxF])
      refine wpAnyH_ready (rs := [4]) (by kernel_rfl) (by simp) ?_
      refine AllReadyH.cons (o := _) rfl (fun K hK => ?_) AllReadyH.nil
      go_simp
      refine (hck.out _ _ _ hTt.out).mono ?_; rintro e W3 ⟨rfl, e3⟩
      have s3 := s2.trans e3
      refine hK.out _ _ s3 (fun _ => ?_)
      clear hK K
      (try simp only [sxA, sxB, sxC, Act.put, sxD, sxE, sxF])
      refine tkA (i := 5) (v := ?_) rfl (fun c a w h => hpan c _ _ _ _ h) (Or.inl ⟨by rfl, ?yl⟩) (by assumption) ?_
      case yl => (intro w hSw; (try dsimp only at hSw); have k_0 := Ext.cell hSw p0; go_simp); with_reducible rfl
      try simp only [sxA, sxB, sxC, Act.put, sxD, sxE, sxF]
      refine tkA (i := 6) (v := ?_) rfl (fun c a w h => hpan c _ _ _ _ h) (Or.inl ⟨by rfl, ?yl⟩) (by assumption) ?_
      case yl => (intro w hSw; (try dsimp only at hSw); have k_0 := Ext.cell hSw p0; go_simp); with_reducible rfl
      try simp only [sxA, sxB, sxC, Act.put, sxD, sxE, sxF]
      refine wpAnyH_done (by kernel_rfl) ?_ _
      try simp only [sxA, sxB, sxC, Act.put, sxD, sxE, sxF]
      rw [hQ2.out]
      refine ⟨rfl, ta, tc, ?u2_0_1, ?u2_1_1, ?eq2_1, s3, (hTt.out.ext ((Ext.refl W2).trans e3))⟩
      case eq2_1 => ((try simp only [sxA, sxB, sxC, Act.put, sxD, sxE, sxF]); first | done | with_reducible rfl | rfl)
     rw [hQ2.out]
     rintro e a' w6 ⟨rfl, ta, tc, v0_, v2_, rfl, x, hTt⟩
     clear hQ2 hpan; clear Q2
     subst hA_
     simp only [sxA, sxB, sxC, Act.put, sxD, sxE, sxF]
     have y6 := hid (y4.out.trans (y5.out.trans x))
     clear hTt p0 x
     have hf0 : (0 : Int) ≤ (fr : Int) := by omega
     go_wp2_with fail
     refine (hwr.out fr hf _ _ hcr.out _ (hI.out.ext (y6.out.trans (by repeat (with_reducible first | assumption | exact Ext.refl _ | refine Ext.drew ?_ | refine Ext.drewN ?_ _ | refine Ext.alloc ?_ _ | refine xS ?_ _ | refine xT ?_ (by assumption)))))).mono ?_; rintro e w7 ⟨a7, c7, rfl, hI7, hc7, hE7⟩
     have y7 := hid (y6.out.trans (show Ext w6 w7 from (by repeat (with_reducible first | assumption | exact Ext.refl _ | refine Ext.drew ?_ | refine Ext.drewN ?_ _ | refine Ext.alloc ?_ _ | refine xS ?_ _ | refine xT ?_ (by assumption)))))
     replace hI7 := hid hI7
     replace hc7 := hid hc7
     clear hE7
     go_wp2_with fail
     go_roundw
     case rel => exact ⟨k + 1, a7, ac, c7, cc, by omega, by go_num, by rw [hstp.out], by rw [hstp.out, ← hcl], by rw [hstp.out]; exact hI7, by rw [hstp.out]; exact hid (hJ.out.ext y7.out), by rw [hstp.out]; exact hid ⟨hc7.out, by rw [hcl]; exact hcc.out⟩, hid (hx.out.trans y7.out)⟩
     case measure => simp [intOf]; omega
    ·rw [if_neg hf] at hsk hstp
     by_cases hg : fc < cl
     ·rw [if_pos hg] at hck hstp
      go_wp2_with fail
      refine (hpk.out _ _ _ _ _ (hT'.out.ext (hX.out.trans (by repeat (with_reducible first | assumption | exact Ext.refl _ | refine Ext.drew ?_ | refine Ext.drewN ?_ _ | refine Ext.alloc ?_ _ | refine xS ?_ _ | refine xT ?_ (by assumption))))) (hI.out.ext (by repeat (with_reducible first | assumption | exact Ext.refl _ | refine Ext.drew ?_ | refine Ext.drewN ?_ _ | refine Ext.alloc ?_ _ | refine xS ?_ _ | refine xT ?_ (by assumption)))) (hJ.out.ext (by repeat (with_reducible first | assumption | exact Ext.refl _ | refine Ext.drew ?_ | refine Ext.drewN ?_ _ | refine Ext.alloc ?_ _ | refine xS ?_ _ | refine xT ?_ (by assumption))))).mono ?_; rintro e w4 ⟨pa, pc, rfl, hTp, hE4⟩
      have y4 := hid (show Ext w3 w4 from (by repeat (with_reducible first | assumption | exact Ext.refl _ | refine Ext.drew ?_ | refine Ext.drewN ?_ _ | refine Ext.alloc ?_ _ | refine xS ?_ _ | refine xT ?_ (by assumption))))
      replace hTp := hid hTp
      clear hE4
      go_wp2_with fail
      refine name_wp (fun w5 hw5 => ?_)
      have y5 := hid (show Ext w4 w5 by rw [hw5]; exact (by repeat (with_reducible first | assumption | exact Ext.refl _ | refine Ext.drew ?_ | refine Ext.drewN ?_ _ | refine Ext.alloc ?_ _ | refine xS ?_ _ | refine xT ?_ (by assumption))))
      have p0 : w5.cell? ⟨w4.heap.size, 0, none⟩ = some (.slice pa rl pc) := by rw [hw5]; simp [go_sem]
      replace hTp := hid (hTp.out.ext y5.out)
      clear hw5
      obtain ⟨Bp, hBp⟩ : ∃ B, w4.heap.size = B := ⟨_, rfl⟩
      rw [hBp] at p0 ⊢
      replace hBp := hid hBp
      refine name_act (fun A_ hA_ => ?_)
      obtain ⟨Q2, hQ2⟩ : ∃ Q2 : Exit → Act → World → Prop, Q2 = fun e a' w' => e = .normal ∧ ∃ (ta : Option Addr) (tc : Nat) (v0_ v2_ : Value), a' = (((((((A_.put (some 46) (v0_)).put (some 47) (.int .i64 (-1))).put (some 48) (v2_)).put (some 49) (.agg #[.slice ta cl tc])).put (some 50) (.int .i64 (fc : Nat))).put (some 9) (.int .i64 (-1))).put (some 10) (.int .i64 (fc : Nat))) ∧ Ext w5 w' ∧ Tab w' ta (ptab (turn t) C R) := ⟨_, rfl⟩
      have hpan : ∀ c a a' w w', Q2 (.panic c) a w → Q2 (.panic c) a' w' := by rw [hQ2]; rintro c a a' w w' ⟨h, _⟩; cases h
      replace hQ2 := hid hQ2
      refine wp_mono (Q := Q2) ?_ ?_
      ·subst hA_
       refine wp_region_held_drew (S := fun w' => Ext w5 w') (by kernel_rfl) (by repeat (with_reducible first | assumption | exact Ext.refl _ | refine Ext.drew ?_ | refine Ext.drewN ?_ _ | refine Ext.alloc ?_ _ | refine xS ?_ _ | refine xT ?_ (by assumption))) fun hHeld => ?_
       refine name_any (fun W0 hW => ?_)
       have s0 : Ext w5 W0 := by rw [hW]; exact hHeld
       clear hW hHeld
       refine tkA (i := 0) (v := ?_) rfl (fun c a w h => hpan c _ _ _ _ h) (Or.inl ⟨by rfl, ?yl⟩) (by assumption) ?_
       case yl => (intro w hSw; (try dsimp only at hSw); have k_0 := Ext.cell hSw p0; go_simp); with_reducible rfl
       try simp only [sxA, sxB, sxC, Act.put, sxD, sxE, sxF]
       refine tkA (i := 2) (v := ?_) rfl (fun c a w h => hpan c _ _ _ _ h) (Or.inl ⟨by rfl, ?yl⟩) (by assumption) ?_
       case yl => (intro w hSw; (try dsimp only at hSw); have k_0 := Ext.cell hSw p0; go_simp); with_reducible rfl
       try simp only [sxA, sxB, sxC, Act.put, sxD, sxE, sxF]
       refine wpAnyH_ready (rs := [1]) (by kernel_rfl) (by simp) ?_
       refine AllReadyH.cons (o := _) rfl (fun K hK => ?_) AllReadyH.nil
       go_simp
       refine (hsk.out _ _ _ (hTp.out.ext s0)).mono ?_; rintro e W1 ⟨rfl, e1⟩
       have s1 := s0.trans e1
       refine hK.out _ _ s1 (fun _ => ?_)
       clear hK K
       (try simp only [sxA, sxB, sxC, Act.put, sxD, sxE, sxF])
       refine wpAnyH_ready (rs := [3]) (by kernel_rfl) (by simp) ?_
       refine AllReadyH.cons (o := _) rfl (fun K hK => ?_) AllReadyH.nil
       go_simp
       refine (htk.out _ _ _ (hTp.out.ext s1)).mono ?_; rintro e W2 ⟨ta, tc, rfl, hTt_, e2⟩
       have s2 := s1.trans e2
       have hTt := hid hTt_; clear hTt_
       refine hK.out _ _ s2 (fun _ => ?_)
       clear hK K
       (try simp only [sxA, sxB, sxC, Act.put, sxD, sxE, sxF])
       refine wpAnyH_ready (rs := [4]) (by kernel_rfl) (by simp) ?_
       refine AllReadyH.cons (o := _) rfl (fun K hK => ?_) AllReadyH.nil
       go_simp
       refine (hck.out _ _ _ hTt.out).mono ?_; rintro e W3 ⟨rfl, e3⟩
       have s3 := s2.trans e3
       refine hK.out _ _ s3 (fun _ => ?_)
       clear hK K
       (try simp only [sxA, sxB, sxC, Act.put, sxD, sxE, sxF])
       refine tkA (i := 5) (v := ?_) rfl (fun c a w h => hpan c _ _ _ _ h) (Or.inl ⟨by rfl, ?yl⟩) (by assumption) ?_
       case yl => (intro w hSw; (try dsimp only at hSw); have k_0 := Ext.cell hSw p0; go_simp); with_reducible rfl
       try simp only [sxA, sxB, sxC, Act.put, sxD, sxE, sxF]
       refine tkA (i := 6) (v := ?_) rfl (fun c a w h => hpan c _ _ _ _ h) (Or.inl ⟨by rfl, ?yl⟩) (by assumption) ?_
       case yl => (intro w hSw; (try dsimp only at hSw); have k_0 := Ext.cell hSw p0; go_simp); with_reducible rfl
       try simp only [sxA, sxB, sxC, Act.put, sxD, sxE, sxF]
       refine wpAnyH_done (by kernel_rfl) ?_ _
       try simp only [sxA, sxB, sxC, Act.put, sxD, sxE, sxF]
       rw [hQ2.out]
       refine ⟨rfl, ta, tc, ?u3_0_1, ?u3_1_1, ?eq3_1, s3, (hTt.out.ext ((Ext.refl W2).trans e3))⟩
       case eq3_1 => ((try simp only [sxA, sxB, sxC, Act.put, sxD, sxE, sxF]); first | done | with_reducible rfl | rfl)
      rw [hQ2.out]
      rintro e a' w6 ⟨rfl, ta, tc, v0_, v2_, rfl, x, hTt⟩
      clear hQ2 hpan; clear Q2
      subst hA_
      simp only [sxA, sxB, sxC, Act.put, sxD, sxE, sxF]
      have y6 := hid (y4.out.trans (y5.out.trans x))
      clear hTt p0 x
      have hf0 : (0 : Int) ≤ (fc : Int) := by omega
      go_wp2_with fail
      refine (hwc.out fc hg _ _ hcc.out _ (hJ.out.ext (y6.out.trans (by repeat (with_reducible first | assumption | exact Ext.refl _ | refine Ext.drew ?_ | refine Ext.drewN ?_ _ | refine Ext.alloc ?_ _ | refine xS ?_ _ | refine xT ?_ (by assumption)))))).mono ?_; rintro e w7 ⟨a7, c7, rfl, hI7, hc7, hE7⟩
      have y7 := hid (y6.out.trans (show Ext w6 w7 from (by repeat (with_reducible first | assumption | exact Ext.refl _ | refine Ext.drew ?_ | refine Ext.drewN ?_ _ | refine Ext.alloc ?_ _ | refine xS ?_ _ | refine xT ?_ (by assumption)))))
      replace hI7 := hid hI7
      replace hc7 := hid hc7
      clear hE7
      go_wp2_with fail
      go_roundw
      case rel => exact ⟨k + 1, ar, a7, cr, c7, by omega, by go_num, by rw [hstp.out, ← hrl], by rw [hstp.out], by rw [hstp.out]; exact hid (hI.out.ext y7.out), by rw [hstp.out]; exact hI7, by rw [hstp.out]; exact hid ⟨by rw [hrl]; exact hcr.out, hc7.out⟩, hid (hx.out.trans y7.out)⟩
      case measure => simp [intOf]; omega
     ·rw [if_neg hg] at hck hstp
      go_wp2_with fail
      refine (hpk.out _ _ _ _ _ (hT'.out.ext (hX.out.trans (by repeat (with_reducible first | assumption | exact Ext.refl _ | refine Ext.drew ?_ | refine Ext.drewN ?_ _ | refine Ext.alloc ?_ _ | refine xS ?_ _ | refine xT ?_ (by assumption))))) (hI.out.ext (by repeat (with_reducible first | assumption | exact Ext.refl _ | refine Ext.drew ?_ | refine Ext.drewN ?_ _ | refine Ext.alloc ?_ _ | refine xS ?_ _ | refine xT ?_ (by assumption)))) (hJ.out.ext (by repeat (with_reducible first | assumption | exact Ext.refl _ | refine Ext.drew ?_ | refine Ext.drewN ?_ _ | refine Ext.alloc ?_ _ | refine xS ?_ _ | refine xT ?_ (by assumption))))).mono ?_; rintro e w4 ⟨pa, pc, rfl, hTp, hE4⟩
      have y4 := hid (show Ext w3 w4 from (by repeat (with_reducible first | assumption | exact Ext.refl _ | refine Ext.drew ?_ | refine Ext.drewN ?_ _ | refine Ext.alloc ?_ _ | refine xS ?_ _ | refine xT ?_ (by assumption))))
      replace hTp := hid hTp
      clear hE4
      go_wp2_with fail
      refine name_wp (fun w5 hw5 => ?_)
      have y5 := hid (show Ext w4 w5 by rw [hw5]; exact (by repeat (with_reducible first | assumption | exact Ext.refl _ | refine Ext.drew ?_ | refine Ext.drewN ?_ _ | refine Ext.alloc ?_ _ | refine xS ?_ _ | refine xT ?_ (by assumption))))
      have p0 : w5.cell? ⟨w4.heap.size, 0, none⟩ = some (.slice pa rl pc) := by rw [hw5]; simp [go_sem]
      replace hTp := hid (hTp.out.ext y5.out)
      clear hw5
      obtain ⟨Bp, hBp⟩ : ∃ B, w4.heap.size = B := ⟨_, rfl⟩
      rw [hBp] at p0 ⊢
      replace hBp := hid hBp
      refine name_act (fun A_ hA_ => ?_)
      obtain ⟨Q2, hQ2⟩ : ∃ Q2 : Exit → Act → World → Prop, Q2 = fun e a' w' => e = .normal ∧ ∃ (ta : Option Addr) (tc : Nat) (v0_ v2_ : Value), a' = (((((((A_.put (some 46) (v0_)).put (some 47) (.int .i64 (-1))).put (some 48) (v2_)).put (some 49) (.agg #[.slice ta cl tc])).put (some 50) (.int .i64 (-1))).put (some 9) (.int .i64 (-1))).put (some 10) (.int .i64 (-1))) ∧ Ext w5 w' ∧ Tab w' ta (ptab (turn t) C R) := ⟨_, rfl⟩
      have hpan : ∀ c a a' w w', Q2 (.panic c) a w → Q2 (.panic c) a' w' := by rw [hQ2]; rintro c a a' w w' ⟨h, _⟩; cases h
      replace hQ2 := hid hQ2
      refine wp_mono (Q := Q2) ?_ ?_
      ·subst hA_
       refine wp_region_held_drew (S := fun w' => Ext w5 w') (by kernel_rfl) (by repeat (with_reducible first | assumption | exact Ext.refl _ | refine Ext.drew ?_ | refine Ext.drewN ?_ _ | refine Ext.alloc ?_ _ | refine xS ?_ _ | refine xT ?_ (by assumption))) fun hHeld => ?_
       refine name_any (fun W0 hW => ?_)
       have s0 : Ext w5 W0 := by rw [hW]; exact hHeld
       clear hW hHeld
       refine tkA (i := 0) (v := ?_) rfl (fun c a w h => hpan c _ _ _ _ h) (Or.inl ⟨by rfl, ?yl⟩) (by assumption) ?_
       case yl => (intro w hSw; (try dsimp only at hSw); have k_0 := Ext.cell hSw p0; go_simp); with_reducible rfl
       try simp only [sxA, sxB, sxC, Act.put, sxD, sxE, sxF]
       refine tkA (i := 2) (v := ?_) rfl (fun c a w h => hpan c _ _ _ _ h) (Or.inl ⟨by rfl, ?yl⟩) (by assumption) ?_
       case yl => (intro w hSw; (try dsimp only at hSw); have k_0 := Ext.cell hSw p0; go_simp); with_reducible rfl
       try simp only [sxA, sxB, sxC, Act.put, sxD, sxE, sxF]
       refine wpAnyH_ready (rs := [1]) (by kernel_rfl) (by simp) ?_
       refine AllReadyH.cons (o := _) rfl (fun K hK => ?_) AllReadyH.nil
       go_simp
       refine (hsk.out _ _ _ (hTp.out.ext s0)).mono ?_; rintro e W1 ⟨rfl, e1⟩
       have s1 := s0.trans e1
       refine hK.out _ _ s1 (fun _ => ?_)
       clear hK K
       (try simp only [sxA, sxB, sxC, Act.put, sxD, sxE, sxF])
       refine wpAnyH_ready (rs := [3]) (by kernel_rfl) (by simp) ?_
       refine AllReadyH.cons (o := _) rfl (fun K hK => ?_) AllReadyH.nil
       go_simp
       refine (htk.out _ _ _ (hTp.out.ext s1)).mono ?_; rintro e W2 ⟨ta, tc, rfl, hTt_, e2⟩
       have s2 := s1.trans e2
       have hTt := hid hTt_; clear hTt_
       refine hK.out _ _ s2 (fun _ => ?_)
       clear hK K
       (try simp only [sxA, sxB, sxC, Act.put, sxD, sxE, sxF])
       refine wpAnyH_ready (rs := [4]) (by kernel_rfl) (by simp) ?_
       refine AllReadyH.cons (o := _) rfl (fun K hK => ?_) AllReadyH.nil
       go_simp
       refine (hck.out _ _ _ hTt.out).mono ?_; rintro e W3 ⟨rfl, e3⟩
       have s3 := s2.trans e3
       refine hK.out _ _ s3 (fun _ => ?_)
       clear hK K
       (try simp only [sxA, sxB, sxC, Act.put, sxD, sxE, sxF])
       refine tkA (i := 5) (v := ?_) rfl (fun c a w h => hpan c _ _ _ _ h) (Or.inl ⟨by rfl, ?yl⟩) (by assumption) ?_
       case yl => (intro w hSw; (try dsimp only at hSw); have k_0 := Ext.cell hSw p0; go_simp); with_reducible rfl
       try simp only [sxA, sxB, sxC, Act.put, sxD, sxE, sxF]
       refine tkA (i := 6) (v := ?_) rfl (fun c a w h => hpan c _ _ _ _ h) (Or.inl ⟨by rfl, ?yl⟩) (by assumption) ?_
       case yl => (intro w hSw; (try dsimp only at hSw); have k_0 := Ext.cell hSw p0; go_simp); with_reducible rfl
       try simp only [sxA, sxB, sxC, Act.put, sxD, sxE, sxF]
       refine wpAnyH_done (by kernel_rfl) ?_ _
       try simp only [sxA, sxB, sxC, Act.put, sxD, sxE, sxF]
       rw [hQ2.out]
       refine ⟨rfl, ta, tc, ?u4_0_1, ?u4_1_1, ?eq4_1, s3, (hTt.out.ext ((Ext.refl W2).trans e3))⟩
       case eq4_1 => ((try simp only [sxA, sxB, sxC, Act.put, sxD, sxE, sxF]); first | done | with_reducible rfl | rfl)
      rw [hQ2.out]
      rintro e a' w6 ⟨rfl, ta, tc, v0_, v2_, rfl, x, hTt⟩
      clear hQ2 hpan; clear Q2
      subst hA_
      simp only [sxA, sxB, sxC, Act.put, sxD, sxE, sxF]
      have y6 := hid (y4.out.trans (y5.out.trans x))
      clear hTt p0 x
      go_wp2_with fail
      go_roundw
      case rel => exact ⟨k + 1, ar, ac, cr, cc, by omega, by go_num, by rw [hstp.out, ← hrl], by rw [hstp.out, ← hcl], by rw [hstp.out]; exact hid (hI.out.ext y6.out), by rw [hstp.out]; exact hid (hJ.out.ext y6.out), by rw [hstp.out]; exact hid ⟨by rw [hrl]; exact hcr.out, by rw [hcl]; exact hcc.out⟩, hid (hx.out.trans y6.out)⟩
      case measure => simp [intOf]; omega
   ·have hk8 : k = 8 := by omega
    have hnl : ¬ (k : Int) < 8 := by omega
    rw [hk8] at hI hJ ⊢
    have hX := hid (X.out.trans hx.out)
    have hn8 : ¬ ((8 : Nat) : Int) < 8 := by omega
    clear hk8
    go_wp2_with fail
    go_ret3
    exact ⟨ar, cr, ac, cc, by rw [e1.out.1, e1.out.2, nats_len, nats_len, ec.out]; rfl, by rw [e1.out.1]; exact hI.out, by rw [e1.out.2]; exact hJ.out, hX.out⟩

end Go.Proofs.Ytommhgcgaclflaa
