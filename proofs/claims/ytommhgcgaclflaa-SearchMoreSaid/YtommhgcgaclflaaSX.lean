/- The program's choices: what it yields. -/
import Derived.Test.YtommhgcgaclflaaZB7
import Derived.Test.YtommhgcgaclflaaZB17
import Derived.Test.YtommhgcgaclflaaMapS
import Derived.Test.YtommhgcgaclflaaZB15
import Derived.Test.YtommhgcgaclflaaZB5
import Derived.RangeFuncNested
import Derived.RangeFuncBound
import Derived.RangeFuncCalls
import Derived.RangeFuncLeaves
import Derived.Shelf.Abstract
import Derived.Shelf.RegionOpen
import Derived.OwnWalkIn
import Derived.TacticsInMore
import Derived.LoopNIn
import Derived.LoopIn
import Derived.Sort.LoopGhostIn
import Derived.Sort.QuietIn
namespace Go.Proofs.Ytommhgcgaclflaa
set_option linter.unusedVariables false
set_option linter.unusedSimpArgs false
set_option linter.unusedSectionVars false
set_option linter.unnecessarySimpa false
open Go Go.RowKit Game
set_option maxRecDepth 100000
attribute [local go_sem] Oper.semAt_some

theorem cols_pre (r c : Nat) : ∀ d, c ≤ d → colsTo r c <+: colsTo r d
 | 0, h => by rw [show c = 0 by omega]; exact List.prefix_refl _
 | d + 1, h => by
  by_cases e : c = d + 1
  ·rw [e]; exact List.prefix_refl _
  ·have := cols_pre r c d (by omega)
   simp only [colsTo]
   split
   ·exact this.trans (List.prefix_append _ _)
   ·exact this
theorem rows_pre (n r : Nat) (h0 : 1 ≤ r) : ∀ q, r ≤ q → rowsTo n r <+: rowsTo n q
 | 0, h => by omega
 | q + 1, h => by
  by_cases e : r = q + 1
  ·rw [e]; exact List.prefix_refl _
  ·have := rows_pre n r h0 q (by omega)
   simp only [rowsTo]
   rw [if_neg (by omega)]
   exact this.trans (List.prefix_append _ _)
theorem pre_chs {m n r c : Nat} (h0 : 1 ≤ r) (hr : r < 2 ^ m) (hc : c ≤ 2 ^ n) : rowsTo n r ++ colsTo r c <+: chs m n := by
 have h1 : rowsTo n (r + 1) <+: chs m n := rows_pre n (r + 1) (by omega) _ hr
 have h2 : rowsTo n r ++ colsTo r c <+: rowsTo n (r + 1) := by
  simp only [rowsTo]
  rw [if_neg (by omega)]
  exact (List.prefix_append_right_inj _).2 (cols_pre r c _ hc)
 exact h2.trans h1

structure CF (w : World) (Bx D b off m n cap : Nat) (ai : Option Addr) (ci : Nat) : Prop where
 c0 : w.cell? ⟨Bx, 0, none⟩ = some (.pointer (some ⟨D, 0, none⟩))
 c1 : w.cell? ⟨D, 0, none⟩ = some (.slice (some ⟨b, off, none⟩) m cap)
 c2 : w.cell? ⟨b, off, none⟩ = some (.slice ai n ci)
theorem Dsk.cf {w : World} {D : Nat} {t : List (List Int)} (h : Dsk w D t) (v : VldT t) : ∃ b off cap ai ci, b < w.heap.size ∧ D < w.heap.size ∧ ∀ W Bx, Ext w W → W.cell? ⟨Bx, 0, none⟩ = some (.pointer (some ⟨D, 0, none⟩)) → CF W Bx D b off t.length (wid t) cap ai ci := by
 obtain ⟨a, cap, hc, hT⟩ := h
 have m1 := v.m1
 obtain ⟨b, off, rfl, hb, hcc⟩ := hT.at (by omega)
 obtain ⟨ai, ci, h1, h2⟩ := hcc 0 (by omega)
 exact ⟨b, off, cap, ai, ci, hb, cell_lt hc, fun W Bx hx h0 => ⟨h0, hx.cell hc, hx.cell h1⟩⟩
theorem listed_len (b : Nat) (hb : b < 16) (w : World) : Calls Try.prog 102 #[.int .i64 b] w fun e w' => ∃ a cap, e = .returned (.slice a (bc b) cap) ∧ Ext w w' := by
 refine (listed_own b hb w).mono ?_
 rintro e w' ⟨a, cap, rfl, _, hE⟩
 exact ⟨a, cap, by rw [bitsTo_lst b hb, List.length_map]; rfl, hE⟩

theorem choices_any (D : Nat) (w : World) :
 Calls Try.prog 99 #[.pointer (some ⟨D, 0, none⟩)] w fun e w' => e = .returned (.func (.func 113) #[] #[.pointer (some ⟨w.heap.size, 0, none⟩)]) ∧ w' = w.alloc (.cells #[.pointer (some ⟨D, 0, none⟩)] 72) := by
 go_enter Try.func99, Try.ntmps99
 go_wp2_with fail
 go_ret
 exact ⟨rfl, rfl⟩

set_option maxHeartbeats 4000000 in
theorem choices1_yields (m n nn : Nat) (m4 : m ≤ 4) (n4 : n ≤ 4) (Bx D b off cap : Nat) (ai : Option Addr) (ci : Nat) (hm1 : 1 ≤ m) (hn1 : 1 ≤ n) :
 YieldsE Fence.wide nn Try.prog 113 #[.pointer (some ⟨Bx, 0, none⟩)] (fun x : Nat × Nat => #[kv x]) (fun pre x => pre ++ [x] <+: chs m n) (fun xs => xs = chs m n) (fun pre => pre <+: chs m n)
  (fun W => CF W Bx D b off m n cap ai ci) := by
 intro l J Jx W hJ hN hY h0
 have hst : Hid (J (rowsTo n 1) W) := hid (by simpa [rowsTo] using h0)
 have HJ := hid hJ
 have HN := hid hN
 have HY := hid hY
 have hs1 := shl_one m m4
 have hs2 := shl_one n n4
 have hp1 := pow_le m4
 have hp2 := pow_le n4
 have ht1 : 1 ≤ 2 ^ m := Nat.one_le_two_pow
 have ht2 : 1 ≤ 2 ^ n := Nat.one_le_two_pow
 have hpc := hid (fun r c (h0 : 1 ≤ r) (hr : r < 2 ^ m) (hc : c ≤ 2 ^ n) => pre_chs (m := m) (n := n) h0 hr hc)
 have hend : Hid (chs m n = rowsTo n (2 ^ m)) := hid rfl
 have hrw : Hid (∀ r, 1 ≤ r → rowsTo n (r + 1) = rowsTo n r ++ colsTo r (2 ^ n)) := hid fun r h => by simp only [rowsTo]; rw [if_neg (by omega)]
 obtain ⟨T, hT⟩ : ∃ T, 2 ^ m = T := ⟨_, rfl⟩
 obtain ⟨U, hU⟩ : ∃ U, 2 ^ n = U := ⟨_, rfl⟩
 rw [hT] at hs1 hp1 ht1 hpc hend
 rw [hU] at hs2 hp2 ht2 hpc hrw
 replace hT := hid hT
 replace hU := hid hU
 clear hJ hY h0 hN
 refine callsIn_of_wp Try.func113 rfl trivial ?_ rfl
 simp only [Try.ntmps113, List.size_toArray, List.length_cons, List.length_nil, Nat.reduceAdd, Nat.reduceSub, Array.replicate_succ, Array.replicate_zero, List.push_toArray, List.append_toArray, List.nil_append, List.cons_append]
 gi_wp2
 gi_loopw [3] (fun i wr => ∃ r : Nat, 1 ≤ r ∧ r ≤ T ∧ i = .int .i64 r ∧ Hid (J (rowsTo n r) wr)) (fun i _ => (T - intOf i).toNat)
 case atStart => exact ⟨1, by omega, ht1, rfl, hst⟩
 case round =>
  obtain ⟨r, hr1, hrT, rfl, hit⟩ := hrel
  have hcf := HN.out _ _ hit.out
  have c0 := hcf.c0
  have c1 := hcf.c1
  have c2 := hcf.c2
  clear hcf
  by_cases hlt : r < T
  ·have hcz : Hid (colsTo r 1 = []) := hid (by
    have := (bc_pos (b := r) (by omega)).2 hr1
    simp only [colsTo]
    rw [if_neg]
    have h0 : bc 0 = 0 := by simp [bc, lst_zero]
    omega)
   gi_wp2
   rw [hs1]
   gi_loopw [4] (fun i wr => ∃ c : Nat, 1 ≤ c ∧ c ≤ U ∧ i = .int .i64 c ∧ Hid (J (rowsTo n r ++ colsTo r c) wr)) (fun i _ => (U - intOf i).toNat)
   case atStart => exact ⟨1, by omega, ht2, rfl, by rw [hcz.out, List.append_nil]; exact hit⟩
   case round =>
    obtain ⟨c, hc1, hcU, rfl, hit⟩ := hrel
    have hcf := HN.out _ _ hit.out
    have c0 := hcf.c0
    have c1 := hcf.c1
    have c2 := hcf.c2
    clear hcf
    by_cases hltc : c < U
    ·have hlr := hid (listed_len r (by omega))
     have hlc := hid (listed_len c (by omega))
     have hstep : Hid (colsTo r (c + 1) = if bc r = bc c then colsTo r c ++ [(r, c)] else colsTo r c) := hid rfl
     have hpx := hid (hpc.out r (c + 1) hr1 hlt hltc)
     have hb1 : bc r ≤ 4 := lst_len4 r
     have hb2 : bc c ≤ 4 := lst_len4 c
     obtain ⟨x, hx⟩ : ∃ x, bc r = x := ⟨_, rfl⟩
     obtain ⟨y, hy⟩ : ∃ y, bc c = y := ⟨_, rfl⟩
     rw [hx] at hlr hstep hb1
     rw [hy] at hlc hstep hb2
     replace hx := hid hx
     replace hy := hid hy
     by_cases he : x = y
     ·subst he
      rw [if_pos rfl] at hstep
      rw [hstep.out] at hpx
      gi_wp2_with fail
      refine ⟨trivial, fun h => (by cases h), ?_⟩; refine (callsIn_wide.2 (hlr.out _)).mono ?_; rintro e w1 ⟨a1, k1, rfl, hE1⟩
      gi_wp2_with fail
      refine ⟨trivial, fun h => (by cases h), ?_⟩; refine (callsIn_wide.2 (hlc.out _)).mono ?_; rintro e w2 ⟨a2, k2, rfl, hE2⟩
      have hi2 := hid (HJ.out _ _ _ hit.out (show Ext wr w2 from (by repeat (with_reducible first | assumption | exact Ext.refl _ | refine Ext.drew ?_ | refine Ext.drewN ?_ _ | refine Ext.alloc ?_ _ | refine xS ?_ _ | refine xT ?_ (by assumption)))))
      obtain ⟨fn, tmps, assign, body, hyl, hR⟩ := HY.out (rowsTo n r ++ colsTo r c) (r, c) w2 (by rw [List.append_assoc]; exact hpx.out) hi2.out
      simp only [kv] at hyl
      gi_wp2
      refine ⟨fun h => (by cases h), hR.mono ?_⟩
      rintro e W3 (⟨rfl, hJ3⟩ | ⟨rfl, hJx3⟩)
      ·have hi3 : Hid (J (rowsTo n r ++ colsTo r (c + 1)) W3) := hid (by rw [hstep.out, ← List.append_assoc]; exact hJ3)
       clear hyl hR hi2 hit hJ3 c0 c1 c2
       gi_wp2
       go_roundw
       case rel => exact ⟨c + 1, by omega, by omega, by go_num, hi3⟩
       case measure => simp [intOf]; omega
      ·gi_wp2
       refine bodyPost_ret (results_none rfl _ _ _) rfl ?_
       refine ⟨⟨_, rfl⟩, .inr ⟨rowsTo n r ++ colsTo r c ++ [(r, c)], ?_, hJx3⟩⟩
       rw [List.append_assoc]; exact hpx.out
     ·rw [if_neg he] at hstep
      have hne : ((x : Int) == (y : Int)) = false := by rw [beq_eq_false_iff_ne]; omega
      gi_wp2_with fail
      refine ⟨trivial, fun h => (by cases h), ?_⟩; refine (callsIn_wide.2 (hlr.out _)).mono ?_; rintro e w1 ⟨a1, k1, rfl, hE1⟩
      gi_wp2_with fail
      refine ⟨trivial, fun h => (by cases h), ?_⟩; refine (callsIn_wide.2 (hlc.out _)).mono ?_; rintro e w2 ⟨a2, k2, rfl, hE2⟩
      have hi2 : Hid (J (rowsTo n r ++ colsTo r (c + 1)) w2) := hid (by rw [hstep.out]; exact HJ.out _ _ _ hit.out (show Ext wr w2 from (by repeat (with_reducible first | assumption | exact Ext.refl _ | refine Ext.drew ?_ | refine Ext.drewN ?_ _ | refine Ext.alloc ?_ _ | refine xS ?_ _ | refine xT ?_ (by assumption)))))
      gi_wp2
      refine ⟨fun f h => (by cases h), ?_⟩
      gi_wp2
      go_roundw
      case rel => exact ⟨c + 1, by omega, by omega, by go_num, hi2⟩
      case measure => simp [intOf]; omega
    ·have hcu : c = U := by omega
     have hi2 : Hid (J (rowsTo n (r + 1)) wr) := hid (by rw [hrw.out r hr1, ← hcu]; exact hit.out)
     replace hcu := hid hcu
     clear hit
     gi_wp2
     go_roundw
     case rel => exact ⟨r + 1, by omega, by omega, by go_num, hi2⟩
     case measure => simp [intOf]; omega
  ·have hrt := hid (show r = T by omega)
   gi_wp2
   refine bodyPost_end (results_none rfl _ _ _) rfl ?_
   refine ⟨⟨_, rfl⟩, .inl ⟨rowsTo n r, ?_, hit.out⟩⟩
   rw [hend.out, hrt.out]

end Go.Proofs.Ytommhgcgaclflaa
