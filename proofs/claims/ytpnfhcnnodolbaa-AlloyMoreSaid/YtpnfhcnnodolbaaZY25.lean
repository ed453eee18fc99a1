/- Texts of one proof, laid together: Pi. -/
import Derived.Test.YtpnfhcnnodolbaaZY10
import Derived.Test.YtpnfhcnnodolbaaZY11
import Derived.Test.YtpnfhcnnodolbaaZY18
import Derived.RangeFuncNested
import Derived.RangeFuncBound
import Derived.RangeFuncCalls
import Derived.RangeFuncLeaves
import Derived.Shelf.Abstract
import Derived.Shelf.RegionOpen
import Derived.OwnWalkIn
import Derived.TacticsInMore
import Derived.LoopNIn
import Derived.LoopIn
import Derived.Sort.LoopGhostIn
import Derived.Sort.QuietIn
set_option linter.unusedVariables false
set_option linter.unusedSimpArgs false
set_option linter.unusedSectionVars false
set_option linter.unnecessarySimpa false
set_option maxRecDepth 100000
namespace Go.Proofs.Ytpnfhcnnodolbaa
open Go Go.RowKit Game
attribute [local go_sem] Oper.semAt_some
def bitsTo (b : Nat) : Nat → List Int
 | 0 => []
 | k + 1 => if b.testBit k then bitsTo b k ++ [(k : Int)] else bitsTo b k
theorem bitsTo_len (b k : Nat) : (bitsTo b k).length ≤ k := by
 induction k with
 | zero => simp [bitsTo]
 | succ k ih =>
  simp only [bitsTo]
  split
  ·rw [List.length_append, List.length_singleton]; omega
  ·omega
theorem and_one : ∀ x : Nat, x < 64 → bits BinOp.and IntKind.i64 (x : Int) 1 = ((x % 2 : Nat) : Int) := by decide +kernel
theorem shr_nat (b k : Nat) : (b : Int) / 2 ^ k = ((b / 2 ^ k : Nat) : Int) := by
 rw [Int.natCast_ediv, Int.natCast_pow]; rfl
theorem testBit_mod (b k : Nat) : b.testBit k = decide (b / 2 ^ k % 2 = 1) := Nat.testBit_eq_decide_div_mod_eq
theorem shl_one : ∀ m : Nat, m ≤ 6 → wrap64 ((2 : Int) ^ m) = ((2 ^ m : Nat) : Int) := by decide +kernel
theorem pow_le6 {m : Nat} (h : m ≤ 6) : 2 ^ m ≤ 64 := Nat.pow_le_pow_right (n := 2) (by omega) h
def bitL (n r : Nat) : List Nat := (List.range n).filter fun i => r.testBit i
def chsL (n : Nat) : Nat → List (List Nat)
 | 0 => []
 | k + 1 => if k = 0 then [] else if (bitL n k).length ≤ 3 then chsL n k ++ [bitL n k] else chsL n k
theorem bitsTo_L (r : Nat) : ∀ k, bitsTo r k = asI (bitL k r)
 | 0 => rfl
 | k + 1 => by
  unfold bitL
  simp only [bitsTo]
  rw [List.range_succ, List.filter_append, bitsTo_L r k]
  by_cases h : r.testBit k
  ·simp [h, asI, bitL]
  ·simp [h, asI, bitL]
theorem bitL_lt {n r : Nat} : ∀ i ∈ bitL n r, i < n := fun i h => List.mem_range.1 (List.mem_filter.1 h).1
theorem chsL_pre (n : Nat) {r : Nat} (h0 : 1 ≤ r) : ∀ q, r ≤ q → chsL n r <+: chsL n q
 | 0, h => by omega
 | q + 1, h => by
  by_cases e : r = q + 1
  ·rw [e]; exact List.prefix_refl _
  ·have := chsL_pre n h0 q (by omega)
   simp only [chsL]
   rw [if_neg (by omega)]
   split
   ·exact this.trans (List.prefix_append _ _)
   ·exact this
structure Ch where
 a : Option Addr
 c : Nat
 l : List Nat
def encC (x : Ch) : Array Value := #[.slice x.a x.l.length x.c]
def lsC (xs : List Ch) : List (List Nat) := xs.map fun x => x.l
theorem lsC_snoc (xs : List Ch) (x : Ch) : lsC (xs ++ [x]) = lsC xs ++ [x.l] := by simp [lsC]
structure CF (w : World) (lo Bx D : Nat) (a : Option Addr) (N cap : Nat) : Prop where
 c0 : w.cell? ⟨Bx, 0, none⟩ = some (.pointer (some ⟨D, 0, none⟩))
 c1 : w.cell? ⟨D, 0, none⟩ = some (.slice a N cap)
 le : lo ≤ w.heap.size
theorem elemIntA : ElemI Try.prog 3 := elemI_mk (by kernel_rfl)
theorem choices_any (D : Nat) (w : World) :
 Calls Try.prog 104 #[(.pointer (some ⟨D, 0, none⟩))] w fun e w' => e = .returned (.func (.func 111) #[] #[.pointer (some ⟨w.heap.size, 0, none⟩)]) ∧ w' = w.alloc (.cells #[(.pointer (some ⟨D, 0, none⟩))] 82) := by
 go_enter Try.func104, Try.ntmps104
 go_wp2_with fail
 go_ret
 exact ⟨rfl, rfl⟩
structure GC (N lo : Nat) (pre : List Ch) (Z : Nat → Prop) (x : Ch) (W : World) : Prop where
 pre : lsC (pre ++ [x]) <+: chsL N (2 ^ N)
 ints : Ints W x.a (asI x.l)
 new : ∀ b off, x.a = some ⟨b, off, none⟩ → lo ≤ b ∧ ¬ Z b
set_option maxHeartbeats 4000000 in
theorem choices1_yields (N nn : Nat) (n1 : 1 ≤ N) (n6 : N ≤ 6) (lo Bx D : Nat) (a : Option Addr) (cap : Nat) :
 YieldsZ Fence.wide nn Try.prog 111 #[.pointer (some ⟨Bx, 0, none⟩)] encC (GC N lo) (fun xs => lsC xs = chsL N (2 ^ N)) (fun pre => lsC pre <+: chsL N (2 ^ N))
  (fun W => CF W lo Bx D a N cap) := by
 intro l J Jx W hJ hJx hN hZ hY h0
 have HZ := hid hZ
 have hYY := fun pre Z x W1 (h1 : lsC (pre ++ [x]) <+: chsL N (2 ^ N)) (h2 : Ints W1 x.a (asI x.l)) (h3 : ∀ b off, x.a = some ⟨b, off, none⟩ → lo ≤ b ∧ ¬ Z b) (h4 : J pre Z W1) (h5 : W.heap.size ≤ W1.heap.size) => hY pre Z x W1 ⟨h1, h2, h3⟩ h4 h5
 have HJ := hid hJ
 have HN := hid hN
 have hs1 := shl_one N n6
 have hp1 := pow_le6 n6
 have ht1 : 1 ≤ 2 ^ N := Nat.one_le_two_pow
 have hpc := hid (fun r (h0 : 1 ≤ r) h => chsL_pre N (r := r) h0 (2 ^ N) h)
 have hcs : Hid (∀ r, 1 ≤ r → chsL N (r + 1) = if (bitL N r).length ≤ 3 then chsL N r ++ [bitL N r] else chsL N r) := hid fun r h => by simp only [chsL]; rw [if_neg (by omega)]
 have hc1 : Hid (chsL N 1 = []) := hid rfl
 have hbL := hid (fun r => bitsTo_L r N)
 obtain ⟨T, hT⟩ : ∃ T, 2 ^ N = T := ⟨_, rfl⟩
 rw [hT] at hs1 hp1 ht1 hpc hYY ⊢
 have HY := hid hYY
 obtain ⟨CH, hCH⟩ : ∃ CH, chsL N = CH := ⟨_, rfl⟩
 rw [hCH] at hpc hcs hc1 HY ⊢
 replace hT := hid hT
 clear hJ hY hYY hZ hJx hN hCH
 refine callsIn_of_wp Try.func111 rfl trivial ?_ rfl
 simp only [Try.ntmps111, List.size_toArray, List.length_cons, List.length_nil, Nat.reduceAdd, Nat.reduceSub, Array.replicate_succ, Array.replicate_zero, List.push_toArray, List.append_toArray, List.nil_append, List.cons_append]
 gi_wp2
 gi_loopw [3] (fun i wr => ∃ r : Nat, 1 ≤ r ∧ r ≤ T ∧ i = .int .i64 r ∧ ∃ pre Z, Hid (lsC pre = CH r) ∧ Hid (J pre Z wr) ∧ Hid (W.heap.size ≤ wr.heap.size)) (fun i _ => (T - intOf i).toNat)
 case atStart => exact ⟨1, by omega, ht1, rfl, [], _, hid (by rw [hc1.out]; rfl), hid h0, hid (Nat.le_refl _)⟩
 case round =>
  obtain ⟨r, hr1, hrT, rfl, pre, Z, hpr, hit, hws⟩ := hrel
  have hcf := HN.out _ _ _ hit.out
  have hzl := hid (HZ.out _ _ _ hit.out)
  have hlo := hid hcf.le
  have c0 := hcf.c0
  have c1 := hcf.c1
  have l0 := cell_lt c0
  have l1 := cell_lt c1
  dsimp only at l0 l1
  clear hcf
  by_cases hlt : r < T
  ·obtain ⟨wo, rfl⟩ : ∃ wo : World, wo = wr := ⟨_, rfl⟩
   gi_wp2
   rw [hs1]
   refine wpIn_wide.2 ?_
   go_loopw [4, 23] (fun s i wv => ∃ k : Nat, k ≤ N ∧ i = .int .i64 k ∧ OwnI wv wo.heap.size 3 s (bitsTo r k) ∧ Ext wo wv) (fun _ i _ => (N - intOf i).toNat)
   case atStart => exact ⟨0, by omega, rfl, OwnI.nil _ _ _, Ext.refl _⟩
   case round =>
    obtain ⟨k, hk, rfl, ho, hv⟩ := hrel
    by_cases hkl : k < N
    ·have hkI : (k : Int) < (N : Int) := by omega
     have hx := shr_nat r k
     have hx16 : r / 2 ^ k < 64 := Nat.lt_of_le_of_lt (Nat.div_le_self _ _) (by omega)
     have hy := and_one _ hx16
     have ht := hid (testBit_mod r k)
     have hlk := bitsTo_len r k
     have hsz := Ext.size hv
     have t1 := Go.IntWalk.i64_in ((k : Int) + 1) (by omega)
     have hst : Hid (bitsTo r (k + 1) = if r.testBit k then bitsTo r k ++ [(k : Int)] else bitsTo r k) := hid rfl
     obtain ⟨x, hxx⟩ : ∃ x, r / 2 ^ k = x := ⟨_, rfl⟩
     rw [hxx] at hx hy hx16 ht
     obtain ⟨s0, hs0⟩ : ∃ s0, bitsTo r k = s0 := ⟨_, rfl⟩
     rw [hs0] at ho hst hlk
     replace hs0 := hid hs0
     replace hxx := hid hxx
     have hV := hid hv
     have ho := hid ho
     clear hv
     by_cases h1 : x % 2 = 1
     ·rw [ht.out, if_pos (by simpa using h1)] at hst
      rw [h1] at hy
      replace h1 := hid h1
      go_wp2_with (at_builtin; refine app_int rfl _ _ _ rfl 3 Try.underlying129 elemIntA wo.heap.size s0 (k : Int) _ rfl _ rfl (ho.out.ext exE) ?c1 ?c2 ?c3 ?_; (case c1 => simp [go_sem]); (case c2 => omega); (case c3 => simp; omega); intro b9 cp9 w9 own9 ext9 hb9 g9)
      go_roundw
      case rel => exact ⟨k + 1, by omega, by go_num, by rw [hst.out]; have h := own9; simp only [List.length_append, List.length_singleton] at h; exact h, ext9 _ (by have := hV.out; exact exE) (Nat.le_refl _)⟩
      case measure => simp [intOf]; omega
     ·rw [ht.out, if_neg (by simpa using h1)] at hst
      have h0 : x % 2 = 0 := by omega
      rw [h0] at hy
      replace h0 := hid h0
      replace h1 := hid h1
      go_wp2_with fail
      go_roundw
      case rel => exact ⟨k + 1, by omega, by go_num, by rw [hst.out]; exact ho.out, by have := hV.out; exact exE⟩
      case measure => simp [intOf]; omega
    ·have hkN : k = N := by omega
     rw [hkN] at ho
     have hnn : ¬ (N : Int) < (N : Int) := by omega
     rw [hkN]
     clear hkN hkl hk
     have hbl := hbL.out r
     have hsl := ho.slice
     rw [hbl] at hsl
     obtain ⟨aa, cc, rfl, hI⟩ := hsl
     have hI := hid hI
     have hlen : (asI (bitL N r)).length = (bitL N r).length := by simp [asI]
     have hst := hid (hcs.out r hr1)
     have hpx := hid (hpc.out (r + 1) (by omega) hlt)
     have hle : (bitL N r).length ≤ 6 := by
      have := List.length_filter_le (fun i => r.testBit i) (List.range N)
      rw [List.length_range] at this
      exact Nat.le_trans this n6
     have hit2 := hid (HJ.out.ext hit.out hv)
     obtain ⟨L, hL⟩ : ∃ L, bitL N r = L := ⟨_, rfl⟩
     rw [hL] at hI hst hlen hle
     rw [hL]
     rw [hlen]
     replace hL := hid hL
     replace hlen := hid hlen
     have hnw : Hid (∀ b off, aa = some ⟨b, off, none⟩ → lo ≤ b ∧ ¬ Z b) := hid fun b off e => by
      have h1 := ho.block b (by rw [e]; rfl)
      have h2 := hlo.out
      exact ⟨by omega, fun hz => by have := hzl.out b hz; omega⟩
     have hws2 := hid (Nat.le_trans hws.out hv.size)
     clear ho hbl hv
     have tr := Go.IntWalk.i64_in ((r : Int) + 1) (by omega)
     by_cases h3 : L.length ≤ 3
     ·rw [if_pos h3] at hst
      rw [hst.out] at hpx
      obtain ⟨fn, tmps, assign, body, hyl, hR⟩ := HY.out pre Z ⟨aa, cc, L⟩ wr (by rw [lsC_snoc, hpr.out]; exact hpx.out) hI.out hnw.out hit2.out hws2.out
      simp only [encC] at hyl
      have h3I : (L.length : Int) ≤ 3 := by omega
      go_wp2_with fail
      gi_wp2
      refine ⟨fun h => (by cases h), hR.mono ?_⟩
      rintro e W3 (⟨rfl, Z3, hJ3, hK3⟩ | ⟨rfl, hJx3, hK3⟩)
      ·have hi3 := hid hJ3
       have hw3 := hid (Nat.le_trans hws2.out hK3.size)
       have hp3 : Hid (lsC (pre ++ [(⟨aa, cc, L⟩ : Ch)]) = CH (r + 1)) := hid (by rw [lsC_snoc, hpr.out, hst.out])
       clear hyl hR hit2 hit hJ3 hK3 c0 c1
       gi_wp2
       go_roundw
       case rel => exact ⟨r + 1, by omega, by omega, by go_num, _, _, hp3, hi3, hw3⟩
       case measure => simp [intOf]; omega
      ·gi_wp2
       refine bodyPost_ret (results_none rfl _ _ _) rfl ?_
       exact ⟨⟨_, rfl⟩, .inr ⟨pre ++ [(⟨aa, cc, L⟩ : Ch)], by rw [lsC_snoc, hpr.out]; exact hpx.out, hJx3⟩⟩
     ·rw [if_neg h3] at hst
      have h3I : ¬ (L.length : Int) ≤ 3 := by omega
      have hp3 : Hid (lsC pre = CH (r + 1)) := hid (by rw [hpr.out, hst.out])
      go_wp2_with fail
      gi_wp2
      refine ⟨fun f h => (by cases h), ?_⟩
      gi_wp2
      go_roundw
      case rel => exact ⟨r + 1, by omega, by omega, by go_num, _, _, hp3, hit2, hws2⟩
      case measure => simp [intOf]; omega
  ·have hrt := hid (show r = T by omega)
   gi_wp2
   refine bodyPost_end (results_none rfl _ _ _) rfl ?_
   exact ⟨⟨_, rfl⟩, .inl ⟨pre, Z, by rw [hpr.out, hrt.out], hit.out, hws.out⟩⟩
end Go.Proofs.Ytpnfhcnnodolbaa
