/- The reference's list of the first numbers. -/
import Derived.Test.YtommhgcgaclflaaZB7
import Derived.Test.YtommhgcgaclflaaZB15
import Derived.Test.YtommhgcgaclflaaZB17
namespace Go.Proofs.Ytommhgcgaclflaa
set_option linter.unusedVariables false
set_option linter.unusedSimpArgs false
set_option linter.unusedSectionVars false
set_option linter.unnecessarySimpa false
open Go Go.RowKit Game
set_option maxRecDepth 100000

set_option maxHeartbeats 1000000 in
theorem listedR_capB (b n : Nat) (hb : b < 16) (hn : n ≤ 4) (w : World) :
 Calls Try.prog 50 #[.int .i64 b, .int .i64 n] w fun e w' => ∃ a cap, e = .returned (.slice a (bitsTo b n).length cap) ∧ Ints w' a (bitsTo b n) ∧ (bitsTo b n).length ≤ cap ∧ Ext w w' := by
 go_enter Try.func50, Try.ntmps50
 go_wp2_with fail
 go_loopw [5, 6] (fun s i wr => ∃ k : Nat, k ≤ n ∧ i = .int .i64 k ∧ OwnI wr w.heap.size 3 s (bitsTo b k) ∧ Ext w wr) (fun _ i _ => (n - intOf i).toNat)
 case atStart => exact ⟨0, by omega, rfl, OwnI.nil _ _ _, Ext.refl _⟩
 case round =>
  obtain ⟨k, hk, rfl, ho, hv⟩ := hrel
  by_cases hkl : k < n
  ·have hx := shr_nat b k
   have hx16 : b / 2 ^ k < 16 := Nat.lt_of_le_of_lt (Nat.div_le_self _ _) hb
   have hy := and_one _ hx16
   have ht := hid (testBit_mod b k)
   have hlk := bitsTo_len b k
   have hsz := Ext.size hv
   obtain ⟨x, hxx⟩ : ∃ x, b / 2 ^ k = x := ⟨_, rfl⟩
   rw [hxx] at hx hy hx16 ht
   by_cases h1 : x % 2 = 1
   ·have hst := hid (show bitsTo b (k + 1) = bitsTo b k ++ [(k : Int)] by simp only [bitsTo]; rw [ht.out, if_pos (by simpa using h1)])
    rw [h1] at hy
    replace h1 := hid h1
    obtain ⟨s0, hs0⟩ : ∃ s0, bitsTo b k = s0 := ⟨_, rfl⟩
    rw [hs0] at ho hst hlk
    replace hs0 := hid hs0
    replace hxx := hid hxx
    have hV := hid hv
    clear hv
    go_wp2_with (at_builtin; refine app_int rfl _ _ _ rfl 3 Try.underlying42 elemInt w.heap.size s0 (k : Int) _ rfl _ rfl (ho.ext (by repeat (with_reducible first | assumption | exact Ext.refl _ | refine Ext.drew ?_ | refine Ext.drewN ?_ _ | refine Ext.alloc ?_ _ | refine xS ?_ _ | refine xT ?_ (by assumption)))) ?c1 ?c2 ?c3 ?_; (case c1 => simp [go_sem]); (case c2 => omega); (case c3 => simp; omega); intro b9 cp9 w9 own9 ext9 hb9 g9)
    go_roundw
    case rel => exact ⟨k + 1, by omega, by go_num, by rw [hst.out]; have h := own9; simp only [List.length_append, List.length_singleton] at h; exact h, ext9 w (by have := hV.out; exact (by repeat (with_reducible first | assumption | exact Ext.refl _ | refine Ext.drew ?_ | refine Ext.drewN ?_ _ | refine Ext.alloc ?_ _ | refine xS ?_ _ | refine xT ?_ (by assumption)))) (Nat.le_refl _)⟩
    case measure => simp [intOf]; omega
   ·have hst := hid (show bitsTo b (k + 1) = bitsTo b k by simp only [bitsTo]; rw [ht.out, if_neg (by simpa using h1)])
    have h0 : x % 2 = 0 := by omega
    rw [h0] at hy
    replace h0 := hid h0
    replace h1 := hid h1
    replace hxx := hid hxx
    go_wp2_with fail
    go_roundw
    case rel => exact ⟨k + 1, by omega, by go_num, by rw [hst.out]; exact ho, (by repeat (with_reducible first | assumption | exact Ext.refl _ | refine Ext.drew ?_ | refine Ext.drewN ?_ _ | refine Ext.alloc ?_ _ | refine xS ?_ _ | refine xT ?_ (by assumption)))⟩
    case measure => simp [intOf]; omega
  ·obtain rfl : k = n := by omega
   have hcp := hid (fun a n c (e : u5 = .slice a n c) => (OwnI.cap (e ▸ ho)).2)
   obtain ⟨aa, cc, rfl, hI⟩ := ho.slice
   have hcp := hid (hcp.out _ _ _ rfl)
   go_wp2_with fail
   go_ret
   exact ⟨aa, cc, rfl, hI, hcp.out, (by repeat (with_reducible first | assumption | exact Ext.refl _ | refine Ext.drew ?_ | refine Ext.drewN ?_ _ | refine Ext.alloc ?_ _ | refine xS ?_ _ | refine xT ?_ (by assumption)))⟩

theorem shl_oneB : ∀ m : Nat, m ≤ 4 → IntKind.i64.wrap ((2 : Int) ^ m) = ((2 ^ m : Nat) : Int) := by decide +kernel
theorem shl_allB : ∀ m : Nat, m ≤ 4 → IntKind.i64.wrap (((2 ^ m : Nat) : Int) - 1) = ((2 ^ m - 1 : Nat) : Int) := by decide +kernel
theorem range_natB : ∀ m : Nat, m ≤ 4 → bitsTo (2 ^ m - 1) m = nats (List.range m) := by decide +kernel
theorem listedR_allB (m : Nat) (hm : m ≤ 4) (w : World) :
 Calls Try.prog 50 #[.int .i64 ((2 ^ m - 1 : Nat)), .int .i64 m] w fun e w' => ∃ a cap, e = .returned (.slice a m cap) ∧ (Ints w' a (nats (List.range m)) ∧ m ≤ cap) ∧ Ext w w' := by
 refine (listedR_capB (2 ^ m - 1) m (all_bits m hm) hm w).mono ?_
 rintro e w' ⟨a, cap, rfl, hI, hc, hE⟩
 have hl : (nats (List.range m)).length = m := by rw [nats_len, List.length_range]
 rw [range_natB m hm] at hI hc ⊢
 rw [hl] at hc ⊢
 exact ⟨a, cap, rfl, ⟨hI, hc⟩, hE⟩


end Go.Proofs.Ytommhgcgaclflaa
