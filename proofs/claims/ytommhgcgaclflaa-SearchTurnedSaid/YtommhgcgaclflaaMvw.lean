/- A list of numbers, each as much greater, round: the walk of porringerlaw03.moved. -/
import Derived.Test.YtommhgcgaclflaaZB7
import Derived.Test.YtommhgcgaclflaaZTurned32
import Derived.Test.YtommhgcgaclflaaZB20
import Derived.Test.YtommhgcgaclflaaZB15
namespace Go.Proofs.Ytommhgcgaclflaa
set_option linter.unusedVariables false
set_option linter.unusedSimpArgs false
set_option linter.unusedSectionVars false
set_option linter.unnecessarySimpa false
open Go Go.RowKit Game
set_option maxRecDepth 100000

set_option maxHeartbeats 2000000 in
theorem movedL_any (A : List Nat) (c n : Nat) (n1 : 1 ≤ n) (n4 : n ≤ 4) (hc : c < n) (hA : ∀ x ∈ A, x < n) (hl : A.length ≤ 4) (a : Option Addr) (cap : Nat) (w : World) (hI : Ints w a (nats A)) :
 Calls Try.prog 55 #[.slice a A.length cap, .int .i64 c, .int .i64 n] w (RetI (bitsTo (mvB A c n A.length) n) w) := by
 have hlt : Hid (∀ i, i < A.length → A.getD i 0 < n) := hid fun i hi => getD_lt hA hi
 have HC : Hid (∀ i, i < A.length → ∃ b off, a = some ⟨b, off, none⟩ ∧ w.cell? ⟨b, off + i, none⟩ = some (.int .i64 (A.getD i 0 : Nat))) := hid fun i hi => by
  obtain ⟨b, off, e, h⟩ := hI i (by rw [nats_len]; exact hi)
  rw [nats_nth] at h; exact ⟨b, off, e, h⟩
 have hli := hid (fun W => listedR_any (mvB A c n A.length) n (mvB_lt A c n1 n4 _) n4 W)
 have hst : Hid (∀ k, mvB A c n (k + 1) = mvB A c n k ||| 2 ^ ((A.getD k 0 + c) % n)) := hid fun k => rfl
 have hbl : Hid (∀ k, mvB A c n k < 16) := hid (mvB_lt A c n1 n4)
 have hu0 : Hid (mvB A c n 0 = 0) := hid rfl
 obtain ⟨L, hL⟩ : ∃ x, A.length = x := ⟨_, rfl⟩
 obtain ⟨U, hU⟩ : ∃ U, mvB A c n = U := ⟨_, rfl⟩
 rw [hU] at hli hst hbl hu0 ⊢
 rw [hL] at hli HC hlt hl ⊢
 have hn9 : ¬ n = 0 := by omega
 have hnz : ((n : Int) == 0) = false := by simp; omega
 replace hL := hid hL
 replace hU := hid hU
 clear hI hA
 go_enter Try.func55, Try.ntmps55
 go_wp2_with fail
 go_loopw [7, 8] (fun s i wr => ∃ k : Nat, k ≤ L ∧ i = .int .i64 k ∧ s = .int .i64 (U k : Nat) ∧ Hid (Ext w wr)) (fun _ i _ => (L - intOf i).toNat)
 case atStart => exact ⟨0, by omega, rfl, by rw [hu0.out]; rfl, hid (Ext.refl _)⟩
 case round =>
  obtain ⟨k, hk, rfl, rfl, hx⟩ := hrel
  by_cases hkl : k < L
  ·obtain ⟨b, off, rfl, p2⟩ := HC.out k hkl
   have r1 := hx.out.cell p2
   have hxl := hlt.out k hkl
   have hs := hid (hst.out k)
   have hb1 := hbl.out k
   obtain ⟨x, hxx⟩ : ∃ x, A.getD k 0 = x := ⟨_, rfl⟩
   rw [hxx] at r1 hxl hs p2
   replace hxx := hid hxx
   have hj : (x + c) % n < n := Nat.mod_lt _ (by omega)
   have e1 : ((x : Int) + (c : Int)).tmod (n : Int) = (((x + c) % n : Nat) : Int) := by
    rw [Int.tmod_eq_emod_of_nonneg (by omega), ← Int.natCast_add, ← Int.natCast_emod]
   obtain ⟨j, hjj⟩ : ∃ j, (x + c) % n = j := ⟨_, rfl⟩
   rw [hjj] at e1 hj hs
   replace hjj := hid hjj
   have z1 := Go.IntWalk.i64_in ((x : Int) + (c : Int)) (by omega)
   have z2 := Go.IntWalk.i64_in (j : Int) (by omega)
   have u2 := Go.IntWalk.i64_in ((k : Int) + 1) (by omega)
   have hxI : (x : Int) < (n : Int) := by omega
   have hkl2 : (k : Int) < (L : Int) := by omega
   have hob := or_bits (U k) j hb1 (by omega)
   have hs1 := shl_one j (by omega)
   have hol2 := or_lt (U k) j hb1 (by omega)
   obtain ⟨y, hy⟩ : ∃ y, U k = y := ⟨_, rfl⟩
   rw [hy] at hs hb1 hob hol2 ⊢
   replace hy := hid hy
   obtain ⟨T, hT⟩ : ∃ T, 2 ^ j = T := ⟨_, rfl⟩
   rw [hT] at hob hol2 hs hs1
   replace hT := hid hT
   clear p2
   go_wp2_with fail
   go_roundw
   case rel => exact ⟨k + 1, by omega, by go_num, by rw [hs.out, ← hob], hid (hx.out.trans (by repeat (with_reducible first | assumption | exact Ext.refl _ | refine Ext.drew ?_ | refine Ext.drewN ?_ _ | refine Ext.alloc ?_ _ | refine xS ?_ _ | refine xT ?_ (by assumption))))⟩
   case measure => simp [intOf]; omega
  ·have hkn : k = L := by omega
   have hnl : ¬ (L : Int) < (L : Int) := by omega
   rw [hkn]
   clear hkn hkl hk
   go_wp2_with fail
   refine (hli.out _).mono ?_; rintro e w5 ⟨aa, cc, rfl, hI, hE⟩
   go_wp2_with fail
   go_ret
   exact ⟨aa, cc, rfl, hI, by have := hx.out; exact (by repeat (with_reducible first | assumption | exact Ext.refl _ | refine Ext.drew ?_ | refine Ext.drewN ?_ _ | refine Ext.alloc ?_ _ | refine xS ?_ _ | refine xT ?_ (by assumption)))⟩

end Go.Proofs.Ytommhgcgaclflaa
