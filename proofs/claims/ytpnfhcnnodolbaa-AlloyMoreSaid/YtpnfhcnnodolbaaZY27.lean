/- Texts of one proof, laid together: Po. -/
import Derived.Test.YtpnfhcnnodolbaaZY10
import Derived.Test.YtpnfhcnnodolbaaZY26
import Derived.Test.YtpnfhcnnodolbaaZY6
import Derived.Laws.EntriesVeiled
set_option linter.unusedVariables false
set_option linter.unusedSimpArgs false
set_option linter.unusedSectionVars false
set_option linter.unnecessarySimpa false
set_option maxRecDepth 100000
namespace Go.Proofs.Ytpnfhcnnodolbaa
open Go Go.RowKit Game
def lstN (l : List Met) (u c : Int) (s : Bool) : Int := if cheE l u c s = 0 then csN l (chpL l u c s) else 0
def lstD (l : List Met) (u c : Int) (s : Bool) : Int := if cheE l u c s = 0 then csD l (chpL l u c s) else 0
set_option maxHeartbeats 2000000 in
theorem least_any (l : List Met) (q : FitM l) (hl : l.length ≤ 1000) (a : Option Addr) (cap : Nat) (u c : Int) (iu : I64 u) (ic : I64 c) (s : Bool) (w : World) (hM : Mts w a l) :
 Calls Try.prog 29 #[.slice a l.length cap, (.agg #[.int .i64 (u), .int .i64 (c)]), .bool s] w fun e w' => e = .returned (.tuple #[.agg #[.int .i64 (lstN l u c s), .int .i64 (lstD l u c s)], .int .i64 (cheE l u c s)]) ∧ Ext w w' := by
 replace hM := hid hM
 have hch := hid (fun W hW => cheapest_any l q hl a cap u c iu ic s W hW)
 have hN : Hid (lstN l u c s = (if cheE l u c s = 0 then csN l (chpL l u c s) else 0) ∧ lstD l u c s = (if cheE l u c s = 0 then csD l (chpL l u c s) else 0)) := hid ⟨rfl, rfl⟩
 clear q iu ic
 go_enter Try.func29, Try.ntmps29
 go_wp2_with fail
 refine name_c (fun w0 hw0 => ?_)
 have x0 := hid (show Ext w w0 by rw [hw0]; exact exE)
 have r0 : w0.cell? ⟨w.heap.size + 1, 0, none⟩ = some (.int .i64 0) := by rw [hw0]; simp [go_sem]
 have r1 : w0.cell? ⟨w.heap.size + 1, 1, none⟩ = some (.int .i64 0) := by rw [hw0]; simp [go_sem]
 have s0 : w0.frozen? ⟨w.heap.size + 1, 0, none⟩ = false := by rw [hw0]; simp [go_sem]
 have s1 : w0.frozen? ⟨w.heap.size + 1, 1, none⟩ = false := by rw [hw0]; simp [go_sem]
 have hbx := hid (Bx2.mk r0 r1 s0 s1)
 clear hw0 r0 r1 s0 s1
 obtain ⟨Bc, hBc⟩ : ∃ B, w.heap.size + 1 = B := ⟨_, rfl⟩
 rw [hBc] at hbx ⊢
 have hBl := hid (show w.heap.size ≤ Bc by omega)
 replace hBc := hid hBc
 refine (hch.out _ (hM.out.ext x0.out)).mono ?_
 rintro e w1 (⟨g, rfl, hE1⟩ | ⟨⟨g, gB, gL⟩, D, ai, ci, rfl, hP, hI, hE1⟩)
 ·rw [if_neg g, if_neg g] at hN
  have hg : (cheE l u c s != 0) = true := by simpa using g
  replace g := hid g
  have x1 := hid (x0.out.trans hE1)
  have hB1 := hid (hbx.out.ext hE1)
  clear hE1
  obtain ⟨k1, k2, k3, k4⟩ := hB1.out
  have hl1 := cell_lt k1
  go_wp2_with fail
  refine bodyPost_ret (v := .tuple #[.agg #[.int .i64 0, .int .i64 0], .int .i64 (cheE l u c s)]) ?_ rfl ?_
  ·simp [results, Try.results29, go_sem, *]
  ·exact ⟨by rw [hN.out.1, hN.out.2], by have := x1.out; have := hBl.out; exact exE⟩
 ·rw [if_pos g, if_pos g] at hN
  obtain ⟨v, hu, hc⟩ := chkB_ok gB
  have ok := (edP_ok v hu hc (chp_mem gL)).1
  have x1 := hid (x0.out.trans hE1)
  have hB1 := hid (hbx.out.ext hE1)
  have hco := hid (fun W hW => by have := costP_any l v u c s (chpL l u c s) ok.prt ok.len ok.pos D ai ci W (hP.ext hW) (hI.ext hW); rw [ok.len] at this; exact this)
  change Hid (∀ W, Ext w1 W → Calls Try.prog 58 #[(.pointer (some ⟨D, 0, none⟩)), .slice ai l.length ci] W fun e w' => e = .returned (.agg #[.int .i64 (csN l (chpL l u c s)), .int .i64 (csD l (chpL l u c s))]) ∧ Ext W w') at hco
  replace g := hid g
  clear hE1 hP hI ok v hu hc gB gL
  generalize csN l (chpL l u c s) = N at *
  generalize csD l (chpL l u c s) = De at *
  go_wp2_with fail
  refine (hco.out _ exE).mono ?_; rintro e w2 ⟨rfl, hE2⟩
  have x2 := hid (x1.out.trans hE2)
  have hB2 := hid (hB1.out.ext hE2)
  clear hE2
  obtain ⟨k1, k2, k3, k4⟩ := hB2.out
  have hl1 := cell_lt k1
  go_wp2_with fail
  refine bodyPost_ret (v := .tuple #[.agg #[.int .i64 N, .int .i64 De], .int .i64 0]) ?_ rfl ?_
  ·simp [results, Try.results29, go_sem, *]
  ·exact ⟨by rw [hN.out.1, hN.out.2, g.out], by have := x2.out; have := hBl.out; exact exE⟩
def RetL1 (l : List Int) (er : Int) (w : World) (e : Ending) (w' : World) : Prop := ∃ a c, e = .returned (.tuple #[.slice a l.length c, .int .i64 er]) ∧ Ints w' a l ∧ Ext w w'
def chpR (l : List Met) (u c : Int) (s : Bool) : List Int := if cheE l u c s = 0 then chpL l u c s else []
set_option maxHeartbeats 2000000 in
theorem cheapestP_any (l : List Met) (q : FitM l) (hl : l.length ≤ 1000) (a : Option Addr) (cap : Nat) (u c : Int) (iu : I64 u) (ic : I64 c) (s : Bool) (w : World) (hM : Mts w a l) :
 Calls Try.prog 31 #[.slice a l.length cap, (.agg #[.int .i64 (u), .int .i64 (c)]), .bool s] w (RetL1 (chpR l u c s) (cheE l u c s) w) := by
 replace hM := hid hM
 have hch := hid (fun W hW => cheapest_any l q hl a cap u c iu ic s W hW)
 have hN : Hid (chpR l u c s = (if cheE l u c s = 0 then chpL l u c s else [])) := hid rfl
 clear q iu ic
 go_enter Try.func31, Try.ntmps31
 go_wp2_with fail
 refine name_c (fun w0 hw0 => ?_)
 have x0 := hid (show Ext w w0 by rw [hw0]; exact exE)
 clear hw0
 refine (hch.out _ (hM.out.ext x0.out)).mono ?_
 rintro e w1 (⟨g, rfl, hE1⟩ | ⟨⟨g, gB, gL⟩, D, ai, ci, rfl, hP, hI, hE1⟩)
 ·rw [if_neg g] at hN
  have hg : (cheE l u c s != 0) = true := by simpa using g
  replace g := hid g
  have x1 := hid (x0.out.trans hE1)
  clear hE1
  go_wp2_with fail
  refine bodyPost_ret (v := .tuple #[.slice none 0 0, .int .i64 (cheE l u c s)]) ?_ rfl ?_
  ·simp [results, Try.results31, go_sem, *]
  ·exact ⟨none, 0, by rw [hN.out]; rfl, by rw [hN.out]; exact Ints.nil _ _, x1.out⟩
 ·rw [if_pos g] at hN
  obtain ⟨v, hu, hc⟩ := chkB_ok gB
  have ok := (edP_ok v hu hc (chp_mem gL)).1
  have n1 := v.n1
  have n6 := v.n6
  have x1 := hid (x0.out.trans hE1)
  have hI := hid hI
  have hlen := ok.len
  obtain ⟨CL, hCL⟩ : ∃ C, chpL l u c s = C := ⟨_, rfl⟩
  rw [hCL] at hN hI hlen
  obtain ⟨n, hn⟩ : ∃ n, l.length = n := ⟨_, rfl⟩
  rw [hn] at hlen n1 n6
  rw [hn]
  replace g := hid g
  clear hE1 hP ok v hu hc gB gL hCL hn
  have hin0 : (0 : Int) ≤ (n : Int) := by omega
  have hcl0 := hid hlen.symm
  have hcl1 : n = (List.replicate n (0 : Int)).length := by simp
  have hcl2 : CL.length = (List.replicate n (0 : Int)).length := by simp [hlen]
  have hcl3 : 0 < CL.length := by omega
  replace hcl1 := hid hcl1
  replace hcl2 := hid hcl2
  replace hcl3 := hid hcl3
  replace hlen := hid hlen
  go_wp2_with (first | (at_make; refine make_ints rfl _ _ 25 rfl 2 Try.underlying25 elemI64 n rfl rfl (by omega) ?_; intro w5 ho5 hx5; have ho5 := hid ho5; have hx5' := hid hx5; have hI5 := hid (hI.out.ext hx5'.out); clear hx5) | (with_reducible refine copyI_wp (o := ⟨some 28, _, _, _, _, _⟩) rfl (.tmp 26) (.tmp 27) 25 rfl 2 Try.underlying25 elemI64 w1.heap.size w1.heap.size n n (List.replicate n 0) CL ?h1 ai n ci ?h2 hcl1.out hcl0.out hcl2.out hcl3.out ho5.out hI5.out ?_))
  case h1 => rfl
  case h2 => rfl
  intro w6 hI6 hg6
  have hI6 := hid hI6
  have hx6 := hid (Ext.grown (x1.out.trans hx5'.out) hg6 (fun j e => by cases e; exact x1.out.size))
  clear hg6
  go_wp2_with fail
  refine bodyPost_ret (v := .tuple #[.slice (some ⟨w1.heap.size, 0, none⟩) n n, .int .i64 0]) ?_ rfl ?_
  ·simp [results, Try.results31, go_sem, *]
  ·exact ⟨some ⟨w1.heap.size, 0, none⟩, n, by rw [hN.out, hlen.out, g.out], by rw [hN.out]; exact hI6.out, hx6.out⟩
end Go.Proofs.Ytpnfhcnnodolbaa
