/- The reference's plans: the walk of porringerref03.Plans. -/
import Derived.Test.YtommhgcgaclflaaZB7
import Derived.Test.YtommhgcgaclflaaZUses31
import Derived.Test.YtommhgcgaclflaaZB14
import Derived.Test.YtommhgcgaclflaaSX
namespace Go.Proofs.Ytommhgcgaclflaa
set_option linter.unusedVariables false
set_option linter.unusedSimpArgs false
set_option linter.unusedSectionVars false
set_option linter.unnecessarySimpa false
open Go Go.RowKit Game
set_option maxRecDepth 100000

theorem nat_bits : ∀ n, n ≤ 4 → ∀ b, b < 2 ^ n → bitsTo b n = nL (lst b) := by decide +kernel
theorem listedR_len (b n : Nat) (hn : n ≤ 4) (hb : b < 2 ^ n) (w : World) :
 Calls Try.prog 50 #[.int .i64 b, .int .i64 n] w fun e w' => ∃ a cap, e = .returned (.slice a (bc b) cap) ∧ Ints w' a (nL (lst b)) ∧ Ext w w' := by
 refine (listedR_any b n (by have := pow_le hn; omega) hn w).mono ?_
 rintro e w' ⟨a, cap, rfl, hI, hE⟩
 rw [nat_bits n hn b hb] at hI ⊢
 exact ⟨a, cap, by rw [nL_len]; rfl, hI, hE⟩
theorem plansOn_le (t : List (List Int)) (l : List (Nat × Nat)) : (plansOn t l).length ≤ l.length := by
 unfold plansOn; rw [List.length_map]; exact List.length_filter_le _ _
theorem OwnT.low {w : World} {base base' lo lo' : Nat} {e : TypeId} {v : Value} {t : List (List Int)} (h : OwnT w base lo e v t) (hb : base' ≤ base) (hl : lo' ≤ lo) : OwnT w base' lo' e v t :=
 let ⟨vs, h1, h2, h3⟩ := h; ⟨vs, h1.mono hb, h2, fun i b off n c a1 a2 a3 => ⟨(h3 i b off n c a1 a2 a3).1, Nat.le_trans hl (h3 i b off n c a1 a2 a3).2⟩⟩
theorem pre_le {l k : List (Nat × Nat)} (h : l <+: k) : l.length ≤ k.length := h.length_le

set_option maxHeartbeats 8000000 in
theorem plansR_any (t : List (List Int)) (v : VldT t) (a : Option Addr) (cap : Nat) (w : World) (hT : Tab w a t) :
 Calls Try.prog 101 #[(.agg #[.slice a t.length cap])] w fun e w' => ∃ a' c', e = .returned (.slice a' (plansOn t (chs t.length (wid t))).length c') ∧ OwnT w' w.heap.size w.heap.size 25 (.slice a' (plansOn t (chs t.length (wid t))).length c') (plansOn t (chs t.length (wid t))) ∧ Ext w w' := by
 have m1 := v.m1; have m4 := v.m4; have n1 := v.n1; have n4 := v.n4
 obtain ⟨b, off, rfl, hb, hcc⟩ := hT.at (by omega)
 obtain ⟨ai, ci, c0, -⟩ := hcc 0 (by omega)
 rw [Nat.add_zero] at c0
 replace c0 : w.cell? ⟨b, off, none⟩ = some (.slice ai (wid t) ci) := c0
 have hT' := hid hT
 have hev : Hid (∀ r c, (r, c) ∈ chs t.length (wid t) → ∀ W ar ac cr cc, Tab W (some ⟨b, off, none⟩) t → Ints W ar (nL (lst r)) → Ints W ac (nL (lst c)) → Calls Try.prog 114 #[(.agg #[.slice (some ⟨b, off, none⟩) t.length cap]), .slice ar (bc r) cr, .slice ac (bc c) cc] W fun e w' =>
  (goodB t (r, c) = false ∧ e = .returned (.slice none 0 0) ∧ Ext W w') ∨ (goodB t (r, c) = true ∧ ∃ g, e = .returned (.slice (some ⟨g, 0, none⟩) t.length t.length) ∧ OwnI w' W.heap.size 2 (.slice (some ⟨g, 0, none⟩) t.length t.length) (planL t (r, c)) ∧ Ext W w')) :=
  hid fun r c hx W ar ac cr cc hTW h1 h2 => evenR_any t v (lst r) (lst c) (chs_ch v hx).ch (some ⟨b, off, none⟩) cap ar ac cr cc W hTW h1 h2
 have hlp := hid (fun x => planL_len t x)
 have hps := hid (fun l x => plansOn_snoc t l x)
 have hpe := hid (fun l (h : l <+: chs t.length (wid t)) => Nat.lt_of_le_of_lt (Nat.le_trans (plansOn_le t l) (pre_le h)) (chs_len m4 n4))
 have hpc := hid (fun r c (h0 : 1 ≤ r) (hr : r < 2 ^ t.length) (hc : c ≤ 2 ^ wid t) => pre_chs (m := t.length) (n := wid t) h0 hr hc)
 have hmem := hid (fun r c (h0 : 1 ≤ r) (hr : r < 2 ^ t.length) (hc : c < 2 ^ wid t) (h : bc r = bc c) => (mem_chs (m := t.length) (n := wid t) (x := (r, c))).2 ⟨h0, hr, hc, h⟩)
 have hlr := hid (fun r (h : r < 2 ^ t.length) => listedR_len r t.length m4 h)
 have hlc := hid (fun r (h : r < 2 ^ wid t) => listedR_len r (wid t) n4 h)
 have hs1 := shl_one _ m4
 have hs2 := shl_one _ n4
 have hp1 := pow_le m4
 have hp2 := pow_le n4
 have ht1 : 1 ≤ 2 ^ t.length := Nat.one_le_two_pow
 have ht2 : 1 ≤ 2 ^ wid t := Nat.one_le_two_pow
 have hend : Hid (chs t.length (wid t) = rowsTo (wid t) (2 ^ t.length)) := hid rfl
 have hrw : Hid (∀ r, 1 ≤ r → rowsTo (wid t) (r + 1) = rowsTo (wid t) r ++ colsTo r (2 ^ wid t)) := hid fun r h => by simp only [rowsTo]; rw [if_neg (by omega)]
 obtain ⟨CH, hCH⟩ : ∃ C, chs t.length (wid t) = C := ⟨_, rfl⟩
 rw [hCH] at hev hpe hpc hmem hend ⊢
 replace hCH := hid hCH
 obtain ⟨T, hTT⟩ : ∃ T, 2 ^ t.length = T := ⟨_, rfl⟩
 obtain ⟨U, hUU⟩ : ∃ U, 2 ^ wid t = U := ⟨_, rfl⟩
 rw [hTT] at hs1 hp1 ht1 hpc hmem hlr hend
 rw [hUU] at hs2 hp2 ht2 hpc hmem hlc hrw
 replace hTT := hid hTT
 replace hUU := hid hUU
 obtain ⟨m, hm⟩ : ∃ m, t.length = m := ⟨_, rfl⟩
 rw [hm] at m1 m4 hev hlp hlr hs1 ⊢
 replace hm := hid hm
 obtain ⟨n, hn⟩ : ∃ n, wid t = n := ⟨_, rfl⟩
 rw [hn] at n1 n4 hlc hs2 hend hrw hpc c0
 replace hn := hid hn
 obtain ⟨G, hG⟩ : ∃ G, goodB t = G := ⟨_, rfl⟩
 rw [hG] at hev hps
 obtain ⟨PO, hPO⟩ : ∃ G, plansOn t = G := ⟨_, rfl⟩
 have hpo0 := hid (show plansOn t [] = [] from rfl)
 rw [hPO] at hps hpe hpo0 ⊢
 obtain ⟨PL, hPL⟩ : ∃ G, planL t = G := ⟨_, rfl⟩
 rw [hPL] at hev hlp hps
 replace hG := hid hG
 replace hPO := hid hPO
 replace hPL := hid hPL
 clear hT hcc hb
 go_enter Try.func101, Try.ntmps101
 go_wp2_with fail
 refine name_wp (fun w1 hw1 => ?_)
 have x1 : Ext w w1 := by rw [hw1]; exact (by repeat (with_reducible first | assumption | exact Ext.refl _ | refine Ext.drew ?_ | refine Ext.drewN ?_ _ | refine Ext.alloc ?_ _ | refine xS ?_ _ | refine xT ?_ (by assumption)))
 have d0 : w1.cell? ⟨w.heap.size, 0, none⟩ = some (.slice (some ⟨b, off, none⟩) m cap) := by rw [hw1]; simp [go_sem]
 have l0 := cell_lt d0
 dsimp only at l0
 have c0 := x1.cell c0
 clear hw1
 go_quiet (fail)
 go_wp2
 go_loopw [5, 6] (fun out i wr => ∃ r : Nat, 1 ≤ r ∧ r ≤ T ∧ i = .int .i64 r ∧ Hid (OwnT wr w1.heap.size w1.heap.size 25 out (PO (rowsTo n r))) ∧ Hid (Ext w1 wr)) (fun _ i _ => (T - intOf i).toNat)
 case atStart => exact ⟨1, by omega, ht1, rfl, hid (by rw [show rowsTo n 1 = [] from by simp [rowsTo], hpo0.out]; exact OwnT.nil _ _ _ _), hid (by repeat (with_reducible first | assumption | exact Ext.refl _ | refine Ext.drew ?_ | refine Ext.drewN ?_ _ | refine Ext.alloc ?_ _ | refine xS ?_ _ | refine xT ?_ (by assumption)))⟩
 case round =>
  obtain ⟨r, hr1, hrT, rfl, ho, hx⟩ := hrel
  have d1 := hx.out.cell d0
  have c1 := hx.out.cell c0
  by_cases hlt : r < T
  ·have hcz : Hid (colsTo r 1 = []) := hid (by
    have := (bc_pos (b := r) (by omega)).2 hr1
    simp only [colsTo]
    rw [if_neg]
    have h0 : bc 0 = 0 := by simp [bc, lst_zero]
    omega)
   go_wp2
   rw [hs1]
   go_loopw [5, 7] (fun out i wr => ∃ c : Nat, 1 ≤ c ∧ c ≤ U ∧ i = .int .i64 c ∧ Hid (OwnT wr w1.heap.size w1.heap.size 25 out (PO (rowsTo n r ++ colsTo r c))) ∧ Hid (Ext w1 wr)) (fun _ i _ => (U - intOf i).toNat)
   case atStart => exact ⟨1, by omega, ht2, rfl, by rw [hcz.out, List.append_nil]; exact ho, hx⟩
   case round =>
    clear d1 c1 ho hx
    obtain ⟨c, hc1, hcU, rfl, ho, hx⟩ := hrel
    have d1 := hx.out.cell d0
    have s1 := hid (Ext.size hx.out)
    by_cases hltc : c < U
    ·have hl1 := hid (hlr.out r hlt)
     have hl2 := hid (hlc.out c hltc)
     have hstep : Hid (colsTo r (c + 1) = if bc r = bc c then colsTo r c ++ [(r, c)] else colsTo r c) := hid rfl
     have hpx := hid (hpe.out _ (hpc.out r c hr1 hlt (by omega)))
     have hb1 : bc r ≤ 4 := lst_len4 r
     have hb2 : bc c ≤ 4 := lst_len4 c
     have hps1 := hid (hps.out (rowsTo n r ++ colsTo r c) (r, c))
     by_cases he : bc r = bc c
     ·have hev1 := hid (hev.out r c (hmem.out r c hr1 hlt hltc he))
      rw [if_pos he] at hstep
      rw [← he] at hl2 hev1
      have hlpx := hid (hlp.out (r, c))
      obtain ⟨x, hxx⟩ : ∃ x, bc r = x := ⟨_, rfl⟩
      rw [hxx] at hl1 hl2 hb1 hev1
      obtain ⟨gb, hgb⟩ : ∃ x, G (r, c) = x := ⟨_, rfl⟩
      obtain ⟨R, hR⟩ : ∃ x, PL (r, c) = x := ⟨_, rfl⟩
      rw [hgb] at hev1 hps1
      rw [hR] at hev1 hps1 hlpx
      have hnx : Hid (PO (rowsTo n r ++ colsTo r (c + 1)) = if gb = true then PO (rowsTo n r ++ colsTo r c) ++ [R] else PO (rowsTo n r ++ colsTo r c)) := hid (by rw [hstep.out, ← List.append_assoc]; exact hps1.out)
      replace hxx := hid hxx
      replace hgb := hid hgb
      replace hR := hid hR
      replace he := hid he
      clear hps1 hstep hb2
      have u2 := Go.IntWalk.i64_in ((c : Int) + 1) (by omega)
      go_wp2_with fail
      refine (hl1.out _).mono ?_; rintro e w2 ⟨a1, k1, rfl, hI1, hE1⟩
      go_wp2_with fail
      refine (hl2.out _).mono ?_; rintro e w3 ⟨a2, k2, rfl, hI2, hE2⟩
      replace hI1 := hid (hI1.ext hE2)
      replace hI2 := hid hI2
      have y3 := hid (show Ext wr w3 from (by repeat (with_reducible first | assumption | exact Ext.refl _ | refine Ext.drew ?_ | refine Ext.drewN ?_ _ | refine Ext.alloc ?_ _ | refine xS ?_ _ | refine xT ?_ (by assumption))))
      have x3 : Ext w1 w3 := hx.out.trans y3.out
      have d3 := x3.cell d0
      replace x3 := hid x3
      clear hE1 hE2 d1
      go_wp2_with fail
      refine (hev1.out _ _ _ _ _ (hT'.out.ext (by have := x3.out; exact (by repeat (with_reducible first | assumption | exact Ext.refl _ | refine Ext.drew ?_ | refine Ext.drewN ?_ _ | refine Ext.alloc ?_ _ | refine xS ?_ _ | refine xT ?_ (by assumption))))) (hI1.out.ext (by repeat (with_reducible first | assumption | exact Ext.refl _ | refine Ext.drew ?_ | refine Ext.drewN ?_ _ | refine Ext.alloc ?_ _ | refine xS ?_ _ | refine xT ?_ (by assumption)))) (hI2.out.ext (by repeat (with_reducible first | assumption | exact Ext.refl _ | refine Ext.drew ?_ | refine Ext.drewN ?_ _ | refine Ext.alloc ?_ _ | refine xS ?_ _ | refine xT ?_ (by assumption))))).mono ?_
      rintro e w4 (⟨hg, rfl, hE4⟩ | ⟨hg, g, rfl, hO4, hE4⟩)
      ·have x4 := hid (x3.out.trans hE4)
       rw [hg, if_neg (by simp)] at hnx
       have ho4 := hid (ho.out.ext (y3.out.trans hE4))
       clear hE4 hI1 hI2 d3
       go_wp2_with fail
       go_roundw
       case rel => exact ⟨c + 1, by omega, by omega, by go_num, by rw [hnx.out]; exact ho4, x4⟩
       case measure => simp [intOf]; omega
      ·obtain ⟨la, lc, hle, hLI⟩ := hO4.slice
       simp only [Value.slice.injEq] at hle
       obtain ⟨rfl, -, -⟩ := hle
       have x4 := hid (x3.out.trans hE4)
       have ho4 := hid (ho.out.ext (y3.out.trans hE4))
       rw [hg, if_pos rfl] at hnx
       have hLI := hid hLI
       have hbk := hid (hO4.block g (by simp [Value.ownBlock]))
       have z3 := hid (Ext.size (y3.out))
       have hm0 : (0 : Int) < (m : Int) := by omega
       clear hE4 hI1 hI2 d3 hO4
       go_wp2_with (at_builtin; refine app_row rfl _ _ _ rfl 25 Try.underlying22 elemRowS w1.heap.size w1.heap.size (PO (rowsTo n r ++ colsTo r c)) u5 rfl _ rfl (ho4.out.ext (by repeat (with_reducible first | assumption | exact Ext.refl _ | refine Ext.drew ?_ | refine Ext.drewN ?_ _ | refine Ext.alloc ?_ _ | refine xS ?_ _ | refine xT ?_ (by assumption)))) R (some ⟨g, 0, none⟩) m m hlpx.out.symm ?A4 ?A5 (Nat.le_refl _) ?A6 ?A7 ?A8 ?_; (case A4 => simp [go_sem]); (case A5 => exact hLI.out.ext (by repeat (with_reducible first | assumption | exact Ext.refl _ | refine Ext.drew ?_ | refine Ext.drewN ?_ _ | refine Ext.alloc ?_ _ | refine xS ?_ _ | refine xT ?_ (by assumption)))); (case A6 => intro bb oo h0 e; cases e; have z1 := hbk.out; have z4 := z3.out; have z5 := s1.out; exact ⟨fun he => by have := (ho.out.block _ he).2; omega, by omega⟩); (case A7 => have := hpx.out; omega); (case A8 => have := Ext.size x4.out; simp; omega); intro b9 cp9 w9 own9 g9 at9 hb9; have hE9 : Hid (Ext w1 w9) := hid (Ext.grown (by have := x4.out; exact (by repeat (with_reducible first | assumption | exact Ext.refl _ | refine Ext.drew ?_ | refine Ext.drewN ?_ _ | refine Ext.alloc ?_ _ | refine xS ?_ _ | refine xT ?_ (by assumption)))) g9 (fun g hg => (ho4.out.block g hg).1)); have own9 := hid own9; clear at9 g9 hb9)
       go_roundw
       case rel => exact ⟨c + 1, by omega, by omega, by go_num, hid (by rw [hnx.out]; exact own9.out), hE9⟩
       case measure => simp [intOf]; omega
     ·rw [if_neg he] at hstep
      obtain ⟨x, hxx⟩ : ∃ x, bc r = x := ⟨_, rfl⟩
      obtain ⟨y, hyy⟩ : ∃ x, bc c = x := ⟨_, rfl⟩
      rw [hxx] at hl1 hb1 he
      rw [hyy] at hl2 hb2 he
      have hne : ((x : Int) == (y : Int)) = false := by rw [beq_eq_false_iff_ne]; omega
      have hne2 : ((x : Int) != (y : Int)) = true := by rw [bne, hne]; rfl
      replace hxx := hid hxx
      replace hyy := hid hyy
      clear hps1 hev
      have u2 := Go.IntWalk.i64_in ((c : Int) + 1) (by omega)
      go_wp2_with fail
      refine (hl1.out _).mono ?_; rintro e w2 ⟨a1, k1, rfl, hI1, hE1⟩
      go_wp2_with fail
      refine (hl2.out _).mono ?_; rintro e w3 ⟨a2, k2, rfl, hI2, hE2⟩
      have y3 := hid (show Ext wr w3 from (by repeat (with_reducible first | assumption | exact Ext.refl _ | refine Ext.drew ?_ | refine Ext.drewN ?_ _ | refine Ext.alloc ?_ _ | refine xS ?_ _ | refine xT ?_ (by assumption))))
      clear hI1 hI2 hE1 hE2
      go_wp2_with fail
      go_roundw
      case rel => exact ⟨c + 1, by omega, by omega, by go_num, by rw [hstep.out]; exact hid (ho.out.ext y3.out), hid (hx.out.trans y3.out)⟩
      case measure => simp [intOf]; omega
    ·have hcu : c = U := by omega
     have hi2 : Hid (OwnT wr w1.heap.size w1.heap.size 25 u5 (PO (rowsTo n (r + 1)))) := hid (by rw [hrw.out r hr1, ← hcu]; exact ho.out)
     have u2 := Go.IntWalk.i64_in ((r : Int) + 1) (by omega)
     replace hcu := hid hcu
     clear ho
     go_wp2_with fail
     go_roundw
     case rel => exact ⟨r + 1, by omega, by omega, by go_num, hi2, hx⟩
     case measure => simp [intOf]; omega
  ·have hrt : r = T := by omega
   rw [hrt, ← hend.out] at ho
   obtain ⟨aa, cc, rfl, hTb⟩ := ho.out.slice
   have xs := x1.size
   clear hTb
   go_wp2_with fail
   go_ret
   exact ⟨aa, cc, rfl, ho.out.low xs xs, x1.trans hx.out⟩

end Go.Proofs.Ytommhgcgaclflaa
