/- The law SearchMore, walked. (Printed by wip/laws.) -/
import Derived.Test.YtommhgcgaclflaaZB7
import Derived.Test.YtommhgcgaclflaaZMore33
import Derived.Test.YtommhgcgaclflaaTwo
import Derived.Test.YtommhgcgaclflaaZMore36
import Derived.Test.YtommhgcgaclflaaLst
import Derived.Test.YtommhgcgaclflaaZB17
import Derived.Deep.DeepCutAuto
namespace Go.Proofs.Ytommhgcgaclflaa
set_option linter.unusedVariables false
set_option linter.unusedSimpArgs false
set_option linter.unusedSectionVars false
set_option linter.unnecessarySimpa false
open Go Go.RowKit Game
set_option maxRecDepth 100000

structure Bxd (P : Prop) : Prop where
 out : P
theorem Bxd.of {P : Prop} (h : Bxd P) : P := h.out
theorem mod_natM {x : Int} (h : 0 ≤ x) {m : Nat} (h0 : 0 < m) : ∃ j : Nat, x.tmod (m : Int) = (j : Int) ∧ j < m := by
 have h1 := Int.emod_nonneg x (b := (m : Int)) (by omega)
 have h2 := Int.emod_lt_of_pos x (b := (m : Int)) (by omega)
 refine ⟨(x % (m : Int)).toNat, ?_, by omega⟩
 rw [Int.tmod_eq_emod_of_nonneg h]; omega
theorem longsN_any (w : World) : Calls Try.prog 56 #[.slice none 0 0] w fun e w' => e = .returned (.slice none 0 0) ∧ Ext w w' := by
 go_enter Try.func56, Try.ntmps56
 go_wp2_with fail
 go_ret
 exact ⟨rfl, (by repeat (with_reducible first | assumption | exact Ext.refl _ | refine Ext.drew ?_ | refine Ext.drewN ?_ _ | refine Ext.alloc ?_ _ | refine xS ?_ _ | refine xT ?_ (by assumption)))⟩
theorem less_no {t x : List (List Int)} (v : VldT t) (vx : VldT x) (h : leF (val t) (val x)) (w : World) : Calls Try.prog 44 #[.agg #[.int .i64 (val x).1, .int .i64 (val x).2], .agg #[.int .i64 (val t).1, .int .i64 (val t).2]] w fun e w' => e = .returned (.bool false) ∧ Ext w w' := by
 obtain ⟨y1, y2, y3, y4, -, -⟩ := val_small v
 obtain ⟨z1, z2, z3, z4, -, -⟩ := val_small vx
 have i1 := mul64 (a := (val x).1) (b := (val t).2) (A := 19200000000) (B := 192000000) (by omega) (by omega) (by omega) (by omega)
 have i2 := mul64 (a := (val t).1) (b := (val x).2) (A := 19200000000) (B := 192000000) (by omega) (by omega) (by omega) (by omega)
 have hc := lessR_any _ _ _ _ i1 i2 w
 unfold lessB at hc
 unfold leF at h
 rw [decide_eq_false (by omega)] at hc
 exact hc
set_option maxHeartbeats 40000000 in
theorem searchMore_any (t : List (List Int)) (q : FitT t) (a : Option Addr) (cap : Nat) (rv cv mo : Int) (w : World) (hT : Tab w a t) (hl : t.length ≤ 9223372036854775807) (hw : ∀ i, (row t i).length ≤ 9223372036854775807) (hrv : 0 ≤ rv ∧ rv ≤ 255) (hcv : 0 ≤ cv ∧ cv ≤ 255) (hmo : 0 ≤ mo ∧ mo ≤ 255) :
 Calls Try.prog 14 #[(.agg #[.slice a t.length cap]), .int .u8 rv, .int .u8 cv, .int .u8 mo] w fun e w' => e = .returned (.bool true) ∧ Ext w w' := by
 have hT' := hid hT
 have hfi := hid (fun W hW => fineL_any t q a cap W hW hl hw)
 by_cases g : chkT t = 0
 case neg =>
  rw [decide_eq_false g] at hfi
  replace g := hid g
  clear hT hw hl
  go_enter Try.func14, Try.ntmps14
  go_wp2_with fail
  refine (hfi.out _ (hT'.out.ext (by repeat (with_reducible first | assumption | exact Ext.refl _ | refine Ext.drew ?_ | refine Ext.drewN ?_ _ | refine Ext.alloc ?_ _ | refine xS ?_ _ | refine xT ?_ (by assumption))))).mono ?_; rintro e w1 ⟨rfl, hE⟩
  go_wp2_with fail
  refine (works_any _).mono ?_; rintro e w2 ⟨rfl, hE2⟩
  go_wp2_with fail
  go_ret
  exact ⟨rfl, (by repeat (with_reducible first | assumption | exact Ext.refl _ | refine Ext.drew ?_ | refine Ext.drewN ?_ _ | refine Ext.alloc ?_ _ | refine xS ?_ _ | refine xT ?_ (by assumption)))⟩
 case pos =>
  rw [decide_eq_true g] at hfi
  have v := chkT_ok.1 g
  have m1 := v.m1; have m4 := v.m4; have n1 := v.n1; have n4 := v.n4
  have hl1 : t.length ≤ 1000 := by omega
  obtain ⟨b, off, B, O, CP, rfl, hb, hcc⟩ := hT.full (by omega) v.eq (by omega)
  obtain ⟨i, hi, him⟩ := mod_natM hrv.1 (m := t.length) (by omega)
  obtain ⟨k, hk, hkn⟩ := mod_natM hcv.1 (m := wid t) (by omega)
  have kr := Go.IntWalk.i64_in rv (by omega)
  have kc := Go.IntWalk.i64_in cv (by omega)
  have ki := Go.IntWalk.i64_in (i : Int) (by omega)
  have kk := Go.IntWalk.i64_in (k : Int) (by omega)
  have km := Go.IntWalk.i64_in mo (by omega)
  have vx := moT_vld v him hkn hmo.1
  have gx := chkT_ok.2 vx
  have qx : FitT (moT t i k mo) := vld_fit vx
  have lx := moT_len t i k mo
  have r00 := (hcc 0 (by omega)).1
  rw [Nat.add_zero] at r00
  have hle := moT_val v him hkn hmo.1
  have h1 := hid (fun W hW => valueL_any t q g (some ⟨b, off, none⟩) cap W hW)
  have hX := hid (fun aa cc W hW => valueL_any (moT t i k mo) qx gx aa cc W hW)
  have hLx := hid (fun W => less_no v vx hle W)
  have hR1 := hid (listedR_allB t.length m4)
  have hR2 := hid (listedR_allB (wid t) n4)
  have nl1 := rlN_len i t.length
  have nl2 := rlN_len k (wid t)
  rw [if_pos him] at nl1
  rw [if_pos hkn] at nl2
  have hP1 : Hid (1 < t.length → ∀ ar ac cr cc W, Tab W (some ⟨b, off, none⟩) t → Ints W ar (nats (rlN i t.length)) → Ints W ac (nats (List.range (wid t))) → Calls Try.prog 49 #[(.agg #[.slice (some ⟨b, off, none⟩) t.length cap]), .slice ar (t.length - 1) cr, .slice ac (wid t) cc] W fun e w' => ∃ a' c', e = .returned (.agg #[.slice a' (t.length - 1) c']) ∧ Tab w' a' (ptab t (rlN i t.length) (List.range (wid t))) ∧ Ext W w') := hid fun h1 ar ac cr cc W hW h2 h3 => by
   have p := rows_prt v him h1
   have h := partR_any t v (rlN i t.length) (List.range (wid t)) p.rb p.cb (by omega) (by rw [List.length_range]; omega) (some ⟨b, off, none⟩) cap ar ac cr cc W hW h2 h3
   unfold RetT at h
   rw [ptab_len, nl1, List.length_range] at h
   exact h
  have hP2 : Hid (1 < wid t → ∀ ar ac cr cc W, Tab W (some ⟨b, off, none⟩) t → Ints W ar (nats (List.range t.length)) → Ints W ac (nats (rlN k (wid t))) → Calls Try.prog 49 #[(.agg #[.slice (some ⟨b, off, none⟩) t.length cap]), .slice ar t.length cr, .slice ac (wid t - 1) cc] W fun e w' => ∃ a' c', e = .returned (.agg #[.slice a' t.length c']) ∧ Tab w' a' (ptab t (List.range t.length) (rlN k (wid t))) ∧ Ext W w') := hid fun h1 ar ac cr cc W hW h2 h3 => by
   have p := cols_prt v hkn h1
   have h := partR_any t v (List.range t.length) (rlN k (wid t)) p.rb p.cb (by rw [List.length_range]; omega) (by omega) (some ⟨b, off, none⟩) cap ar ac cr cc W hW h2 h3
   unfold RetT at h
   rw [ptab_len, nl2, List.length_range] at h
   exact h
  have hV1 : Hid (1 < t.length → ∀ aa cc W, Tab W aa (ptab t (rlN i t.length) (List.range (wid t))) → Calls Try.prog 41 #[.agg #[.slice aa (t.length - 1) cc]] W fun e w' => ∃ ar cr ak ck, e = .returned (.tuple #[.agg #[.int .i64 (val (ptab t (rlN i t.length) (List.range (wid t)))).1, .int .i64 (val (ptab t (rlN i t.length) (List.range (wid t)))).2], .slice ar (t.length - 1) cr, .slice ak (wid t) ck, .bool true]) ∧ Ext W w') := hid fun h1 aa cc W hW => by
   have p := rows_prt v him h1
   have vp := p.vld v
   have h := valueL_any (ptab t (rlN i t.length) (List.range (wid t))) (vld_fit vp) (chkT_ok.2 vp) aa cc W hW
   rw [ptab_len, nl1, p.wid, List.length_range] at h
   exact h.mono fun e w' ⟨ar, cr, ak, ck, e1, _, _, e2⟩ => ⟨ar, cr, ak, ck, e1, e2⟩
  have hV2 : Hid (1 < wid t → ∀ aa cc W, Tab W aa (ptab t (List.range t.length) (rlN k (wid t))) → Calls Try.prog 41 #[.agg #[.slice aa t.length cc]] W fun e w' => ∃ ar cr ak ck, e = .returned (.tuple #[.agg #[.int .i64 (val (ptab t (List.range t.length) (rlN k (wid t)))).1, .int .i64 (val (ptab t (List.range t.length) (rlN k (wid t)))).2], .slice ar t.length cr, .slice ak (wid t - 1) ck, .bool true]) ∧ Ext W w') := hid fun h1 aa cc W hW => by
   have p := cols_prt v hkn h1
   have vp := p.vld v
   have h := valueL_any (ptab t (List.range t.length) (rlN k (wid t))) (vld_fit vp) (chkT_ok.2 vp) aa cc W hW
   rw [ptab_len, List.length_range, p.wid, nl2] at h
   exact h.mono fun e w' ⟨ar, cr, ak, ck, e1, _, _, e2⟩ => ⟨ar, cr, ak, ck, e1, e2⟩
  have hL1 := hid (fun (h1 : 1 < t.length) W => less_no ((rows_prt v him h1).vld v) v (rows_val v him h1) W)
  have hL2 := hid (fun (h1 : 1 < wid t) W => less_no v ((cols_prt v hkn h1).vld v) (cols_val v hkn h1) W)
  rw [lx, moT_wid v] at hX
  have sh1 := shl_oneB _ m4
  have sh2 := shl_oneB _ n4
  have sh3 := shl_allB _ m4
  have sh4 := shl_allB _ n4
  -- the losses and the table that grows
  have hrow : Hid (∀ a, a < t.length → Ints w (some ⟨B a, O a, none⟩) (row t a)) := hid fun a ha => (hcc a ha).2.1
  have hrc : Hid (∀ a, a < t.length → w.cell? ⟨b, off + a, none⟩ = some (.slice (some ⟨B a, O a, none⟩) (wid t) (CP a))) := hid fun a ha => (hcc a ha).1
  have hrl : Hid (∀ a, a < t.length → (row t a).length = wid t) := hid v.eq
  have hxl : Hid (∀ a, a < t.length → (row (moT t i k mo) a).length = wid t) := hid fun a ha => moT_rl v mo ha
  have hts : Hid (∀ a, a < t.length → (moT t i k mo).take (a + 1) = (moT t i k mo).take a ++ [row (moT t i k mo) a]) := hid fun a ha => take_snoc (by rw [lx]; exact ha)
  have htr : Hid (∀ a, a < t.length → a ≠ i → row (moT t i k mo) a = row t a) := hid fun a ha hne => by rw [moT_row ha, if_neg hne]
  have hti : Hid (row (moT t i k mo) i = (row t i).set k (min 100 (nth (row t i) k + mo))) := hid (by rw [moT_row him, if_pos rfl]; rfl)
  have hte : Hid ((moT t i k mo).take t.length = moT t i k mo) := hid (by rw [← lx, List.take_length])
  have hra : Hid (∀ a, a ≠ i → nats (rlN i (a + 1)) = nats (rlN i a) ++ [(a : Int)]) := hid fun a h => by simp only [rlN]; rw [if_neg h, nats_snoc]
  have hri : Hid (nats (rlN i (i + 1)) = nats (rlN i i)) := hid (by simp [rlN])
  have hla : Hid (∀ a, a ≠ k → nats (rlN k (a + 1)) = nats (rlN k a) ++ [(a : Int)]) := hid fun a h => by simp only [rlN]; rw [if_neg h, nats_snoc]
  have hli : Hid (nats (rlN k (k + 1)) = nats (rlN k k)) := hid (by simp [rlN])
  have hlen1 : Hid (∀ a, (nats (rlN i a)).length ≤ a) := hid fun a => by rw [nats_len, rlN_len]; split <;> omega
  have hlen2 : Hid (∀ a, (nats (rlN k a)).length ≤ a) := hid fun a => by rw [nats_len, rlN_len]; split <;> omega
  have hlm1 : Hid ((nats (rlN i t.length)).length = t.length - 1) := hid (by rw [nats_len]; exact nl1)
  have hlm2 : Hid ((nats (rlN k (wid t))).length = wid t - 1) := hid (by rw [nats_len]; exact nl2)
  have hbd : Hid (-100 ≤ nth (row t i) k ∧ nth (row t i) k ≤ 100) := hid ⟨v.lo i k, v.hi i k⟩
  obtain ⟨vn, hvn⟩ : ∃ x, (val t).1 = x := ⟨_, rfl⟩
  obtain ⟨vd, hvd⟩ : ∃ x, (val t).2 = x := ⟨_, rfl⟩
  obtain ⟨xn, hxn⟩ : ∃ x, (val (moT t i k mo)).1 = x := ⟨_, rfl⟩
  obtain ⟨xd, hxd⟩ : ∃ x, (val (moT t i k mo)).2 = x := ⟨_, rfl⟩
  rw [hvn, hvd] at h1 hLx hL1 hL2
  rw [hxn, hxd] at hX hLx
  obtain ⟨P, hPP⟩ : ∃ P, (2 ^ t.length - 1 : Nat) = P := ⟨_, rfl⟩
  obtain ⟨P2, hPP2⟩ : ∃ P, (2 ^ wid t - 1 : Nat) = P := ⟨_, rfl⟩
  obtain ⟨Q1, hQ1⟩ : ∃ P, (2 ^ t.length : Nat) = P := ⟨_, rfl⟩
  obtain ⟨Q2, hQ2⟩ : ∃ P, (2 ^ wid t : Nat) = P := ⟨_, rfl⟩
  rw [hPP] at hR1 sh3
  rw [hPP2] at hR2 sh4
  rw [hQ1] at sh1 sh3
  rw [hQ2] at sh2 sh4
  obtain ⟨T1, hT1⟩ : ∃ x, ptab t (rlN i t.length) (List.range (wid t)) = x := ⟨_, rfl⟩
  obtain ⟨T2, hT2⟩ : ∃ x, ptab t (List.range t.length) (rlN k (wid t)) = x := ⟨_, rfl⟩
  rw [hT1] at hP1 hV1 hL1
  rw [hT2] at hP2 hV2 hL2
  obtain ⟨an, han⟩ : ∃ x, (val T1).1 = x := ⟨_, rfl⟩
  obtain ⟨ad, had⟩ : ∃ x, (val T1).2 = x := ⟨_, rfl⟩
  obtain ⟨cn, hcn⟩ : ∃ x, (val T2).1 = x := ⟨_, rfl⟩
  obtain ⟨cd, hcd⟩ : ∃ x, (val T2).2 = x := ⟨_, rfl⟩
  rw [han, had] at hV1 hL1
  rw [hcn, hcd] at hV2 hL2
  obtain ⟨N1, hN1⟩ : ∃ x, nats (List.range t.length) = x := ⟨_, rfl⟩
  obtain ⟨N2, hN2⟩ : ∃ x, nats (List.range (wid t)) = x := ⟨_, rfl⟩
  rw [hN1] at hR1 hP2
  rw [hN2] at hR2 hP1
  obtain ⟨RL, hRL⟩ : ∃ x, (fun a => nats (rlN i a)) = x := ⟨_, rfl⟩
  obtain ⟨CL, hCL⟩ : ∃ x, (fun a => nats (rlN k a)) = x := ⟨_, rfl⟩
  have hRL2 : ∀ a, nats (rlN i a) = RL a := fun a => congrFun hRL a
  have hCL2 : ∀ a, nats (rlN k a) = CL a := fun a => congrFun hCL a
  have hR00 : Hid (RL 0 = []) := hid (by rw [← hRL2]; rfl)
  have hC00 : Hid (CL 0 = []) := hid (by rw [← hCL2]; rfl)
  rw [hRL2] at hP1 hlm1
  rw [hCL2] at hP2 hlm2
  replace hra := hid (fun a h => by have h9 := hra.out a h; rw [hRL2, hRL2] at h9; exact h9)
  replace hla := hid (fun a h => by have h9 := hla.out a h; rw [hCL2, hCL2] at h9; exact h9)
  rw [hRL2, hRL2] at hri
  rw [hCL2, hCL2] at hli
  replace hlen1 := hid (fun a => by have h9 := hlen1.out a; rw [hRL2] at h9; exact h9)
  replace hlen2 := hid (fun a => by have h9 := hlen2.out a; rw [hCL2] at h9; exact h9)
  obtain ⟨XT, hXT⟩ : ∃ x, moT t i k mo = x := ⟨_, rfl⟩
  rw [hXT] at hX hts htr hti hte hxl
  have hX0 : Hid (XT.take 0 = []) := hid rfl
  have lXT : XT.length = t.length := by rw [← hXT]; exact lx
  obtain ⟨m, hm⟩ : ∃ x, t.length = x := ⟨_, rfl⟩
  obtain ⟨n, hn⟩ : ∃ x, wid t = x := ⟨_, rfl⟩
  rw [hm] at h1 hX hfi hR1 hP1 hP2 hV1 hV2 hL1 sh1 m1 m4 hi him hrow hrc hrl hts htr hte hxl hlm1 lXT ⊢
  rw [hn] at h1 hX r00 hR2 hP1 hP2 hV1 hV2 hL2 sh2 n1 n4 hk hkn hrc hrl hxl hlm2
  have hm00 : 0 < m := by omega
  have hm0 : (0 : Int) < (m : Int) := by omega
  have hn00 : 0 < n := by omega
  have hn0 : (0 : Int) < (n : Int) := by omega
  have hm9 : ¬ m = 0 := by omega
  have hn9 : ¬ n = 0 := by omega
  have hmz : ((m : Int) == 0) = false := by simp; omega
  have hnz : ((n : Int) == 0) = false := by simp; omega
  have hiI : (i : Int) < (m : Int) := by omega
  have hkI : (k : Int) < (n : Int) := by omega
  have R0 := hid r00
  replace lXT := hid lXT
  clear hT hw hl hl1 hb hcc r00 vx gx qx lx hle nl1 nl2 hvn hvd hxn hxd hPP hPP2 hQ1 hQ2 hT1 hT2 han had hcn hcd hN1 hN2 hRL hCL hRL2 hCL2 hXT hm hn v g hrv hcv
  go_enter Try.func14, Try.ntmps14
  go_wp2_with fail
  refine (hfi.out _ (hT'.out.ext (by repeat (with_reducible first | assumption | exact Ext.refl _ | refine Ext.drew ?_ | refine Ext.drewN ?_ _ | refine Ext.alloc ?_ _ | refine xS ?_ _ | refine xT ?_ (by assumption))))).mono ?_; rintro e w1 ⟨rfl, hE⟩
  have mt0 := hid (hE.cell (p := ⟨w.heap.size, 0, none⟩) (v := .slice (some ⟨b, off, none⟩) m cap) (by simp [go_sem]))
  have X := hid (show Ext w w1 from (by repeat (with_reducible first | assumption | exact Ext.refl _ | refine Ext.drew ?_ | refine Ext.drewN ?_ _ | refine Ext.alloc ?_ _ | refine xS ?_ _ | refine xT ?_ (by assumption))))
  clear hE
  generalize w.heap.size = Bt at *
  have f0 := hid (X.out.cell R0.out)
  clear R0
  have r_mt0 := mt0.out
  have l_mt0 := cell_lt r_mt0
  dsimp only at l_mt0
  go_wp2_with fail
  have q0 := mt0.out
  have q1 := f0.out
  refine name_act (fun A_ hA_ => ?_)
  obtain ⟨Q2, hQ2⟩ : ∃ Q2 : Exit → Act → World → Prop, Q2 = fun e a' w' => e = .normal ∧ ∃ (v0_ v1_ v2_ v3_ v4_ v5_ v6_ v7_ : Value), a' = ((((((((((A_.put (some 39) (v0_)).put (some 40) (v1_)).put (some 41) (v2_)).put (some 42) (v3_)).put (some 43) (v4_)).put (some 44) (v5_)).put (some 45) (v6_)).put (some 46) (v7_)).put (some 9) (.int .i64 m)).put (some 10) (.int .i64 n)) ∧ Ext w1 w' := ⟨_, rfl⟩
  have hpan : ∀ c a a' w w', Q2 (.panic c) a w → Q2 (.panic c) a' w' := by rw [hQ2]; rintro c a a' w w' ⟨h, _⟩; cases h
  replace hQ2 := hid hQ2
  refine wp_mono (Q := Q2) ?_ ?_
  ·subst hA_
   refine wp_region_held_drew (S := fun w' => Ext w1 w') (by kernel_rfl) (by repeat (with_reducible first | assumption | exact Ext.refl _ | refine Ext.drew ?_ | refine Ext.drewN ?_ _ | refine Ext.alloc ?_ _ | refine xS ?_ _ | refine xT ?_ (by assumption))) fun hHeld => ?_
   refine name_any (fun W0 hW => ?_)
   have s0 : Ext w1 W0 := by rw [hW]; exact hHeld
   clear hW hHeld
   refine tkA (i := 0) (v := ?_) rfl (fun c a w h => hpan c _ _ _ _ h) (Or.inl ⟨by rfl, ?yl⟩) (by assumption) ?_
   case yl => (intro w hSw; (try dsimp only at hSw); have k_0 := Ext.cell hSw q0; have k_1 := Ext.cell hSw q1; go_simp); with_reducible rfl
   try simp only [sxA, sxB, sxC, Act.put, sxD, sxE, sxF]
   refine tkA (i := 1) (v := ?_) rfl (fun c a w h => hpan c _ _ _ _ h) (Or.inl ⟨by rfl, ?yl⟩) (by assumption) ?_
   case yl => (intro w hSw; (try dsimp only at hSw); have k_0 := Ext.cell hSw q0; have k_1 := Ext.cell hSw q1; go_simp); with_reducible rfl
   try simp only [sxA, sxB, sxC, Act.put, sxD, sxE, sxF]
   refine tkA (i := 2) (v := ?_) rfl (fun c a w h => hpan c _ _ _ _ h) (Or.inl ⟨by rfl, ?yl⟩) (by assumption) ?_
   case yl => (intro w hSw; (try dsimp only at hSw); have k_0 := Ext.cell hSw q0; have k_1 := Ext.cell hSw q1; go_simp); with_reducible rfl
   try simp only [sxA, sxB, sxC, Act.put, sxD, sxE, sxF]
   refine tkA (i := 3) (v := ?_) rfl (fun c a w h => hpan c _ _ _ _ h) (Or.inl ⟨by rfl, ?yl⟩) (by assumption) ?_
   case yl => (intro w hSw; (try dsimp only at hSw); have k_0 := Ext.cell hSw q0; have k_1 := Ext.cell hSw q1; go_simp); with_reducible rfl
   try simp only [sxA, sxB, sxC, Act.put, sxD, sxE, sxF]
   refine tkA (i := 4) (v := ?_) rfl (fun c a w h => hpan c _ _ _ _ h) (Or.inl ⟨by rfl, ?yl⟩) (by assumption) ?_
   case yl => (intro w hSw; (try dsimp only at hSw); have k_0 := Ext.cell hSw q0; have k_1 := Ext.cell hSw q1; go_simp); with_reducible rfl
   try simp only [sxA, sxB, sxC, Act.put, sxD, sxE, sxF]
   refine tkA (i := 5) (v := ?_) rfl (fun c a w h => hpan c _ _ _ _ h) (Or.inl ⟨by rfl, ?yl⟩) (by assumption) ?_
   case yl => (intro w hSw; (try dsimp only at hSw); have k_0 := Ext.cell hSw q0; have k_1 := Ext.cell hSw q1; go_simp); with_reducible rfl
   try simp only [sxA, sxB, sxC, Act.put, sxD, sxE, sxF]
   refine tkA (i := 6) (v := ?_) rfl (fun c a w h => hpan c _ _ _ _ h) (Or.inl ⟨by rfl, ?yl⟩) (by assumption) ?_
   case yl => (intro w hSw; (try dsimp only at hSw); have k_0 := Ext.cell hSw q0; have k_1 := Ext.cell hSw q1; go_simp); with_reducible rfl
   try simp only [sxA, sxB, sxC, Act.put, sxD, sxE, sxF]
   refine tkA (i := 7) (v := ?_) rfl (fun c a w h => hpan c _ _ _ _ h) (Or.inl ⟨by rfl, ?yl⟩) (by assumption) ?_
   case yl => (intro w hSw; (try dsimp only at hSw); have k_0 := Ext.cell hSw q0; have k_1 := Ext.cell hSw q1; go_simp); with_reducible rfl
   try simp only [sxA, sxB, sxC, Act.put, sxD, sxE, sxF]
   refine tkA (i := 8) (v := ?_) rfl (fun c a w h => hpan c _ _ _ _ h) (Or.inl ⟨by rfl, ?yl⟩) (by assumption) ?_
   case yl => (intro w hSw; (try dsimp only at hSw); have k_0 := Ext.cell hSw q0; have k_1 := Ext.cell hSw q1; go_simp); with_reducible rfl
   try simp only [sxA, sxB, sxC, Act.put, sxD, sxE, sxF]
   refine tkA (i := 9) (v := ?_) rfl (fun c a w h => hpan c _ _ _ _ h) (Or.inl ⟨by rfl, ?yl⟩) (by assumption) ?_
   case yl => (intro w hSw; (try dsimp only at hSw); have k_0 := Ext.cell hSw q0; have k_1 := Ext.cell hSw q1; go_simp); with_reducible rfl
   try simp only [sxA, sxB, sxC, Act.put, sxD, sxE, sxF]
   refine wpAnyH_done (by kernel_rfl) ?_ _
   try simp only [sxA, sxB, sxC, Act.put, sxD, sxE, sxF]
   rw [hQ2.out]
   refine ⟨rfl, ?u1_0_1, ?u1_1_1, ?u1_2_1, ?u1_3_1, ?u1_4_1, ?u1_5_1, ?u1_6_1, ?u1_7_1, ?eq1_1, s0⟩
   case eq1_1 => ((try simp only [sxA, sxB, sxC, Act.put, sxD, sxE, sxF]); first | done | with_reducible rfl | rfl)
  rw [hQ2.out]
  rintro e a' d1 ⟨rfl, v0_, v1_, v2_, v3_, v4_, v5_, v6_, v7_, rfl, x⟩
  clear hQ2 hpan; clear Q2
  subst hA_
  simp only [sxA, sxB, sxC, Act.put, sxD, sxE, sxF]
  clear q0 q1
  replace mt0 := hid (x.cell mt0.out)
  replace f0 := hid (x.cell f0.out)
  replace X := hid (X.out.trans x)
  clear x
  go_wp2_with fail
  refine name_act (fun A_ hA_ => ?_)
  obtain ⟨Q2, hQ2⟩ : ∃ Q2 : Exit → Act → World → Prop, Q2 = fun e a' w' => e = .normal ∧ ∃ (v0_ v1_ v2_ v3_ v4_ v5_ v6_ v7_ : Value), a' = ((((((((((A_.put (some 47) (v0_)).put (some 48) (v1_)).put (some 49) (v2_)).put (some 50) (v3_)).put (some 51) (v4_)).put (some 52) (v5_)).put (some 53) (v6_)).put (some 54) (v7_)).put (some 11) (.int .i64 i)).put (some 12) (.int .i64 k)) ∧ Ext d1 w' := ⟨_, rfl⟩
  have hpan : ∀ c a a' w w', Q2 (.panic c) a w → Q2 (.panic c) a' w' := by rw [hQ2]; rintro c a a' w w' ⟨h, _⟩; cases h
  replace hQ2 := hid hQ2
  refine wp_mono (Q := Q2) ?_ ?_
  ·subst hA_
   refine wp_region_held_drew (S := fun w' => Ext d1 w') (by kernel_rfl) (by repeat (with_reducible first | assumption | exact Ext.refl _ | refine Ext.drew ?_ | refine Ext.drewN ?_ _ | refine Ext.alloc ?_ _ | refine xS ?_ _ | refine xT ?_ (by assumption))) fun hHeld => ?_
   refine name_any (fun W0 hW => ?_)
   have s0 : Ext d1 W0 := by rw [hW]; exact hHeld
   clear hW hHeld
   refine tkA (i := 0) (v := ?_) rfl (fun c a w h => hpan c _ _ _ _ h) (Or.inl ⟨by rfl, ?yl⟩) (by assumption) ?_
   case yl => (intro w hSw; (try dsimp only at hSw);  go_simp); with_reducible rfl
   try simp only [sxA, sxB, sxC, Act.put, sxD, sxE, sxF]
   refine tkA (i := 1) (v := ?_) rfl (fun c a w h => hpan c _ _ _ _ h) (Or.inl ⟨by rfl, ?yl⟩) (by assumption) ?_
   case yl => (intro w hSw; (try dsimp only at hSw);  go_simp); with_reducible rfl
   try simp only [sxA, sxB, sxC, Act.put, sxD, sxE, sxF]
   refine tkA (i := 2) (v := ?_) rfl (fun c a w h => hpan c _ _ _ _ h) (Or.inl ⟨by rfl, ?yl⟩) (by assumption) ?_
   case yl => (intro w hSw; (try dsimp only at hSw);  go_simp); with_reducible rfl
   try simp only [sxA, sxB, sxC, Act.put, sxD, sxE, sxF]
   refine tkA (i := 3) (v := ?_) rfl (fun c a w h => hpan c _ _ _ _ h) (Or.inl ⟨by rfl, ?yl⟩) (by assumption) ?_
   case yl => (intro w hSw; (try dsimp only at hSw);  go_simp); with_reducible rfl
   try simp only [sxA, sxB, sxC, Act.put, sxD, sxE, sxF]
   refine tkA (i := 4) (v := ?_) rfl (fun c a w h => hpan c _ _ _ _ h) (Or.inl ⟨by rfl, ?yl⟩) (by assumption) ?_
   case yl => (intro w hSw; (try dsimp only at hSw);  go_simp); with_reducible rfl
   try simp only [sxA, sxB, sxC, Act.put, sxD, sxE, sxF]
   refine tkA (i := 5) (v := ?_) rfl (fun c a w h => hpan c _ _ _ _ h) (Or.inl ⟨by rfl, ?yl⟩) (by assumption) ?_
   case yl => (intro w hSw; (try dsimp only at hSw);  go_simp); with_reducible rfl
   try simp only [sxA, sxB, sxC, Act.put, sxD, sxE, sxF]
   refine tkA (i := 6) (v := ?_) rfl (fun c a w h => hpan c _ _ _ _ h) (Or.inl ⟨by rfl, ?yl⟩) (by assumption) ?_
   case yl => (intro w hSw; (try dsimp only at hSw);  go_simp); with_reducible rfl
   try simp only [sxA, sxB, sxC, Act.put, sxD, sxE, sxF]
   refine tkA (i := 7) (v := ?_) rfl (fun c a w h => hpan c _ _ _ _ h) (Or.inl ⟨by rfl, ?yl⟩) (by assumption) ?_
   case yl => (intro w hSw; (try dsimp only at hSw);  go_simp); with_reducible rfl
   try simp only [sxA, sxB, sxC, Act.put, sxD, sxE, sxF]
   refine tkA (i := 8) (v := ?_) rfl (fun c a w h => hpan c _ _ _ _ h) (Or.inl ⟨by rfl, ?yl⟩) (by assumption) ?_
   case yl => (intro w hSw; (try dsimp only at hSw);  go_simp); with_reducible rfl
   try simp only [sxA, sxB, sxC, Act.put, sxD, sxE, sxF]
   refine tkA (i := 9) (v := ?_) rfl (fun c a w h => hpan c _ _ _ _ h) (Or.inl ⟨by rfl, ?yl⟩) (by assumption) ?_
   case yl => (intro w hSw; (try dsimp only at hSw);  go_simp); with_reducible rfl
   try simp only [sxA, sxB, sxC, Act.put, sxD, sxE, sxF]
   refine wpAnyH_done (by kernel_rfl) ?_ _
   try simp only [sxA, sxB, sxC, Act.put, sxD, sxE, sxF]
   rw [hQ2.out]
   refine ⟨rfl, ?u2_0_1, ?u2_1_1, ?u2_2_1, ?u2_3_1, ?u2_4_1, ?u2_5_1, ?u2_6_1, ?u2_7_1, ?eq2_1, s0⟩
   case eq2_1 => ((try simp only [sxA, sxB, sxC, Act.put, sxD, sxE, sxF]); first | done | with_reducible rfl | rfl)
  rw [hQ2.out]
  rintro e a' d2 ⟨rfl, v0_, v1_, v2_, v3_, v4_, v5_, v6_, v7_, rfl, x⟩
  clear hQ2 hpan; clear Q2
  subst hA_
  simp only [sxA, sxB, sxC, Act.put, sxD, sxE, sxF]
  replace mt0 := hid (x.cell mt0.out)
  replace f0 := hid (x.cell f0.out)
  replace X := hid (X.out.trans x)
  clear x
  have r_mt0 := mt0.out
  have l_mt0 := cell_lt r_mt0
  dsimp only at l_mt0
  go_wp2_with fail
  refine (h1.out _ (hT'.out.ext (X.out.trans (show Ext d2 _ from (by repeat (with_reducible first | assumption | exact Ext.refl _ | refine Ext.drew ?_ | refine Ext.drewN ?_ _ | refine Ext.alloc ?_ _ | refine xS ?_ _ | refine xT ?_ (by assumption))))))).mono ?_; rintro e u3 ⟨ar, cr, ak, ck, rfl, lr_, lk_, hE⟩
  have x : Ext d2 u3 := (by repeat (with_reducible first | assumption | exact Ext.refl _ | refine Ext.drew ?_ | refine Ext.drewN ?_ _ | refine Ext.alloc ?_ _ | refine xS ?_ _ | refine xT ?_ (by assumption)))
  clear r_mt0 l_mt0
  replace mt0 := hid (x.cell mt0.out)
  replace f0 := hid (x.cell f0.out)
  replace X := hid (X.out.trans x)
  have lr := hid lr_
  clear lr_
  have lk := hid lk_
  clear lk_
  clear x hE
  clear lr lk
  have r_mt0 := mt0.out
  have l_mt0 := cell_lt r_mt0
  dsimp only at l_mt0
  go_upto_region 6 with (fail)
  refine name_wp (fun v4 hw => ?_)
  have x : Ext u3 v4 := by rw [hw]; exact (by repeat (with_reducible first | assumption | exact Ext.refl _ | refine Ext.drew ?_ | refine Ext.drewN ?_ _ | refine Ext.alloc ?_ _ | refine xS ?_ _ | refine xT ?_ (by assumption)))
  have bv0 := hid (show v4.cell? ⟨u3.heap.size, 0, none⟩ = some (.int .i64 vn) by rw [hw]; simp [go_sem])
  have bv1 := hid (show v4.cell? ⟨u3.heap.size, 1, none⟩ = some (.int .i64 vd) by rw [hw]; simp [go_sem])
  clear r_mt0 l_mt0
  replace mt0 := hid (x.cell mt0.out)
  replace f0 := hid (x.cell f0.out)
  replace X := hid (X.out.trans x)
  clear x hw
  generalize u3.heap.size = Bbv at *
  go_wp2_with fail
  refine name_wp (fun v9 hw => ?_)
  have x : Ext v4 v9 := by rw [hw]; exact (by repeat (with_reducible first | assumption | exact Ext.refl _ | refine Ext.drew ?_ | refine Ext.drewN ?_ _ | refine Ext.alloc ?_ _ | refine xS ?_ _ | refine xT ?_ (by assumption)))
  have dx0 : v9.cell? ⟨v4.heap.size, 0, none⟩ = some (.slice none 0 0) := by rw [hw]; simp [go_sem]
  have df0 : v9.frozen? ⟨v4.heap.size, 0, none⟩ = false := by rw [hw]; simp [go_sem]
  have htw := hid (Two.nil (D := v4.heap.size) (eT := 25) (eI := 3) dx0 df0)
  clear hw dx0 df0
  obtain ⟨D, hD⟩ : ∃ D, v4.heap.size = D := ⟨_, rfl⟩
  rw [hD] at htw ⊢
  have hcD := hid (show v4.heap.size ≤ D by omega)
  replace hD := hid hD
  have x9 := hid x
  clear x
  go_loopw [18, 20] (fun s ii wr => ∃ (a : Nat) (vv : Value) (vs : List Value) (sv : Value), a ≤ m ∧ ii = .int .i64 a ∧ sv = s ∧ Hid (Two wr D 25 3 vv vs (XT.take a) sv (RL a)) ∧ Hid (Ext v4 wr)) (fun _ ii _ => (m - intOf ii).toNat)
  case atStart => exact ⟨0, .slice none 0 0, [], _, by omega, rfl, rfl, by rw [hX0.out, hR00.out]; exact htw, x9⟩
  case round =>
   obtain ⟨a, vv, vs, sv, ha, rfl, rfl, htw5, hx⟩ := hrel
   by_cases hal : a < m
   ·obtain ⟨w5, rfl⟩ : ∃ w4 : World, w4 = wr := ⟨_, rfl⟩
    have tc := hx.out.cell mt0.out
    have xw := hid (X.out.trans hx.out)
    have r0 := xw.out.cell (hrc.out a hal)
    have ri := hid ((hrow.out a hal).ext xw.out)
    have hla0 := hid (hrl.out a hal)
    have hst := hid (hts.out a hal)
    have hXl := hid (hxl.out a hal)
    have z1 := Go.IntWalk.i64_in ((a : Int) + 1) (by omega)
    have haI : (a : Int) < (m : Int) := by omega
    obtain ⟨rw_, hrw⟩ : ∃ x, row t a = x := ⟨_, rfl⟩
    rw [hrw] at ri hla0
    have TC := hid tc
    have R0 := hid r0
    clear tc r0
    go_wp2_with fail
    have q0 := TC.out
    have q1 := R0.out
    refine name_act (fun A_ hA_ => ?_)
    obtain ⟨Q2, hQ2⟩ : ∃ Q2 : Exit → Act → World → Prop, Q2 = fun e a' w' => e = .normal ∧ ∃ (lb : Nat) (lc : Nat) (v1_ v2_ v3_ v4_ v5_ : Value), a' = ((((((((A_.put (some 67) (.slice none 0 0)).put (some 68) (v1_)).put (some 69) (v2_)).put (some 70) (v3_)).put (some 71) (v4_)).put (some 72) (v5_)).put (some 73) (.slice (some ⟨lb, 0, none⟩) n lc)).put (some 21) (.slice (some ⟨lb, 0, none⟩) n lc)) ∧ Ext w5 w' ∧ OwnI w' w5.heap.size 2 (.slice (some ⟨lb, 0, none⟩) n lc) (rw_) := ⟨_, rfl⟩
    have hpan : ∀ c a a' w w', Q2 (.panic c) a w → Q2 (.panic c) a' w' := by rw [hQ2]; rintro c a a' w w' ⟨h, _⟩; cases h
    replace hQ2 := hid hQ2
    refine wp_mono (Q := Q2) ?_ ?_
    ·subst hA_
     refine wp_region_held_drew (S := fun w' => Ext w5 w') (by kernel_rfl) (by repeat (with_reducible first | assumption | exact Ext.refl _ | refine Ext.drew ?_ | refine Ext.drewN ?_ _ | refine Ext.alloc ?_ _ | refine xS ?_ _ | refine xT ?_ (by assumption))) fun hHeld => ?_
     refine name_any (fun W0 hW => ?_)
     have s0 : Ext w5 W0 := by rw [hW]; exact hHeld
     clear hW hHeld
     refine tkA (i := 1) (v := ?_) rfl (fun c a w h => hpan c _ _ _ _ h) (Or.inl ⟨by rfl, ?yl⟩) (by assumption) ?_
     case yl => (intro w hSw; (try dsimp only at hSw); have k_0 := Ext.cell hSw q0; have k_1 := Ext.cell hSw q1; go_simp); with_reducible rfl
     try simp only [sxA, sxB, sxC, Act.put, sxD, sxE, sxF]
     refine tkA (i := 2) (v := ?_) rfl (fun c a w h => hpan c _ _ _ _ h) (Or.inl ⟨by rfl, ?yl⟩) (by assumption) ?_
     case yl => (intro w hSw; (try dsimp only at hSw); have k_0 := Ext.cell hSw q0; have k_1 := Ext.cell hSw q1; go_simp); with_reducible rfl
     try simp only [sxA, sxB, sxC, Act.put, sxD, sxE, sxF]
     refine tkA (i := 3) (v := ?_) rfl (fun c a w h => hpan c _ _ _ _ h) (Or.inl ⟨by rfl, ?yl⟩) (by assumption) ?_
     case yl => (intro w hSw; (try dsimp only at hSw); have k_0 := Ext.cell hSw q0; have k_1 := Ext.cell hSw q1; go_simp); with_reducible rfl
     try simp only [sxA, sxB, sxC, Act.put, sxD, sxE, sxF]
     refine tkA (i := 4) (v := ?_) rfl (fun c a w h => hpan c _ _ _ _ h) (Or.inl ⟨by rfl, ?yl⟩) (by assumption) ?_
     case yl => (intro w hSw; (try dsimp only at hSw); have k_0 := Ext.cell hSw q0; have k_1 := Ext.cell hSw q1; go_simp); with_reducible rfl
     try simp only [sxA, sxB, sxC, Act.put, sxD, sxE, sxF]
     refine tkA (i := 5) (v := ?_) rfl (fun c a w h => hpan c _ _ _ _ h) (Or.inl ⟨by rfl, ?yl⟩) (by assumption) ?_
     case yl => (intro w hSw; (try dsimp only at hSw); have k_0 := Ext.cell hSw q0; have k_1 := Ext.cell hSw q1; go_simp); with_reducible rfl
     try simp only [sxA, sxB, sxC, Act.put, sxD, sxE, sxF]
     refine wpAnyH_ready (rs := [0]) (by kernel_rfl) (by simp) ?_
     refine AllReadyH.cons (o := _) rfl (fun K hK => ?_) AllReadyH.nil
     go_simp
     refine (longsN_any _).mono ?_; rintro e W1 ⟨rfl, e1⟩
     have s1 := s0.trans e1
     refine hK.out _ _ s1 (fun _ => ?_)
     clear hK K
     (try simp only [sxA, sxB, sxC, Act.put, sxD, sxE, sxF])
     refine wpAnyH_ready (rs := [6]) (by kernel_rfl) (by simp) ?_
     refine AllReadyH.cons (o := _) rfl (fun K hK => ?_) AllReadyH.nil
     refine appN_wp _ _ _ rfl 2 Try.underlying25 elemI64 (rw_) n (hla0.out.symm) rfl _ _ rfl (ri.out.ext s1) (by omega) (by omega) ?_
     intro ab6_ ac6_ W2 o6__ e2 l6__
     have o6_ := hid o6__; clear o6__ l6__
     have s2 := s1.trans e2
     refine hK.out _ _ s2 (fun _ => ?_)
     clear hK K
     (try simp only [sxA, sxB, sxC, Act.put, sxD, sxE, sxF])
     refine tkA (i := 7) (v := ?_) rfl (fun c a w h => hpan c _ _ _ _ h) (Or.inl ⟨by rfl, ?yl⟩) (by assumption) ?_
     case yl => (intro w hSw; (try dsimp only at hSw); have k_0 := Ext.cell hSw q0; have k_1 := Ext.cell hSw q1; go_simp); with_reducible rfl
     try simp only [sxA, sxB, sxC, Act.put, sxD, sxE, sxF]
     refine wpAnyH_done (by kernel_rfl) ?_ _
     try simp only [sxA, sxB, sxC, Act.put, sxD, sxE, sxF]
     rw [hQ2.out]
     refine ⟨rfl, ab6_, ac6_, ?u3_0_1, ?u3_1_1, ?u3_2_1, ?u3_3_1, ?u3_4_1, ?eq3_1, s2, ((o6_.out.ext (Ext.refl W2)).mono s1.size)⟩
     case eq3_1 => ((try simp only [sxA, sxB, sxC, Act.put, sxD, sxE, sxF]); first | done | with_reducible rfl | rfl)
    rw [hQ2.out]
    rintro e a' w6 ⟨rfl, lb, lc, v1_, v2_, v3_, v4_, v5_, rfl, x, o6⟩
    clear hQ2 hpan; clear Q2
    subst hA_
    simp only [sxA, sxB, sxC, Act.put, sxD, sxE, sxF]
    clear q0 q1
    have htw6 := hid (htw5.out.ext x)
    have x6 := hid (hx.out.trans x)
    have hlb : w5.heap.size ≤ lb := (OwnI.block o6 _ rfl).1
    have hlb6 : lb < w6.heap.size := (OwnI.block o6 _ rfl).2
    have hcap := hid (OwnI.cap o6).2
    have hD6 : D + 1 ≤ w5.heap.size := htw5.out.l
    have hvv := hid (show vv.ownBlock ≠ some lb from fun e => by have h9 := (htw5.out.v.block lb e).2; omega)
    have hss := hid (show sv.ownBlock ≠ some lb from fun e => by have h9 := (OwnI.block htw5.out.r lb e).2; omega)
    have o6' := hid o6
    have x56 := hid x
    have hx5 := hx
    clear o6 x hx
    by_cases e : a = i
    ·have hwi : row XT a = rw_.set k (min 100 (nth rw_ k + mo)) := by rw [e, hti.out, ← e, hrw]
     have hbd2 : -100 ≤ nth rw_ k ∧ nth rw_ k ≤ 100 := by rw [← hrw, e]; exact hbd.out
     have hRi : RL (a + 1) = RL a := by rw [e]; exact hri.out
     replace hwi := hid hwi
     replace hRi := hid hRi
     obtain ⟨c1, f1, -, -⟩ := OwnI.facts o6'.out (j := k) (by rw [hla0.out]; exact hkn)
     obtain ⟨y, hy⟩ : ∃ y, nth rw_ k = y := ⟨_, rfl⟩
     rw [hy] at hwi hbd2 c1
     have z2 := Go.IntWalk.i64_in (y + mo) (by omega)
     replace hy := hid hy
     subst e
     by_cases hmn : y + mo < 100
     ·have hmn2 := hmn
      have hown := hid (show OwnI (w6.setCell ⟨lb, k, none⟩ (.int .i64 (y + mo))) w5.heap.size 2 (.slice (some ⟨lb, 0, none⟩) n lc) (row XT a) from by
       have h2 := OwnI.set (b := lb) (cap := lc) (l := rw_) (w := w6) (e := 2) (base := w5.heap.size) (by rw [hla0.out]; exact o6'.out) (i := k) (y + mo)
       rw [List.length_set, hla0.out] at h2
       rw [hwi.out, show min 100 (y + mo) = y + mo by omega]
       exact h2)
      go_upto_region 15 with (fail)
      refine name_wp (fun w9 hw9 => ?_)
      have x59 : Ext w5 w9 := by rw [hw9]; have := x56.out; exact (by repeat (with_reducible first | assumption | exact Ext.refl _ | refine Ext.drew ?_ | refine Ext.drewN ?_ _ | refine Ext.alloc ?_ _ | refine xS ?_ _ | refine xT ?_ (by assumption)))
      have x09 := hid (show Ext v4 w9 from hx5.out.trans x59)
      have htw9 := hid (show Two w9 D 25 3 vv vs (XT.take a) sv (RL (a + 1)) from by rw [hRi.out]; exact htw5.out.ext x59)
      have hln := hid (show Ints w9 (some ⟨lb, 0, none⟩) (row XT a) from by rw [hw9]; exact hown.out.ints)
      have hs9 := hss
      have hlbs := hid (show lb < w9.heap.size from by rw [hw9]; simpa using hlb6)
      clear hw9 x59 c1 f1
      have dc9 := htw9.out.c
      have hl9_ := hid htw9.out.l
      have hlb9 := hid (show lb < w9.heap.size from hlbs.out)
      go_wp2_with (at_builtin; refine Bxd.of ?_)
      refine ⟨?_⟩
      refine wpList_plain rfl (fun K hK => ?_)
      refine appW_wp _ _ _ rfl 25 Try.underlying22 elemRow (D + 1) vs vv rfl _ rfl (htw9.out.v.ext (by repeat (with_reducible first | assumption | exact Ext.refl _ | refine Ext.drew ?_ | refine Ext.drewN ?_ _ | refine Ext.alloc ?_ _ | refine xS ?_ _ | refine xT ?_ (by assumption)))) (.slice (some ⟨lb, 0, none⟩) n lc) ?c1 rfl ?c2 ?c3 ?_
      (case c1 => simp [go_sem])
      (case c2 => rw [htw9.out.q.1, List.length_take]; omega)
      (case c3 => have h9 := hl9_.out; simp; omega)
      intro b8 cp8 w8 own8 hg8 hb8 hl8
      refine hK _ _ ?_
      obtain ⟨d0, d1⟩ := (htw9.out.ext (show Ext w9 _ from (by repeat (with_reducible first | assumption | exact Ext.refl _ | refine Ext.drew ?_ | refine Ext.drewN ?_ _ | refine Ext.alloc ?_ _ | refine xS ?_ _ | refine xT ?_ (by assumption))))).box hg8
      have htwF := hid ((htw9.out.ext (show Ext w9 _ from (by repeat (with_reducible first | assumption | exact Ext.refl _ | refine Ext.drew ?_ | refine Ext.drewN ?_ _ | refine Ext.alloc ?_ _ | refine xS ?_ _ | refine xT ?_ (by assumption))))).growT hg8 (ra := lb) (rn := n) (rc := lc) (r := row XT a) (hln.out.ext (by repeat (with_reducible first | assumption | exact Ext.refl _ | refine Ext.drew ?_ | refine Ext.drewN ?_ _ | refine Ext.alloc ?_ _ | refine xS ?_ _ | refine xT ?_ (by assumption)))) hXl.out.symm hcap.out hvv.out hs9.out (by omega) (by have h9 := hlb9.out; simp; omega) own8 hb8)
      have x08 := hid ((htw9.out.ext (show Ext w9 _ from (by repeat (with_reducible first | assumption | exact Ext.refl _ | refine Ext.drew ?_ | refine Ext.drewN ?_ _ | refine Ext.alloc ?_ _ | refine xS ?_ _ | refine xT ?_ (by assumption))))).low (.inl hg8) v4 (by have := x09.out; exact (by repeat (with_reducible first | assumption | exact Ext.refl _ | refine Ext.drew ?_ | refine Ext.drewN ?_ _ | refine Ext.alloc ?_ _ | refine xS ?_ _ | refine xT ?_ (by assumption)))) (by have := hcD.out; omega))
      have hcD2 := hcD.out
      clear own8 hg8 hb8 hl8
      go_wp2_with fail
      have x08' := x08.out
      go_roundw
      case rel => exact ⟨a + 1, _, _, _, by omega, by go_num, rfl, by rw [hst.out]; exact htwF, hid (by repeat (with_reducible first | assumption | exact Ext.refl _ | refine Ext.drew ?_ | refine Ext.drewN ?_ _ | refine Ext.alloc ?_ _ | refine xS ?_ _ | refine xT ?_ (by assumption)))⟩
      case measure => simp [intOf]; omega
     ·have hmn2 : ¬ y + mo < 100 := hmn
      have hown := hid (show OwnI (w6.setCell ⟨lb, k, none⟩ (.int .i64 (100))) w5.heap.size 2 (.slice (some ⟨lb, 0, none⟩) n lc) (row XT a) from by
       have h2 := OwnI.set (b := lb) (cap := lc) (l := rw_) (w := w6) (e := 2) (base := w5.heap.size) (by rw [hla0.out]; exact o6'.out) (i := k) (100)
       rw [List.length_set, hla0.out] at h2
       rw [hwi.out, show min 100 (y + mo) = 100 by omega]
       exact h2)
      go_upto_region 15 with (fail)
      refine name_wp (fun w9 hw9 => ?_)
      have x59 : Ext w5 w9 := by rw [hw9]; have := x56.out; exact (by repeat (with_reducible first | assumption | exact Ext.refl _ | refine Ext.drew ?_ | refine Ext.drewN ?_ _ | refine Ext.alloc ?_ _ | refine xS ?_ _ | refine xT ?_ (by assumption)))
      have x09 := hid (show Ext v4 w9 from hx5.out.trans x59)
      have htw9 := hid (show Two w9 D 25 3 vv vs (XT.take a) sv (RL (a + 1)) from by rw [hRi.out]; exact htw5.out.ext x59)
      have hln := hid (show Ints w9 (some ⟨lb, 0, none⟩) (row XT a) from by rw [hw9]; exact hown.out.ints)
      have hs9 := hss
      have hlbs := hid (show lb < w9.heap.size from by rw [hw9]; simpa using hlb6)
      clear hw9 x59 c1 f1
      have dc9 := htw9.out.c
      have hl9_ := hid htw9.out.l
      have hlb9 := hid (show lb < w9.heap.size from hlbs.out)
      go_wp2_with (at_builtin; refine Bxd.of ?_)
      refine ⟨?_⟩
      refine wpList_plain rfl (fun K hK => ?_)
      refine appW_wp _ _ _ rfl 25 Try.underlying22 elemRow (D + 1) vs vv rfl _ rfl (htw9.out.v.ext (by repeat (with_reducible first | assumption | exact Ext.refl _ | refine Ext.drew ?_ | refine Ext.drewN ?_ _ | refine Ext.alloc ?_ _ | refine xS ?_ _ | refine xT ?_ (by assumption)))) (.slice (some ⟨lb, 0, none⟩) n lc) ?c1 rfl ?c2 ?c3 ?_
      (case c1 => simp [go_sem])
      (case c2 => rw [htw9.out.q.1, List.length_take]; omega)
      (case c3 => have h9 := hl9_.out; simp; omega)
      intro b8 cp8 w8 own8 hg8 hb8 hl8
      refine hK _ _ ?_
      obtain ⟨d0, d1⟩ := (htw9.out.ext (show Ext w9 _ from (by repeat (with_reducible first | assumption | exact Ext.refl _ | refine Ext.drew ?_ | refine Ext.drewN ?_ _ | refine Ext.alloc ?_ _ | refine xS ?_ _ | refine xT ?_ (by assumption))))).box hg8
      have htwF := hid ((htw9.out.ext (show Ext w9 _ from (by repeat (with_reducible first | assumption | exact Ext.refl _ | refine Ext.drew ?_ | refine Ext.drewN ?_ _ | refine Ext.alloc ?_ _ | refine xS ?_ _ | refine xT ?_ (by assumption))))).growT hg8 (ra := lb) (rn := n) (rc := lc) (r := row XT a) (hln.out.ext (by repeat (with_reducible first | assumption | exact Ext.refl _ | refine Ext.drew ?_ | refine Ext.drewN ?_ _ | refine Ext.alloc ?_ _ | refine xS ?_ _ | refine xT ?_ (by assumption)))) hXl.out.symm hcap.out hvv.out hs9.out (by omega) (by have h9 := hlb9.out; simp; omega) own8 hb8)
      have x08 := hid ((htw9.out.ext (show Ext w9 _ from (by repeat (with_reducible first | assumption | exact Ext.refl _ | refine Ext.drew ?_ | refine Ext.drewN ?_ _ | refine Ext.alloc ?_ _ | refine xS ?_ _ | refine xT ?_ (by assumption))))).low (.inl hg8) v4 (by have := x09.out; exact (by repeat (with_reducible first | assumption | exact Ext.refl _ | refine Ext.drew ?_ | refine Ext.drewN ?_ _ | refine Ext.alloc ?_ _ | refine xS ?_ _ | refine xT ?_ (by assumption)))) (by have := hcD.out; omega))
      have hcD2 := hcD.out
      clear own8 hg8 hb8 hl8
      go_wp2_with fail
      have x08' := x08.out
      go_roundw
      case rel => exact ⟨a + 1, _, _, _, by omega, by go_num, rfl, by rw [hst.out]; exact htwF, hid (by repeat (with_reducible first | assumption | exact Ext.refl _ | refine Ext.drew ?_ | refine Ext.drewN ?_ _ | refine Ext.alloc ?_ _ | refine xS ?_ _ | refine xT ?_ (by assumption)))⟩
      case measure => simp [intOf]; omega
    ·have haI2 : ¬ (a : Int) = (i : Int) := by omega
     have haI3 : ¬ a = i := e
     have hwi : row XT a = rw_ := by rw [htr.out a hal e, hrw]
     have hRa : RL (a + 1) = RL a ++ [(a : Int)] := hra.out a e
     have hRl := hid (hlen1.out a)
     replace hwi := hid hwi
     replace hRa := hid hRa
     have hlow := hid (show D + 1 ≤ w6.heap.size from htw6.out.l)
     replace haI3 := hid haI3
     go_upto_region 15 with (at_builtin; refine wpList_plain rfl (fun K hK => ?_); refine appD_wp _ _ _ rfl 3 Try.underlying42 elemInt (D + 1) (RL a) [(a : Int)] _ rfl _ _ rfl (htw6.out.r.ext (by repeat (with_reducible first | assumption | exact Ext.refl _ | refine Ext.drew ?_ | refine Ext.drewN ?_ _ | refine Ext.alloc ?_ _ | refine xS ?_ _ | refine xT ?_ (by assumption)))) ?b1 (by simp) ?b2 ?b3 ?_; (case b1 => intro i hi; obtain rfl : i = 0 := (by simp at hi; omega); exact ⟨_, _, rfl, by simp [go_sem, nth]⟩); (case b2 => have h9 := hRl.out; simp; omega); (case b3 => have h9 := hlow.out; simp; omega); intro b9 cp9 w9 own9 hg9 hb9 hl9; refine hK _ _ ?_)
     have hl9 : (RL (a + 1)).length = (RL a).length + 1 := by rw [hRa.out]; simp
     rw [← hRa.out, hl9] at own9
     have htw9 := hid ((htw6.out.ext (show Ext w6 _ from (by repeat (with_reducible first | assumption | exact Ext.refl _ | refine Ext.drew ?_ | refine Ext.drewN ?_ _ | refine Ext.alloc ?_ _ | refine xS ?_ _ | refine xT ?_ (by assumption))))).growS hg9 own9 hb9)
     have x09 := hid ((htw6.out.ext (show Ext w6 _ from (by repeat (with_reducible first | assumption | exact Ext.refl _ | refine Ext.drew ?_ | refine Ext.drewN ?_ _ | refine Ext.alloc ?_ _ | refine xS ?_ _ | refine xT ?_ (by assumption))))).low (.inr hg9) v4 (by have := x6.out; exact (by repeat (with_reducible first | assumption | exact Ext.refl _ | refine Ext.drew ?_ | refine Ext.drewN ?_ _ | refine Ext.alloc ?_ _ | refine xS ?_ _ | refine xT ?_ (by assumption)))) (by have := hcD.out; omega))
     have hg9' : World.grownBy _ w9 sv.ownBlock := hg9
     have hln := hid (show Ints w9 (some ⟨lb, 0, none⟩) (row XT a) from by rw [hwi.out]; exact Ints.grown (o6'.out.ints.ext (show Ext w6 _ from (by repeat (with_reducible first | assumption | exact Ext.refl _ | refine Ext.drew ?_ | refine Ext.drewN ?_ _ | refine Ext.alloc ?_ _ | refine xS ?_ _ | refine xT ?_ (by assumption))))) hg9' hss.out)
     have hs9 := hid (show (Value.slice (some ⟨b9, 0, none⟩) ((RL a).length + 1) cp9).ownBlock ≠ some lb from fun e => by
      have e2 : b9 = lb := by simpa [Value.ownBlock] using e
      have hb9' : sv.ownBlock = some b9 ∨ b9 = _ := hb9
      rcases hb9' with h | h
      ·rw [e2] at h; exact hss.out h
      ·simp at h; omega)
     have hlbs := hid (show lb < w9.heap.size from by have h9 := hg9'.size; simp at h9; omega)
     clear own9 hg9 hg9' hb9 hl9
     have dc9 := htw9.out.c
     have hl9_ := hid htw9.out.l
     have hlb9 := hid (show lb < w9.heap.size from hlbs.out)
     go_wp2_with (at_builtin; refine Bxd.of ?_)
     refine ⟨?_⟩
     refine wpList_plain rfl (fun K hK => ?_)
     refine appW_wp _ _ _ rfl 25 Try.underlying22 elemRow (D + 1) vs vv rfl _ rfl (htw9.out.v.ext (by repeat (with_reducible first | assumption | exact Ext.refl _ | refine Ext.drew ?_ | refine Ext.drewN ?_ _ | refine Ext.alloc ?_ _ | refine xS ?_ _ | refine xT ?_ (by assumption)))) (.slice (some ⟨lb, 0, none⟩) n lc) ?c1 rfl ?c2 ?c3 ?_
     (case c1 => simp [go_sem])
     (case c2 => rw [htw9.out.q.1, List.length_take]; omega)
     (case c3 => have h9 := hl9_.out; simp; omega)
     intro b8 cp8 w8 own8 hg8 hb8 hl8
     refine hK _ _ ?_
     obtain ⟨d0, d1⟩ := (htw9.out.ext (show Ext w9 _ from (by repeat (with_reducible first | assumption | exact Ext.refl _ | refine Ext.drew ?_ | refine Ext.drewN ?_ _ | refine Ext.alloc ?_ _ | refine xS ?_ _ | refine xT ?_ (by assumption))))).box hg8
     have htwF := hid ((htw9.out.ext (show Ext w9 _ from (by repeat (with_reducible first | assumption | exact Ext.refl _ | refine Ext.drew ?_ | refine Ext.drewN ?_ _ | refine Ext.alloc ?_ _ | refine xS ?_ _ | refine xT ?_ (by assumption))))).growT hg8 (ra := lb) (rn := n) (rc := lc) (r := row XT a) (hln.out.ext (by repeat (with_reducible first | assumption | exact Ext.refl _ | refine Ext.drew ?_ | refine Ext.drewN ?_ _ | refine Ext.alloc ?_ _ | refine xS ?_ _ | refine xT ?_ (by assumption)))) hXl.out.symm hcap.out hvv.out hs9.out (by omega) (by have h9 := hlb9.out; simp; omega) own8 hb8)
     have x08 := hid ((htw9.out.ext (show Ext w9 _ from (by repeat (with_reducible first | assumption | exact Ext.refl _ | refine Ext.drew ?_ | refine Ext.drewN ?_ _ | refine Ext.alloc ?_ _ | refine xS ?_ _ | refine xT ?_ (by assumption))))).low (.inl hg8) v4 (by have := x09.out; exact (by repeat (with_reducible first | assumption | exact Ext.refl _ | refine Ext.drew ?_ | refine Ext.drewN ?_ _ | refine Ext.alloc ?_ _ | refine xS ?_ _ | refine xT ?_ (by assumption)))) (by have := hcD.out; omega))
     have hcD2 := hcD.out
     clear own8 hg8 hb8 hl8
     go_wp2_with fail
     have x08' := x08.out
     go_roundw
     case rel => exact ⟨a + 1, _, _, _, by omega, by go_num, rfl, by rw [hst.out]; exact htwF, hid (by repeat (with_reducible first | assumption | exact Ext.refl _ | refine Ext.drew ?_ | refine Ext.drewN ?_ _ | refine Ext.alloc ?_ _ | refine xS ?_ _ | refine xT ?_ (by assumption)))⟩
     case measure => simp [intOf]; omega
   ·skip
    have ham : a = m := by omega
    have hnm : ¬ (m : Int) < (m : Int) := by omega
    rw [ham] at htw5
    rw [ham]
    obtain ⟨wq, rfl⟩ : ∃ w4 : World, w4 = wr := ⟨_, rfl⟩
    have x := hx.out
    have d0 := htw5.out.c
    have l1 := htw5.out.r
    obtain ⟨xa, xc, rfl, tX⟩ := htw5.out.tab
    rw [hte.out] at tX
    rw [List.length_take, lXT.out, Nat.min_self] at d0
    obtain ⟨ra, rcap, rfl, lR⟩ := l1.slice
    rw [hlm1.out]
    have bx0 := hid d0
    replace tX := hid tX
    replace lR := hid lR
    clear ham hal ha hx d0 l1 htw5
    replace mt0 := hid (x.cell mt0.out)
    replace f0 := hid (x.cell f0.out)
    replace bv0 := hid (x.cell bv0.out)
    replace bv1 := hid (x.cell bv1.out)
    replace X := hid (X.out.trans x)
    clear x
    go_wp2_with fail
    go_loopw [19, 22] (fun s ii wr => ∃ a : Nat, a ≤ n ∧ ii = .int .i64 a ∧ Hid (OwnI wr wq.heap.size 3 s (CL a)) ∧ Hid (Ext wq wr)) (fun _ ii _ => (n - intOf ii).toNat)
    case atStart => exact ⟨0, by omega, rfl, by rw [hC00.out]; exact hid (OwnI.nil _ _ _), hid (Ext.refl _)⟩
    case round =>
     obtain ⟨a, ha, rfl, ho, hx⟩ := hrel
     by_cases hal : a < n
     ·have z1 := Go.IntWalk.i64_in ((a : Int) + 1) (by omega)
      have haI : (a : Int) < (n : Int) := by omega
      have hV := hid hx.out
      have hsz := hid (Ext.size hx.out)
      by_cases e : a = k
      ·have hCi : CL (a + 1) = CL a := by rw [e]; exact hli.out
       replace hCi := hid hCi
       subst e
       go_wp2_with fail
       go_roundw
       case rel => exact ⟨a + 1, by omega, by go_num, by rw [hCi.out]; exact hid (ho.out.ext (by repeat (with_reducible first | assumption | exact Ext.refl _ | refine Ext.drew ?_ | refine Ext.drewN ?_ _ | refine Ext.alloc ?_ _ | refine xS ?_ _ | refine xT ?_ (by assumption)))), hid (hV.out.trans (by repeat (with_reducible first | assumption | exact Ext.refl _ | refine Ext.drew ?_ | refine Ext.drewN ?_ _ | refine Ext.alloc ?_ _ | refine xS ?_ _ | refine xT ?_ (by assumption))))⟩
       case measure => simp [intOf]; omega
      ·have hCa : CL (a + 1) = CL a ++ [(a : Int)] := hla.out a e
       have haI2 : ¬ (a : Int) = (k : Int) := by omega
       have hRl := hid (hlen2.out a)
       replace hCa := hid hCa
       replace e := hid e
       obtain ⟨wk, rfl⟩ : ∃ w4 : World, w4 = wr := ⟨_, rfl⟩
       go_wp2_with (at_builtin; refine app_int rfl _ _ _ rfl 3 Try.underlying42 elemInt wq.heap.size (CL a) (a : Int) _ rfl _ rfl (ho.out.ext (by repeat (with_reducible first | assumption | exact Ext.refl _ | refine Ext.drew ?_ | refine Ext.drewN ?_ _ | refine Ext.alloc ?_ _ | refine xS ?_ _ | refine xT ?_ (by assumption)))) ?c1 ?c2 ?c3 ?_; (case c1 => simp [go_sem]); (case c2 => have h9 := hRl.out; omega); (case c3 => have h9 := hsz.out; simp; omega); intro b9 cp9 w9 own9 ext9 hb9 g9; have own9 := hid own9; have hE9 := hid (ext9 wq (by have := hV.out; exact (by repeat (with_reducible first | assumption | exact Ext.refl _ | refine Ext.drew ?_ | refine Ext.drewN ?_ _ | refine Ext.alloc ?_ _ | refine xS ?_ _ | refine xT ?_ (by assumption)))) (Nat.le_refl _)))
       go_roundw
       case rel => exact ⟨a + 1, by omega, by go_num, hid (by rw [hCa.out]; have h := own9.out; simp only [List.length_append, List.length_singleton] at h; exact h), hE9⟩
       case measure => simp [intOf]; omega
     ·have ham : a = n := by omega
      have hnn : ¬ (n : Int) < (n : Int) := by omega
      rw [ham] at ho
      rw [ham]
      obtain ⟨wc, rfl⟩ : ∃ w4 : World, w4 = wr := ⟨_, rfl⟩
      have x := hx.out
      obtain ⟨ca, ccap, rfl, lC⟩ := ho.out.slice
      rw [hlm2.out]
      replace lC := hid lC
      clear ham hal ha hx ho
      replace mt0 := hid (x.cell mt0.out)
      replace f0 := hid (x.cell f0.out)
      replace bv0 := hid (x.cell bv0.out)
      replace bv1 := hid (x.cell bv1.out)
      replace bx0 := hid (x.cell bx0.out)
      replace tX := hid (tX.out.ext x)
      replace lR := hid (lR.out.ext x)
      replace X := hid (X.out.trans x)
      clear x
      have r_bx0 := bx0.out
      have l_bx0 := cell_lt r_bx0
      dsimp only at l_bx0
      go_wp2_with fail
      refine (hX.out _ _ _ (tX.out.ext (show Ext wc _ from (by repeat (with_reducible first | assumption | exact Ext.refl _ | refine Ext.drew ?_ | refine Ext.drewN ?_ _ | refine Ext.alloc ?_ _ | refine xS ?_ _ | refine xT ?_ (by assumption)))))).mono ?_; rintro e u5 ⟨a6, c6, a7, c7, rfl, lv_, lw_, hE⟩
      have x : Ext wc u5 := (by repeat (with_reducible first | assumption | exact Ext.refl _ | refine Ext.drew ?_ | refine Ext.drewN ?_ _ | refine Ext.alloc ?_ _ | refine xS ?_ _ | refine xT ?_ (by assumption)))
      clear r_bx0 l_bx0
      replace mt0 := hid (x.cell mt0.out)
      replace f0 := hid (x.cell f0.out)
      replace bv0 := hid (x.cell bv0.out)
      replace bv1 := hid (x.cell bv1.out)
      replace bx0 := hid (x.cell bx0.out)
      replace tX := hid (tX.out.ext x)
      replace lR := hid (lR.out.ext x)
      replace lC := hid (lC.out.ext x)
      replace X := hid (X.out.trans x)
      have lv := hid lv_
      clear lv_
      have lw := hid lw_
      clear lw_
      clear x hE
      clear lv lw
      have r_bv0 := bv0.out
      have l_bv0 := cell_lt r_bv0
      dsimp only at l_bv0
      have r_bv1 := bv1.out
      have l_bv1 := cell_lt r_bv1
      dsimp only at l_bv1
      go_wp2_with fail
      refine name_c (fun v6 hw => ?_)
      have x : Ext u5 v6 := by rw [hw]; exact (by repeat (with_reducible first | assumption | exact Ext.refl _ | refine Ext.drew ?_ | refine Ext.drewN ?_ _ | refine Ext.alloc ?_ _ | refine xS ?_ _ | refine xT ?_ (by assumption)))
      have bw0 := hid (show v6.cell? ⟨u5.heap.size, 0, none⟩ = some (.int .i64 xn) by rw [hw]; simp [go_sem])
      have bw1 := hid (show v6.cell? ⟨u5.heap.size, 1, none⟩ = some (.int .i64 xd) by rw [hw]; simp [go_sem])
      clear r_bv0 l_bv0 r_bv1 l_bv1
      replace mt0 := hid (x.cell mt0.out)
      replace f0 := hid (x.cell f0.out)
      replace bv0 := hid (x.cell bv0.out)
      replace bv1 := hid (x.cell bv1.out)
      replace bx0 := hid (x.cell bx0.out)
      replace tX := hid (tX.out.ext x)
      replace lR := hid (lR.out.ext x)
      replace lC := hid (lC.out.ext x)
      replace X := hid (X.out.trans x)
      clear x hw
      generalize u5.heap.size = Bbw at *
      refine (hLx.out _).mono ?_; rintro e u7 ⟨rfl, hE⟩
      have x : Ext v6 u7 := (by repeat (with_reducible first | assumption | exact Ext.refl _ | refine Ext.drew ?_ | refine Ext.drewN ?_ _ | refine Ext.alloc ?_ _ | refine xS ?_ _ | refine xT ?_ (by assumption)))
      replace mt0 := hid (x.cell mt0.out)
      replace f0 := hid (x.cell f0.out)
      replace bv0 := hid (x.cell bv0.out)
      replace bv1 := hid (x.cell bv1.out)
      replace bx0 := hid (x.cell bx0.out)
      replace tX := hid (tX.out.ext x)
      replace lR := hid (lR.out.ext x)
      replace lC := hid (lC.out.ext x)
      replace bw0 := hid (x.cell bw0.out)
      replace bw1 := hid (x.cell bw1.out)
      replace X := hid (X.out.trans x)
      clear x hE
      by_cases hm1 : 1 < m
      ·have hm1I : (1 : Int) < (m : Int) := by omega
       go_wp2_with fail
       have q0 := mt0.out
       refine name_act (fun A_ hA_ => ?_)
       obtain ⟨Q2, hQ2⟩ : ∃ Q2 : Exit → Act → World → Prop, Q2 = fun e a' w' => e = .normal ∧ ∃ (ag_25 : Option Addr) (cg_25 : Nat) (ap_25 : Option Addr) (cp_25 : Nat) (as_25 : Option Addr) (cs_25 : Nat) (at_25 : Option Addr) (ct_25 : Nat) (ba : Nat) (v0_ v1_ v2_ v3_ v4_ v5_ v9_ v10_ v11_ v12_ v13_ v16_ v17_ : Value), a' = ((((((((((((((((((A_.put (some 131) (v0_)).put (some 132) (v1_)).put (some 133) (v2_)).put (some 134) (v3_)).put (some 135) (v4_)).put (some 136) (v5_)).put (some 137) (.slice ag_25 n cg_25)).put (some 138) (.agg #[.slice ap_25 (m - 1) cp_25])).put (some 139) (.tuple #[.agg #[.int .i64 an, .int .i64 ad], .slice as_25 (m - 1) cs_25, .slice at_25 (n) ct_25, .bool true])).put (some 130) (v9_)).put (some 140) (v10_)).put (some 141) (v11_)).put (some 142) (v12_)).put (some 143) (v13_)).put (some 27) (.pointer (some ⟨ba, 0, none⟩))).put (some 28) (v16_)).put (some 29) (v17_)).put (some 30) (.bool true)) ∧ Ext u7 w' ∧ w'.cell? ⟨ba, 0, none⟩ = some (.int .i64 an) ∧ w'.cell? ⟨ba, 1, none⟩ = some (.int .i64 ad) ∧ w'.frozen? ⟨ba, 0, none⟩ = false ∧ w'.frozen? ⟨ba, 1, none⟩ = false ∧ u7.heap.size ≤ ba := ⟨_, rfl⟩
       have hpan : ∀ c a a' w w', Q2 (.panic c) a w → Q2 (.panic c) a' w' := by rw [hQ2]; rintro c a a' w w' ⟨h, _⟩; cases h
       replace hQ2 := hid hQ2
       refine wp_mono (Q := Q2) ?_ ?_
       ·subst hA_
        refine wp_region_held_drew (S := fun w' => Ext u7 w') (by kernel_rfl) (by repeat (with_reducible first | assumption | exact Ext.refl _ | refine Ext.drew ?_ | refine Ext.drewN ?_ _ | refine Ext.alloc ?_ _ | refine xS ?_ _ | refine xT ?_ (by assumption))) fun hHeld => ?_
        refine name_any (fun W0 hW => ?_)
        have s0 : Ext u7 W0 := by rw [hW]; exact hHeld
        clear hW hHeld
        refine tkA (i := 0) (v := ?_) rfl (fun c a w h => hpan c _ _ _ _ h) (Or.inl ⟨by rfl, ?yl⟩) (by assumption) ?_
        case yl => (intro w hSw; (try dsimp only at hSw); have k_0 := Ext.cell hSw q0; go_simp); with_reducible rfl
        try simp only [sxA, sxB, sxC, Act.put, sxD, sxE, sxF]
        refine tkA (i := 1) (v := ?_) rfl (fun c a w h => hpan c _ _ _ _ h) (Or.inl ⟨by rfl, ?yl⟩) (by assumption) ?_
        case yl => (intro w hSw; (try dsimp only at hSw); have k_0 := Ext.cell hSw q0; go_simp); with_reducible rfl
        try simp only [sxA, sxB, sxC, Act.put, sxD, sxE, sxF]
        refine tkA (i := 2) (v := ?_) rfl (fun c a w h => hpan c _ _ _ _ h) (Or.inl ⟨by rfl, ?yl⟩) (by assumption) ?_
        case yl => (intro w hSw; (try dsimp only at hSw); have k_0 := Ext.cell hSw q0; go_simp); with_reducible rfl
        try simp only [sxA, sxB, sxC, Act.put, sxD, sxE, sxF]
        refine tkA (i := 3) (v := ?_) rfl (fun c a w h => hpan c _ _ _ _ h) (Or.inl ⟨by rfl, ?yl⟩) (by assumption) ?_
        case yl => (intro w hSw; (try dsimp only at hSw); have k_0 := Ext.cell hSw q0; go_simp); with_reducible rfl
        try simp only [sxA, sxB, sxC, Act.put, sxD, sxE, sxF]
        refine tkA (i := 4) (v := ?_) rfl (fun c a w h => hpan c _ _ _ _ h) (Or.inl ⟨by rfl, ?yl⟩) (by assumption) ?_
        case yl => (intro w hSw; (try dsimp only at hSw); have k_0 := Ext.cell hSw q0; go_simp); with_reducible rfl
        try simp only [sxA, sxB, sxC, Act.put, sxD, sxE, sxF]
        refine tkA (i := 5) (v := ?_) rfl (fun c a w h => hpan c _ _ _ _ h) (Or.inl ⟨by rfl, ?yl⟩) (by assumption) ?_
        case yl => (intro w hSw; (try dsimp only at hSw); have k_0 := Ext.cell hSw q0; go_simp); with_reducible rfl
        try simp only [sxA, sxB, sxC, Act.put, sxD, sxE, sxF]
        refine wpAnyH_ready (rs := [6, 14]) (by kernel_rfl) (by simp) ?_
        refine AllReadyH.cons (o := _) rfl (fun K hK => ?_) ?_
        ·skip
         go_simp
         try rw [sh2, sh4]
         refine (hR2.out _).mono ?_; rintro e W1 ⟨ag_25, cg_25, rfl, _hg25_, e1⟩
         have s1 := s0.trans e1
         have _hg25 := hid _hg25_; clear _hg25_
         refine hK.out _ _ s1 (fun _ => ?_)
         clear hK K
         (try simp only [sxA, sxB, sxC, Act.put, sxD, sxE, sxF])
         refine wpAnyH_ready (rs := [7, 14]) (by kernel_rfl) (by simp) ?_
         refine AllReadyH.cons (o := _) rfl (fun K hK => ?_) ?_
         ·skip
          go_simp
          refine (hP1.out hm1 _ _ _ _ _ (hT'.out.ext (X.out.trans s1)) (lR.out.ext s1) (_hg25.out.1.ext (Ext.refl W1))).mono ?_; rintro e W2 ⟨ap_25, cp_25, rfl, _hp25_, e2⟩
          have s2 := s1.trans e2
          have _hp25 := hid _hp25_; clear _hp25_
          refine hK.out _ _ s2 (fun _ => ?_)
          clear hK K
          (try simp only [sxA, sxB, sxC, Act.put, sxD, sxE, sxF])
          refine wpAnyH_ready (rs := [8, 14]) (by kernel_rfl) (by simp) ?_
          refine AllReadyH.cons (o := _) rfl (fun K hK => ?_) ?_
          ·skip
           go_simp
           refine (hV1.out hm1 _ _ _ (_hp25.out.ext (Ext.refl W2))).mono ?_; rintro e W3 ⟨as_25, cs_25, at_25, ct_25, rfl, e3⟩
           have s3 := s2.trans e3
           refine hK.out _ _ s3 (fun _ => ?_)
           clear hK K
           (try simp only [sxA, sxB, sxC, Act.put, sxD, sxE, sxF])
           refine tkA (i := 9) (v := ?_) rfl (fun c a w h => hpan c _ _ _ _ h) (Or.inl ⟨by rfl, ?yl⟩) (by assumption) ?_
           case yl => (intro w hSw; (try dsimp only at hSw); have k_0 := Ext.cell hSw q0; go_simp); with_reducible rfl
           try simp only [sxA, sxB, sxC, Act.put, sxD, sxE, sxF]
           refine tkA (i := 10) (v := ?_) rfl (fun c a w h => hpan c _ _ _ _ h) (Or.inl ⟨by rfl, ?yl⟩) (by assumption) ?_
           case yl => (intro w hSw; (try dsimp only at hSw); have k_0 := Ext.cell hSw q0; go_simp); with_reducible rfl
           try simp only [sxA, sxB, sxC, Act.put, sxD, sxE, sxF]
           refine tkA (i := 11) (v := ?_) rfl (fun c a w h => hpan c _ _ _ _ h) (Or.inl ⟨by rfl, ?yl⟩) (by assumption) ?_
           case yl => (intro w hSw; (try dsimp only at hSw); have k_0 := Ext.cell hSw q0; go_simp); with_reducible rfl
           try simp only [sxA, sxB, sxC, Act.put, sxD, sxE, sxF]
           refine tkA (i := 12) (v := ?_) rfl (fun c a w h => hpan c _ _ _ _ h) (Or.inl ⟨by rfl, ?yl⟩) (by assumption) ?_
           case yl => (intro w hSw; (try dsimp only at hSw); have k_0 := Ext.cell hSw q0; go_simp); with_reducible rfl
           try simp only [sxA, sxB, sxC, Act.put, sxD, sxE, sxF]
           refine tkA (i := 13) (v := ?_) rfl (fun c a w h => hpan c _ _ _ _ h) (Or.inl ⟨by rfl, ?yl⟩) (by assumption) ?_
           case yl => (intro w hSw; (try dsimp only at hSw); have k_0 := Ext.cell hSw q0; go_simp); with_reducible rfl
           try simp only [sxA, sxB, sxC, Act.put, sxD, sxE, sxF]
           refine wpAnyH_ready (rs := [14]) (by kernel_rfl) (by simp) ?_
           refine AllReadyH.cons (o := _) rfl (fun K hK => ?_) AllReadyH.nil
           go_simp
           refine hK.out _ _ (Ext.alloc s3 _) (fun _ => ?_)
           clear hK K
           (try simp only [sxA, sxB, sxC, Act.put, sxD, sxE, sxF])
           refine name_any (fun W4 hW => ?_)
           have e4 : Ext W3 W4 := by rw [hW]; exact Ext.alloc (Ext.refl _) _
           have s4 := s3.trans e4
           have b14_0 := hid (show W4.cell? ⟨W3.heap.size, 0, none⟩ = some (.int .i64 0) by rw [hW]; simp [go_sem])
           have b14_1 := hid (show W4.cell? ⟨W3.heap.size, 1, none⟩ = some (.int .i64 0) by rw [hW]; simp [go_sem])
           have d14_0 := hid (show W4.frozen? ⟨W3.heap.size, 0, none⟩ = false by rw [hW]; simp [go_sem])
           have d14_1 := hid (show W4.frozen? ⟨W3.heap.size, 1, none⟩ = false by rw [hW]; simp [go_sem])
           have l14 := hid (show W3.heap.size < W4.heap.size by rw [hW]; simp [go_sem])
           clear hW
           refine wpAnyH_ready (rs := [15]) (by kernel_rfl) (by simp) ?_
           refine AllReadyH.cons (o := _) rfl (fun K hK => ?_) AllReadyH.nil
           have f0 := Ext.cell (Ext.refl W4) b14_0.out
           have g0 := (Ext.frozen (Ext.refl W4) (p := ⟨W3.heap.size, 0, none⟩) l14.out).trans d14_0.out
           have f1 := Ext.cell (Ext.refl W4) b14_1.out
           have g1 := (Ext.frozen (Ext.refl W4) (p := ⟨W3.heap.size, 1, none⟩) l14.out).trans d14_1.out
           have l0_ := s3.size
           go_simp
           refine hK.out _ _ (by repeat (with_reducible first | assumption | exact Ext.refl _ | refine Ext.drew ?_ | refine Ext.drewN ?_ _ | refine Ext.alloc ?_ _ | refine xS ?_ _ | refine xT ?_ (by assumption))) (fun _ => ?_)
           clear hK K
           (try simp only [sxA, sxB, sxC, Act.put, sxD, sxE, sxF])
           refine name_any (fun W5 hW => ?_)
           have s5 : Ext u7 W5 := by rw [hW]; exact (by repeat (with_reducible first | assumption | exact Ext.refl _ | refine Ext.drew ?_ | refine Ext.drewN ?_ _ | refine Ext.alloc ?_ _ | refine xS ?_ _ | refine xT ?_ (by assumption)))
           skip
           have c14_0 := hid (show W5.cell? ⟨W3.heap.size, 0, none⟩ = some (.int .i64 an) by rw [hW]; simp [go_sem, f0, f1])
           have c14_1 := hid (show W5.cell? ⟨W3.heap.size, 1, none⟩ = some (.int .i64 ad) by rw [hW]; simp [go_sem, f0, f1])
           have z14_0 := hid (show W5.frozen? ⟨W3.heap.size, 0, none⟩ = false by rw [hW]; simp [go_sem, World.frozen?_setCell, g0, g1])
           have z14_1 := hid (show W5.frozen? ⟨W3.heap.size, 1, none⟩ = false by rw [hW]; simp [go_sem, World.frozen?_setCell, g0, g1])
           clear hW l0_ f0 g0 f1 g1
           refine tkA (i := 16) (v := ?_) rfl (fun c a w h => hpan c _ _ _ _ h) (Or.inl ⟨by rfl, ?yl⟩) (by assumption) ?_
           case yl => (intro w hSw; (try dsimp only at hSw); have k_0 := Ext.cell hSw q0; go_simp); with_reducible rfl
           try simp only [sxA, sxB, sxC, Act.put, sxD, sxE, sxF]
           refine tkA (i := 17) (v := ?_) rfl (fun c a w h => hpan c _ _ _ _ h) (Or.inl ⟨by rfl, ?yl⟩) (by assumption) ?_
           case yl => (intro w hSw; (try dsimp only at hSw); have k_0 := Ext.cell hSw q0; go_simp); with_reducible rfl
           try simp only [sxA, sxB, sxC, Act.put, sxD, sxE, sxF]
           refine tkA (i := 18) (v := ?_) rfl (fun c a w h => hpan c _ _ _ _ h) (Or.inl ⟨by rfl, ?yl⟩) (by assumption) ?_
           case yl => (intro w hSw; (try dsimp only at hSw); have k_0 := Ext.cell hSw q0; go_simp); with_reducible rfl
           try simp only [sxA, sxB, sxC, Act.put, sxD, sxE, sxF]
           refine wpAnyH_done (by kernel_rfl) ?_ _
           try simp only [sxA, sxB, sxC, Act.put, sxD, sxE, sxF]
           rw [hQ2.out]
           refine ⟨rfl, ag_25, cg_25, ap_25, cp_25, as_25, cs_25, at_25, ct_25, W3.heap.size, ?u4_0_1, ?u4_1_1, ?u4_2_1, ?u4_3_1, ?u4_4_1, ?u4_5_1, ?u4_6_1, ?u4_7_1, ?u4_8_1, ?u4_9_1, ?u4_10_1, ?u4_11_1, ?u4_12_1, ?eq4_1, s5, ((Ext.refl W5).cell c14_0.out), ((Ext.refl W5).cell c14_1.out), (((Ext.refl W5).frozen (cell_lt c14_0.out)).trans z14_0.out), (((Ext.refl W5).frozen (cell_lt c14_1.out)).trans z14_1.out), s3.size⟩
           case eq4_1 => ((try simp only [sxA, sxB, sxC, Act.put, sxD, sxE, sxF]); first | done | with_reducible rfl | rfl)
          refine AllReadyH.cons (o := _) rfl (fun K hK => ?_) ?_
          ·skip
           go_simp
           refine hK.out _ _ (Ext.alloc s2 _) (fun _ => ?_)
           clear hK K
           (try simp only [sxA, sxB, sxC, Act.put, sxD, sxE, sxF])
           refine name_any (fun W3 hW => ?_)
           have e3 : Ext W2 W3 := by rw [hW]; exact Ext.alloc (Ext.refl _) _
           have s3 := s2.trans e3
           have b14_0 := hid (show W3.cell? ⟨W2.heap.size, 0, none⟩ = some (.int .i64 0) by rw [hW]; simp [go_sem])
           have b14_1 := hid (show W3.cell? ⟨W2.heap.size, 1, none⟩ = some (.int .i64 0) by rw [hW]; simp [go_sem])
           have d14_0 := hid (show W3.frozen? ⟨W2.heap.size, 0, none⟩ = false by rw [hW]; simp [go_sem])
           have d14_1 := hid (show W3.frozen? ⟨W2.heap.size, 1, none⟩ = false by rw [hW]; simp [go_sem])
           have l14 := hid (show W2.heap.size < W3.heap.size by rw [hW]; simp [go_sem])
           clear hW
           refine wpAnyH_ready (rs := [8]) (by kernel_rfl) (by simp) ?_
           refine AllReadyH.cons (o := _) rfl (fun K hK => ?_) AllReadyH.nil
           go_simp
           refine (hV1.out hm1 _ _ _ (_hp25.out.ext ((Ext.refl W2).trans e3))).mono ?_; rintro e W4 ⟨as_25, cs_25, at_25, ct_25, rfl, e4⟩
           have s4 := s3.trans e4
           refine hK.out _ _ s4 (fun _ => ?_)
           clear hK K
           (try simp only [sxA, sxB, sxC, Act.put, sxD, sxE, sxF])
           refine tkA (i := 9) (v := ?_) rfl (fun c a w h => hpan c _ _ _ _ h) (Or.inl ⟨by rfl, ?yl⟩) (by assumption) ?_
           case yl => (intro w hSw; (try dsimp only at hSw); have k_0 := Ext.cell hSw q0; go_simp); with_reducible rfl
           try simp only [sxA, sxB, sxC, Act.put, sxD, sxE, sxF]
           refine tkA (i := 10) (v := ?_) rfl (fun c a w h => hpan c _ _ _ _ h) (Or.inl ⟨by rfl, ?yl⟩) (by assumption) ?_
           case yl => (intro w hSw; (try dsimp only at hSw); have k_0 := Ext.cell hSw q0; go_simp); with_reducible rfl
           try simp only [sxA, sxB, sxC, Act.put, sxD, sxE, sxF]
           refine tkA (i := 11) (v := ?_) rfl (fun c a w h => hpan c _ _ _ _ h) (Or.inl ⟨by rfl, ?yl⟩) (by assumption) ?_
           case yl => (intro w hSw; (try dsimp only at hSw); have k_0 := Ext.cell hSw q0; go_simp); with_reducible rfl
           try simp only [sxA, sxB, sxC, Act.put, sxD, sxE, sxF]
           refine tkA (i := 12) (v := ?_) rfl (fun c a w h => hpan c _ _ _ _ h) (Or.inl ⟨by rfl, ?yl⟩) (by assumption) ?_
           case yl => (intro w hSw; (try dsimp only at hSw); have k_0 := Ext.cell hSw q0; go_simp); with_reducible rfl
           try simp only [sxA, sxB, sxC, Act.put, sxD, sxE, sxF]
           refine tkA (i := 13) (v := ?_) rfl (fun c a w h => hpan c _ _ _ _ h) (Or.inl ⟨by rfl, ?yl⟩) (by assumption) ?_
           case yl => (intro w hSw; (try dsimp only at hSw); have k_0 := Ext.cell hSw q0; go_simp); with_reducible rfl
           try simp only [sxA, sxB, sxC, Act.put, sxD, sxE, sxF]
           refine wpAnyH_ready (rs := [15]) (by kernel_rfl) (by simp) ?_
           refine AllReadyH.cons (o := _) rfl (fun K hK => ?_) AllReadyH.nil
           have f0 := Ext.cell ((Ext.refl W3).trans e4) b14_0.out
           have g0 := (Ext.frozen ((Ext.refl W3).trans e4) (p := ⟨W2.heap.size, 0, none⟩) l14.out).trans d14_0.out
           have f1 := Ext.cell ((Ext.refl W3).trans e4) b14_1.out
           have g1 := (Ext.frozen ((Ext.refl W3).trans e4) (p := ⟨W2.heap.size, 1, none⟩) l14.out).trans d14_1.out
           have l0_ := s2.size
           go_simp
           refine hK.out _ _ (by repeat (with_reducible first | assumption | exact Ext.refl _ | refine Ext.drew ?_ | refine Ext.drewN ?_ _ | refine Ext.alloc ?_ _ | refine xS ?_ _ | refine xT ?_ (by assumption))) (fun _ => ?_)
           clear hK K
           (try simp only [sxA, sxB, sxC, Act.put, sxD, sxE, sxF])
           refine name_any (fun W5 hW => ?_)
           have s5 : Ext u7 W5 := by rw [hW]; exact (by repeat (with_reducible first | assumption | exact Ext.refl _ | refine Ext.drew ?_ | refine Ext.drewN ?_ _ | refine Ext.alloc ?_ _ | refine xS ?_ _ | refine xT ?_ (by assumption)))
           skip
           have c14_0 := hid (show W5.cell? ⟨W2.heap.size, 0, none⟩ = some (.int .i64 an) by rw [hW]; simp [go_sem, f0, f1])
           have c14_1 := hid (show W5.cell? ⟨W2.heap.size, 1, none⟩ = some (.int .i64 ad) by rw [hW]; simp [go_sem, f0, f1])
           have z14_0 := hid (show W5.frozen? ⟨W2.heap.size, 0, none⟩ = false by rw [hW]; simp [go_sem, World.frozen?_setCell, g0, g1])
           have z14_1 := hid (show W5.frozen? ⟨W2.heap.size, 1, none⟩ = false by rw [hW]; simp [go_sem, World.frozen?_setCell, g0, g1])
           clear hW l0_ f0 g0 f1 g1
           refine tkA (i := 16) (v := ?_) rfl (fun c a w h => hpan c _ _ _ _ h) (Or.inl ⟨by rfl, ?yl⟩) (by assumption) ?_
           case yl => (intro w hSw; (try dsimp only at hSw); have k_0 := Ext.cell hSw q0; go_simp); with_reducible rfl
           try simp only [sxA, sxB, sxC, Act.put, sxD, sxE, sxF]
           refine tkA (i := 17) (v := ?_) rfl (fun c a w h => hpan c _ _ _ _ h) (Or.inl ⟨by rfl, ?yl⟩) (by assumption) ?_
           case yl => (intro w hSw; (try dsimp only at hSw); have k_0 := Ext.cell hSw q0; go_simp); with_reducible rfl
           try simp only [sxA, sxB, sxC, Act.put, sxD, sxE, sxF]
           refine tkA (i := 18) (v := ?_) rfl (fun c a w h => hpan c _ _ _ _ h) (Or.inl ⟨by rfl, ?yl⟩) (by assumption) ?_
           case yl => (intro w hSw; (try dsimp only at hSw); have k_0 := Ext.cell hSw q0; go_simp); with_reducible rfl
           try simp only [sxA, sxB, sxC, Act.put, sxD, sxE, sxF]
           refine wpAnyH_done (by kernel_rfl) ?_ _
           try simp only [sxA, sxB, sxC, Act.put, sxD, sxE, sxF]
           rw [hQ2.out]
           refine ⟨rfl, ag_25, cg_25, ap_25, cp_25, as_25, cs_25, at_25, ct_25, W2.heap.size, ?u4_0_2, ?u4_1_2, ?u4_2_2, ?u4_3_2, ?u4_4_2, ?u4_5_2, ?u4_6_2, ?u4_7_2, ?u4_8_2, ?u4_9_2, ?u4_10_2, ?u4_11_2, ?u4_12_2, ?eq4_2, s5, ((Ext.refl W5).cell c14_0.out), ((Ext.refl W5).cell c14_1.out), (((Ext.refl W5).frozen (cell_lt c14_0.out)).trans z14_0.out), (((Ext.refl W5).frozen (cell_lt c14_1.out)).trans z14_1.out), s2.size⟩
           case eq4_2 => ((try simp only [sxA, sxB, sxC, Act.put, sxD, sxE, sxF]); first | done | with_reducible rfl | rfl)
          exact AllReadyH.nil
         refine AllReadyH.cons (o := _) rfl (fun K hK => ?_) ?_
         ·skip
          go_simp
          refine hK.out _ _ (Ext.alloc s1 _) (fun _ => ?_)
          clear hK K
          (try simp only [sxA, sxB, sxC, Act.put, sxD, sxE, sxF])
          refine name_any (fun W2 hW => ?_)
          have e2 : Ext W1 W2 := by rw [hW]; exact Ext.alloc (Ext.refl _) _
          have s2 := s1.trans e2
          have b14_0 := hid (show W2.cell? ⟨W1.heap.size, 0, none⟩ = some (.int .i64 0) by rw [hW]; simp [go_sem])
          have b14_1 := hid (show W2.cell? ⟨W1.heap.size, 1, none⟩ = some (.int .i64 0) by rw [hW]; simp [go_sem])
          have d14_0 := hid (show W2.frozen? ⟨W1.heap.size, 0, none⟩ = false by rw [hW]; simp [go_sem])
          have d14_1 := hid (show W2.frozen? ⟨W1.heap.size, 1, none⟩ = false by rw [hW]; simp [go_sem])
          have l14 := hid (show W1.heap.size < W2.heap.size by rw [hW]; simp [go_sem])
          clear hW
          refine wpAnyH_ready (rs := [7]) (by kernel_rfl) (by simp) ?_
          refine AllReadyH.cons (o := _) rfl (fun K hK => ?_) AllReadyH.nil
          go_simp
          refine (hP1.out hm1 _ _ _ _ _ (hT'.out.ext (X.out.trans s2)) (lR.out.ext s2) (_hg25.out.1.ext ((Ext.refl W1).trans e2))).mono ?_; rintro e W3 ⟨ap_25, cp_25, rfl, _hp25_, e3⟩
          have s3 := s2.trans e3
          have _hp25 := hid _hp25_; clear _hp25_
          refine hK.out _ _ s3 (fun _ => ?_)
          clear hK K
          (try simp only [sxA, sxB, sxC, Act.put, sxD, sxE, sxF])
          refine wpAnyH_ready (rs := [8]) (by kernel_rfl) (by simp) ?_
          refine AllReadyH.cons (o := _) rfl (fun K hK => ?_) AllReadyH.nil
          go_simp
          refine (hV1.out hm1 _ _ _ (_hp25.out.ext (Ext.refl W3))).mono ?_; rintro e W4 ⟨as_25, cs_25, at_25, ct_25, rfl, e4⟩
          have s4 := s3.trans e4
          refine hK.out _ _ s4 (fun _ => ?_)
          clear hK K
          (try simp only [sxA, sxB, sxC, Act.put, sxD, sxE, sxF])
          refine tkA (i := 9) (v := ?_) rfl (fun c a w h => hpan c _ _ _ _ h) (Or.inl ⟨by rfl, ?yl⟩) (by assumption) ?_
          case yl => (intro w hSw; (try dsimp only at hSw); have k_0 := Ext.cell hSw q0; go_simp); with_reducible rfl
          try simp only [sxA, sxB, sxC, Act.put, sxD, sxE, sxF]
          refine tkA (i := 10) (v := ?_) rfl (fun c a w h => hpan c _ _ _ _ h) (Or.inl ⟨by rfl, ?yl⟩) (by assumption) ?_
          case yl => (intro w hSw; (try dsimp only at hSw); have k_0 := Ext.cell hSw q0; go_simp); with_reducible rfl
          try simp only [sxA, sxB, sxC, Act.put, sxD, sxE, sxF]
          refine tkA (i := 11) (v := ?_) rfl (fun c a w h => hpan c _ _ _ _ h) (Or.inl ⟨by rfl, ?yl⟩) (by assumption) ?_
          case yl => (intro w hSw; (try dsimp only at hSw); have k_0 := Ext.cell hSw q0; go_simp); with_reducible rfl
          try simp only [sxA, sxB, sxC, Act.put, sxD, sxE, sxF]
          refine tkA (i := 12) (v := ?_) rfl (fun c a w h => hpan c _ _ _ _ h) (Or.inl ⟨by rfl, ?yl⟩) (by assumption) ?_
          case yl => (intro w hSw; (try dsimp only at hSw); have k_0 := Ext.cell hSw q0; go_simp); with_reducible rfl
          try simp only [sxA, sxB, sxC, Act.put, sxD, sxE, sxF]
          refine tkA (i := 13) (v := ?_) rfl (fun c a w h => hpan c _ _ _ _ h) (Or.inl ⟨by rfl, ?yl⟩) (by assumption) ?_
          case yl => (intro w hSw; (try dsimp only at hSw); have k_0 := Ext.cell hSw q0; go_simp); with_reducible rfl
          try simp only [sxA, sxB, sxC, Act.put, sxD, sxE, sxF]
          refine wpAnyH_ready (rs := [15]) (by kernel_rfl) (by simp) ?_
          refine AllReadyH.cons (o := _) rfl (fun K hK => ?_) AllReadyH.nil
          have f0 := Ext.cell (((Ext.refl W2).trans e3).trans e4) b14_0.out
          have g0 := (Ext.frozen (((Ext.refl W2).trans e3).trans e4) (p := ⟨W1.heap.size, 0, none⟩) l14.out).trans d14_0.out
          have f1 := Ext.cell (((Ext.refl W2).trans e3).trans e4) b14_1.out
          have g1 := (Ext.frozen (((Ext.refl W2).trans e3).trans e4) (p := ⟨W1.heap.size, 1, none⟩) l14.out).trans d14_1.out
          have l0_ := s1.size
          go_simp
          refine hK.out _ _ (by repeat (with_reducible first | assumption | exact Ext.refl _ | refine Ext.drew ?_ | refine Ext.drewN ?_ _ | refine Ext.alloc ?_ _ | refine xS ?_ _ | refine xT ?_ (by assumption))) (fun _ => ?_)
          clear hK K
          (try simp only [sxA, sxB, sxC, Act.put, sxD, sxE, sxF])
          refine name_any (fun W5 hW => ?_)
          have s5 : Ext u7 W5 := by rw [hW]; exact (by repeat (with_reducible first | assumption | exact Ext.refl _ | refine Ext.drew ?_ | refine Ext.drewN ?_ _ | refine Ext.alloc ?_ _ | refine xS ?_ _ | refine xT ?_ (by assumption)))
          skip
          have c14_0 := hid (show W5.cell? ⟨W1.heap.size, 0, none⟩ = some (.int .i64 an) by rw [hW]; simp [go_sem, f0, f1])
          have c14_1 := hid (show W5.cell? ⟨W1.heap.size, 1, none⟩ = some (.int .i64 ad) by rw [hW]; simp [go_sem, f0, f1])
          have z14_0 := hid (show W5.frozen? ⟨W1.heap.size, 0, none⟩ = false by rw [hW]; simp [go_sem, World.frozen?_setCell, g0, g1])
          have z14_1 := hid (show W5.frozen? ⟨W1.heap.size, 1, none⟩ = false by rw [hW]; simp [go_sem, World.frozen?_setCell, g0, g1])
          clear hW l0_ f0 g0 f1 g1
          refine tkA (i := 16) (v := ?_) rfl (fun c a w h => hpan c _ _ _ _ h) (Or.inl ⟨by rfl, ?yl⟩) (by assumption) ?_
          case yl => (intro w hSw; (try dsimp only at hSw); have k_0 := Ext.cell hSw q0; go_simp); with_reducible rfl
          try simp only [sxA, sxB, sxC, Act.put, sxD, sxE, sxF]
          refine tkA (i := 17) (v := ?_) rfl (fun c a w h => hpan c _ _ _ _ h) (Or.inl ⟨by rfl, ?yl⟩) (by assumption) ?_
          case yl => (intro w hSw; (try dsimp only at hSw); have k_0 := Ext.cell hSw q0; go_simp); with_reducible rfl
          try simp only [sxA, sxB, sxC, Act.put, sxD, sxE, sxF]
          refine tkA (i := 18) (v := ?_) rfl (fun c a w h => hpan c _ _ _ _ h) (Or.inl ⟨by rfl, ?yl⟩) (by assumption) ?_
          case yl => (intro w hSw; (try dsimp only at hSw); have k_0 := Ext.cell hSw q0; go_simp); with_reducible rfl
          try simp only [sxA, sxB, sxC, Act.put, sxD, sxE, sxF]
          refine wpAnyH_done (by kernel_rfl) ?_ _
          try simp only [sxA, sxB, sxC, Act.put, sxD, sxE, sxF]
          rw [hQ2.out]
          refine ⟨rfl, ag_25, cg_25, ap_25, cp_25, as_25, cs_25, at_25, ct_25, W1.heap.size, ?u4_0_3, ?u4_1_3, ?u4_2_3, ?u4_3_3, ?u4_4_3, ?u4_5_3, ?u4_6_3, ?u4_7_3, ?u4_8_3, ?u4_9_3, ?u4_10_3, ?u4_11_3, ?u4_12_3, ?eq4_3, s5, ((Ext.refl W5).cell c14_0.out), ((Ext.refl W5).cell c14_1.out), (((Ext.refl W5).frozen (cell_lt c14_0.out)).trans z14_0.out), (((Ext.refl W5).frozen (cell_lt c14_1.out)).trans z14_1.out), s1.size⟩
          case eq4_3 => ((try simp only [sxA, sxB, sxC, Act.put, sxD, sxE, sxF]); first | done | with_reducible rfl | rfl)
         exact AllReadyH.nil
        refine AllReadyH.cons (o := _) rfl (fun K hK => ?_) ?_
        ·skip
         go_simp
         refine hK.out _ _ (Ext.alloc s0 _) (fun _ => ?_)
         clear hK K
         (try simp only [sxA, sxB, sxC, Act.put, sxD, sxE, sxF])
         refine name_any (fun W1 hW => ?_)
         have e1 : Ext W0 W1 := by rw [hW]; exact Ext.alloc (Ext.refl _) _
         have s1 := s0.trans e1
         have b14_0 := hid (show W1.cell? ⟨W0.heap.size, 0, none⟩ = some (.int .i64 0) by rw [hW]; simp [go_sem])
         have b14_1 := hid (show W1.cell? ⟨W0.heap.size, 1, none⟩ = some (.int .i64 0) by rw [hW]; simp [go_sem])
         have d14_0 := hid (show W1.frozen? ⟨W0.heap.size, 0, none⟩ = false by rw [hW]; simp [go_sem])
         have d14_1 := hid (show W1.frozen? ⟨W0.heap.size, 1, none⟩ = false by rw [hW]; simp [go_sem])
         have l14 := hid (show W0.heap.size < W1.heap.size by rw [hW]; simp [go_sem])
         clear hW
         refine wpAnyH_ready (rs := [6]) (by kernel_rfl) (by simp) ?_
         refine AllReadyH.cons (o := _) rfl (fun K hK => ?_) AllReadyH.nil
         go_simp
         try rw [sh2, sh4]
         refine (hR2.out _).mono ?_; rintro e W2 ⟨ag_25, cg_25, rfl, _hg25_, e2⟩
         have s2 := s1.trans e2
         have _hg25 := hid _hg25_; clear _hg25_
         refine hK.out _ _ s2 (fun _ => ?_)
         clear hK K
         (try simp only [sxA, sxB, sxC, Act.put, sxD, sxE, sxF])
         refine wpAnyH_ready (rs := [7]) (by kernel_rfl) (by simp) ?_
         refine AllReadyH.cons (o := _) rfl (fun K hK => ?_) AllReadyH.nil
         go_simp
         refine (hP1.out hm1 _ _ _ _ _ (hT'.out.ext (X.out.trans s2)) (lR.out.ext s2) (_hg25.out.1.ext (Ext.refl W2))).mono ?_; rintro e W3 ⟨ap_25, cp_25, rfl, _hp25_, e3⟩
         have s3 := s2.trans e3
         have _hp25 := hid _hp25_; clear _hp25_
         refine hK.out _ _ s3 (fun _ => ?_)
         clear hK K
         (try simp only [sxA, sxB, sxC, Act.put, sxD, sxE, sxF])
         refine wpAnyH_ready (rs := [8]) (by kernel_rfl) (by simp) ?_
         refine AllReadyH.cons (o := _) rfl (fun K hK => ?_) AllReadyH.nil
         go_simp
         refine (hV1.out hm1 _ _ _ (_hp25.out.ext (Ext.refl W3))).mono ?_; rintro e W4 ⟨as_25, cs_25, at_25, ct_25, rfl, e4⟩
         have s4 := s3.trans e4
         refine hK.out _ _ s4 (fun _ => ?_)
         clear hK K
         (try simp only [sxA, sxB, sxC, Act.put, sxD, sxE, sxF])
         refine tkA (i := 9) (v := ?_) rfl (fun c a w h => hpan c _ _ _ _ h) (Or.inl ⟨by rfl, ?yl⟩) (by assumption) ?_
         case yl => (intro w hSw; (try dsimp only at hSw); have k_0 := Ext.cell hSw q0; go_simp); with_reducible rfl
         try simp only [sxA, sxB, sxC, Act.put, sxD, sxE, sxF]
         refine tkA (i := 10) (v := ?_) rfl (fun c a w h => hpan c _ _ _ _ h) (Or.inl ⟨by rfl, ?yl⟩) (by assumption) ?_
         case yl => (intro w hSw; (try dsimp only at hSw); have k_0 := Ext.cell hSw q0; go_simp); with_reducible rfl
         try simp only [sxA, sxB, sxC, Act.put, sxD, sxE, sxF]
         refine tkA (i := 11) (v := ?_) rfl (fun c a w h => hpan c _ _ _ _ h) (Or.inl ⟨by rfl, ?yl⟩) (by assumption) ?_
         case yl => (intro w hSw; (try dsimp only at hSw); have k_0 := Ext.cell hSw q0; go_simp); with_reducible rfl
         try simp only [sxA, sxB, sxC, Act.put, sxD, sxE, sxF]
         refine tkA (i := 12) (v := ?_) rfl (fun c a w h => hpan c _ _ _ _ h) (Or.inl ⟨by rfl, ?yl⟩) (by assumption) ?_
         case yl => (intro w hSw; (try dsimp only at hSw); have k_0 := Ext.cell hSw q0; go_simp); with_reducible rfl
         try simp only [sxA, sxB, sxC, Act.put, sxD, sxE, sxF]
         refine tkA (i := 13) (v := ?_) rfl (fun c a w h => hpan c _ _ _ _ h) (Or.inl ⟨by rfl, ?yl⟩) (by assumption) ?_
         case yl => (intro w hSw; (try dsimp only at hSw); have k_0 := Ext.cell hSw q0; go_simp); with_reducible rfl
         try simp only [sxA, sxB, sxC, Act.put, sxD, sxE, sxF]
         refine wpAnyH_ready (rs := [15]) (by kernel_rfl) (by simp) ?_
         refine AllReadyH.cons (o := _) rfl (fun K hK => ?_) AllReadyH.nil
         have f0 := Ext.cell ((((Ext.refl W1).trans e2).trans e3).trans e4) b14_0.out
         have g0 := (Ext.frozen ((((Ext.refl W1).trans e2).trans e3).trans e4) (p := ⟨W0.heap.size, 0, none⟩) l14.out).trans d14_0.out
         have f1 := Ext.cell ((((Ext.refl W1).trans e2).trans e3).trans e4) b14_1.out
         have g1 := (Ext.frozen ((((Ext.refl W1).trans e2).trans e3).trans e4) (p := ⟨W0.heap.size, 1, none⟩) l14.out).trans d14_1.out
         have l0_ := s0.size
         go_simp
         refine hK.out _ _ (by repeat (with_reducible first | assumption | exact Ext.refl _ | refine Ext.drew ?_ | refine Ext.drewN ?_ _ | refine Ext.alloc ?_ _ | refine xS ?_ _ | refine xT ?_ (by assumption))) (fun _ => ?_)
         clear hK K
         (try simp only [sxA, sxB, sxC, Act.put, sxD, sxE, sxF])
         refine name_any (fun W5 hW => ?_)
         have s5 : Ext u7 W5 := by rw [hW]; exact (by repeat (with_reducible first | assumption | exact Ext.refl _ | refine Ext.drew ?_ | refine Ext.drewN ?_ _ | refine Ext.alloc ?_ _ | refine xS ?_ _ | refine xT ?_ (by assumption)))
         skip
         have c14_0 := hid (show W5.cell? ⟨W0.heap.size, 0, none⟩ = some (.int .i64 an) by rw [hW]; simp [go_sem, f0, f1])
         have c14_1 := hid (show W5.cell? ⟨W0.heap.size, 1, none⟩ = some (.int .i64 ad) by rw [hW]; simp [go_sem, f0, f1])
         have z14_0 := hid (show W5.frozen? ⟨W0.heap.size, 0, none⟩ = false by rw [hW]; simp [go_sem, World.frozen?_setCell, g0, g1])
         have z14_1 := hid (show W5.frozen? ⟨W0.heap.size, 1, none⟩ = false by rw [hW]; simp [go_sem, World.frozen?_setCell, g0, g1])
         clear hW l0_ f0 g0 f1 g1
         refine tkA (i := 16) (v := ?_) rfl (fun c a w h => hpan c _ _ _ _ h) (Or.inl ⟨by rfl, ?yl⟩) (by assumption) ?_
         case yl => (intro w hSw; (try dsimp only at hSw); have k_0 := Ext.cell hSw q0; go_simp); with_reducible rfl
         try simp only [sxA, sxB, sxC, Act.put, sxD, sxE, sxF]
         refine tkA (i := 17) (v := ?_) rfl (fun c a w h => hpan c _ _ _ _ h) (Or.inl ⟨by rfl, ?yl⟩) (by assumption) ?_
         case yl => (intro w hSw; (try dsimp only at hSw); have k_0 := Ext.cell hSw q0; go_simp); with_reducible rfl
         try simp only [sxA, sxB, sxC, Act.put, sxD, sxE, sxF]
         refine tkA (i := 18) (v := ?_) rfl (fun c a w h => hpan c _ _ _ _ h) (Or.inl ⟨by rfl, ?yl⟩) (by assumption) ?_
         case yl => (intro w hSw; (try dsimp only at hSw); have k_0 := Ext.cell hSw q0; go_simp); with_reducible rfl
         try simp only [sxA, sxB, sxC, Act.put, sxD, sxE, sxF]
         refine wpAnyH_done (by kernel_rfl) ?_ _
         try simp only [sxA, sxB, sxC, Act.put, sxD, sxE, sxF]
         rw [hQ2.out]
         refine ⟨rfl, ag_25, cg_25, ap_25, cp_25, as_25, cs_25, at_25, ct_25, W0.heap.size, ?u4_0_4, ?u4_1_4, ?u4_2_4, ?u4_3_4, ?u4_4_4, ?u4_5_4, ?u4_6_4, ?u4_7_4, ?u4_8_4, ?u4_9_4, ?u4_10_4, ?u4_11_4, ?u4_12_4, ?eq4_4, s5, ((Ext.refl W5).cell c14_0.out), ((Ext.refl W5).cell c14_1.out), (((Ext.refl W5).frozen (cell_lt c14_0.out)).trans z14_0.out), (((Ext.refl W5).frozen (cell_lt c14_1.out)).trans z14_1.out), s0.size⟩
         case eq4_4 => ((try simp only [sxA, sxB, sxC, Act.put, sxD, sxE, sxF]); first | done | with_reducible rfl | rfl)
        exact AllReadyH.nil
       rw [hQ2.out]
       rintro e a' d8 ⟨rfl, ag_25, cg_25, ap_25, cp_25, as_25, cs_25, at_25, ct_25, ba, v0_, v1_, v2_, v3_, v4_, v5_, v9_, v10_, v11_, v12_, v13_, v16_, v17_, rfl, x, c14_0, c14_1, fz14_0, fz14_1, z14⟩
       clear hQ2 hpan; clear Q2
       subst hA_
       simp only [sxA, sxB, sxC, Act.put, sxD, sxE, sxF]
       clear q0
       replace mt0 := hid (x.cell mt0.out)
       replace f0 := hid (x.cell f0.out)
       replace bv0 := hid (x.cell bv0.out)
       replace bv1 := hid (x.cell bv1.out)
       replace bx0 := hid (x.cell bx0.out)
       replace tX := hid (tX.out.ext x)
       replace lR := hid (lR.out.ext x)
       replace lC := hid (lC.out.ext x)
       replace bw0 := hid (x.cell bw0.out)
       replace bw1 := hid (x.cell bw1.out)
       replace X := hid (X.out.trans x)
       clear x
       have ba0 := hid c14_0
       have ba1 := hid c14_1
       clear c14_0 c14_1 fz14_0 fz14_1 z14
       have r_ba0 := ba0.out
       have l_ba0 := cell_lt r_ba0
       dsimp only at l_ba0
       have r_ba1 := ba1.out
       have l_ba1 := cell_lt r_ba1
       dsimp only at l_ba1
       have r_bv0 := bv0.out
       have l_bv0 := cell_lt r_bv0
       dsimp only at l_bv0
       have r_bv1 := bv1.out
       have l_bv1 := cell_lt r_bv1
       dsimp only at l_bv1
       go_wp2_with fail
       refine (hL1.out hm1 _).mono ?_; rintro e u9 ⟨rfl, hE⟩
       have x : Ext d8 u9 := (by repeat (with_reducible first | assumption | exact Ext.refl _ | refine Ext.drew ?_ | refine Ext.drewN ?_ _ | refine Ext.alloc ?_ _ | refine xS ?_ _ | refine xT ?_ (by assumption)))
       clear r_ba0 l_ba0 r_ba1 l_ba1 r_bv0 l_bv0 r_bv1 l_bv1
       replace mt0 := hid (x.cell mt0.out)
       replace f0 := hid (x.cell f0.out)
       replace bv0 := hid (x.cell bv0.out)
       replace bv1 := hid (x.cell bv1.out)
       replace bx0 := hid (x.cell bx0.out)
       replace tX := hid (tX.out.ext x)
       replace lR := hid (lR.out.ext x)
       replace lC := hid (lC.out.ext x)
       replace bw0 := hid (x.cell bw0.out)
       replace bw1 := hid (x.cell bw1.out)
       replace ba0 := hid (x.cell ba0.out)
       replace ba1 := hid (x.cell ba1.out)
       replace X := hid (X.out.trans x)
       clear x hE
       by_cases hn1 : 1 < n
       ·have hn1I : (1 : Int) < (n : Int) := by omega
        go_wp2_with fail
        have q0 := mt0.out
        refine name_act (fun A_ hA_ => ?_)
        obtain ⟨Q2, hQ2⟩ : ∃ Q2 : Exit → Act → World → Prop, Q2 = fun e a' w' => e = .normal ∧ ∃ (ag_29 : Option Addr) (cg_29 : Nat) (ap_29 : Option Addr) (cp_29 : Nat) (as_29 : Option Addr) (cs_29 : Nat) (at_29 : Option Addr) (ct_29 : Nat) (bc : Nat) (v0_ v1_ v2_ v3_ v4_ v6_ v9_ v10_ v11_ v12_ v13_ v16_ v17_ : Value), a' = ((((((((((((((((((A_.put (some 154) (v0_)).put (some 155) (v1_)).put (some 156) (v2_)).put (some 157) (v3_)).put (some 158) (v4_)).put (some 159) (.slice ag_29 m cg_29)).put (some 160) (v6_)).put (some 161) (.agg #[.slice ap_29 (m) cp_29])).put (some 162) (.tuple #[.agg #[.int .i64 cn, .int .i64 cd], .slice as_29 (m) cs_29, .slice at_29 (n - 1) ct_29, .bool true])).put (some 153) (v9_)).put (some 163) (v10_)).put (some 164) (v11_)).put (some 165) (v12_)).put (some 166) (v13_)).put (some 31) (.pointer (some ⟨bc, 0, none⟩))).put (some 32) (v16_)).put (some 33) (v17_)).put (some 34) (.bool true)) ∧ Ext u9 w' ∧ w'.cell? ⟨bc, 0, none⟩ = some (.int .i64 cn) ∧ w'.cell? ⟨bc, 1, none⟩ = some (.int .i64 cd) ∧ w'.frozen? ⟨bc, 0, none⟩ = false ∧ w'.frozen? ⟨bc, 1, none⟩ = false ∧ u9.heap.size ≤ bc := ⟨_, rfl⟩
        have hpan : ∀ c a a' w w', Q2 (.panic c) a w → Q2 (.panic c) a' w' := by rw [hQ2]; rintro c a a' w w' ⟨h, _⟩; cases h
        replace hQ2 := hid hQ2
        refine wp_mono (Q := Q2) ?_ ?_
        ·subst hA_
         refine wp_region_held_drew (S := fun w' => Ext u9 w') (by kernel_rfl) (by repeat (with_reducible first | assumption | exact Ext.refl _ | refine Ext.drew ?_ | refine Ext.drewN ?_ _ | refine Ext.alloc ?_ _ | refine xS ?_ _ | refine xT ?_ (by assumption))) fun hHeld => ?_
         refine name_any (fun W0 hW => ?_)
         have s0 : Ext u9 W0 := by rw [hW]; exact hHeld
         clear hW hHeld
         refine tkA (i := 0) (v := ?_) rfl (fun c a w h => hpan c _ _ _ _ h) (Or.inl ⟨by rfl, ?yl⟩) (by assumption) ?_
         case yl => (intro w hSw; (try dsimp only at hSw); have k_0 := Ext.cell hSw q0; go_simp); with_reducible rfl
         try simp only [sxA, sxB, sxC, Act.put, sxD, sxE, sxF]
         refine tkA (i := 1) (v := ?_) rfl (fun c a w h => hpan c _ _ _ _ h) (Or.inl ⟨by rfl, ?yl⟩) (by assumption) ?_
         case yl => (intro w hSw; (try dsimp only at hSw); have k_0 := Ext.cell hSw q0; go_simp); with_reducible rfl
         try simp only [sxA, sxB, sxC, Act.put, sxD, sxE, sxF]
         refine tkA (i := 2) (v := ?_) rfl (fun c a w h => hpan c _ _ _ _ h) (Or.inl ⟨by rfl, ?yl⟩) (by assumption) ?_
         case yl => (intro w hSw; (try dsimp only at hSw); have k_0 := Ext.cell hSw q0; go_simp); with_reducible rfl
         try simp only [sxA, sxB, sxC, Act.put, sxD, sxE, sxF]
         refine tkA (i := 3) (v := ?_) rfl (fun c a w h => hpan c _ _ _ _ h) (Or.inl ⟨by rfl, ?yl⟩) (by assumption) ?_
         case yl => (intro w hSw; (try dsimp only at hSw); have k_0 := Ext.cell hSw q0; go_simp); with_reducible rfl
         try simp only [sxA, sxB, sxC, Act.put, sxD, sxE, sxF]
         refine tkA (i := 4) (v := ?_) rfl (fun c a w h => hpan c _ _ _ _ h) (Or.inl ⟨by rfl, ?yl⟩) (by assumption) ?_
         case yl => (intro w hSw; (try dsimp only at hSw); have k_0 := Ext.cell hSw q0; go_simp); with_reducible rfl
         try simp only [sxA, sxB, sxC, Act.put, sxD, sxE, sxF]
         refine tkA (i := 6) (v := ?_) rfl (fun c a w h => hpan c _ _ _ _ h) (Or.inl ⟨by rfl, ?yl⟩) (by assumption) ?_
         case yl => (intro w hSw; (try dsimp only at hSw); have k_0 := Ext.cell hSw q0; go_simp); with_reducible rfl
         try simp only [sxA, sxB, sxC, Act.put, sxD, sxE, sxF]
         refine wpAnyH_ready (rs := [5, 14]) (by kernel_rfl) (by simp) ?_
         refine AllReadyH.cons (o := _) rfl (fun K hK => ?_) ?_
         ·skip
          go_simp
          try rw [sh1, sh3]
          refine (hR1.out _).mono ?_; rintro e W1 ⟨ag_29, cg_29, rfl, _hg29_, e1⟩
          have s1 := s0.trans e1
          have _hg29 := hid _hg29_; clear _hg29_
          refine hK.out _ _ s1 (fun _ => ?_)
          clear hK K
          (try simp only [sxA, sxB, sxC, Act.put, sxD, sxE, sxF])
          refine wpAnyH_ready (rs := [7, 14]) (by kernel_rfl) (by simp) ?_
          refine AllReadyH.cons (o := _) rfl (fun K hK => ?_) ?_
          ·skip
           go_simp
           refine (hP2.out hn1 _ _ _ _ _ (hT'.out.ext (X.out.trans s1)) (_hg29.out.1.ext (Ext.refl W1)) (lC.out.ext s1)).mono ?_; rintro e W2 ⟨ap_29, cp_29, rfl, _hp29_, e2⟩
           have s2 := s1.trans e2
           have _hp29 := hid _hp29_; clear _hp29_
           refine hK.out _ _ s2 (fun _ => ?_)
           clear hK K
           (try simp only [sxA, sxB, sxC, Act.put, sxD, sxE, sxF])
           refine wpAnyH_ready (rs := [8, 14]) (by kernel_rfl) (by simp) ?_
           refine AllReadyH.cons (o := _) rfl (fun K hK => ?_) ?_
           ·skip
            go_simp
            refine (hV2.out hn1 _ _ _ (_hp29.out.ext (Ext.refl W2))).mono ?_; rintro e W3 ⟨as_29, cs_29, at_29, ct_29, rfl, e3⟩
            have s3 := s2.trans e3
            refine hK.out _ _ s3 (fun _ => ?_)
            clear hK K
            (try simp only [sxA, sxB, sxC, Act.put, sxD, sxE, sxF])
            refine tkA (i := 9) (v := ?_) rfl (fun c a w h => hpan c _ _ _ _ h) (Or.inl ⟨by rfl, ?yl⟩) (by assumption) ?_
            case yl => (intro w hSw; (try dsimp only at hSw); have k_0 := Ext.cell hSw q0; go_simp); with_reducible rfl
            try simp only [sxA, sxB, sxC, Act.put, sxD, sxE, sxF]
            refine tkA (i := 10) (v := ?_) rfl (fun c a w h => hpan c _ _ _ _ h) (Or.inl ⟨by rfl, ?yl⟩) (by assumption) ?_
            case yl => (intro w hSw; (try dsimp only at hSw); have k_0 := Ext.cell hSw q0; go_simp); with_reducible rfl
            try simp only [sxA, sxB, sxC, Act.put, sxD, sxE, sxF]
            refine tkA (i := 11) (v := ?_) rfl (fun c a w h => hpan c _ _ _ _ h) (Or.inl ⟨by rfl, ?yl⟩) (by assumption) ?_
            case yl => (intro w hSw; (try dsimp only at hSw); have k_0 := Ext.cell hSw q0; go_simp); with_reducible rfl
            try simp only [sxA, sxB, sxC, Act.put, sxD, sxE, sxF]
            refine tkA (i := 12) (v := ?_) rfl (fun c a w h => hpan c _ _ _ _ h) (Or.inl ⟨by rfl, ?yl⟩) (by assumption) ?_
            case yl => (intro w hSw; (try dsimp only at hSw); have k_0 := Ext.cell hSw q0; go_simp); with_reducible rfl
            try simp only [sxA, sxB, sxC, Act.put, sxD, sxE, sxF]
            refine tkA (i := 13) (v := ?_) rfl (fun c a w h => hpan c _ _ _ _ h) (Or.inl ⟨by rfl, ?yl⟩) (by assumption) ?_
            case yl => (intro w hSw; (try dsimp only at hSw); have k_0 := Ext.cell hSw q0; go_simp); with_reducible rfl
            try simp only [sxA, sxB, sxC, Act.put, sxD, sxE, sxF]
            refine wpAnyH_ready (rs := [14]) (by kernel_rfl) (by simp) ?_
            refine AllReadyH.cons (o := _) rfl (fun K hK => ?_) AllReadyH.nil
            go_simp
            refine hK.out _ _ (Ext.alloc s3 _) (fun _ => ?_)
            clear hK K
            (try simp only [sxA, sxB, sxC, Act.put, sxD, sxE, sxF])
            refine name_any (fun W4 hW => ?_)
            have e4 : Ext W3 W4 := by rw [hW]; exact Ext.alloc (Ext.refl _) _
            have s4 := s3.trans e4
            have b14_0 := hid (show W4.cell? ⟨W3.heap.size, 0, none⟩ = some (.int .i64 0) by rw [hW]; simp [go_sem])
            have b14_1 := hid (show W4.cell? ⟨W3.heap.size, 1, none⟩ = some (.int .i64 0) by rw [hW]; simp [go_sem])
            have d14_0 := hid (show W4.frozen? ⟨W3.heap.size, 0, none⟩ = false by rw [hW]; simp [go_sem])
            have d14_1 := hid (show W4.frozen? ⟨W3.heap.size, 1, none⟩ = false by rw [hW]; simp [go_sem])
            have l14 := hid (show W3.heap.size < W4.heap.size by rw [hW]; simp [go_sem])
            clear hW
            refine wpAnyH_ready (rs := [15]) (by kernel_rfl) (by simp) ?_
            refine AllReadyH.cons (o := _) rfl (fun K hK => ?_) AllReadyH.nil
            have f0 := Ext.cell (Ext.refl W4) b14_0.out
            have g0 := (Ext.frozen (Ext.refl W4) (p := ⟨W3.heap.size, 0, none⟩) l14.out).trans d14_0.out
            have f1 := Ext.cell (Ext.refl W4) b14_1.out
            have g1 := (Ext.frozen (Ext.refl W4) (p := ⟨W3.heap.size, 1, none⟩) l14.out).trans d14_1.out
            have l0_ := s3.size
            go_simp
            refine hK.out _ _ (by repeat (with_reducible first | assumption | exact Ext.refl _ | refine Ext.drew ?_ | refine Ext.drewN ?_ _ | refine Ext.alloc ?_ _ | refine xS ?_ _ | refine xT ?_ (by assumption))) (fun _ => ?_)
            clear hK K
            (try simp only [sxA, sxB, sxC, Act.put, sxD, sxE, sxF])
            refine name_any (fun W5 hW => ?_)
            have s5 : Ext u9 W5 := by rw [hW]; exact (by repeat (with_reducible first | assumption | exact Ext.refl _ | refine Ext.drew ?_ | refine Ext.drewN ?_ _ | refine Ext.alloc ?_ _ | refine xS ?_ _ | refine xT ?_ (by assumption)))
            skip
            have c14_0 := hid (show W5.cell? ⟨W3.heap.size, 0, none⟩ = some (.int .i64 cn) by rw [hW]; simp [go_sem, f0, f1])
            have c14_1 := hid (show W5.cell? ⟨W3.heap.size, 1, none⟩ = some (.int .i64 cd) by rw [hW]; simp [go_sem, f0, f1])
            have z14_0 := hid (show W5.frozen? ⟨W3.heap.size, 0, none⟩ = false by rw [hW]; simp [go_sem, World.frozen?_setCell, g0, g1])
            have z14_1 := hid (show W5.frozen? ⟨W3.heap.size, 1, none⟩ = false by rw [hW]; simp [go_sem, World.frozen?_setCell, g0, g1])
            clear hW l0_ f0 g0 f1 g1
            refine tkA (i := 16) (v := ?_) rfl (fun c a w h => hpan c _ _ _ _ h) (Or.inl ⟨by rfl, ?yl⟩) (by assumption) ?_
            case yl => (intro w hSw; (try dsimp only at hSw); have k_0 := Ext.cell hSw q0; go_simp); with_reducible rfl
            try simp only [sxA, sxB, sxC, Act.put, sxD, sxE, sxF]
            refine tkA (i := 17) (v := ?_) rfl (fun c a w h => hpan c _ _ _ _ h) (Or.inl ⟨by rfl, ?yl⟩) (by assumption) ?_
            case yl => (intro w hSw; (try dsimp only at hSw); have k_0 := Ext.cell hSw q0; go_simp); with_reducible rfl
            try simp only [sxA, sxB, sxC, Act.put, sxD, sxE, sxF]
            refine tkA (i := 18) (v := ?_) rfl (fun c a w h => hpan c _ _ _ _ h) (Or.inl ⟨by rfl, ?yl⟩) (by assumption) ?_
            case yl => (intro w hSw; (try dsimp only at hSw); have k_0 := Ext.cell hSw q0; go_simp); with_reducible rfl
            try simp only [sxA, sxB, sxC, Act.put, sxD, sxE, sxF]
            refine wpAnyH_done (by kernel_rfl) ?_ _
            try simp only [sxA, sxB, sxC, Act.put, sxD, sxE, sxF]
            rw [hQ2.out]
            refine ⟨rfl, ag_29, cg_29, ap_29, cp_29, as_29, cs_29, at_29, ct_29, W3.heap.size, ?u5_0_1, ?u5_1_1, ?u5_2_1, ?u5_3_1, ?u5_4_1, ?u5_5_1, ?u5_6_1, ?u5_7_1, ?u5_8_1, ?u5_9_1, ?u5_10_1, ?u5_11_1, ?u5_12_1, ?eq5_1, s5, ((Ext.refl W5).cell c14_0.out), ((Ext.refl W5).cell c14_1.out), (((Ext.refl W5).frozen (cell_lt c14_0.out)).trans z14_0.out), (((Ext.refl W5).frozen (cell_lt c14_1.out)).trans z14_1.out), s3.size⟩
            case eq5_1 => ((try simp only [sxA, sxB, sxC, Act.put, sxD, sxE, sxF]); first | done | with_reducible rfl | rfl)
           refine AllReadyH.cons (o := _) rfl (fun K hK => ?_) ?_
           ·skip
            go_simp
            refine hK.out _ _ (Ext.alloc s2 _) (fun _ => ?_)
            clear hK K
            (try simp only [sxA, sxB, sxC, Act.put, sxD, sxE, sxF])
            refine name_any (fun W3 hW => ?_)
            have e3 : Ext W2 W3 := by rw [hW]; exact Ext.alloc (Ext.refl _) _
            have s3 := s2.trans e3
            have b14_0 := hid (show W3.cell? ⟨W2.heap.size, 0, none⟩ = some (.int .i64 0) by rw [hW]; simp [go_sem])
            have b14_1 := hid (show W3.cell? ⟨W2.heap.size, 1, none⟩ = some (.int .i64 0) by rw [hW]; simp [go_sem])
            have d14_0 := hid (show W3.frozen? ⟨W2.heap.size, 0, none⟩ = false by rw [hW]; simp [go_sem])
            have d14_1 := hid (show W3.frozen? ⟨W2.heap.size, 1, none⟩ = false by rw [hW]; simp [go_sem])
            have l14 := hid (show W2.heap.size < W3.heap.size by rw [hW]; simp [go_sem])
            clear hW
            refine wpAnyH_ready (rs := [8]) (by kernel_rfl) (by simp) ?_
            refine AllReadyH.cons (o := _) rfl (fun K hK => ?_) AllReadyH.nil
            go_simp
            refine (hV2.out hn1 _ _ _ (_hp29.out.ext ((Ext.refl W2).trans e3))).mono ?_; rintro e W4 ⟨as_29, cs_29, at_29, ct_29, rfl, e4⟩
            have s4 := s3.trans e4
            refine hK.out _ _ s4 (fun _ => ?_)
            clear hK K
            (try simp only [sxA, sxB, sxC, Act.put, sxD, sxE, sxF])
            refine tkA (i := 9) (v := ?_) rfl (fun c a w h => hpan c _ _ _ _ h) (Or.inl ⟨by rfl, ?yl⟩) (by assumption) ?_
            case yl => (intro w hSw; (try dsimp only at hSw); have k_0 := Ext.cell hSw q0; go_simp); with_reducible rfl
            try simp only [sxA, sxB, sxC, Act.put, sxD, sxE, sxF]
            refine tkA (i := 10) (v := ?_) rfl (fun c a w h => hpan c _ _ _ _ h) (Or.inl ⟨by rfl, ?yl⟩) (by assumption) ?_
            case yl => (intro w hSw; (try dsimp only at hSw); have k_0 := Ext.cell hSw q0; go_simp); with_reducible rfl
            try simp only [sxA, sxB, sxC, Act.put, sxD, sxE, sxF]
            refine tkA (i := 11) (v := ?_) rfl (fun c a w h => hpan c _ _ _ _ h) (Or.inl ⟨by rfl, ?yl⟩) (by assumption) ?_
            case yl => (intro w hSw; (try dsimp only at hSw); have k_0 := Ext.cell hSw q0; go_simp); with_reducible rfl
            try simp only [sxA, sxB, sxC, Act.put, sxD, sxE, sxF]
            refine tkA (i := 12) (v := ?_) rfl (fun c a w h => hpan c _ _ _ _ h) (Or.inl ⟨by rfl, ?yl⟩) (by assumption) ?_
            case yl => (intro w hSw; (try dsimp only at hSw); have k_0 := Ext.cell hSw q0; go_simp); with_reducible rfl
            try simp only [sxA, sxB, sxC, Act.put, sxD, sxE, sxF]
            refine tkA (i := 13) (v := ?_) rfl (fun c a w h => hpan c _ _ _ _ h) (Or.inl ⟨by rfl, ?yl⟩) (by assumption) ?_
            case yl => (intro w hSw; (try dsimp only at hSw); have k_0 := Ext.cell hSw q0; go_simp); with_reducible rfl
            try simp only [sxA, sxB, sxC, Act.put, sxD, sxE, sxF]
            refine wpAnyH_ready (rs := [15]) (by kernel_rfl) (by simp) ?_
            refine AllReadyH.cons (o := _) rfl (fun K hK => ?_) AllReadyH.nil
            have f0 := Ext.cell ((Ext.refl W3).trans e4) b14_0.out
            have g0 := (Ext.frozen ((Ext.refl W3).trans e4) (p := ⟨W2.heap.size, 0, none⟩) l14.out).trans d14_0.out
            have f1 := Ext.cell ((Ext.refl W3).trans e4) b14_1.out
            have g1 := (Ext.frozen ((Ext.refl W3).trans e4) (p := ⟨W2.heap.size, 1, none⟩) l14.out).trans d14_1.out
            have l0_ := s2.size
            go_simp
            refine hK.out _ _ (by repeat (with_reducible first | assumption | exact Ext.refl _ | refine Ext.drew ?_ | refine Ext.drewN ?_ _ | refine Ext.alloc ?_ _ | refine xS ?_ _ | refine xT ?_ (by assumption))) (fun _ => ?_)
            clear hK K
            (try simp only [sxA, sxB, sxC, Act.put, sxD, sxE, sxF])
            refine name_any (fun W5 hW => ?_)
            have s5 : Ext u9 W5 := by rw [hW]; exact (by repeat (with_reducible first | assumption | exact Ext.refl _ | refine Ext.drew ?_ | refine Ext.drewN ?_ _ | refine Ext.alloc ?_ _ | refine xS ?_ _ | refine xT ?_ (by assumption)))
            skip
            have c14_0 := hid (show W5.cell? ⟨W2.heap.size, 0, none⟩ = some (.int .i64 cn) by rw [hW]; simp [go_sem, f0, f1])
            have c14_1 := hid (show W5.cell? ⟨W2.heap.size, 1, none⟩ = some (.int .i64 cd) by rw [hW]; simp [go_sem, f0, f1])
            have z14_0 := hid (show W5.frozen? ⟨W2.heap.size, 0, none⟩ = false by rw [hW]; simp [go_sem, World.frozen?_setCell, g0, g1])
            have z14_1 := hid (show W5.frozen? ⟨W2.heap.size, 1, none⟩ = false by rw [hW]; simp [go_sem, World.frozen?_setCell, g0, g1])
            clear hW l0_ f0 g0 f1 g1
            refine tkA (i := 16) (v := ?_) rfl (fun c a w h => hpan c _ _ _ _ h) (Or.inl ⟨by rfl, ?yl⟩) (by assumption) ?_
            case yl => (intro w hSw; (try dsimp only at hSw); have k_0 := Ext.cell hSw q0; go_simp); with_reducible rfl
            try simp only [sxA, sxB, sxC, Act.put, sxD, sxE, sxF]
            refine tkA (i := 17) (v := ?_) rfl (fun c a w h => hpan c _ _ _ _ h) (Or.inl ⟨by rfl, ?yl⟩) (by assumption) ?_
            case yl => (intro w hSw; (try dsimp only at hSw); have k_0 := Ext.cell hSw q0; go_simp); with_reducible rfl
            try simp only [sxA, sxB, sxC, Act.put, sxD, sxE, sxF]
            refine tkA (i := 18) (v := ?_) rfl (fun c a w h => hpan c _ _ _ _ h) (Or.inl ⟨by rfl, ?yl⟩) (by assumption) ?_
            case yl => (intro w hSw; (try dsimp only at hSw); have k_0 := Ext.cell hSw q0; go_simp); with_reducible rfl
            try simp only [sxA, sxB, sxC, Act.put, sxD, sxE, sxF]
            refine wpAnyH_done (by kernel_rfl) ?_ _
            try simp only [sxA, sxB, sxC, Act.put, sxD, sxE, sxF]
            rw [hQ2.out]
            refine ⟨rfl, ag_29, cg_29, ap_29, cp_29, as_29, cs_29, at_29, ct_29, W2.heap.size, ?u5_0_2, ?u5_1_2, ?u5_2_2, ?u5_3_2, ?u5_4_2, ?u5_5_2, ?u5_6_2, ?u5_7_2, ?u5_8_2, ?u5_9_2, ?u5_10_2, ?u5_11_2, ?u5_12_2, ?eq5_2, s5, ((Ext.refl W5).cell c14_0.out), ((Ext.refl W5).cell c14_1.out), (((Ext.refl W5).frozen (cell_lt c14_0.out)).trans z14_0.out), (((Ext.refl W5).frozen (cell_lt c14_1.out)).trans z14_1.out), s2.size⟩
            case eq5_2 => ((try simp only [sxA, sxB, sxC, Act.put, sxD, sxE, sxF]); first | done | with_reducible rfl | rfl)
           exact AllReadyH.nil
          refine AllReadyH.cons (o := _) rfl (fun K hK => ?_) ?_
          ·skip
           go_simp
           refine hK.out _ _ (Ext.alloc s1 _) (fun _ => ?_)
           clear hK K
           (try simp only [sxA, sxB, sxC, Act.put, sxD, sxE, sxF])
           refine name_any (fun W2 hW => ?_)
           have e2 : Ext W1 W2 := by rw [hW]; exact Ext.alloc (Ext.refl _) _
           have s2 := s1.trans e2
           have b14_0 := hid (show W2.cell? ⟨W1.heap.size, 0, none⟩ = some (.int .i64 0) by rw [hW]; simp [go_sem])
           have b14_1 := hid (show W2.cell? ⟨W1.heap.size, 1, none⟩ = some (.int .i64 0) by rw [hW]; simp [go_sem])
           have d14_0 := hid (show W2.frozen? ⟨W1.heap.size, 0, none⟩ = false by rw [hW]; simp [go_sem])
           have d14_1 := hid (show W2.frozen? ⟨W1.heap.size, 1, none⟩ = false by rw [hW]; simp [go_sem])
           have l14 := hid (show W1.heap.size < W2.heap.size by rw [hW]; simp [go_sem])
           clear hW
           refine wpAnyH_ready (rs := [7]) (by kernel_rfl) (by simp) ?_
           refine AllReadyH.cons (o := _) rfl (fun K hK => ?_) AllReadyH.nil
           go_simp
           refine (hP2.out hn1 _ _ _ _ _ (hT'.out.ext (X.out.trans s2)) (_hg29.out.1.ext ((Ext.refl W1).trans e2)) (lC.out.ext s2)).mono ?_; rintro e W3 ⟨ap_29, cp_29, rfl, _hp29_, e3⟩
           have s3 := s2.trans e3
           have _hp29 := hid _hp29_; clear _hp29_
           refine hK.out _ _ s3 (fun _ => ?_)
           clear hK K
           (try simp only [sxA, sxB, sxC, Act.put, sxD, sxE, sxF])
           refine wpAnyH_ready (rs := [8]) (by kernel_rfl) (by simp) ?_
           refine AllReadyH.cons (o := _) rfl (fun K hK => ?_) AllReadyH.nil
           go_simp
           refine (hV2.out hn1 _ _ _ (_hp29.out.ext (Ext.refl W3))).mono ?_; rintro e W4 ⟨as_29, cs_29, at_29, ct_29, rfl, e4⟩
           have s4 := s3.trans e4
           refine hK.out _ _ s4 (fun _ => ?_)
           clear hK K
           (try simp only [sxA, sxB, sxC, Act.put, sxD, sxE, sxF])
           refine tkA (i := 9) (v := ?_) rfl (fun c a w h => hpan c _ _ _ _ h) (Or.inl ⟨by rfl, ?yl⟩) (by assumption) ?_
           case yl => (intro w hSw; (try dsimp only at hSw); have k_0 := Ext.cell hSw q0; go_simp); with_reducible rfl
           try simp only [sxA, sxB, sxC, Act.put, sxD, sxE, sxF]
           refine tkA (i := 10) (v := ?_) rfl (fun c a w h => hpan c _ _ _ _ h) (Or.inl ⟨by rfl, ?yl⟩) (by assumption) ?_
           case yl => (intro w hSw; (try dsimp only at hSw); have k_0 := Ext.cell hSw q0; go_simp); with_reducible rfl
           try simp only [sxA, sxB, sxC, Act.put, sxD, sxE, sxF]
           refine tkA (i := 11) (v := ?_) rfl (fun c a w h => hpan c _ _ _ _ h) (Or.inl ⟨by rfl, ?yl⟩) (by assumption) ?_
           case yl => (intro w hSw; (try dsimp only at hSw); have k_0 := Ext.cell hSw q0; go_simp); with_reducible rfl
           try simp only [sxA, sxB, sxC, Act.put, sxD, sxE, sxF]
           refine tkA (i := 12) (v := ?_) rfl (fun c a w h => hpan c _ _ _ _ h) (Or.inl ⟨by rfl, ?yl⟩) (by assumption) ?_
           case yl => (intro w hSw; (try dsimp only at hSw); have k_0 := Ext.cell hSw q0; go_simp); with_reducible rfl
           try simp only [sxA, sxB, sxC, Act.put, sxD, sxE, sxF]
           refine tkA (i := 13) (v := ?_) rfl (fun c a w h => hpan c _ _ _ _ h) (Or.inl ⟨by rfl, ?yl⟩) (by assumption) ?_
           case yl => (intro w hSw; (try dsimp only at hSw); have k_0 := Ext.cell hSw q0; go_simp); with_reducible rfl
           try simp only [sxA, sxB, sxC, Act.put, sxD, sxE, sxF]
           refine wpAnyH_ready (rs := [15]) (by kernel_rfl) (by simp) ?_
           refine AllReadyH.cons (o := _) rfl (fun K hK => ?_) AllReadyH.nil
           have f0 := Ext.cell (((Ext.refl W2).trans e3).trans e4) b14_0.out
           have g0 := (Ext.frozen (((Ext.refl W2).trans e3).trans e4) (p := ⟨W1.heap.size, 0, none⟩) l14.out).trans d14_0.out
           have f1 := Ext.cell (((Ext.refl W2).trans e3).trans e4) b14_1.out
           have g1 := (Ext.frozen (((Ext.refl W2).trans e3).trans e4) (p := ⟨W1.heap.size, 1, none⟩) l14.out).trans d14_1.out
           have l0_ := s1.size
           go_simp
           refine hK.out _ _ (by repeat (with_reducible first | assumption | exact Ext.refl _ | refine Ext.drew ?_ | refine Ext.drewN ?_ _ | refine Ext.alloc ?_ _ | refine xS ?_ _ | refine xT ?_ (by assumption))) (fun _ => ?_)
           clear hK K
           (try simp only [sxA, sxB, sxC, Act.put, sxD, sxE, sxF])
           refine name_any (fun W5 hW => ?_)
           have s5 : Ext u9 W5 := by rw [hW]; exact (by repeat (with_reducible first | assumption | exact Ext.refl _ | refine Ext.drew ?_ | refine Ext.drewN ?_ _ | refine Ext.alloc ?_ _ | refine xS ?_ _ | refine xT ?_ (by assumption)))
           skip
           have c14_0 := hid (show W5.cell? ⟨W1.heap.size, 0, none⟩ = some (.int .i64 cn) by rw [hW]; simp [go_sem, f0, f1])
           have c14_1 := hid (show W5.cell? ⟨W1.heap.size, 1, none⟩ = some (.int .i64 cd) by rw [hW]; simp [go_sem, f0, f1])
           have z14_0 := hid (show W5.frozen? ⟨W1.heap.size, 0, none⟩ = false by rw [hW]; simp [go_sem, World.frozen?_setCell, g0, g1])
           have z14_1 := hid (show W5.frozen? ⟨W1.heap.size, 1, none⟩ = false by rw [hW]; simp [go_sem, World.frozen?_setCell, g0, g1])
           clear hW l0_ f0 g0 f1 g1
           refine tkA (i := 16) (v := ?_) rfl (fun c a w h => hpan c _ _ _ _ h) (Or.inl ⟨by rfl, ?yl⟩) (by assumption) ?_
           case yl => (intro w hSw; (try dsimp only at hSw); have k_0 := Ext.cell hSw q0; go_simp); with_reducible rfl
           try simp only [sxA, sxB, sxC, Act.put, sxD, sxE, sxF]
           refine tkA (i := 17) (v := ?_) rfl (fun c a w h => hpan c _ _ _ _ h) (Or.inl ⟨by rfl, ?yl⟩) (by assumption) ?_
           case yl => (intro w hSw; (try dsimp only at hSw); have k_0 := Ext.cell hSw q0; go_simp); with_reducible rfl
           try simp only [sxA, sxB, sxC, Act.put, sxD, sxE, sxF]
           refine tkA (i := 18) (v := ?_) rfl (fun c a w h => hpan c _ _ _ _ h) (Or.inl ⟨by rfl, ?yl⟩) (by assumption) ?_
           case yl => (intro w hSw; (try dsimp only at hSw); have k_0 := Ext.cell hSw q0; go_simp); with_reducible rfl
           try simp only [sxA, sxB, sxC, Act.put, sxD, sxE, sxF]
           refine wpAnyH_done (by kernel_rfl) ?_ _
           try simp only [sxA, sxB, sxC, Act.put, sxD, sxE, sxF]
           rw [hQ2.out]
           refine ⟨rfl, ag_29, cg_29, ap_29, cp_29, as_29, cs_29, at_29, ct_29, W1.heap.size, ?u5_0_3, ?u5_1_3, ?u5_2_3, ?u5_3_3, ?u5_4_3, ?u5_5_3, ?u5_6_3, ?u5_7_3, ?u5_8_3, ?u5_9_3, ?u5_10_3, ?u5_11_3, ?u5_12_3, ?eq5_3, s5, ((Ext.refl W5).cell c14_0.out), ((Ext.refl W5).cell c14_1.out), (((Ext.refl W5).frozen (cell_lt c14_0.out)).trans z14_0.out), (((Ext.refl W5).frozen (cell_lt c14_1.out)).trans z14_1.out), s1.size⟩
           case eq5_3 => ((try simp only [sxA, sxB, sxC, Act.put, sxD, sxE, sxF]); first | done | with_reducible rfl | rfl)
          exact AllReadyH.nil
         refine AllReadyH.cons (o := _) rfl (fun K hK => ?_) ?_
         ·skip
          go_simp
          refine hK.out _ _ (Ext.alloc s0 _) (fun _ => ?_)
          clear hK K
          (try simp only [sxA, sxB, sxC, Act.put, sxD, sxE, sxF])
          refine name_any (fun W1 hW => ?_)
          have e1 : Ext W0 W1 := by rw [hW]; exact Ext.alloc (Ext.refl _) _
          have s1 := s0.trans e1
          have b14_0 := hid (show W1.cell? ⟨W0.heap.size, 0, none⟩ = some (.int .i64 0) by rw [hW]; simp [go_sem])
          have b14_1 := hid (show W1.cell? ⟨W0.heap.size, 1, none⟩ = some (.int .i64 0) by rw [hW]; simp [go_sem])
          have d14_0 := hid (show W1.frozen? ⟨W0.heap.size, 0, none⟩ = false by rw [hW]; simp [go_sem])
          have d14_1 := hid (show W1.frozen? ⟨W0.heap.size, 1, none⟩ = false by rw [hW]; simp [go_sem])
          have l14 := hid (show W0.heap.size < W1.heap.size by rw [hW]; simp [go_sem])
          clear hW
          refine wpAnyH_ready (rs := [5]) (by kernel_rfl) (by simp) ?_
          refine AllReadyH.cons (o := _) rfl (fun K hK => ?_) AllReadyH.nil
          go_simp
          try rw [sh1, sh3]
          refine (hR1.out _).mono ?_; rintro e W2 ⟨ag_29, cg_29, rfl, _hg29_, e2⟩
          have s2 := s1.trans e2
          have _hg29 := hid _hg29_; clear _hg29_
          refine hK.out _ _ s2 (fun _ => ?_)
          clear hK K
          (try simp only [sxA, sxB, sxC, Act.put, sxD, sxE, sxF])
          refine wpAnyH_ready (rs := [7]) (by kernel_rfl) (by simp) ?_
          refine AllReadyH.cons (o := _) rfl (fun K hK => ?_) AllReadyH.nil
          go_simp
          refine (hP2.out hn1 _ _ _ _ _ (hT'.out.ext (X.out.trans s2)) (_hg29.out.1.ext (Ext.refl W2)) (lC.out.ext s2)).mono ?_; rintro e W3 ⟨ap_29, cp_29, rfl, _hp29_, e3⟩
          have s3 := s2.trans e3
          have _hp29 := hid _hp29_; clear _hp29_
          refine hK.out _ _ s3 (fun _ => ?_)
          clear hK K
          (try simp only [sxA, sxB, sxC, Act.put, sxD, sxE, sxF])
          refine wpAnyH_ready (rs := [8]) (by kernel_rfl) (by simp) ?_
          refine AllReadyH.cons (o := _) rfl (fun K hK => ?_) AllReadyH.nil
          go_simp
          refine (hV2.out hn1 _ _ _ (_hp29.out.ext (Ext.refl W3))).mono ?_; rintro e W4 ⟨as_29, cs_29, at_29, ct_29, rfl, e4⟩
          have s4 := s3.trans e4
          refine hK.out _ _ s4 (fun _ => ?_)
          clear hK K
          (try simp only [sxA, sxB, sxC, Act.put, sxD, sxE, sxF])
          refine tkA (i := 9) (v := ?_) rfl (fun c a w h => hpan c _ _ _ _ h) (Or.inl ⟨by rfl, ?yl⟩) (by assumption) ?_
          case yl => (intro w hSw; (try dsimp only at hSw); have k_0 := Ext.cell hSw q0; go_simp); with_reducible rfl
          try simp only [sxA, sxB, sxC, Act.put, sxD, sxE, sxF]
          refine tkA (i := 10) (v := ?_) rfl (fun c a w h => hpan c _ _ _ _ h) (Or.inl ⟨by rfl, ?yl⟩) (by assumption) ?_
          case yl => (intro w hSw; (try dsimp only at hSw); have k_0 := Ext.cell hSw q0; go_simp); with_reducible rfl
          try simp only [sxA, sxB, sxC, Act.put, sxD, sxE, sxF]
          refine tkA (i := 11) (v := ?_) rfl (fun c a w h => hpan c _ _ _ _ h) (Or.inl ⟨by rfl, ?yl⟩) (by assumption) ?_
          case yl => (intro w hSw; (try dsimp only at hSw); have k_0 := Ext.cell hSw q0; go_simp); with_reducible rfl
          try simp only [sxA, sxB, sxC, Act.put, sxD, sxE, sxF]
          refine tkA (i := 12) (v := ?_) rfl (fun c a w h => hpan c _ _ _ _ h) (Or.inl ⟨by rfl, ?yl⟩) (by assumption) ?_
          case yl => (intro w hSw; (try dsimp only at hSw); have k_0 := Ext.cell hSw q0; go_simp); with_reducible rfl
          try simp only [sxA, sxB, sxC, Act.put, sxD, sxE, sxF]
          refine tkA (i := 13) (v := ?_) rfl (fun c a w h => hpan c _ _ _ _ h) (Or.inl ⟨by rfl, ?yl⟩) (by assumption) ?_
          case yl => (intro w hSw; (try dsimp only at hSw); have k_0 := Ext.cell hSw q0; go_simp); with_reducible rfl
          try simp only [sxA, sxB, sxC, Act.put, sxD, sxE, sxF]
          refine wpAnyH_ready (rs := [15]) (by kernel_rfl) (by simp) ?_
          refine AllReadyH.cons (o := _) rfl (fun K hK => ?_) AllReadyH.nil
          have f0 := Ext.cell ((((Ext.refl W1).trans e2).trans e3).trans e4) b14_0.out
          have g0 := (Ext.frozen ((((Ext.refl W1).trans e2).trans e3).trans e4) (p := ⟨W0.heap.size, 0, none⟩) l14.out).trans d14_0.out
          have f1 := Ext.cell ((((Ext.refl W1).trans e2).trans e3).trans e4) b14_1.out
          have g1 := (Ext.frozen ((((Ext.refl W1).trans e2).trans e3).trans e4) (p := ⟨W0.heap.size, 1, none⟩) l14.out).trans d14_1.out
          have l0_ := s0.size
          go_simp
          refine hK.out _ _ (by repeat (with_reducible first | assumption | exact Ext.refl _ | refine Ext.drew ?_ | refine Ext.drewN ?_ _ | refine Ext.alloc ?_ _ | refine xS ?_ _ | refine xT ?_ (by assumption))) (fun _ => ?_)
          clear hK K
          (try simp only [sxA, sxB, sxC, Act.put, sxD, sxE, sxF])
          refine name_any (fun W5 hW => ?_)
          have s5 : Ext u9 W5 := by rw [hW]; exact (by repeat (with_reducible first | assumption | exact Ext.refl _ | refine Ext.drew ?_ | refine Ext.drewN ?_ _ | refine Ext.alloc ?_ _ | refine xS ?_ _ | refine xT ?_ (by assumption)))
          skip
          have c14_0 := hid (show W5.cell? ⟨W0.heap.size, 0, none⟩ = some (.int .i64 cn) by rw [hW]; simp [go_sem, f0, f1])
          have c14_1 := hid (show W5.cell? ⟨W0.heap.size, 1, none⟩ = some (.int .i64 cd) by rw [hW]; simp [go_sem, f0, f1])
          have z14_0 := hid (show W5.frozen? ⟨W0.heap.size, 0, none⟩ = false by rw [hW]; simp [go_sem, World.frozen?_setCell, g0, g1])
          have z14_1 := hid (show W5.frozen? ⟨W0.heap.size, 1, none⟩ = false by rw [hW]; simp [go_sem, World.frozen?_setCell, g0, g1])
          clear hW l0_ f0 g0 f1 g1
          refine tkA (i := 16) (v := ?_) rfl (fun c a w h => hpan c _ _ _ _ h) (Or.inl ⟨by rfl, ?yl⟩) (by assumption) ?_
          case yl => (intro w hSw; (try dsimp only at hSw); have k_0 := Ext.cell hSw q0; go_simp); with_reducible rfl
          try simp only [sxA, sxB, sxC, Act.put, sxD, sxE, sxF]
          refine tkA (i := 17) (v := ?_) rfl (fun c a w h => hpan c _ _ _ _ h) (Or.inl ⟨by rfl, ?yl⟩) (by assumption) ?_
          case yl => (intro w hSw; (try dsimp only at hSw); have k_0 := Ext.cell hSw q0; go_simp); with_reducible rfl
          try simp only [sxA, sxB, sxC, Act.put, sxD, sxE, sxF]
          refine tkA (i := 18) (v := ?_) rfl (fun c a w h => hpan c _ _ _ _ h) (Or.inl ⟨by rfl, ?yl⟩) (by assumption) ?_
          case yl => (intro w hSw; (try dsimp only at hSw); have k_0 := Ext.cell hSw q0; go_simp); with_reducible rfl
          try simp only [sxA, sxB, sxC, Act.put, sxD, sxE, sxF]
          refine wpAnyH_done (by kernel_rfl) ?_ _
          try simp only [sxA, sxB, sxC, Act.put, sxD, sxE, sxF]
          rw [hQ2.out]
          refine ⟨rfl, ag_29, cg_29, ap_29, cp_29, as_29, cs_29, at_29, ct_29, W0.heap.size, ?u5_0_4, ?u5_1_4, ?u5_2_4, ?u5_3_4, ?u5_4_4, ?u5_5_4, ?u5_6_4, ?u5_7_4, ?u5_8_4, ?u5_9_4, ?u5_10_4, ?u5_11_4, ?u5_12_4, ?eq5_4, s5, ((Ext.refl W5).cell c14_0.out), ((Ext.refl W5).cell c14_1.out), (((Ext.refl W5).frozen (cell_lt c14_0.out)).trans z14_0.out), (((Ext.refl W5).frozen (cell_lt c14_1.out)).trans z14_1.out), s0.size⟩
          case eq5_4 => ((try simp only [sxA, sxB, sxC, Act.put, sxD, sxE, sxF]); first | done | with_reducible rfl | rfl)
         exact AllReadyH.nil
        rw [hQ2.out]
        rintro e a' d10 ⟨rfl, ag_29, cg_29, ap_29, cp_29, as_29, cs_29, at_29, ct_29, bc, v0_, v1_, v2_, v3_, v4_, v6_, v9_, v10_, v11_, v12_, v13_, v16_, v17_, rfl, x, c14_0, c14_1, fz14_0, fz14_1, z14⟩
        clear hQ2 hpan; clear Q2
        subst hA_
        simp only [sxA, sxB, sxC, Act.put, sxD, sxE, sxF]
        clear q0
        replace mt0 := hid (x.cell mt0.out)
        replace f0 := hid (x.cell f0.out)
        replace bv0 := hid (x.cell bv0.out)
        replace bv1 := hid (x.cell bv1.out)
        replace bx0 := hid (x.cell bx0.out)
        replace tX := hid (tX.out.ext x)
        replace lR := hid (lR.out.ext x)
        replace lC := hid (lC.out.ext x)
        replace bw0 := hid (x.cell bw0.out)
        replace bw1 := hid (x.cell bw1.out)
        replace ba0 := hid (x.cell ba0.out)
        replace ba1 := hid (x.cell ba1.out)
        replace X := hid (X.out.trans x)
        clear x
        have bc0 := hid c14_0
        have bc1 := hid c14_1
        clear c14_0 c14_1 fz14_0 fz14_1 z14
        have r_bc0 := bc0.out
        have l_bc0 := cell_lt r_bc0
        dsimp only at l_bc0
        have r_bc1 := bc1.out
        have l_bc1 := cell_lt r_bc1
        dsimp only at l_bc1
        have r_bv0 := bv0.out
        have l_bv0 := cell_lt r_bv0
        dsimp only at l_bv0
        have r_bv1 := bv1.out
        have l_bv1 := cell_lt r_bv1
        dsimp only at l_bv1
        go_wp2_with fail
        refine (hL2.out hn1 _).mono ?_; rintro e u11 ⟨rfl, hE⟩
        have x : Ext d10 u11 := (by repeat (with_reducible first | assumption | exact Ext.refl _ | refine Ext.drew ?_ | refine Ext.drewN ?_ _ | refine Ext.alloc ?_ _ | refine xS ?_ _ | refine xT ?_ (by assumption)))
        clear r_bc0 l_bc0 r_bc1 l_bc1 r_bv0 l_bv0 r_bv1 l_bv1
        replace mt0 := hid (x.cell mt0.out)
        replace f0 := hid (x.cell f0.out)
        replace bv0 := hid (x.cell bv0.out)
        replace bv1 := hid (x.cell bv1.out)
        replace bx0 := hid (x.cell bx0.out)
        replace tX := hid (tX.out.ext x)
        replace lR := hid (lR.out.ext x)
        replace lC := hid (lC.out.ext x)
        replace bw0 := hid (x.cell bw0.out)
        replace bw1 := hid (x.cell bw1.out)
        replace ba0 := hid (x.cell ba0.out)
        replace ba1 := hid (x.cell ba1.out)
        replace bc0 := hid (x.cell bc0.out)
        replace bc1 := hid (x.cell bc1.out)
        replace X := hid (X.out.trans x)
        clear x hE
        go_wp2_with fail
        refine (works_any _).mono ?_; rintro e u12 ⟨rfl, hE⟩
        have x : Ext u11 u12 := (by repeat (with_reducible first | assumption | exact Ext.refl _ | refine Ext.drew ?_ | refine Ext.drewN ?_ _ | refine Ext.alloc ?_ _ | refine xS ?_ _ | refine xT ?_ (by assumption)))
        replace mt0 := hid (x.cell mt0.out)
        replace f0 := hid (x.cell f0.out)
        replace bv0 := hid (x.cell bv0.out)
        replace bv1 := hid (x.cell bv1.out)
        replace bx0 := hid (x.cell bx0.out)
        replace tX := hid (tX.out.ext x)
        replace lR := hid (lR.out.ext x)
        replace lC := hid (lC.out.ext x)
        replace bw0 := hid (x.cell bw0.out)
        replace bw1 := hid (x.cell bw1.out)
        replace ba0 := hid (x.cell ba0.out)
        replace ba1 := hid (x.cell ba1.out)
        replace bc0 := hid (x.cell bc0.out)
        replace bc1 := hid (x.cell bc1.out)
        replace X := hid (X.out.trans x)
        clear x hE
        go_wp2_with fail
        go_ret
        exact ⟨rfl, X.out⟩
       ·have hn1I : ¬ (1 : Int) < (n : Int) := by omega
        replace hn1 := hid hn1
        go_wp2_with fail
        refine (works_any _).mono ?_; rintro e u10 ⟨rfl, hE⟩
        have x : Ext u9 u10 := (by repeat (with_reducible first | assumption | exact Ext.refl _ | refine Ext.drew ?_ | refine Ext.drewN ?_ _ | refine Ext.alloc ?_ _ | refine xS ?_ _ | refine xT ?_ (by assumption)))
        replace mt0 := hid (x.cell mt0.out)
        replace f0 := hid (x.cell f0.out)
        replace bv0 := hid (x.cell bv0.out)
        replace bv1 := hid (x.cell bv1.out)
        replace bx0 := hid (x.cell bx0.out)
        replace tX := hid (tX.out.ext x)
        replace lR := hid (lR.out.ext x)
        replace lC := hid (lC.out.ext x)
        replace bw0 := hid (x.cell bw0.out)
        replace bw1 := hid (x.cell bw1.out)
        replace ba0 := hid (x.cell ba0.out)
        replace ba1 := hid (x.cell ba1.out)
        replace X := hid (X.out.trans x)
        clear x hE
        go_wp2_with fail
        go_ret
        exact ⟨rfl, X.out⟩
      ·have hm1I : ¬ (1 : Int) < (m : Int) := by omega
       replace hm1 := hid hm1
       by_cases hn1 : 1 < n
       ·have hn1I : (1 : Int) < (n : Int) := by omega
        go_wp2_with fail
        have q0 := mt0.out
        refine name_act (fun A_ hA_ => ?_)
        obtain ⟨Q2, hQ2⟩ : ∃ Q2 : Exit → Act → World → Prop, Q2 = fun e a' w' => e = .normal ∧ ∃ (ag_29 : Option Addr) (cg_29 : Nat) (ap_29 : Option Addr) (cp_29 : Nat) (as_29 : Option Addr) (cs_29 : Nat) (at_29 : Option Addr) (ct_29 : Nat) (bc : Nat) (v0_ v1_ v2_ v3_ v4_ v6_ v9_ v10_ v11_ v12_ v13_ v16_ v17_ : Value), a' = ((((((((((((((((((A_.put (some 154) (v0_)).put (some 155) (v1_)).put (some 156) (v2_)).put (some 157) (v3_)).put (some 158) (v4_)).put (some 159) (.slice ag_29 m cg_29)).put (some 160) (v6_)).put (some 161) (.agg #[.slice ap_29 (m) cp_29])).put (some 162) (.tuple #[.agg #[.int .i64 cn, .int .i64 cd], .slice as_29 (m) cs_29, .slice at_29 (n - 1) ct_29, .bool true])).put (some 153) (v9_)).put (some 163) (v10_)).put (some 164) (v11_)).put (some 165) (v12_)).put (some 166) (v13_)).put (some 31) (.pointer (some ⟨bc, 0, none⟩))).put (some 32) (v16_)).put (some 33) (v17_)).put (some 34) (.bool true)) ∧ Ext u7 w' ∧ w'.cell? ⟨bc, 0, none⟩ = some (.int .i64 cn) ∧ w'.cell? ⟨bc, 1, none⟩ = some (.int .i64 cd) ∧ w'.frozen? ⟨bc, 0, none⟩ = false ∧ w'.frozen? ⟨bc, 1, none⟩ = false ∧ u7.heap.size ≤ bc := ⟨_, rfl⟩
        have hpan : ∀ c a a' w w', Q2 (.panic c) a w → Q2 (.panic c) a' w' := by rw [hQ2]; rintro c a a' w w' ⟨h, _⟩; cases h
        replace hQ2 := hid hQ2
        refine wp_mono (Q := Q2) ?_ ?_
        ·subst hA_
         refine wp_region_held_drew (S := fun w' => Ext u7 w') (by kernel_rfl) (by repeat (with_reducible first | assumption | exact Ext.refl _ | refine Ext.drew ?_ | refine Ext.drewN ?_ _ | refine Ext.alloc ?_ _ | refine xS ?_ _ | refine xT ?_ (by assumption))) fun hHeld => ?_
         refine name_any (fun W0 hW => ?_)
         have s0 : Ext u7 W0 := by rw [hW]; exact hHeld
         clear hW hHeld
         refine tkA (i := 0) (v := ?_) rfl (fun c a w h => hpan c _ _ _ _ h) (Or.inl ⟨by rfl, ?yl⟩) (by assumption) ?_
         case yl => (intro w hSw; (try dsimp only at hSw); have k_0 := Ext.cell hSw q0; go_simp); with_reducible rfl
         try simp only [sxA, sxB, sxC, Act.put, sxD, sxE, sxF]
         refine tkA (i := 1) (v := ?_) rfl (fun c a w h => hpan c _ _ _ _ h) (Or.inl ⟨by rfl, ?yl⟩) (by assumption) ?_
         case yl => (intro w hSw; (try dsimp only at hSw); have k_0 := Ext.cell hSw q0; go_simp); with_reducible rfl
         try simp only [sxA, sxB, sxC, Act.put, sxD, sxE, sxF]
         refine tkA (i := 2) (v := ?_) rfl (fun c a w h => hpan c _ _ _ _ h) (Or.inl ⟨by rfl, ?yl⟩) (by assumption) ?_
         case yl => (intro w hSw; (try dsimp only at hSw); have k_0 := Ext.cell hSw q0; go_simp); with_reducible rfl
         try simp only [sxA, sxB, sxC, Act.put, sxD, sxE, sxF]
         refine tkA (i := 3) (v := ?_) rfl (fun c a w h => hpan c _ _ _ _ h) (Or.inl ⟨by rfl, ?yl⟩) (by assumption) ?_
         case yl => (intro w hSw; (try dsimp only at hSw); have k_0 := Ext.cell hSw q0; go_simp); with_reducible rfl
         try simp only [sxA, sxB, sxC, Act.put, sxD, sxE, sxF]
         refine tkA (i := 4) (v := ?_) rfl (fun c a w h => hpan c _ _ _ _ h) (Or.inl ⟨by rfl, ?yl⟩) (by assumption) ?_
         case yl => (intro w hSw; (try dsimp only at hSw); have k_0 := Ext.cell hSw q0; go_simp); with_reducible rfl
         try simp only [sxA, sxB, sxC, Act.put, sxD, sxE, sxF]
         refine tkA (i := 6) (v := ?_) rfl (fun c a w h => hpan c _ _ _ _ h) (Or.inl ⟨by rfl, ?yl⟩) (by assumption) ?_
         case yl => (intro w hSw; (try dsimp only at hSw); have k_0 := Ext.cell hSw q0; go_simp); with_reducible rfl
         try simp only [sxA, sxB, sxC, Act.put, sxD, sxE, sxF]
         refine wpAnyH_ready (rs := [5, 14]) (by kernel_rfl) (by simp) ?_
         refine AllReadyH.cons (o := _) rfl (fun K hK => ?_) ?_
         ·skip
          go_simp
          try rw [sh1, sh3]
          refine (hR1.out _).mono ?_; rintro e W1 ⟨ag_29, cg_29, rfl, _hg29_, e1⟩
          have s1 := s0.trans e1
          have _hg29 := hid _hg29_; clear _hg29_
          refine hK.out _ _ s1 (fun _ => ?_)
          clear hK K
          (try simp only [sxA, sxB, sxC, Act.put, sxD, sxE, sxF])
          refine wpAnyH_ready (rs := [7, 14]) (by kernel_rfl) (by simp) ?_
          refine AllReadyH.cons (o := _) rfl (fun K hK => ?_) ?_
          ·skip
           go_simp
           refine (hP2.out hn1 _ _ _ _ _ (hT'.out.ext (X.out.trans s1)) (_hg29.out.1.ext (Ext.refl W1)) (lC.out.ext s1)).mono ?_; rintro e W2 ⟨ap_29, cp_29, rfl, _hp29_, e2⟩
           have s2 := s1.trans e2
           have _hp29 := hid _hp29_; clear _hp29_
           refine hK.out _ _ s2 (fun _ => ?_)
           clear hK K
           (try simp only [sxA, sxB, sxC, Act.put, sxD, sxE, sxF])
           refine wpAnyH_ready (rs := [8, 14]) (by kernel_rfl) (by simp) ?_
           refine AllReadyH.cons (o := _) rfl (fun K hK => ?_) ?_
           ·skip
            go_simp
            refine (hV2.out hn1 _ _ _ (_hp29.out.ext (Ext.refl W2))).mono ?_; rintro e W3 ⟨as_29, cs_29, at_29, ct_29, rfl, e3⟩
            have s3 := s2.trans e3
            refine hK.out _ _ s3 (fun _ => ?_)
            clear hK K
            (try simp only [sxA, sxB, sxC, Act.put, sxD, sxE, sxF])
            refine tkA (i := 9) (v := ?_) rfl (fun c a w h => hpan c _ _ _ _ h) (Or.inl ⟨by rfl, ?yl⟩) (by assumption) ?_
            case yl => (intro w hSw; (try dsimp only at hSw); have k_0 := Ext.cell hSw q0; go_simp); with_reducible rfl
            try simp only [sxA, sxB, sxC, Act.put, sxD, sxE, sxF]
            refine tkA (i := 10) (v := ?_) rfl (fun c a w h => hpan c _ _ _ _ h) (Or.inl ⟨by rfl, ?yl⟩) (by assumption) ?_
            case yl => (intro w hSw; (try dsimp only at hSw); have k_0 := Ext.cell hSw q0; go_simp); with_reducible rfl
            try simp only [sxA, sxB, sxC, Act.put, sxD, sxE, sxF]
            refine tkA (i := 11) (v := ?_) rfl (fun c a w h => hpan c _ _ _ _ h) (Or.inl ⟨by rfl, ?yl⟩) (by assumption) ?_
            case yl => (intro w hSw; (try dsimp only at hSw); have k_0 := Ext.cell hSw q0; go_simp); with_reducible rfl
            try simp only [sxA, sxB, sxC, Act.put, sxD, sxE, sxF]
            refine tkA (i := 12) (v := ?_) rfl (fun c a w h => hpan c _ _ _ _ h) (Or.inl ⟨by rfl, ?yl⟩) (by assumption) ?_
            case yl => (intro w hSw; (try dsimp only at hSw); have k_0 := Ext.cell hSw q0; go_simp); with_reducible rfl
            try simp only [sxA, sxB, sxC, Act.put, sxD, sxE, sxF]
            refine tkA (i := 13) (v := ?_) rfl (fun c a w h => hpan c _ _ _ _ h) (Or.inl ⟨by rfl, ?yl⟩) (by assumption) ?_
            case yl => (intro w hSw; (try dsimp only at hSw); have k_0 := Ext.cell hSw q0; go_simp); with_reducible rfl
            try simp only [sxA, sxB, sxC, Act.put, sxD, sxE, sxF]
            refine wpAnyH_ready (rs := [14]) (by kernel_rfl) (by simp) ?_
            refine AllReadyH.cons (o := _) rfl (fun K hK => ?_) AllReadyH.nil
            go_simp
            refine hK.out _ _ (Ext.alloc s3 _) (fun _ => ?_)
            clear hK K
            (try simp only [sxA, sxB, sxC, Act.put, sxD, sxE, sxF])
            refine name_any (fun W4 hW => ?_)
            have e4 : Ext W3 W4 := by rw [hW]; exact Ext.alloc (Ext.refl _) _
            have s4 := s3.trans e4
            have b14_0 := hid (show W4.cell? ⟨W3.heap.size, 0, none⟩ = some (.int .i64 0) by rw [hW]; simp [go_sem])
            have b14_1 := hid (show W4.cell? ⟨W3.heap.size, 1, none⟩ = some (.int .i64 0) by rw [hW]; simp [go_sem])
            have d14_0 := hid (show W4.frozen? ⟨W3.heap.size, 0, none⟩ = false by rw [hW]; simp [go_sem])
            have d14_1 := hid (show W4.frozen? ⟨W3.heap.size, 1, none⟩ = false by rw [hW]; simp [go_sem])
            have l14 := hid (show W3.heap.size < W4.heap.size by rw [hW]; simp [go_sem])
            clear hW
            refine wpAnyH_ready (rs := [15]) (by kernel_rfl) (by simp) ?_
            refine AllReadyH.cons (o := _) rfl (fun K hK => ?_) AllReadyH.nil
            have f0 := Ext.cell (Ext.refl W4) b14_0.out
            have g0 := (Ext.frozen (Ext.refl W4) (p := ⟨W3.heap.size, 0, none⟩) l14.out).trans d14_0.out
            have f1 := Ext.cell (Ext.refl W4) b14_1.out
            have g1 := (Ext.frozen (Ext.refl W4) (p := ⟨W3.heap.size, 1, none⟩) l14.out).trans d14_1.out
            have l0_ := s3.size
            go_simp
            refine hK.out _ _ (by repeat (with_reducible first | assumption | exact Ext.refl _ | refine Ext.drew ?_ | refine Ext.drewN ?_ _ | refine Ext.alloc ?_ _ | refine xS ?_ _ | refine xT ?_ (by assumption))) (fun _ => ?_)
            clear hK K
            (try simp only [sxA, sxB, sxC, Act.put, sxD, sxE, sxF])
            refine name_any (fun W5 hW => ?_)
            have s5 : Ext u7 W5 := by rw [hW]; exact (by repeat (with_reducible first | assumption | exact Ext.refl _ | refine Ext.drew ?_ | refine Ext.drewN ?_ _ | refine Ext.alloc ?_ _ | refine xS ?_ _ | refine xT ?_ (by assumption)))
            skip
            have c14_0 := hid (show W5.cell? ⟨W3.heap.size, 0, none⟩ = some (.int .i64 cn) by rw [hW]; simp [go_sem, f0, f1])
            have c14_1 := hid (show W5.cell? ⟨W3.heap.size, 1, none⟩ = some (.int .i64 cd) by rw [hW]; simp [go_sem, f0, f1])
            have z14_0 := hid (show W5.frozen? ⟨W3.heap.size, 0, none⟩ = false by rw [hW]; simp [go_sem, World.frozen?_setCell, g0, g1])
            have z14_1 := hid (show W5.frozen? ⟨W3.heap.size, 1, none⟩ = false by rw [hW]; simp [go_sem, World.frozen?_setCell, g0, g1])
            clear hW l0_ f0 g0 f1 g1
            refine tkA (i := 16) (v := ?_) rfl (fun c a w h => hpan c _ _ _ _ h) (Or.inl ⟨by rfl, ?yl⟩) (by assumption) ?_
            case yl => (intro w hSw; (try dsimp only at hSw); have k_0 := Ext.cell hSw q0; go_simp); with_reducible rfl
            try simp only [sxA, sxB, sxC, Act.put, sxD, sxE, sxF]
            refine tkA (i := 17) (v := ?_) rfl (fun c a w h => hpan c _ _ _ _ h) (Or.inl ⟨by rfl, ?yl⟩) (by assumption) ?_
            case yl => (intro w hSw; (try dsimp only at hSw); have k_0 := Ext.cell hSw q0; go_simp); with_reducible rfl
            try simp only [sxA, sxB, sxC, Act.put, sxD, sxE, sxF]
            refine tkA (i := 18) (v := ?_) rfl (fun c a w h => hpan c _ _ _ _ h) (Or.inl ⟨by rfl, ?yl⟩) (by assumption) ?_
            case yl => (intro w hSw; (try dsimp only at hSw); have k_0 := Ext.cell hSw q0; go_simp); with_reducible rfl
            try simp only [sxA, sxB, sxC, Act.put, sxD, sxE, sxF]
            refine wpAnyH_done (by kernel_rfl) ?_ _
            try simp only [sxA, sxB, sxC, Act.put, sxD, sxE, sxF]
            rw [hQ2.out]
            refine ⟨rfl, ag_29, cg_29, ap_29, cp_29, as_29, cs_29, at_29, ct_29, W3.heap.size, ?u6_0_1, ?u6_1_1, ?u6_2_1, ?u6_3_1, ?u6_4_1, ?u6_5_1, ?u6_6_1, ?u6_7_1, ?u6_8_1, ?u6_9_1, ?u6_10_1, ?u6_11_1, ?u6_12_1, ?eq6_1, s5, ((Ext.refl W5).cell c14_0.out), ((Ext.refl W5).cell c14_1.out), (((Ext.refl W5).frozen (cell_lt c14_0.out)).trans z14_0.out), (((Ext.refl W5).frozen (cell_lt c14_1.out)).trans z14_1.out), s3.size⟩
            case eq6_1 => ((try simp only [sxA, sxB, sxC, Act.put, sxD, sxE, sxF]); first | done | with_reducible rfl | rfl)
           refine AllReadyH.cons (o := _) rfl (fun K hK => ?_) ?_
           ·skip
            go_simp
            refine hK.out _ _ (Ext.alloc s2 _) (fun _ => ?_)
            clear hK K
            (try simp only [sxA, sxB, sxC, Act.put, sxD, sxE, sxF])
            refine name_any (fun W3 hW => ?_)
            have e3 : Ext W2 W3 := by rw [hW]; exact Ext.alloc (Ext.refl _) _
            have s3 := s2.trans e3
            have b14_0 := hid (show W3.cell? ⟨W2.heap.size, 0, none⟩ = some (.int .i64 0) by rw [hW]; simp [go_sem])
            have b14_1 := hid (show W3.cell? ⟨W2.heap.size, 1, none⟩ = some (.int .i64 0) by rw [hW]; simp [go_sem])
            have d14_0 := hid (show W3.frozen? ⟨W2.heap.size, 0, none⟩ = false by rw [hW]; simp [go_sem])
            have d14_1 := hid (show W3.frozen? ⟨W2.heap.size, 1, none⟩ = false by rw [hW]; simp [go_sem])
            have l14 := hid (show W2.heap.size < W3.heap.size by rw [hW]; simp [go_sem])
            clear hW
            refine wpAnyH_ready (rs := [8]) (by kernel_rfl) (by simp) ?_
            refine AllReadyH.cons (o := _) rfl (fun K hK => ?_) AllReadyH.nil
            go_simp
            refine (hV2.out hn1 _ _ _ (_hp29.out.ext ((Ext.refl W2).trans e3))).mono ?_; rintro e W4 ⟨as_29, cs_29, at_29, ct_29, rfl, e4⟩
            have s4 := s3.trans e4
            refine hK.out _ _ s4 (fun _ => ?_)
            clear hK K
            (try simp only [sxA, sxB, sxC, Act.put, sxD, sxE, sxF])
            refine tkA (i := 9) (v := ?_) rfl (fun c a w h => hpan c _ _ _ _ h) (Or.inl ⟨by rfl, ?yl⟩) (by assumption) ?_
            case yl => (intro w hSw; (try dsimp only at hSw); have k_0 := Ext.cell hSw q0; go_simp); with_reducible rfl
            try simp only [sxA, sxB, sxC, Act.put, sxD, sxE, sxF]
            refine tkA (i := 10) (v := ?_) rfl (fun c a w h => hpan c _ _ _ _ h) (Or.inl ⟨by rfl, ?yl⟩) (by assumption) ?_
            case yl => (intro w hSw; (try dsimp only at hSw); have k_0 := Ext.cell hSw q0; go_simp); with_reducible rfl
            try simp only [sxA, sxB, sxC, Act.put, sxD, sxE, sxF]
            refine tkA (i := 11) (v := ?_) rfl (fun c a w h => hpan c _ _ _ _ h) (Or.inl ⟨by rfl, ?yl⟩) (by assumption) ?_
            case yl => (intro w hSw; (try dsimp only at hSw); have k_0 := Ext.cell hSw q0; go_simp); with_reducible rfl
            try simp only [sxA, sxB, sxC, Act.put, sxD, sxE, sxF]
            refine tkA (i := 12) (v := ?_) rfl (fun c a w h => hpan c _ _ _ _ h) (Or.inl ⟨by rfl, ?yl⟩) (by assumption) ?_
            case yl => (intro w hSw; (try dsimp only at hSw); have k_0 := Ext.cell hSw q0; go_simp); with_reducible rfl
            try simp only [sxA, sxB, sxC, Act.put, sxD, sxE, sxF]
            refine tkA (i := 13) (v := ?_) rfl (fun c a w h => hpan c _ _ _ _ h) (Or.inl ⟨by rfl, ?yl⟩) (by assumption) ?_
            case yl => (intro w hSw; (try dsimp only at hSw); have k_0 := Ext.cell hSw q0; go_simp); with_reducible rfl
            try simp only [sxA, sxB, sxC, Act.put, sxD, sxE, sxF]
            refine wpAnyH_ready (rs := [15]) (by kernel_rfl) (by simp) ?_
            refine AllReadyH.cons (o := _) rfl (fun K hK => ?_) AllReadyH.nil
            have f0 := Ext.cell ((Ext.refl W3).trans e4) b14_0.out
            have g0 := (Ext.frozen ((Ext.refl W3).trans e4) (p := ⟨W2.heap.size, 0, none⟩) l14.out).trans d14_0.out
            have f1 := Ext.cell ((Ext.refl W3).trans e4) b14_1.out
            have g1 := (Ext.frozen ((Ext.refl W3).trans e4) (p := ⟨W2.heap.size, 1, none⟩) l14.out).trans d14_1.out
            have l0_ := s2.size
            go_simp
            refine hK.out _ _ (by repeat (with_reducible first | assumption | exact Ext.refl _ | refine Ext.drew ?_ | refine Ext.drewN ?_ _ | refine Ext.alloc ?_ _ | refine xS ?_ _ | refine xT ?_ (by assumption))) (fun _ => ?_)
            clear hK K
            (try simp only [sxA, sxB, sxC, Act.put, sxD, sxE, sxF])
            refine name_any (fun W5 hW => ?_)
            have s5 : Ext u7 W5 := by rw [hW]; exact (by repeat (with_reducible first | assumption | exact Ext.refl _ | refine Ext.drew ?_ | refine Ext.drewN ?_ _ | refine Ext.alloc ?_ _ | refine xS ?_ _ | refine xT ?_ (by assumption)))
            skip
            have c14_0 := hid (show W5.cell? ⟨W2.heap.size, 0, none⟩ = some (.int .i64 cn) by rw [hW]; simp [go_sem, f0, f1])
            have c14_1 := hid (show W5.cell? ⟨W2.heap.size, 1, none⟩ = some (.int .i64 cd) by rw [hW]; simp [go_sem, f0, f1])
            have z14_0 := hid (show W5.frozen? ⟨W2.heap.size, 0, none⟩ = false by rw [hW]; simp [go_sem, World.frozen?_setCell, g0, g1])
            have z14_1 := hid (show W5.frozen? ⟨W2.heap.size, 1, none⟩ = false by rw [hW]; simp [go_sem, World.frozen?_setCell, g0, g1])
            clear hW l0_ f0 g0 f1 g1
            refine tkA (i := 16) (v := ?_) rfl (fun c a w h => hpan c _ _ _ _ h) (Or.inl ⟨by rfl, ?yl⟩) (by assumption) ?_
            case yl => (intro w hSw; (try dsimp only at hSw); have k_0 := Ext.cell hSw q0; go_simp); with_reducible rfl
            try simp only [sxA, sxB, sxC, Act.put, sxD, sxE, sxF]
            refine tkA (i := 17) (v := ?_) rfl (fun c a w h => hpan c _ _ _ _ h) (Or.inl ⟨by rfl, ?yl⟩) (by assumption) ?_
            case yl => (intro w hSw; (try dsimp only at hSw); have k_0 := Ext.cell hSw q0; go_simp); with_reducible rfl
            try simp only [sxA, sxB, sxC, Act.put, sxD, sxE, sxF]
            refine tkA (i := 18) (v := ?_) rfl (fun c a w h => hpan c _ _ _ _ h) (Or.inl ⟨by rfl, ?yl⟩) (by assumption) ?_
            case yl => (intro w hSw; (try dsimp only at hSw); have k_0 := Ext.cell hSw q0; go_simp); with_reducible rfl
            try simp only [sxA, sxB, sxC, Act.put, sxD, sxE, sxF]
            refine wpAnyH_done (by kernel_rfl) ?_ _
            try simp only [sxA, sxB, sxC, Act.put, sxD, sxE, sxF]
            rw [hQ2.out]
            refine ⟨rfl, ag_29, cg_29, ap_29, cp_29, as_29, cs_29, at_29, ct_29, W2.heap.size, ?u6_0_2, ?u6_1_2, ?u6_2_2, ?u6_3_2, ?u6_4_2, ?u6_5_2, ?u6_6_2, ?u6_7_2, ?u6_8_2, ?u6_9_2, ?u6_10_2, ?u6_11_2, ?u6_12_2, ?eq6_2, s5, ((Ext.refl W5).cell c14_0.out), ((Ext.refl W5).cell c14_1.out), (((Ext.refl W5).frozen (cell_lt c14_0.out)).trans z14_0.out), (((Ext.refl W5).frozen (cell_lt c14_1.out)).trans z14_1.out), s2.size⟩
            case eq6_2 => ((try simp only [sxA, sxB, sxC, Act.put, sxD, sxE, sxF]); first | done | with_reducible rfl | rfl)
           exact AllReadyH.nil
          refine AllReadyH.cons (o := _) rfl (fun K hK => ?_) ?_
          ·skip
           go_simp
           refine hK.out _ _ (Ext.alloc s1 _) (fun _ => ?_)
           clear hK K
           (try simp only [sxA, sxB, sxC, Act.put, sxD, sxE, sxF])
           refine name_any (fun W2 hW => ?_)
           have e2 : Ext W1 W2 := by rw [hW]; exact Ext.alloc (Ext.refl _) _
           have s2 := s1.trans e2
           have b14_0 := hid (show W2.cell? ⟨W1.heap.size, 0, none⟩ = some (.int .i64 0) by rw [hW]; simp [go_sem])
           have b14_1 := hid (show W2.cell? ⟨W1.heap.size, 1, none⟩ = some (.int .i64 0) by rw [hW]; simp [go_sem])
           have d14_0 := hid (show W2.frozen? ⟨W1.heap.size, 0, none⟩ = false by rw [hW]; simp [go_sem])
           have d14_1 := hid (show W2.frozen? ⟨W1.heap.size, 1, none⟩ = false by rw [hW]; simp [go_sem])
           have l14 := hid (show W1.heap.size < W2.heap.size by rw [hW]; simp [go_sem])
           clear hW
           refine wpAnyH_ready (rs := [7]) (by kernel_rfl) (by simp) ?_
           refine AllReadyH.cons (o := _) rfl (fun K hK => ?_) AllReadyH.nil
           go_simp
           refine (hP2.out hn1 _ _ _ _ _ (hT'.out.ext (X.out.trans s2)) (_hg29.out.1.ext ((Ext.refl W1).trans e2)) (lC.out.ext s2)).mono ?_; rintro e W3 ⟨ap_29, cp_29, rfl, _hp29_, e3⟩
           have s3 := s2.trans e3
           have _hp29 := hid _hp29_; clear _hp29_
           refine hK.out _ _ s3 (fun _ => ?_)
           clear hK K
           (try simp only [sxA, sxB, sxC, Act.put, sxD, sxE, sxF])
           refine wpAnyH_ready (rs := [8]) (by kernel_rfl) (by simp) ?_
           refine AllReadyH.cons (o := _) rfl (fun K hK => ?_) AllReadyH.nil
           go_simp
           refine (hV2.out hn1 _ _ _ (_hp29.out.ext (Ext.refl W3))).mono ?_; rintro e W4 ⟨as_29, cs_29, at_29, ct_29, rfl, e4⟩
           have s4 := s3.trans e4
           refine hK.out _ _ s4 (fun _ => ?_)
           clear hK K
           (try simp only [sxA, sxB, sxC, Act.put, sxD, sxE, sxF])
           refine tkA (i := 9) (v := ?_) rfl (fun c a w h => hpan c _ _ _ _ h) (Or.inl ⟨by rfl, ?yl⟩) (by assumption) ?_
           case yl => (intro w hSw; (try dsimp only at hSw); have k_0 := Ext.cell hSw q0; go_simp); with_reducible rfl
           try simp only [sxA, sxB, sxC, Act.put, sxD, sxE, sxF]
           refine tkA (i := 10) (v := ?_) rfl (fun c a w h => hpan c _ _ _ _ h) (Or.inl ⟨by rfl, ?yl⟩) (by assumption) ?_
           case yl => (intro w hSw; (try dsimp only at hSw); have k_0 := Ext.cell hSw q0; go_simp); with_reducible rfl
           try simp only [sxA, sxB, sxC, Act.put, sxD, sxE, sxF]
           refine tkA (i := 11) (v := ?_) rfl (fun c a w h => hpan c _ _ _ _ h) (Or.inl ⟨by rfl, ?yl⟩) (by assumption) ?_
           case yl => (intro w hSw; (try dsimp only at hSw); have k_0 := Ext.cell hSw q0; go_simp); with_reducible rfl
           try simp only [sxA, sxB, sxC, Act.put, sxD, sxE, sxF]
           refine tkA (i := 12) (v := ?_) rfl (fun c a w h => hpan c _ _ _ _ h) (Or.inl ⟨by rfl, ?yl⟩) (by assumption) ?_
           case yl => (intro w hSw; (try dsimp only at hSw); have k_0 := Ext.cell hSw q0; go_simp); with_reducible rfl
           try simp only [sxA, sxB, sxC, Act.put, sxD, sxE, sxF]
           refine tkA (i := 13) (v := ?_) rfl (fun c a w h => hpan c _ _ _ _ h) (Or.inl ⟨by rfl, ?yl⟩) (by assumption) ?_
           case yl => (intro w hSw; (try dsimp only at hSw); have k_0 := Ext.cell hSw q0; go_simp); with_reducible rfl
           try simp only [sxA, sxB, sxC, Act.put, sxD, sxE, sxF]
           refine wpAnyH_ready (rs := [15]) (by kernel_rfl) (by simp) ?_
           refine AllReadyH.cons (o := _) rfl (fun K hK => ?_) AllReadyH.nil
           have f0 := Ext.cell (((Ext.refl W2).trans e3).trans e4) b14_0.out
           have g0 := (Ext.frozen (((Ext.refl W2).trans e3).trans e4) (p := ⟨W1.heap.size, 0, none⟩) l14.out).trans d14_0.out
           have f1 := Ext.cell (((Ext.refl W2).trans e3).trans e4) b14_1.out
           have g1 := (Ext.frozen (((Ext.refl W2).trans e3).trans e4) (p := ⟨W1.heap.size, 1, none⟩) l14.out).trans d14_1.out
           have l0_ := s1.size
           go_simp
           refine hK.out _ _ (by repeat (with_reducible first | assumption | exact Ext.refl _ | refine Ext.drew ?_ | refine Ext.drewN ?_ _ | refine Ext.alloc ?_ _ | refine xS ?_ _ | refine xT ?_ (by assumption))) (fun _ => ?_)
           clear hK K
           (try simp only [sxA, sxB, sxC, Act.put, sxD, sxE, sxF])
           refine name_any (fun W5 hW => ?_)
           have s5 : Ext u7 W5 := by rw [hW]; exact (by repeat (with_reducible first | assumption | exact Ext.refl _ | refine Ext.drew ?_ | refine Ext.drewN ?_ _ | refine Ext.alloc ?_ _ | refine xS ?_ _ | refine xT ?_ (by assumption)))
           skip
           have c14_0 := hid (show W5.cell? ⟨W1.heap.size, 0, none⟩ = some (.int .i64 cn) by rw [hW]; simp [go_sem, f0, f1])
           have c14_1 := hid (show W5.cell? ⟨W1.heap.size, 1, none⟩ = some (.int .i64 cd) by rw [hW]; simp [go_sem, f0, f1])
           have z14_0 := hid (show W5.frozen? ⟨W1.heap.size, 0, none⟩ = false by rw [hW]; simp [go_sem, World.frozen?_setCell, g0, g1])
           have z14_1 := hid (show W5.frozen? ⟨W1.heap.size, 1, none⟩ = false by rw [hW]; simp [go_sem, World.frozen?_setCell, g0, g1])
           clear hW l0_ f0 g0 f1 g1
           refine tkA (i := 16) (v := ?_) rfl (fun c a w h => hpan c _ _ _ _ h) (Or.inl ⟨by rfl, ?yl⟩) (by assumption) ?_
           case yl => (intro w hSw; (try dsimp only at hSw); have k_0 := Ext.cell hSw q0; go_simp); with_reducible rfl
           try simp only [sxA, sxB, sxC, Act.put, sxD, sxE, sxF]
           refine tkA (i := 17) (v := ?_) rfl (fun c a w h => hpan c _ _ _ _ h) (Or.inl ⟨by rfl, ?yl⟩) (by assumption) ?_
           case yl => (intro w hSw; (try dsimp only at hSw); have k_0 := Ext.cell hSw q0; go_simp); with_reducible rfl
           try simp only [sxA, sxB, sxC, Act.put, sxD, sxE, sxF]
           refine tkA (i := 18) (v := ?_) rfl (fun c a w h => hpan c _ _ _ _ h) (Or.inl ⟨by rfl, ?yl⟩) (by assumption) ?_
           case yl => (intro w hSw; (try dsimp only at hSw); have k_0 := Ext.cell hSw q0; go_simp); with_reducible rfl
           try simp only [sxA, sxB, sxC, Act.put, sxD, sxE, sxF]
           refine wpAnyH_done (by kernel_rfl) ?_ _
           try simp only [sxA, sxB, sxC, Act.put, sxD, sxE, sxF]
           rw [hQ2.out]
           refine ⟨rfl, ag_29, cg_29, ap_29, cp_29, as_29, cs_29, at_29, ct_29, W1.heap.size, ?u6_0_3, ?u6_1_3, ?u6_2_3, ?u6_3_3, ?u6_4_3, ?u6_5_3, ?u6_6_3, ?u6_7_3, ?u6_8_3, ?u6_9_3, ?u6_10_3, ?u6_11_3, ?u6_12_3, ?eq6_3, s5, ((Ext.refl W5).cell c14_0.out), ((Ext.refl W5).cell c14_1.out), (((Ext.refl W5).frozen (cell_lt c14_0.out)).trans z14_0.out), (((Ext.refl W5).frozen (cell_lt c14_1.out)).trans z14_1.out), s1.size⟩
           case eq6_3 => ((try simp only [sxA, sxB, sxC, Act.put, sxD, sxE, sxF]); first | done | with_reducible rfl | rfl)
          exact AllReadyH.nil
         refine AllReadyH.cons (o := _) rfl (fun K hK => ?_) ?_
         ·skip
          go_simp
          refine hK.out _ _ (Ext.alloc s0 _) (fun _ => ?_)
          clear hK K
          (try simp only [sxA, sxB, sxC, Act.put, sxD, sxE, sxF])
          refine name_any (fun W1 hW => ?_)
          have e1 : Ext W0 W1 := by rw [hW]; exact Ext.alloc (Ext.refl _) _
          have s1 := s0.trans e1
          have b14_0 := hid (show W1.cell? ⟨W0.heap.size, 0, none⟩ = some (.int .i64 0) by rw [hW]; simp [go_sem])
          have b14_1 := hid (show W1.cell? ⟨W0.heap.size, 1, none⟩ = some (.int .i64 0) by rw [hW]; simp [go_sem])
          have d14_0 := hid (show W1.frozen? ⟨W0.heap.size, 0, none⟩ = false by rw [hW]; simp [go_sem])
          have d14_1 := hid (show W1.frozen? ⟨W0.heap.size, 1, none⟩ = false by rw [hW]; simp [go_sem])
          have l14 := hid (show W0.heap.size < W1.heap.size by rw [hW]; simp [go_sem])
          clear hW
          refine wpAnyH_ready (rs := [5]) (by kernel_rfl) (by simp) ?_
          refine AllReadyH.cons (o := _) rfl (fun K hK => ?_) AllReadyH.nil
          go_simp
          try rw [sh1, sh3]
          refine (hR1.out _).mono ?_; rintro e W2 ⟨ag_29, cg_29, rfl, _hg29_, e2⟩
          have s2 := s1.trans e2
          have _hg29 := hid _hg29_; clear _hg29_
          refine hK.out _ _ s2 (fun _ => ?_)
          clear hK K
          (try simp only [sxA, sxB, sxC, Act.put, sxD, sxE, sxF])
          refine wpAnyH_ready (rs := [7]) (by kernel_rfl) (by simp) ?_
          refine AllReadyH.cons (o := _) rfl (fun K hK => ?_) AllReadyH.nil
          go_simp
          refine (hP2.out hn1 _ _ _ _ _ (hT'.out.ext (X.out.trans s2)) (_hg29.out.1.ext (Ext.refl W2)) (lC.out.ext s2)).mono ?_; rintro e W3 ⟨ap_29, cp_29, rfl, _hp29_, e3⟩
          have s3 := s2.trans e3
          have _hp29 := hid _hp29_; clear _hp29_
          refine hK.out _ _ s3 (fun _ => ?_)
          clear hK K
          (try simp only [sxA, sxB, sxC, Act.put, sxD, sxE, sxF])
          refine wpAnyH_ready (rs := [8]) (by kernel_rfl) (by simp) ?_
          refine AllReadyH.cons (o := _) rfl (fun K hK => ?_) AllReadyH.nil
          go_simp
          refine (hV2.out hn1 _ _ _ (_hp29.out.ext (Ext.refl W3))).mono ?_; rintro e W4 ⟨as_29, cs_29, at_29, ct_29, rfl, e4⟩
          have s4 := s3.trans e4
          refine hK.out _ _ s4 (fun _ => ?_)
          clear hK K
          (try simp only [sxA, sxB, sxC, Act.put, sxD, sxE, sxF])
          refine tkA (i := 9) (v := ?_) rfl (fun c a w h => hpan c _ _ _ _ h) (Or.inl ⟨by rfl, ?yl⟩) (by assumption) ?_
          case yl => (intro w hSw; (try dsimp only at hSw); have k_0 := Ext.cell hSw q0; go_simp); with_reducible rfl
          try simp only [sxA, sxB, sxC, Act.put, sxD, sxE, sxF]
          refine tkA (i := 10) (v := ?_) rfl (fun c a w h => hpan c _ _ _ _ h) (Or.inl ⟨by rfl, ?yl⟩) (by assumption) ?_
          case yl => (intro w hSw; (try dsimp only at hSw); have k_0 := Ext.cell hSw q0; go_simp); with_reducible rfl
          try simp only [sxA, sxB, sxC, Act.put, sxD, sxE, sxF]
          refine tkA (i := 11) (v := ?_) rfl (fun c a w h => hpan c _ _ _ _ h) (Or.inl ⟨by rfl, ?yl⟩) (by assumption) ?_
          case yl => (intro w hSw; (try dsimp only at hSw); have k_0 := Ext.cell hSw q0; go_simp); with_reducible rfl
          try simp only [sxA, sxB, sxC, Act.put, sxD, sxE, sxF]
          refine tkA (i := 12) (v := ?_) rfl (fun c a w h => hpan c _ _ _ _ h) (Or.inl ⟨by rfl, ?yl⟩) (by assumption) ?_
          case yl => (intro w hSw; (try dsimp only at hSw); have k_0 := Ext.cell hSw q0; go_simp); with_reducible rfl
          try simp only [sxA, sxB, sxC, Act.put, sxD, sxE, sxF]
          refine tkA (i := 13) (v := ?_) rfl (fun c a w h => hpan c _ _ _ _ h) (Or.inl ⟨by rfl, ?yl⟩) (by assumption) ?_
          case yl => (intro w hSw; (try dsimp only at hSw); have k_0 := Ext.cell hSw q0; go_simp); with_reducible rfl
          try simp only [sxA, sxB, sxC, Act.put, sxD, sxE, sxF]
          refine wpAnyH_ready (rs := [15]) (by kernel_rfl) (by simp) ?_
          refine AllReadyH.cons (o := _) rfl (fun K hK => ?_) AllReadyH.nil
          have f0 := Ext.cell ((((Ext.refl W1).trans e2).trans e3).trans e4) b14_0.out
          have g0 := (Ext.frozen ((((Ext.refl W1).trans e2).trans e3).trans e4) (p := ⟨W0.heap.size, 0, none⟩) l14.out).trans d14_0.out
          have f1 := Ext.cell ((((Ext.refl W1).trans e2).trans e3).trans e4) b14_1.out
          have g1 := (Ext.frozen ((((Ext.refl W1).trans e2).trans e3).trans e4) (p := ⟨W0.heap.size, 1, none⟩) l14.out).trans d14_1.out
          have l0_ := s0.size
          go_simp
          refine hK.out _ _ (by repeat (with_reducible first | assumption | exact Ext.refl _ | refine Ext.drew ?_ | refine Ext.drewN ?_ _ | refine Ext.alloc ?_ _ | refine xS ?_ _ | refine xT ?_ (by assumption))) (fun _ => ?_)
          clear hK K
          (try simp only [sxA, sxB, sxC, Act.put, sxD, sxE, sxF])
          refine name_any (fun W5 hW => ?_)
          have s5 : Ext u7 W5 := by rw [hW]; exact (by repeat (with_reducible first | assumption | exact Ext.refl _ | refine Ext.drew ?_ | refine Ext.drewN ?_ _ | refine Ext.alloc ?_ _ | refine xS ?_ _ | refine xT ?_ (by assumption)))
          skip
          have c14_0 := hid (show W5.cell? ⟨W0.heap.size, 0, none⟩ = some (.int .i64 cn) by rw [hW]; simp [go_sem, f0, f1])
          have c14_1 := hid (show W5.cell? ⟨W0.heap.size, 1, none⟩ = some (.int .i64 cd) by rw [hW]; simp [go_sem, f0, f1])
          have z14_0 := hid (show W5.frozen? ⟨W0.heap.size, 0, none⟩ = false by rw [hW]; simp [go_sem, World.frozen?_setCell, g0, g1])
          have z14_1 := hid (show W5.frozen? ⟨W0.heap.size, 1, none⟩ = false by rw [hW]; simp [go_sem, World.frozen?_setCell, g0, g1])
          clear hW l0_ f0 g0 f1 g1
          refine tkA (i := 16) (v := ?_) rfl (fun c a w h => hpan c _ _ _ _ h) (Or.inl ⟨by rfl, ?yl⟩) (by assumption) ?_
          case yl => (intro w hSw; (try dsimp only at hSw); have k_0 := Ext.cell hSw q0; go_simp); with_reducible rfl
          try simp only [sxA, sxB, sxC, Act.put, sxD, sxE, sxF]
          refine tkA (i := 17) (v := ?_) rfl (fun c a w h => hpan c _ _ _ _ h) (Or.inl ⟨by rfl, ?yl⟩) (by assumption) ?_
          case yl => (intro w hSw; (try dsimp only at hSw); have k_0 := Ext.cell hSw q0; go_simp); with_reducible rfl
          try simp only [sxA, sxB, sxC, Act.put, sxD, sxE, sxF]
          refine tkA (i := 18) (v := ?_) rfl (fun c a w h => hpan c _ _ _ _ h) (Or.inl ⟨by rfl, ?yl⟩) (by assumption) ?_
          case yl => (intro w hSw; (try dsimp only at hSw); have k_0 := Ext.cell hSw q0; go_simp); with_reducible rfl
          try simp only [sxA, sxB, sxC, Act.put, sxD, sxE, sxF]
          refine wpAnyH_done (by kernel_rfl) ?_ _
          try simp only [sxA, sxB, sxC, Act.put, sxD, sxE, sxF]
          rw [hQ2.out]
          refine ⟨rfl, ag_29, cg_29, ap_29, cp_29, as_29, cs_29, at_29, ct_29, W0.heap.size, ?u6_0_4, ?u6_1_4, ?u6_2_4, ?u6_3_4, ?u6_4_4, ?u6_5_4, ?u6_6_4, ?u6_7_4, ?u6_8_4, ?u6_9_4, ?u6_10_4, ?u6_11_4, ?u6_12_4, ?eq6_4, s5, ((Ext.refl W5).cell c14_0.out), ((Ext.refl W5).cell c14_1.out), (((Ext.refl W5).frozen (cell_lt c14_0.out)).trans z14_0.out), (((Ext.refl W5).frozen (cell_lt c14_1.out)).trans z14_1.out), s0.size⟩
          case eq6_4 => ((try simp only [sxA, sxB, sxC, Act.put, sxD, sxE, sxF]); first | done | with_reducible rfl | rfl)
         exact AllReadyH.nil
        rw [hQ2.out]
        rintro e a' d8 ⟨rfl, ag_29, cg_29, ap_29, cp_29, as_29, cs_29, at_29, ct_29, bc, v0_, v1_, v2_, v3_, v4_, v6_, v9_, v10_, v11_, v12_, v13_, v16_, v17_, rfl, x, c14_0, c14_1, fz14_0, fz14_1, z14⟩
        clear hQ2 hpan; clear Q2
        subst hA_
        simp only [sxA, sxB, sxC, Act.put, sxD, sxE, sxF]
        clear q0
        replace mt0 := hid (x.cell mt0.out)
        replace f0 := hid (x.cell f0.out)
        replace bv0 := hid (x.cell bv0.out)
        replace bv1 := hid (x.cell bv1.out)
        replace bx0 := hid (x.cell bx0.out)
        replace tX := hid (tX.out.ext x)
        replace lR := hid (lR.out.ext x)
        replace lC := hid (lC.out.ext x)
        replace bw0 := hid (x.cell bw0.out)
        replace bw1 := hid (x.cell bw1.out)
        replace X := hid (X.out.trans x)
        clear x
        have bc0 := hid c14_0
        have bc1 := hid c14_1
        clear c14_0 c14_1 fz14_0 fz14_1 z14
        have r_bc0 := bc0.out
        have l_bc0 := cell_lt r_bc0
        dsimp only at l_bc0
        have r_bc1 := bc1.out
        have l_bc1 := cell_lt r_bc1
        dsimp only at l_bc1
        have r_bv0 := bv0.out
        have l_bv0 := cell_lt r_bv0
        dsimp only at l_bv0
        have r_bv1 := bv1.out
        have l_bv1 := cell_lt r_bv1
        dsimp only at l_bv1
        go_wp2_with fail
        refine (hL2.out hn1 _).mono ?_; rintro e u9 ⟨rfl, hE⟩
        have x : Ext d8 u9 := (by repeat (with_reducible first | assumption | exact Ext.refl _ | refine Ext.drew ?_ | refine Ext.drewN ?_ _ | refine Ext.alloc ?_ _ | refine xS ?_ _ | refine xT ?_ (by assumption)))
        clear r_bc0 l_bc0 r_bc1 l_bc1 r_bv0 l_bv0 r_bv1 l_bv1
        replace mt0 := hid (x.cell mt0.out)
        replace f0 := hid (x.cell f0.out)
        replace bv0 := hid (x.cell bv0.out)
        replace bv1 := hid (x.cell bv1.out)
        replace bx0 := hid (x.cell bx0.out)
        replace tX := hid (tX.out.ext x)
        replace lR := hid (lR.out.ext x)
        replace lC := hid (lC.out.ext x)
        replace bw0 := hid (x.cell bw0.out)
        replace bw1 := hid (x.cell bw1.out)
        replace bc0 := hid (x.cell bc0.out)
        replace bc1 := hid (x.cell bc1.out)
        replace X := hid (X.out.trans x)
        clear x hE
        go_wp2_with fail
        refine (works_any _).mono ?_; rintro e u10 ⟨rfl, hE⟩
        have x : Ext u9 u10 := (by repeat (with_reducible first | assumption | exact Ext.refl _ | refine Ext.drew ?_ | refine Ext.drewN ?_ _ | refine Ext.alloc ?_ _ | refine xS ?_ _ | refine xT ?_ (by assumption)))
        replace mt0 := hid (x.cell mt0.out)
        replace f0 := hid (x.cell f0.out)
        replace bv0 := hid (x.cell bv0.out)
        replace bv1 := hid (x.cell bv1.out)
        replace bx0 := hid (x.cell bx0.out)
        replace tX := hid (tX.out.ext x)
        replace lR := hid (lR.out.ext x)
        replace lC := hid (lC.out.ext x)
        replace bw0 := hid (x.cell bw0.out)
        replace bw1 := hid (x.cell bw1.out)
        replace bc0 := hid (x.cell bc0.out)
        replace bc1 := hid (x.cell bc1.out)
        replace X := hid (X.out.trans x)
        clear x hE
        go_wp2_with fail
        go_ret
        exact ⟨rfl, X.out⟩
       ·have hn1I : ¬ (1 : Int) < (n : Int) := by omega
        replace hn1 := hid hn1
        go_wp2_with fail
        refine (works_any _).mono ?_; rintro e u8 ⟨rfl, hE⟩
        have x : Ext u7 u8 := (by repeat (with_reducible first | assumption | exact Ext.refl _ | refine Ext.drew ?_ | refine Ext.drewN ?_ _ | refine Ext.alloc ?_ _ | refine xS ?_ _ | refine xT ?_ (by assumption)))
        replace mt0 := hid (x.cell mt0.out)
        replace f0 := hid (x.cell f0.out)
        replace bv0 := hid (x.cell bv0.out)
        replace bv1 := hid (x.cell bv1.out)
        replace bx0 := hid (x.cell bx0.out)
        replace tX := hid (tX.out.ext x)
        replace lR := hid (lR.out.ext x)
        replace lC := hid (lC.out.ext x)
        replace bw0 := hid (x.cell bw0.out)
        replace bw1 := hid (x.cell bw1.out)
        replace X := hid (X.out.trans x)
        clear x hE
        go_wp2_with fail
        go_ret
        exact ⟨rfl, X.out⟩

end Go.Proofs.Ytommhgcgaclflaa
