/- The law SearchPure, walked. (Printed by wip/laws.) -/
import Derived.Test.YtommhgcgaclflaaZB7
import Derived.Test.YtommhgcgaclflaaZPure33
import Derived.Test.YtommhgcgaclflaaMkK
import Derived.Test.YtommhgcgaclflaaZB15
namespace Go.Proofs.Ytommhgcgaclflaa
set_option linter.unusedVariables false
set_option linter.unusedSimpArgs false
set_option linter.unusedSectionVars false
set_option linter.unnecessarySimpa false
open Go Go.RowKit Game
set_option maxRecDepth 100000

theorem mod_nat {x : Int} (h : 0 ≤ x) {m : Nat} (h0 : 0 < m) : ∃ j : Nat, x.tmod (m : Int) = (j : Int) ∧ j < m := by
 have h1 := Int.emod_nonneg x (b := (m : Int)) (by omega)
 have h2 := Int.emod_lt_of_pos x (b := (m : Int)) (by omega)
 refine ⟨(x % (m : Int)).toNat, ?_, by omega⟩
 rw [Int.tmod_eq_emod_of_nonneg h]; omega
theorem uL_rep (n i : Nat) : (List.replicate n (0 : Int)).set i 1 = uL n i := by rw [mkL_rep, mkL_set]; rfl
theorem uL_i64 (n i : Nat) (j : Nat) : I64 (nth (uL n i) j) := by
 rcases Nat.lt_or_ge j n with g | g
 ·rw [uL_nth g]; split <;> exact ⟨by omega, by omega⟩
 ·rw [uL_out g]; exact ⟨by omega, by omega⟩
theorem two_ones {w : World} {B bx ky m n i k : Nat} {e : TypeId} (h1 : OwnI w B e (.slice (some ⟨bx, 0, none⟩) m m) (List.replicate m 0)) (h2 : OwnI w B e (.slice (some ⟨ky, 0, none⟩) n n) (List.replicate n 0)) (hne : bx ≠ ky) :
 Ints ((w.setCell ⟨bx, i, none⟩ (.int .i64 1)).setCell ⟨ky, k, none⟩ (.int .i64 1)) (some ⟨bx, 0, none⟩) (uL m i) ∧ Ints ((w.setCell ⟨bx, i, none⟩ (.int .i64 1)).setCell ⟨ky, k, none⟩ (.int .i64 1)) (some ⟨ky, 0, none⟩) (uL n k) := by
 have a1 := OwnI.set (l := List.replicate m 0) (by rw [List.length_replicate]; exact h1) (i := i) 1
 have a2 := OwnI.put h2 (p := ⟨bx, i, none⟩) hne (.int .i64 1)
 have a3 := OwnI.set (l := List.replicate n 0) (by rw [List.length_replicate]; exact a2) (i := k) 1
 rw [uL_rep, uL_len] at a1 a3
 refine ⟨?_, a3.ints⟩
 exact Ints.put a1.ints (p := ⟨ky, k, none⟩) (Ne.symm hne) _

set_option maxHeartbeats 40000000 in
theorem searchPure_any (t : List (List Int)) (q : FitT t) (a : Option Addr) (cap : Nat) (rv cv : Int) (w : World) (hT : Tab w a t) (hl : t.length ≤ 9223372036854775807) (hw : ∀ i, (row t i).length ≤ 9223372036854775807) (hrv : 0 ≤ rv ∧ rv ≤ 255) (hcv : 0 ≤ cv ∧ cv ≤ 255) :
 Calls Try.prog 8 #[(.agg #[.slice a t.length cap]), .int .u8 rv, .int .u8 cv] w fun e w' => e = .returned (.bool true) ∧ Ext w w' := by
 have hT' := hid hT
 have hfi := hid (fun W hW => fineL_any t q a cap W hW hl hw)
 by_cases g : chkT t = 0
 case neg =>
  rw [decide_eq_false g] at hfi
  replace g := hid g
  clear hT hw hl
  go_enter Try.func8, Try.ntmps8
  go_wp2_with fail
  refine (hfi.out _ (hT'.out.ext (by repeat (with_reducible first | assumption | exact Ext.refl _ | refine Ext.drew ?_ | refine Ext.drewN ?_ _ | refine Ext.alloc ?_ _ | refine xS ?_ _ | refine xT ?_ (by assumption))))).mono ?_; rintro e w1 ⟨rfl, hE⟩
  go_wp2_with fail
  refine (works_any _).mono ?_; rintro e w2 ⟨rfl, hE2⟩
  go_wp2_with fail
  go_ret
  exact ⟨rfl, (by repeat (with_reducible first | assumption | exact Ext.refl _ | refine Ext.drew ?_ | refine Ext.drewN ?_ _ | refine Ext.alloc ?_ _ | refine xS ?_ _ | refine xT ?_ (by assumption)))⟩
 case pos =>
  rw [decide_eq_true g] at hfi
  have v := chkT_ok.1 g
  have m1 := v.m1; have m4 := v.m4; have n1 := v.n1; have n4 := v.n4
  have hl1 : t.length ≤ 1000 := by omega
  have hw1 := hw_of v
  obtain ⟨b, off, B, O, CP, rfl, hb, hcc⟩ := hT.full (by omega) v.eq (by omega)
  obtain ⟨j, hj, hjm⟩ := mod_nat hrv.1 (m := t.length) (by omega)
  obtain ⟨l, hl9, hln⟩ := mod_nat hcv.1 (m := wid t) (by omega)
  have kr := Go.IntWalk.i64_in rv (by omega)
  have kc := Go.IntWalk.i64_in cv (by omega)
  have kj := Go.IntWalk.i64_in (j : Int) (by omega)
  have kl := Go.IntWalk.i64_in (l : Int) (by omega)
  have h1 := hid (fun W hW => valueL_any t q g (some ⟨b, off, none⟩) cap W hW)
  have r00 := (hcc 0 (by omega)).1
  rw [Nat.add_zero] at r00
  obtain ⟨vn, hvn⟩ : ∃ x, (val t).1 = x := ⟨_, rfl⟩
  obtain ⟨vd, hvd⟩ : ∃ x, (val t).2 = x := ⟨_, rfl⟩
  rw [hvn, hvd] at h1
  have hpu : (∃ a b : Nat, a < t.length ∧ b < wid t ∧ PureB t a b ∧ (∀ c d, c < a → d < wid t → ¬ PureB t c d) ∧ ∀ d, d < b → ¬ PureB t a d) ∨ (∀ c d, c < t.length → d < wid t → ¬ PureB t c d) := by
   by_cases h : ∃ a b : Nat, a < t.length ∧ b < wid t ∧ PureB t a b ∧ (∀ c d, c < a → d < wid t → ¬ PureB t c d) ∧ ∀ d, d < b → ¬ PureB t a d
   ·exact .inl h
   ·right
    intro c d hc hd hp
    obtain ⟨c0, hc0, ⟨d1, hd1, hp1⟩, hmin⟩ := least_ex (fun c => ∃ d, d < wid t ∧ PureB t c d) t.length ⟨c, hc, d, hd, hp⟩
    obtain ⟨d0, hd0, hp0, hmin2⟩ := least_ex (fun d => PureB t c0 d) (wid t) ⟨d1, hd1, hp1⟩
    exact h ⟨c0, d0, hc0, hd0, hp0, fun c d hc hd hp => hmin c hc ⟨d, hd, hp⟩, fun d hd => hmin2 d hd⟩
  rcases hpu with ⟨i, k, hi, hk, hpb, hf1, hf2⟩ | hno
  case inl =>
   have hpp := pure_proof g hi hk
   obtain ⟨eV, ePN, ePD⟩ := hpp.2.2 hpb
   have ePE := hpp.1.2 hpb
   have h2 := hid (fun W hW => (show Calls Try.prog 31 #[(.agg #[.slice (some ⟨b, off, none⟩) t.length cap])] W fun e w' => e = .returned (.tuple #[.int .i64 (i : Int), .int .i64 (k : Int), .int .i64 0]) ∧ Ext W w' from (pure_any t q _ cap W hW hl1 hw1).mono (by
    rintro e w' ⟨i', k', er, rfl, hp, hE⟩
    obtain ⟨rfl, rfl, rfl⟩ := hp.uniq (show PureR t (i : Int) (k : Int) 0 from .inr (.inl ⟨g, rfl, i, k, rfl, rfl, hi, hk, hpb, hf1, hf2⟩))
    exact ⟨rfl, hE⟩)))
   have h4 := hid (fun W hW => (show Calls Try.prog 46 #[(.agg #[.slice (some ⟨b, off, none⟩) t.length cap]), .int .i64 (i : Int), .int .i64 (k : Int)] W fun e w' => e = .returned (.bool true) ∧ Ext W w' from (isPure_any t v _ cap i k hi hk W hW).mono (by
    rintro e w' ⟨bb, rfl, hb, hE⟩
    rw [hb.2 hpb]
    exact ⟨rfl, hE⟩)))
   have h5 := hid (fun W hW => isPure_any t v (some ⟨b, off, none⟩) cap j l hjm hln W hW)
   have hsame : PureB t j l → ent t j l = ent t i k := fun h => by
    have h1 := (pure_proof g hjm hln).2.2 h
    exact congrArg Prod.fst (h1.1.symm.trans eV)
   have hord : PureB t j l → i < j ∨ (j = i ∧ k ≤ l) := fun h => by
    rcases Nat.lt_trichotomy j i with h1 | h1 | h1
    ·exact absurd h (hf1 j l h1 hln)
    ·rcases Nat.lt_or_ge l k with h2 | h2
     ·rw [h1] at h; exact absurd h (hf2 l h2)
     ·exact .inr ⟨h1, h2⟩
    ·exact .inl h1
   have ri := (hcc i hi).1
   have eik := (hcc i hi).2.2 k hk
   have rj := (hcc j hjm).1
   have ejl := (hcc j hjm).2.2 l hln
   have ki := Go.IntWalk.i64_in (i : Int) (by omega)
   have e1 := uL_len t.length i
   have e2 := uL_len (wid t) k
   have h3 := hid (fun aa cc bb cb W hW hK hL => checkProof_any t q (some ⟨b, off, none⟩) cap (uL t.length i) (uL_i64 _ _) (by omega) aa cc (uL (wid t) k) (uL_i64 _ _) (by omega) bb cb W hW hl1 hw1 hK hL)
   rw [e1, e2, ePE] at h3
   rw [ePN, ePD, hvn, hvd] at h3
   obtain ⟨en, hen⟩ : ∃ x, ent t i k = x := ⟨_, rfl⟩
   rw [hen] at eV eik hsame
   have ev1 : vn = en := hvn.symm.trans (congrArg Prod.fst eV)
   have ev2 : vd = 1 := hvd.symm.trans (congrArg Prod.snd eV)
   have eS : ∀ w, (Op.equalIn 10000 30 (.agg #[.int .i64 vn, .int .i64 vd]) (.agg #[.int .i64 vn, .int .i64 vd])).run Try.prog w = .ok true w := fun w => by rw [run_eqRatio, decide_eq_true ⟨rfl, rfl⟩]
   have eB : ∀ w, (Op.equalIn 10000 30 (.agg #[.int .i64 vn, .int .i64 vd]) (.agg #[.int .i64 en, .int .i64 1])).run Try.prog w = .ok true w := fun w => by rw [run_eqRatio, decide_eq_true ⟨ev1, ev2⟩]
   clear hpp eV ePN ePD ePE hen ev1 ev2 hpb
   obtain ⟨m, hm⟩ : ∃ x, t.length = x := ⟨_, rfl⟩
   obtain ⟨n, hn⟩ : ∃ x, wid t = x := ⟨_, rfl⟩
   rw [hm] at h1 h2 h3 hfi m1 m4 hj hjm h4 h5 hi ⊢
   rw [hn] at h1 h3 r00 n1 n4 hl9 hln ri rj hk
   have hm0 : (0 : Int) < (m : Int) := by omega
   have hm00 : 0 < m := by omega
   have hn0 : (0 : Int) < (n : Int) := by omega
   have hn00 : 0 < n := by omega
   have hmz : ((m : Int) == 0) = false := by simp; omega
   have hnz : ((n : Int) == 0) = false := by simp; omega
   have hm9 : ¬ m = 0 := by omega
   have hn9 : ¬ n = 0 := by omega
   have R0 := hid r00
   have RI := hid ri
   have RJ := hid rj
   have EI := hid eik
   have EJ := hid ejl
   replace hsame := hid hsame
   replace hord := hid hord
   have hiI : (i : Int) < (m : Int) := by omega
   have hkI : (k : Int) < (n : Int) := by omega
   have hjI : (j : Int) < (m : Int) := by omega
   have hlI : (l : Int) < (n : Int) := by omega
   clear hT hw hl hl1 hw1 e1 e2 hvn hvd hm hn v g hcc r00 hb hrv hcv hf1 hf2 ri rj eik ejl
   go_enter Try.func8, Try.ntmps8
   go_wp2_with fail
   refine (hfi.out _ (hT'.out.ext (by repeat (with_reducible first | assumption | exact Ext.refl _ | refine Ext.drew ?_ | refine Ext.drewN ?_ _ | refine Ext.alloc ?_ _ | refine xS ?_ _ | refine xT ?_ (by assumption))))).mono ?_; rintro e w1 ⟨rfl, hE⟩
   have mt0 := hid (hE.cell (p := ⟨w.heap.size, 0, none⟩) (v := .slice (some ⟨b, off, none⟩) m cap) (by simp [go_sem]))
   have X := hid (show Ext w w1 from (by repeat (with_reducible first | assumption | exact Ext.refl _ | refine Ext.drew ?_ | refine Ext.drewN ?_ _ | refine Ext.alloc ?_ _ | refine xS ?_ _ | refine xT ?_ (by assumption))))
   clear hE
   generalize w.heap.size = Bt at *
   have f0 := hid (X.out.cell R0.out)
   have f1 := hid (X.out.cell RI.out)
   have f2 := hid (X.out.cell EI.out)
   have f3 := hid (X.out.cell RJ.out)
   have f4 := hid (X.out.cell EJ.out)
   clear RI EI RJ EJ
   have r_mt0 := mt0.out
   have l_mt0 := cell_lt r_mt0
   dsimp only at l_mt0
   go_wp2_with fail
   have q0 := mt0.out
   have q1 := f0.out
   refine name_act (fun A_ hA_ => ?_)
   obtain ⟨Q2, hQ2⟩ : ∃ Q2 : Exit → Act → World → Prop, Q2 = fun e a' w' => e = .normal ∧ ∃ (v0_ v1_ v2_ v3_ v4_ v5_ v6_ v7_ : Value), a' = ((((((((((A_.put (some 26) (v0_)).put (some 27) (v1_)).put (some 28) (v2_)).put (some 29) (v3_)).put (some 30) (v4_)).put (some 31) (v5_)).put (some 32) (v6_)).put (some 33) (v7_)).put (some 7) (.int .i64 m)).put (some 8) (.int .i64 n)) ∧ Ext w1 w' := ⟨_, rfl⟩
   have hpan : ∀ c a a' w w', Q2 (.panic c) a w → Q2 (.panic c) a' w' := by rw [hQ2]; rintro c a a' w w' ⟨h, _⟩; cases h
   replace hQ2 := hid hQ2
   refine wp_mono (Q := Q2) ?_ ?_
   ·subst hA_
    refine wp_region_held_drew (S := fun w' => Ext w1 w') (by kernel_rfl) (by repeat (with_reducible first | assumption | exact Ext.refl _ | refine Ext.drew ?_ | refine Ext.drewN ?_ _ | refine Ext.alloc ?_ _ | refine xS ?_ _ | refine xT ?_ (by assumption))) fun hHeld => ?_
    refine name_any (fun W0 hW => ?_)
    have s0 : Ext w1 W0 := by rw [hW]; exact hHeld
    clear hW hHeld
    refine tkA (i := 0) (v := ?_) rfl (fun c a w h => hpan c _ _ _ _ h) (Or.inl ⟨by rfl, ?yl⟩) (by assumption) ?_
    case yl => (intro w hSw; (try dsimp only at hSw); have k_0 := Ext.cell hSw q0; have k_1 := Ext.cell hSw q1; go_simp); with_reducible rfl
    try simp only [sxA, sxB, sxC, Act.put, sxD, sxE, sxF]
    refine tkA (i := 1) (v := ?_) rfl (fun c a w h => hpan c _ _ _ _ h) (Or.inl ⟨by rfl, ?yl⟩) (by assumption) ?_
    case yl => (intro w hSw; (try dsimp only at hSw); have k_0 := Ext.cell hSw q0; have k_1 := Ext.cell hSw q1; go_simp); with_reducible rfl
    try simp only [sxA, sxB, sxC, Act.put, sxD, sxE, sxF]
    refine tkA (i := 2) (v := ?_) rfl (fun c a w h => hpan c _ _ _ _ h) (Or.inl ⟨by rfl, ?yl⟩) (by assumption) ?_
    case yl => (intro w hSw; (try dsimp only at hSw); have k_0 := Ext.cell hSw q0; have k_1 := Ext.cell hSw q1; go_simp); with_reducible rfl
    try simp only [sxA, sxB, sxC, Act.put, sxD, sxE, sxF]
    refine tkA (i := 3) (v := ?_) rfl (fun c a w h => hpan c _ _ _ _ h) (Or.inl ⟨by rfl, ?yl⟩) (by assumption) ?_
    case yl => (intro w hSw; (try dsimp only at hSw); have k_0 := Ext.cell hSw q0; have k_1 := Ext.cell hSw q1; go_simp); with_reducible rfl
    try simp only [sxA, sxB, sxC, Act.put, sxD, sxE, sxF]
    refine tkA (i := 4) (v := ?_) rfl (fun c a w h => hpan c _ _ _ _ h) (Or.inl ⟨by rfl, ?yl⟩) (by assumption) ?_
    case yl => (intro w hSw; (try dsimp only at hSw); have k_0 := Ext.cell hSw q0; have k_1 := Ext.cell hSw q1; go_simp); with_reducible rfl
    try simp only [sxA, sxB, sxC, Act.put, sxD, sxE, sxF]
    refine tkA (i := 5) (v := ?_) rfl (fun c a w h => hpan c _ _ _ _ h) (Or.inl ⟨by rfl, ?yl⟩) (by assumption) ?_
    case yl => (intro w hSw; (try dsimp only at hSw); have k_0 := Ext.cell hSw q0; have k_1 := Ext.cell hSw q1; go_simp); with_reducible rfl
    try simp only [sxA, sxB, sxC, Act.put, sxD, sxE, sxF]
    refine tkA (i := 6) (v := ?_) rfl (fun c a w h => hpan c _ _ _ _ h) (Or.inl ⟨by rfl, ?yl⟩) (by assumption) ?_
    case yl => (intro w hSw; (try dsimp only at hSw); have k_0 := Ext.cell hSw q0; have k_1 := Ext.cell hSw q1; go_simp); with_reducible rfl
    try simp only [sxA, sxB, sxC, Act.put, sxD, sxE, sxF]
    refine tkA (i := 7) (v := ?_) rfl (fun c a w h => hpan c _ _ _ _ h) (Or.inl ⟨by rfl, ?yl⟩) (by assumption) ?_
    case yl => (intro w hSw; (try dsimp only at hSw); have k_0 := Ext.cell hSw q0; have k_1 := Ext.cell hSw q1; go_simp); with_reducible rfl
    try simp only [sxA, sxB, sxC, Act.put, sxD, sxE, sxF]
    refine tkA (i := 8) (v := ?_) rfl (fun c a w h => hpan c _ _ _ _ h) (Or.inl ⟨by rfl, ?yl⟩) (by assumption) ?_
    case yl => (intro w hSw; (try dsimp only at hSw); have k_0 := Ext.cell hSw q0; have k_1 := Ext.cell hSw q1; go_simp); with_reducible rfl
    try simp only [sxA, sxB, sxC, Act.put, sxD, sxE, sxF]
    refine tkA (i := 9) (v := ?_) rfl (fun c a w h => hpan c _ _ _ _ h) (Or.inl ⟨by rfl, ?yl⟩) (by assumption) ?_
    case yl => (intro w hSw; (try dsimp only at hSw); have k_0 := Ext.cell hSw q0; have k_1 := Ext.cell hSw q1; go_simp); with_reducible rfl
    try simp only [sxA, sxB, sxC, Act.put, sxD, sxE, sxF]
    refine wpAnyH_done (by kernel_rfl) ?_ _
    try simp only [sxA, sxB, sxC, Act.put, sxD, sxE, sxF]
    rw [hQ2.out]
    refine ⟨rfl, ?u1_0_1, ?u1_1_1, ?u1_2_1, ?u1_3_1, ?u1_4_1, ?u1_5_1, ?u1_6_1, ?u1_7_1, ?eq1_1, s0⟩
    case eq1_1 => ((try simp only [sxA, sxB, sxC, Act.put, sxD, sxE, sxF]); first | done | with_reducible rfl | rfl)
   rw [hQ2.out]
   rintro e a' d1 ⟨rfl, v0_, v1_, v2_, v3_, v4_, v5_, v6_, v7_, rfl, x⟩
   clear hQ2 hpan; clear Q2
   subst hA_
   simp only [sxA, sxB, sxC, Act.put, sxD, sxE, sxF]
   clear q0 q1
   replace mt0 := hid (x.cell mt0.out)
   replace f0 := hid (x.cell f0.out)
   replace f1 := hid (x.cell f1.out)
   replace f2 := hid (x.cell f2.out)
   replace f3 := hid (x.cell f3.out)
   replace f4 := hid (x.cell f4.out)
   replace X := hid (X.out.trans x)
   clear x
   have r_mt0 := mt0.out
   have l_mt0 := cell_lt r_mt0
   dsimp only at l_mt0
   go_wp2_with fail
   refine (h1.out _ (hT'.out.ext (X.out.trans (show Ext d1 _ from (by repeat (with_reducible first | assumption | exact Ext.refl _ | refine Ext.drew ?_ | refine Ext.drewN ?_ _ | refine Ext.alloc ?_ _ | refine xS ?_ _ | refine xT ?_ (by assumption))))))).mono ?_; rintro e u2 ⟨av, cv_, aw, cw, rfl, lv_, lw_, hE⟩
   have x : Ext d1 u2 := (by repeat (with_reducible first | assumption | exact Ext.refl _ | refine Ext.drew ?_ | refine Ext.drewN ?_ _ | refine Ext.alloc ?_ _ | refine xS ?_ _ | refine xT ?_ (by assumption)))
   clear r_mt0 l_mt0
   replace mt0 := hid (x.cell mt0.out)
   replace f0 := hid (x.cell f0.out)
   replace f1 := hid (x.cell f1.out)
   replace f2 := hid (x.cell f2.out)
   replace f3 := hid (x.cell f3.out)
   replace f4 := hid (x.cell f4.out)
   replace X := hid (X.out.trans x)
   have lv := hid lv_
   clear lv_
   have lw := hid lw_
   clear lw_
   clear x hE
   clear lv lw
   have r_mt0 := mt0.out
   have l_mt0 := cell_lt r_mt0
   dsimp only at l_mt0
   go_wp2_with fail
   refine name_c (fun v3 hw => ?_)
   have x : Ext u2 v3 := by rw [hw]; exact (by repeat (with_reducible first | assumption | exact Ext.refl _ | refine Ext.drew ?_ | refine Ext.drewN ?_ _ | refine Ext.alloc ?_ _ | refine xS ?_ _ | refine xT ?_ (by assumption)))
   have bv0 := hid (show v3.cell? ⟨u2.heap.size, 0, none⟩ = some (.int .i64 vn) by rw [hw]; simp [go_sem])
   have bv1 := hid (show v3.cell? ⟨u2.heap.size, 1, none⟩ = some (.int .i64 vd) by rw [hw]; simp [go_sem])
   clear r_mt0 l_mt0
   replace mt0 := hid (x.cell mt0.out)
   replace f0 := hid (x.cell f0.out)
   replace f1 := hid (x.cell f1.out)
   replace f2 := hid (x.cell f2.out)
   replace f3 := hid (x.cell f3.out)
   replace f4 := hid (x.cell f4.out)
   replace X := hid (X.out.trans x)
   clear x hw
   generalize u2.heap.size = Bbv at *
   refine (h2.out _ (hT'.out.ext (X.out.trans (show Ext v3 _ from (by repeat (with_reducible first | assumption | exact Ext.refl _ | refine Ext.drew ?_ | refine Ext.drewN ?_ _ | refine Ext.alloc ?_ _ | refine xS ?_ _ | refine xT ?_ (by assumption))))))).mono ?_; rintro e u4 ⟨rfl, hE⟩
   have x : Ext v3 u4 := (by repeat (with_reducible first | assumption | exact Ext.refl _ | refine Ext.drew ?_ | refine Ext.drewN ?_ _ | refine Ext.alloc ?_ _ | refine xS ?_ _ | refine xT ?_ (by assumption)))
   replace mt0 := hid (x.cell mt0.out)
   replace f0 := hid (x.cell f0.out)
   replace f1 := hid (x.cell f1.out)
   replace f2 := hid (x.cell f2.out)
   replace f3 := hid (x.cell f3.out)
   replace f4 := hid (x.cell f4.out)
   replace bv0 := hid (x.cell bv0.out)
   replace bv1 := hid (x.cell bv1.out)
   replace X := hid (X.out.trans x)
   clear x hE
   have r_mt0 := mt0.out
   have l_mt0 := cell_lt r_mt0
   dsimp only at l_mt0
   go_wp2_with fail
   refine name_act (fun A_ hA_ => ?_)
   obtain ⟨Q2, hQ2⟩ : ∃ Q2 : Exit → Act → World → Prop, Q2 = fun e a' w' => e = .normal ∧ ∃ (bx : Nat) (ky : Nat) (v0_ v2_ : Value), a' = ((((((A_.put (some 77) (v0_)).put (some 78) (.slice (some ⟨bx, 0, none⟩) m m)).put (some 79) (v2_)).put (some 80) (.slice (some ⟨ky, 0, none⟩) n n)).put (some 16) (.slice (some ⟨bx, 0, none⟩) m m)).put (some 17) (.slice (some ⟨ky, 0, none⟩) n n)) ∧ Ext u4 w' ∧ OwnI w' u4.heap.size 2 (.slice (some ⟨bx, 0, none⟩) m m) (List.replicate m 0) ∧ OwnI w' u4.heap.size 2 (.slice (some ⟨ky, 0, none⟩) n n) (List.replicate n 0) ∧ bx ≠ ky := ⟨_, rfl⟩
   have hpan : ∀ c a a' w w', Q2 (.panic c) a w → Q2 (.panic c) a' w' := by rw [hQ2]; rintro c a a' w w' ⟨h, _⟩; cases h
   replace hQ2 := hid hQ2
   refine wp_mono (Q := Q2) ?_ ?_
   ·subst hA_
    refine wp_region_held_drew (S := fun w' => Ext u4 w') (by kernel_rfl) (by repeat (with_reducible first | assumption | exact Ext.refl _ | refine Ext.drew ?_ | refine Ext.drewN ?_ _ | refine Ext.alloc ?_ _ | refine xS ?_ _ | refine xT ?_ (by assumption))) fun hHeld => ?_
    refine name_any (fun W0 hW => ?_)
    have s0 : Ext u4 W0 := by rw [hW]; exact hHeld
    clear hW hHeld
    refine tkA (i := 0) (v := ?_) rfl (fun c a w h => hpan c _ _ _ _ h) (Or.inl ⟨by rfl, ?yl⟩) (by assumption) ?_
    case yl => (intro w hSw; (try dsimp only at hSw);  go_simp); with_reducible rfl
    try simp only [sxA, sxB, sxC, Act.put, sxD, sxE, sxF]
    refine tkA (i := 2) (v := ?_) rfl (fun c a w h => hpan c _ _ _ _ h) (Or.inl ⟨by rfl, ?yl⟩) (by assumption) ?_
    case yl => (intro w hSw; (try dsimp only at hSw);  go_simp); with_reducible rfl
    try simp only [sxA, sxB, sxC, Act.put, sxD, sxE, sxF]
    refine wpAnyH_ready (rs := [1, 3]) (by kernel_rfl) (by simp) ?_
    refine AllReadyH.cons (o := _) rfl (fun K hK => ?_) ?_
    ·skip
     refine makeK _ _ _ rfl 2 Try.underlying25 elemI64 m rfl rfl (by omega) ?_
     intro W1 o1__ e1 l1__
     have o1_ := hid o1__; have l1_ := hid l1__; clear o1__ l1__
     have s1 := s0.trans e1
     refine hK.out _ _ s1 (fun _ => ?_)
     clear hK K
     (try simp only [sxA, sxB, sxC, Act.put, sxD, sxE, sxF])
     refine tkA (i := 4) (v := ?_) rfl (fun c a w h => hpan c _ _ _ _ h) (Or.inl ⟨by rfl, ?yl⟩) (by assumption) ?_
     case yl => (intro w hSw; (try dsimp only at hSw);  go_simp); with_reducible rfl
     try simp only [sxA, sxB, sxC, Act.put, sxD, sxE, sxF]
     refine wpAnyH_ready (rs := [3]) (by kernel_rfl) (by simp) ?_
     refine AllReadyH.cons (o := _) rfl (fun K hK => ?_) AllReadyH.nil
     refine makeK _ _ _ rfl 2 Try.underlying25 elemI64 n rfl rfl (by omega) ?_
     intro W2 o3__ e2 l3__
     have o3_ := hid o3__; have l3_ := hid l3__; clear o3__ l3__
     have s2 := s1.trans e2
     refine hK.out _ _ s2 (fun _ => ?_)
     clear hK K
     (try simp only [sxA, sxB, sxC, Act.put, sxD, sxE, sxF])
     refine tkA (i := 5) (v := ?_) rfl (fun c a w h => hpan c _ _ _ _ h) (Or.inl ⟨by rfl, ?yl⟩) (by assumption) ?_
     case yl => (intro w hSw; (try dsimp only at hSw);  go_simp); with_reducible rfl
     try simp only [sxA, sxB, sxC, Act.put, sxD, sxE, sxF]
     refine wpAnyH_done (by kernel_rfl) ?_ _
     try simp only [sxA, sxB, sxC, Act.put, sxD, sxE, sxF]
     rw [hQ2.out]
     refine ⟨rfl, W0.heap.size, W1.heap.size, ?u2_0_1, ?u2_1_1, ?eq2_1, s2, ((o1_.out.ext ((Ext.refl W1).trans e2)).mono s0.size), ((o3_.out.ext (Ext.refl W2)).mono s1.size), (Nat.ne_of_lt (Nat.lt_of_lt_of_le l1_.out (Ext.refl W1).size))⟩
     case eq2_1 => ((try simp only [sxA, sxB, sxC, Act.put, sxD, sxE, sxF]); first | done | with_reducible rfl | rfl)
    refine AllReadyH.cons (o := _) rfl (fun K hK => ?_) ?_
    ·skip
     refine makeK _ _ _ rfl 2 Try.underlying25 elemI64 n rfl rfl (by omega) ?_
     intro W1 o3__ e1 l3__
     have o3_ := hid o3__; have l3_ := hid l3__; clear o3__ l3__
     have s1 := s0.trans e1
     refine hK.out _ _ s1 (fun _ => ?_)
     clear hK K
     (try simp only [sxA, sxB, sxC, Act.put, sxD, sxE, sxF])
     refine wpAnyH_ready (rs := [1]) (by kernel_rfl) (by simp) ?_
     refine AllReadyH.cons (o := _) rfl (fun K hK => ?_) AllReadyH.nil
     refine makeK _ _ _ rfl 2 Try.underlying25 elemI64 m rfl rfl (by omega) ?_
     intro W2 o1__ e2 l1__
     have o1_ := hid o1__; have l1_ := hid l1__; clear o1__ l1__
     have s2 := s1.trans e2
     refine hK.out _ _ s2 (fun _ => ?_)
     clear hK K
     (try simp only [sxA, sxB, sxC, Act.put, sxD, sxE, sxF])
     refine tkA (i := 4) (v := ?_) rfl (fun c a w h => hpan c _ _ _ _ h) (Or.inl ⟨by rfl, ?yl⟩) (by assumption) ?_
     case yl => (intro w hSw; (try dsimp only at hSw);  go_simp); with_reducible rfl
     try simp only [sxA, sxB, sxC, Act.put, sxD, sxE, sxF]
     refine tkA (i := 5) (v := ?_) rfl (fun c a w h => hpan c _ _ _ _ h) (Or.inl ⟨by rfl, ?yl⟩) (by assumption) ?_
     case yl => (intro w hSw; (try dsimp only at hSw);  go_simp); with_reducible rfl
     try simp only [sxA, sxB, sxC, Act.put, sxD, sxE, sxF]
     refine wpAnyH_done (by kernel_rfl) ?_ _
     try simp only [sxA, sxB, sxC, Act.put, sxD, sxE, sxF]
     rw [hQ2.out]
     refine ⟨rfl, W1.heap.size, W0.heap.size, ?u2_0_2, ?u2_1_2, ?eq2_2, s2, ((o1_.out.ext (Ext.refl W2)).mono s1.size), ((o3_.out.ext ((Ext.refl W1).trans e2)).mono s0.size), (Nat.ne_of_gt (Nat.lt_of_lt_of_le l3_.out (Ext.refl W1).size))⟩
     case eq2_2 => ((try simp only [sxA, sxB, sxC, Act.put, sxD, sxE, sxF]); first | done | with_reducible rfl | rfl)
    exact AllReadyH.nil
   rw [hQ2.out]
   rintro e a' d5 ⟨rfl, bx, ky, v0_, v2_, rfl, x, o1, o3, n1_3⟩
   clear hQ2 hpan; clear Q2
   subst hA_
   simp only [sxA, sxB, sxC, Act.put, sxD, sxE, sxF]
   have hbx : u4.heap.size ≤ bx := (OwnI.block o1 _ rfl).1
   have hky : u4.heap.size ≤ ky := (OwnI.block o3 _ rfl).1
   have hBt : Bt < u4.heap.size := cell_lt mt0.out
   have nx : bx ≠ Bt := fun e => by omega
   have ny : ky ≠ Bt := fun e => by omega
   obtain ⟨c1, g1, -, s1⟩ := OwnI.facts o1 (j := i) (by rw [List.length_replicate]; assumption)
   obtain ⟨c3, g3, -, s3⟩ := OwnI.facts o3 (j := k) (by rw [List.length_replicate]; assumption)
   have tcd := x.cell mt0.out
   have hli := hid (two_ones (i := i) (k := k) o1 o3 n1_3)
   clear o1 o3
   go_wp2_with fail
   refine name_c (fun d2 hw => ?_)
   have y : Ext u4 d2 := by rw [hw]; exact (by repeat (with_reducible first | assumption | exact Ext.refl _ | refine Ext.drew ?_ | refine Ext.drewN ?_ _ | refine Ext.alloc ?_ _ | refine xS ?_ _ | refine xT ?_ (by assumption)))
   have la := hid (show Ints d2 (some ⟨bx, 0, none⟩) (uL m i) by rw [hw]; exact hli.out.1)
   have lb := hid (show Ints d2 (some ⟨ky, 0, none⟩) (uL n k) by rw [hw]; exact hli.out.2)
   clear hw hbx hky hBt nx ny c1 g1 s1 c3 g3 s3 tcd hli x n1_3
   replace mt0 := hid (y.cell mt0.out)
   replace f0 := hid (y.cell f0.out)
   replace f1 := hid (y.cell f1.out)
   replace f2 := hid (y.cell f2.out)
   replace f3 := hid (y.cell f3.out)
   replace f4 := hid (y.cell f4.out)
   replace bv0 := hid (y.cell bv0.out)
   replace bv1 := hid (y.cell bv1.out)
   replace X := hid (X.out.trans y)
   clear y
   refine (h3.out _ _ _ _ _ (hT'.out.ext (X.out.trans (show Ext d2 _ from (by repeat (with_reducible first | assumption | exact Ext.refl _ | refine Ext.drew ?_ | refine Ext.drewN ?_ _ | refine Ext.alloc ?_ _ | refine xS ?_ _ | refine xT ?_ (by assumption)))))) (la.out.ext (show Ext d2 _ from (by repeat (with_reducible first | assumption | exact Ext.refl _ | refine Ext.drew ?_ | refine Ext.drewN ?_ _ | refine Ext.alloc ?_ _ | refine xS ?_ _ | refine xT ?_ (by assumption))))) (lb.out.ext (show Ext d2 _ from (by repeat (with_reducible first | assumption | exact Ext.refl _ | refine Ext.drew ?_ | refine Ext.drewN ?_ _ | refine Ext.alloc ?_ _ | refine xS ?_ _ | refine xT ?_ (by assumption)))))).mono ?_; rintro e u6 ⟨rfl, hE⟩
   have x : Ext d2 u6 := (by repeat (with_reducible first | assumption | exact Ext.refl _ | refine Ext.drew ?_ | refine Ext.drewN ?_ _ | refine Ext.alloc ?_ _ | refine xS ?_ _ | refine xT ?_ (by assumption)))
   replace mt0 := hid (x.cell mt0.out)
   replace f0 := hid (x.cell f0.out)
   replace f1 := hid (x.cell f1.out)
   replace f2 := hid (x.cell f2.out)
   replace f3 := hid (x.cell f3.out)
   replace f4 := hid (x.cell f4.out)
   replace bv0 := hid (x.cell bv0.out)
   replace bv1 := hid (x.cell bv1.out)
   replace la := hid (la.out.ext x)
   replace lb := hid (lb.out.ext x)
   replace X := hid (X.out.trans x)
   clear x hE
   clear la lb
   go_wp2_with fail
   refine name_wp (fun v7 hw => ?_)
   have x : Ext u6 v7 := by rw [hw]; exact (by repeat (with_reducible first | assumption | exact Ext.refl _ | refine Ext.drew ?_ | refine Ext.drewN ?_ _ | refine Ext.alloc ?_ _ | refine xS ?_ _ | refine xT ?_ (by assumption)))
   have bp0 := hid (show v7.cell? ⟨u6.heap.size, 0, none⟩ = some (.int .i64 vn) by rw [hw]; simp [go_sem])
   have bp1 := hid (show v7.cell? ⟨u6.heap.size, 1, none⟩ = some (.int .i64 vd) by rw [hw]; simp [go_sem])
   replace mt0 := hid (x.cell mt0.out)
   replace f0 := hid (x.cell f0.out)
   replace f1 := hid (x.cell f1.out)
   replace f2 := hid (x.cell f2.out)
   replace f3 := hid (x.cell f3.out)
   replace f4 := hid (x.cell f4.out)
   replace bv0 := hid (x.cell bv0.out)
   replace bv1 := hid (x.cell bv1.out)
   replace X := hid (X.out.trans x)
   clear x hw
   generalize u6.heap.size = Bbp at *
   have q0 := mt0.out
   have q1 := bp0.out
   have q2 := bp1.out
   have q3 := bv0.out
   have q4 := bv1.out
   have q5 := f1.out
   have q6 := f2.out
   refine name_act (fun A_ hA_ => ?_)
   obtain ⟨Q2, hQ2⟩ : ∃ Q2 : Exit → Act → World → Prop, Q2 = fun e a' w' => e = .normal ∧ ∃ (v0_ v1_ v2_ v3_ v4_ v5_ v6_ v7_ v8_ v9_ v10_ v11_ v12_ v13_ v14_ v15_ v16_ v18_ v19_ v20_ v21_ v22_ v23_ v25_ : Value), a' = (((((((((((((((((((((((((((A_.put (some 101) (v0_)).put (some 102) (v1_)).put (some 103) (v2_)).put (some 104) (v3_)).put (some 105) (v4_)).put (some 106) (v5_)).put (some 107) (v6_)).put (some 108) (v7_)).put (some 109) (v8_)).put (some 110) (v9_)).put (some 111) (v10_)).put (some 112) (v11_)).put (some 113) (v12_)).put (some 114) (v13_)).put (some 115) (v14_)).put (some 116) (v15_)).put (some 117) (v16_)).put (some 118) (.agg #[.int .i64 en, .int .i64 1])).put (some 119) (v18_)).put (some 120) (v19_)).put (some 121) (v20_)).put (some 122) (v21_)).put (some 123) (v22_)).put (some 124) (v23_)).put (some 125) (.bool true)).put (some 126) (v25_)).put (some 127) (.bool false)) ∧ Ext v7 w' := ⟨_, rfl⟩
   have hpan : ∀ c a a' w w', Q2 (.panic c) a w → Q2 (.panic c) a' w' := by rw [hQ2]; rintro c a a' w w' ⟨h, _⟩; cases h
   replace hQ2 := hid hQ2
   refine wp_mono (Q := Q2) ?_ ?_
   ·subst hA_
    refine wp_region_held_drew (S := fun w' => Ext v7 w') (by kernel_rfl) (by repeat (with_reducible first | assumption | exact Ext.refl _ | refine Ext.drew ?_ | refine Ext.drewN ?_ _ | refine Ext.alloc ?_ _ | refine xS ?_ _ | refine xT ?_ (by assumption))) fun hHeld => ?_
    refine name_any (fun W0 hW => ?_)
    have s0 : Ext v7 W0 := by rw [hW]; exact hHeld
    clear hW hHeld
    refine tkA (i := 0) (v := ?_) rfl (fun c a w h => hpan c _ _ _ _ h) (Or.inl ⟨by rfl, ?yl⟩) (by assumption) ?_
    case yl => (intro w hSw; (try dsimp only at hSw); have k_0 := Ext.cell hSw q0; have k_1 := Ext.cell hSw q1; have k_2 := Ext.cell hSw q2; have k_3 := Ext.cell hSw q3; have k_4 := Ext.cell hSw q4; have k_5 := Ext.cell hSw q5; have k_6 := Ext.cell hSw q6; go_simp); with_reducible rfl
    try simp only [sxA, sxB, sxC, Act.put, sxD, sxE, sxF]
    refine tkA (i := 1) (v := ?_) rfl (fun c a w h => hpan c _ _ _ _ h) (Or.inl ⟨by rfl, ?yl⟩) (by assumption) ?_
    case yl => (intro w hSw; (try dsimp only at hSw); have k_0 := Ext.cell hSw q0; have k_1 := Ext.cell hSw q1; have k_2 := Ext.cell hSw q2; have k_3 := Ext.cell hSw q3; have k_4 := Ext.cell hSw q4; have k_5 := Ext.cell hSw q5; have k_6 := Ext.cell hSw q6; go_simp); with_reducible rfl
    try simp only [sxA, sxB, sxC, Act.put, sxD, sxE, sxF]
    refine tkA (i := 2) (v := ?_) rfl (fun c a w h => hpan c _ _ _ _ h) (Or.inl ⟨by rfl, ?yl⟩) (by assumption) ?_
    case yl => (intro w hSw; (try dsimp only at hSw); have k_0 := Ext.cell hSw q0; have k_1 := Ext.cell hSw q1; have k_2 := Ext.cell hSw q2; have k_3 := Ext.cell hSw q3; have k_4 := Ext.cell hSw q4; have k_5 := Ext.cell hSw q5; have k_6 := Ext.cell hSw q6; go_simp); with_reducible rfl
    try simp only [sxA, sxB, sxC, Act.put, sxD, sxE, sxF]
    refine tkA (i := 3) (v := ?_) rfl (fun c a w h => hpan c _ _ _ _ h) (Or.inl ⟨by rfl, ?yl⟩) (by assumption) ?_
    case yl => (intro w hSw; (try dsimp only at hSw); have k_0 := Ext.cell hSw q0; have k_1 := Ext.cell hSw q1; have k_2 := Ext.cell hSw q2; have k_3 := Ext.cell hSw q3; have k_4 := Ext.cell hSw q4; have k_5 := Ext.cell hSw q5; have k_6 := Ext.cell hSw q6; go_simp); with_reducible rfl
    try simp only [sxA, sxB, sxC, Act.put, sxD, sxE, sxF]
    refine tkA (i := 4) (v := ?_) rfl (fun c a w h => hpan c _ _ _ _ h) (Or.inl ⟨by rfl, ?yl⟩) (by assumption) ?_
    case yl => (intro w hSw; (try dsimp only at hSw); have k_0 := Ext.cell hSw q0; have k_1 := Ext.cell hSw q1; have k_2 := Ext.cell hSw q2; have k_3 := Ext.cell hSw q3; have k_4 := Ext.cell hSw q4; have k_5 := Ext.cell hSw q5; have k_6 := Ext.cell hSw q6; go_simp); with_reducible rfl
    try simp only [sxA, sxB, sxC, Act.put, sxD, sxE, sxF]
    refine tkA (i := 5) (v := ?_) rfl (fun c a w h => hpan c _ _ _ _ h) (Or.inl ⟨by rfl, ?yl⟩) (by assumption) ?_
    case yl => (intro w hSw; (try dsimp only at hSw); have k_0 := Ext.cell hSw q0; have k_1 := Ext.cell hSw q1; have k_2 := Ext.cell hSw q2; have k_3 := Ext.cell hSw q3; have k_4 := Ext.cell hSw q4; have k_5 := Ext.cell hSw q5; have k_6 := Ext.cell hSw q6; go_simp); with_reducible rfl
    try simp only [sxA, sxB, sxC, Act.put, sxD, sxE, sxF]
    refine tkA (i := 6) (v := ?_) rfl (fun c a w h => hpan c _ _ _ _ h) (Or.inl ⟨by rfl, ?yl⟩) (by assumption) ?_
    case yl => (intro w hSw; (try dsimp only at hSw); have k_0 := Ext.cell hSw q0; have k_1 := Ext.cell hSw q1; have k_2 := Ext.cell hSw q2; have k_3 := Ext.cell hSw q3; have k_4 := Ext.cell hSw q4; have k_5 := Ext.cell hSw q5; have k_6 := Ext.cell hSw q6; go_simp); with_reducible rfl
    try simp only [sxA, sxB, sxC, Act.put, sxD, sxE, sxF]
    refine tkA (i := 7) (v := ?_) rfl (fun c a w h => hpan c _ _ _ _ h) (Or.inl ⟨by rfl, ?yl⟩) (by assumption) ?_
    case yl => (intro w hSw; (try dsimp only at hSw); have k_0 := Ext.cell hSw q0; have k_1 := Ext.cell hSw q1; have k_2 := Ext.cell hSw q2; have k_3 := Ext.cell hSw q3; have k_4 := Ext.cell hSw q4; have k_5 := Ext.cell hSw q5; have k_6 := Ext.cell hSw q6; go_simp); with_reducible rfl
    try simp only [sxA, sxB, sxC, Act.put, sxD, sxE, sxF]
    refine tkA (i := 8) (v := ?_) rfl (fun c a w h => hpan c _ _ _ _ h) (Or.inl ⟨by rfl, ?yl⟩) (by assumption) ?_
    case yl => (intro w hSw; (try dsimp only at hSw); have k_0 := Ext.cell hSw q0; have k_1 := Ext.cell hSw q1; have k_2 := Ext.cell hSw q2; have k_3 := Ext.cell hSw q3; have k_4 := Ext.cell hSw q4; have k_5 := Ext.cell hSw q5; have k_6 := Ext.cell hSw q6; go_simp); with_reducible rfl
    try simp only [sxA, sxB, sxC, Act.put, sxD, sxE, sxF]
    refine tkA (i := 9) (v := ?_) rfl (fun c a w h => hpan c _ _ _ _ h) (Or.inl ⟨by rfl, ?yl⟩) (by assumption) ?_
    case yl => (intro w hSw; (try dsimp only at hSw); have k_0 := Ext.cell hSw q0; have k_1 := Ext.cell hSw q1; have k_2 := Ext.cell hSw q2; have k_3 := Ext.cell hSw q3; have k_4 := Ext.cell hSw q4; have k_5 := Ext.cell hSw q5; have k_6 := Ext.cell hSw q6; go_simp); with_reducible rfl
    try simp only [sxA, sxB, sxC, Act.put, sxD, sxE, sxF]
    refine tkA (i := 10) (v := ?_) rfl (fun c a w h => hpan c _ _ _ _ h) (Or.inl ⟨by rfl, ?yl⟩) (by assumption) ?_
    case yl => (intro w hSw; (try dsimp only at hSw); have k_0 := Ext.cell hSw q0; have k_1 := Ext.cell hSw q1; have k_2 := Ext.cell hSw q2; have k_3 := Ext.cell hSw q3; have k_4 := Ext.cell hSw q4; have k_5 := Ext.cell hSw q5; have k_6 := Ext.cell hSw q6; go_simp); with_reducible rfl
    try simp only [sxA, sxB, sxC, Act.put, sxD, sxE, sxF]
    refine tkA (i := 11) (v := ?_) rfl (fun c a w h => hpan c _ _ _ _ h) (Or.inl ⟨by rfl, ?yl⟩) (by assumption) ?_
    case yl => (intro w hSw; (try dsimp only at hSw); have k_0 := Ext.cell hSw q0; have k_1 := Ext.cell hSw q1; have k_2 := Ext.cell hSw q2; have k_3 := Ext.cell hSw q3; have k_4 := Ext.cell hSw q4; have k_5 := Ext.cell hSw q5; have k_6 := Ext.cell hSw q6; go_simp); with_reducible rfl
    try simp only [sxA, sxB, sxC, Act.put, sxD, sxE, sxF]
    refine tkA (i := 12) (v := ?_) rfl (fun c a w h => hpan c _ _ _ _ h) (Or.inl ⟨by rfl, ?yl⟩) (by assumption) ?_
    case yl => (intro w hSw; (try dsimp only at hSw); have k_0 := Ext.cell hSw q0; have k_1 := Ext.cell hSw q1; have k_2 := Ext.cell hSw q2; have k_3 := Ext.cell hSw q3; have k_4 := Ext.cell hSw q4; have k_5 := Ext.cell hSw q5; have k_6 := Ext.cell hSw q6; go_simp); with_reducible rfl
    try simp only [sxA, sxB, sxC, Act.put, sxD, sxE, sxF]
    refine tkA (i := 13) (v := ?_) rfl (fun c a w h => hpan c _ _ _ _ h) (Or.inl ⟨by rfl, ?yl⟩) (by assumption) ?_
    case yl => (intro w hSw; (try dsimp only at hSw); have k_0 := Ext.cell hSw q0; have k_1 := Ext.cell hSw q1; have k_2 := Ext.cell hSw q2; have k_3 := Ext.cell hSw q3; have k_4 := Ext.cell hSw q4; have k_5 := Ext.cell hSw q5; have k_6 := Ext.cell hSw q6; go_simp); with_reducible rfl
    try simp only [sxA, sxB, sxC, Act.put, sxD, sxE, sxF]
    refine tkA (i := 14) (v := ?_) rfl (fun c a w h => hpan c _ _ _ _ h) (Or.inl ⟨by rfl, ?yl⟩) (by assumption) ?_
    case yl => (intro w hSw; (try dsimp only at hSw); have k_0 := Ext.cell hSw q0; have k_1 := Ext.cell hSw q1; have k_2 := Ext.cell hSw q2; have k_3 := Ext.cell hSw q3; have k_4 := Ext.cell hSw q4; have k_5 := Ext.cell hSw q5; have k_6 := Ext.cell hSw q6; go_simp); with_reducible rfl
    try simp only [sxA, sxB, sxC, Act.put, sxD, sxE, sxF]
    refine tkA (i := 15) (v := ?_) rfl (fun c a w h => hpan c _ _ _ _ h) (Or.inl ⟨by rfl, ?yl⟩) (by assumption) ?_
    case yl => (intro w hSw; (try dsimp only at hSw); have k_0 := Ext.cell hSw q0; have k_1 := Ext.cell hSw q1; have k_2 := Ext.cell hSw q2; have k_3 := Ext.cell hSw q3; have k_4 := Ext.cell hSw q4; have k_5 := Ext.cell hSw q5; have k_6 := Ext.cell hSw q6; go_simp); with_reducible rfl
    try simp only [sxA, sxB, sxC, Act.put, sxD, sxE, sxF]
    refine tkA (i := 16) (v := ?_) rfl (fun c a w h => hpan c _ _ _ _ h) (Or.inl ⟨by rfl, ?yl⟩) (by assumption) ?_
    case yl => (intro w hSw; (try dsimp only at hSw); have k_0 := Ext.cell hSw q0; have k_1 := Ext.cell hSw q1; have k_2 := Ext.cell hSw q2; have k_3 := Ext.cell hSw q3; have k_4 := Ext.cell hSw q4; have k_5 := Ext.cell hSw q5; have k_6 := Ext.cell hSw q6; go_simp); with_reducible rfl
    try simp only [sxA, sxB, sxC, Act.put, sxD, sxE, sxF]
    refine wpAnyH_ready (rs := [17]) (by kernel_rfl) (by simp) ?_
    refine AllReadyH.cons (o := _) rfl (fun K hK => ?_) AllReadyH.nil
    go_simp
    refine (byL_any _ _ _).mono ?_; rintro e W1 ⟨rfl, e1⟩
    have s1 := s0.trans e1
    refine hK.out _ _ s1 (fun _ => ?_)
    clear hK K
    (try simp only [sxA, sxB, sxC, Act.put, sxD, sxE, sxF])
    refine tkA (i := 18) (v := ?_) rfl (fun c a w h => hpan c _ _ _ _ h) (Or.inl ⟨by rfl, ?yl⟩) (by assumption) ?_
    case yl => (intro w hSw; (try dsimp only at hSw); have k_0 := Ext.cell hSw q0; have k_1 := Ext.cell hSw q1; have k_2 := Ext.cell hSw q2; have k_3 := Ext.cell hSw q3; have k_4 := Ext.cell hSw q4; have k_5 := Ext.cell hSw q5; have k_6 := Ext.cell hSw q6; go_simp); with_reducible rfl
    try simp only [sxA, sxB, sxC, Act.put, sxD, sxE, sxF]
    refine tkA (i := 19) (v := ?_) rfl (fun c a w h => hpan c _ _ _ _ h) (Or.inl ⟨by rfl, ?yl⟩) (by assumption) ?_
    case yl => (intro w hSw; (try dsimp only at hSw); have k_0 := Ext.cell hSw q0; have k_1 := Ext.cell hSw q1; have k_2 := Ext.cell hSw q2; have k_3 := Ext.cell hSw q3; have k_4 := Ext.cell hSw q4; have k_5 := Ext.cell hSw q5; have k_6 := Ext.cell hSw q6; go_simp); with_reducible rfl
    try simp only [sxA, sxB, sxC, Act.put, sxD, sxE, sxF]
    refine tkA (i := 20) (v := ?_) rfl (fun c a w h => hpan c _ _ _ _ h) (Or.inl ⟨by rfl, ?yl⟩) (by assumption) ?_
    case yl => (intro w hSw; (try dsimp only at hSw); have k_0 := Ext.cell hSw q0; have k_1 := Ext.cell hSw q1; have k_2 := Ext.cell hSw q2; have k_3 := Ext.cell hSw q3; have k_4 := Ext.cell hSw q4; have k_5 := Ext.cell hSw q5; have k_6 := Ext.cell hSw q6; go_simp); with_reducible rfl
    try simp only [sxA, sxB, sxC, Act.put, sxD, sxE, sxF]
    refine tkA (i := 21) (v := ?_) rfl (fun c a w h => hpan c _ _ _ _ h) (Or.inl ⟨by rfl, ?yl⟩) (by assumption) ?_
    case yl => (intro w hSw; (try dsimp only at hSw); have k_0 := Ext.cell hSw q0; have k_1 := Ext.cell hSw q1; have k_2 := Ext.cell hSw q2; have k_3 := Ext.cell hSw q3; have k_4 := Ext.cell hSw q4; have k_5 := Ext.cell hSw q5; have k_6 := Ext.cell hSw q6; go_simp); with_reducible rfl
    try simp only [sxA, sxB, sxC, Act.put, sxD, sxE, sxF]
    refine tkA (i := 22) (v := ?_) rfl (fun c a w h => hpan c _ _ _ _ h) (Or.inl ⟨by rfl, ?yl⟩) (by assumption) ?_
    case yl => (intro w hSw; (try dsimp only at hSw); have k_0 := Ext.cell hSw q0; have k_1 := Ext.cell hSw q1; have k_2 := Ext.cell hSw q2; have k_3 := Ext.cell hSw q3; have k_4 := Ext.cell hSw q4; have k_5 := Ext.cell hSw q5; have k_6 := Ext.cell hSw q6; go_simp); with_reducible rfl
    try simp only [sxA, sxB, sxC, Act.put, sxD, sxE, sxF]
    refine tkA (i := 23) (v := ?_) rfl (fun c a w h => hpan c _ _ _ _ h) (Or.inl ⟨by rfl, ?yl⟩) (by assumption) ?_
    case yl => (intro w hSw; (try dsimp only at hSw); have k_0 := Ext.cell hSw q0; have k_1 := Ext.cell hSw q1; have k_2 := Ext.cell hSw q2; have k_3 := Ext.cell hSw q3; have k_4 := Ext.cell hSw q4; have k_5 := Ext.cell hSw q5; have k_6 := Ext.cell hSw q6; go_simp); with_reducible rfl
    try simp only [sxA, sxB, sxC, Act.put, sxD, sxE, sxF]
    refine wpAnyH_ready (rs := [24]) (by kernel_rfl) (by simp) ?_
    refine AllReadyH.cons (o := _) rfl (fun K hK => ?_) AllReadyH.nil
    go_simp
    refine (h4.out _ (hT'.out.ext (X.out.trans s1))).mono ?_; rintro e W2 ⟨rfl, e2⟩
    have s2 := s1.trans e2
    refine hK.out _ _ s2 (fun _ => ?_)
    clear hK K
    (try simp only [sxA, sxB, sxC, Act.put, sxD, sxE, sxF])
    refine tkA (i := 25) (v := ?_) rfl (fun c a w h => hpan c _ _ _ _ h) (Or.inl ⟨by rfl, ?yl⟩) (by assumption) ?_
    case yl => (intro w hSw; (try dsimp only at hSw); have k_0 := Ext.cell hSw q0; have k_1 := Ext.cell hSw q1; have k_2 := Ext.cell hSw q2; have k_3 := Ext.cell hSw q3; have k_4 := Ext.cell hSw q4; have k_5 := Ext.cell hSw q5; have k_6 := Ext.cell hSw q6; go_simp); with_reducible rfl
    try simp only [sxA, sxB, sxC, Act.put, sxD, sxE, sxF]
    refine tkA (i := 26) (v := ?_) rfl (fun c a w h => hpan c _ _ _ _ h) (Or.inl ⟨by rfl, ?yl⟩) (by assumption) ?_
    case yl => (intro w hSw; (try dsimp only at hSw); have k_0 := Ext.cell hSw q0; have k_1 := Ext.cell hSw q1; have k_2 := Ext.cell hSw q2; have k_3 := Ext.cell hSw q3; have k_4 := Ext.cell hSw q4; have k_5 := Ext.cell hSw q5; have k_6 := Ext.cell hSw q6; go_simp); with_reducible rfl
    try simp only [sxA, sxB, sxC, Act.put, sxD, sxE, sxF]
    refine wpAnyH_done (by kernel_rfl) ?_ _
    try simp only [sxA, sxB, sxC, Act.put, sxD, sxE, sxF]
    rw [hQ2.out]
    refine ⟨rfl, ?u3_0_1, ?u3_1_1, ?u3_2_1, ?u3_3_1, ?u3_4_1, ?u3_5_1, ?u3_6_1, ?u3_7_1, ?u3_8_1, ?u3_9_1, ?u3_10_1, ?u3_11_1, ?u3_12_1, ?u3_13_1, ?u3_14_1, ?u3_15_1, ?u3_16_1, ?u3_17_1, ?u3_18_1, ?u3_19_1, ?u3_20_1, ?u3_21_1, ?u3_22_1, ?u3_23_1, ?eq3_1, s2⟩
    case eq3_1 => ((try simp only [sxA, sxB, sxC, Act.put, sxD, sxE, sxF]); first | done | with_reducible rfl | rfl)
   rw [hQ2.out]
   rintro e a' d8 ⟨rfl, v0_, v1_, v2_, v3_, v4_, v5_, v6_, v7_, v8_, v9_, v10_, v11_, v12_, v13_, v14_, v15_, v16_, v18_, v19_, v20_, v21_, v22_, v23_, v25_, rfl, x⟩
   clear hQ2 hpan; clear Q2
   subst hA_
   simp only [sxA, sxB, sxC, Act.put, sxD, sxE, sxF]
   clear q0 q1 q2 q3 q4 q5 q6
   replace mt0 := hid (x.cell mt0.out)
   replace f0 := hid (x.cell f0.out)
   replace f1 := hid (x.cell f1.out)
   replace f2 := hid (x.cell f2.out)
   replace f3 := hid (x.cell f3.out)
   replace f4 := hid (x.cell f4.out)
   replace bv0 := hid (x.cell bv0.out)
   replace bv1 := hid (x.cell bv1.out)
   replace bp0 := hid (x.cell bp0.out)
   replace bp1 := hid (x.cell bp1.out)
   replace X := hid (X.out.trans x)
   clear x
   go_wp2_with fail
   refine name_act (fun A_ hA_ => ?_)
   obtain ⟨Q2, hQ2⟩ : ∃ Q2 : Exit → Act → World → Prop, Q2 = fun e a' w' => e = .normal ∧ ∃ (v0_ v1_ v2_ v3_ v4_ v5_ v6_ v7_ : Value), a' = ((((((((((A_.put (some 128) (v0_)).put (some 129) (v1_)).put (some 130) (v2_)).put (some 131) (v3_)).put (some 132) (v4_)).put (some 133) (v5_)).put (some 134) (v6_)).put (some 135) (v7_)).put (some 20) (.int .i64 j)).put (some 21) (.int .i64 l)) ∧ Ext d8 w' := ⟨_, rfl⟩
   have hpan : ∀ c a a' w w', Q2 (.panic c) a w → Q2 (.panic c) a' w' := by rw [hQ2]; rintro c a a' w w' ⟨h, _⟩; cases h
   replace hQ2 := hid hQ2
   refine wp_mono (Q := Q2) ?_ ?_
   ·subst hA_
    refine wp_region_held_drew (S := fun w' => Ext d8 w') (by kernel_rfl) (by repeat (with_reducible first | assumption | exact Ext.refl _ | refine Ext.drew ?_ | refine Ext.drewN ?_ _ | refine Ext.alloc ?_ _ | refine xS ?_ _ | refine xT ?_ (by assumption))) fun hHeld => ?_
    refine name_any (fun W0 hW => ?_)
    have s0 : Ext d8 W0 := by rw [hW]; exact hHeld
    clear hW hHeld
    refine tkA (i := 0) (v := ?_) rfl (fun c a w h => hpan c _ _ _ _ h) (Or.inl ⟨by rfl, ?yl⟩) (by assumption) ?_
    case yl => (intro w hSw; (try dsimp only at hSw);  go_simp); with_reducible rfl
    try simp only [sxA, sxB, sxC, Act.put, sxD, sxE, sxF]
    refine tkA (i := 1) (v := ?_) rfl (fun c a w h => hpan c _ _ _ _ h) (Or.inl ⟨by rfl, ?yl⟩) (by assumption) ?_
    case yl => (intro w hSw; (try dsimp only at hSw);  go_simp); with_reducible rfl
    try simp only [sxA, sxB, sxC, Act.put, sxD, sxE, sxF]
    refine tkA (i := 2) (v := ?_) rfl (fun c a w h => hpan c _ _ _ _ h) (Or.inl ⟨by rfl, ?yl⟩) (by assumption) ?_
    case yl => (intro w hSw; (try dsimp only at hSw);  go_simp); with_reducible rfl
    try simp only [sxA, sxB, sxC, Act.put, sxD, sxE, sxF]
    refine tkA (i := 3) (v := ?_) rfl (fun c a w h => hpan c _ _ _ _ h) (Or.inl ⟨by rfl, ?yl⟩) (by assumption) ?_
    case yl => (intro w hSw; (try dsimp only at hSw);  go_simp); with_reducible rfl
    try simp only [sxA, sxB, sxC, Act.put, sxD, sxE, sxF]
    refine tkA (i := 4) (v := ?_) rfl (fun c a w h => hpan c _ _ _ _ h) (Or.inl ⟨by rfl, ?yl⟩) (by assumption) ?_
    case yl => (intro w hSw; (try dsimp only at hSw);  go_simp); with_reducible rfl
    try simp only [sxA, sxB, sxC, Act.put, sxD, sxE, sxF]
    refine tkA (i := 5) (v := ?_) rfl (fun c a w h => hpan c _ _ _ _ h) (Or.inl ⟨by rfl, ?yl⟩) (by assumption) ?_
    case yl => (intro w hSw; (try dsimp only at hSw);  go_simp); with_reducible rfl
    try simp only [sxA, sxB, sxC, Act.put, sxD, sxE, sxF]
    refine tkA (i := 6) (v := ?_) rfl (fun c a w h => hpan c _ _ _ _ h) (Or.inl ⟨by rfl, ?yl⟩) (by assumption) ?_
    case yl => (intro w hSw; (try dsimp only at hSw);  go_simp); with_reducible rfl
    try simp only [sxA, sxB, sxC, Act.put, sxD, sxE, sxF]
    refine tkA (i := 7) (v := ?_) rfl (fun c a w h => hpan c _ _ _ _ h) (Or.inl ⟨by rfl, ?yl⟩) (by assumption) ?_
    case yl => (intro w hSw; (try dsimp only at hSw);  go_simp); with_reducible rfl
    try simp only [sxA, sxB, sxC, Act.put, sxD, sxE, sxF]
    refine tkA (i := 8) (v := ?_) rfl (fun c a w h => hpan c _ _ _ _ h) (Or.inl ⟨by rfl, ?yl⟩) (by assumption) ?_
    case yl => (intro w hSw; (try dsimp only at hSw);  go_simp); with_reducible rfl
    try simp only [sxA, sxB, sxC, Act.put, sxD, sxE, sxF]
    refine tkA (i := 9) (v := ?_) rfl (fun c a w h => hpan c _ _ _ _ h) (Or.inl ⟨by rfl, ?yl⟩) (by assumption) ?_
    case yl => (intro w hSw; (try dsimp only at hSw);  go_simp); with_reducible rfl
    try simp only [sxA, sxB, sxC, Act.put, sxD, sxE, sxF]
    refine wpAnyH_done (by kernel_rfl) ?_ _
    try simp only [sxA, sxB, sxC, Act.put, sxD, sxE, sxF]
    rw [hQ2.out]
    refine ⟨rfl, ?u4_0_1, ?u4_1_1, ?u4_2_1, ?u4_3_1, ?u4_4_1, ?u4_5_1, ?u4_6_1, ?u4_7_1, ?eq4_1, s0⟩
    case eq4_1 => ((try simp only [sxA, sxB, sxC, Act.put, sxD, sxE, sxF]); first | done | with_reducible rfl | rfl)
   rw [hQ2.out]
   rintro e a' d9 ⟨rfl, v0_, v1_, v2_, v3_, v4_, v5_, v6_, v7_, rfl, x⟩
   clear hQ2 hpan; clear Q2
   subst hA_
   simp only [sxA, sxB, sxC, Act.put, sxD, sxE, sxF]
   replace mt0 := hid (x.cell mt0.out)
   replace f0 := hid (x.cell f0.out)
   replace f1 := hid (x.cell f1.out)
   replace f2 := hid (x.cell f2.out)
   replace f3 := hid (x.cell f3.out)
   replace f4 := hid (x.cell f4.out)
   replace bv0 := hid (x.cell bv0.out)
   replace bv1 := hid (x.cell bv1.out)
   replace bp0 := hid (x.cell bp0.out)
   replace bp1 := hid (x.cell bp1.out)
   replace X := hid (X.out.trans x)
   clear x
   go_wp2_with fail
   by_cases hb2 : PureB t j l
   ·have h6 := hid (fun W hW => (show Calls Try.prog 46 #[(.agg #[.slice (some ⟨b, off, none⟩) m cap]), .int .i64 (j : Int), .int .i64 (l : Int)] W fun e w' => e = .returned (.bool true) ∧ Ext W w' from (h5.out W hW).mono (by
     rintro e w' ⟨bb, rfl, hb, hE⟩
     obtain rfl : bb = true := hb.2 hb2
     exact ⟨rfl, hE⟩)))
    rw [hsame.out hb2] at f4
    rcases hord.out hb2 with ho | ⟨ho1, ho2⟩
    ·have hoI : (i : Int) < (j : Int) := by omega
     clear hord h5 hsame
     have q0 := mt0.out
     have q1 := f1.out
     have q2 := f2.out
     have q3 := f3.out
     have q4 := f4.out
     refine name_act (fun A_ hA_ => ?_)
     obtain ⟨Q2, hQ2⟩ : ∃ Q2 : Exit → Act → World → Prop, Q2 = fun e a' w' => e = .normal ∧ ∃ (v0_ v1_ v2_ v4_ v5_ v6_ v7_ v8_ v9_ v10_ v11_ v12_ v13_ v14_ v15_ v16_ v17_ v18_ v19_ v20_ v21_ v22_ v23_ v24_ v25_ v26_ v27_ v36_ v37_ v38_ v39_ v41_ : Value), a' = (((((((((((((((((((((((((((((((((((((((((((A_.put (some 136) (v0_)).put (some 137) (v1_)).put (some 138) (v2_)).put (some 139) (.bool true)).put (some 140) (v4_)).put (some 141) (v5_)).put (some 142) (v6_)).put (some 143) (v7_)).put (some 144) (v8_)).put (some 145) (v9_)).put (some 146) (v10_)).put (some 147) (v11_)).put (some 148) (v12_)).put (some 149) (v13_)).put (some 150) (v14_)).put (some 151) (v15_)).put (some 152) (v16_)).put (some 153) (v17_)).put (some 154) (v18_)).put (some 155) (v19_)).put (some 156) (v20_)).put (some 157) (v21_)).put (some 158) (v22_)).put (some 159) (v23_)).put (some 160) (v24_)).put (some 161) (v25_)).put (some 162) (v26_)).put (some 163) (v27_)).put (some 164) (undef)).put (some 165) (undef)).put (some 166) (undef)).put (some 167) (undef)).put (some 168) (undef)).put (some 169) (undef)).put (some 170) (undef)).put (some 171) (undef)).put (some 172) (v36_)).put (some 173) (v37_)).put (some 174) (v38_)).put (some 175) (v39_)).put (some 176) (.bool true)).put (some 177) (v41_)).put (some 6) (.bool true)) ∧ Ext d9 w' := ⟨_, rfl⟩
     have hpan : ∀ c a a' w w', Q2 (.panic c) a w → Q2 (.panic c) a' w' := by rw [hQ2]; rintro c a a' w w' ⟨h, _⟩; cases h
     replace hQ2 := hid hQ2
     refine wp_mono (Q := Q2) ?_ ?_
     ·subst hA_
      refine wp_region_held_drew (S := fun w' => Ext d9 w') (by kernel_rfl) (by repeat (with_reducible first | assumption | exact Ext.refl _ | refine Ext.drew ?_ | refine Ext.drewN ?_ _ | refine Ext.alloc ?_ _ | refine xS ?_ _ | refine xT ?_ (by assumption))) fun hHeld => ?_
      refine name_any (fun W0 hW => ?_)
      have s0 : Ext d9 W0 := by rw [hW]; exact hHeld
      clear hW hHeld
      refine tkA (i := 0) (v := ?_) rfl (fun c a w h => hpan c _ _ _ _ h) (Or.inl ⟨by rfl, ?yl⟩) (by assumption) ?_
      case yl => (intro w hSw; (try dsimp only at hSw); have k_0 := Ext.cell hSw q0; have k_1 := Ext.cell hSw q1; have k_2 := Ext.cell hSw q2; have k_3 := Ext.cell hSw q3; have k_4 := Ext.cell hSw q4; go_simp); with_reducible rfl
      try simp only [sxA, sxB, sxC, Act.put, sxD, sxE, sxF]
      refine tkA (i := 1) (v := ?_) rfl (fun c a w h => hpan c _ _ _ _ h) (Or.inl ⟨by rfl, ?yl⟩) (by assumption) ?_
      case yl => (intro w hSw; (try dsimp only at hSw); have k_0 := Ext.cell hSw q0; have k_1 := Ext.cell hSw q1; have k_2 := Ext.cell hSw q2; have k_3 := Ext.cell hSw q3; have k_4 := Ext.cell hSw q4; go_simp); with_reducible rfl
      try simp only [sxA, sxB, sxC, Act.put, sxD, sxE, sxF]
      refine tkA (i := 2) (v := ?_) rfl (fun c a w h => hpan c _ _ _ _ h) (Or.inl ⟨by rfl, ?yl⟩) (by assumption) ?_
      case yl => (intro w hSw; (try dsimp only at hSw); have k_0 := Ext.cell hSw q0; have k_1 := Ext.cell hSw q1; have k_2 := Ext.cell hSw q2; have k_3 := Ext.cell hSw q3; have k_4 := Ext.cell hSw q4; go_simp); with_reducible rfl
      try simp only [sxA, sxB, sxC, Act.put, sxD, sxE, sxF]
      refine wpAnyH_ready (rs := [3]) (by kernel_rfl) (by simp) ?_
      refine AllReadyH.cons (o := _) rfl (fun K hK => ?_) AllReadyH.nil
      go_simp
      refine (h6.out _ (hT'.out.ext (X.out.trans s0))).mono ?_; rintro e W1 ⟨rfl, e1⟩
      have s1 := s0.trans e1
      refine hK.out _ _ s1 (fun _ => ?_)
      clear hK K
      (try simp only [sxA, sxB, sxC, Act.put, sxD, sxE, sxF])
      refine tkA (i := 4) (v := ?_) rfl (fun c a w h => hpan c _ _ _ _ h) (Or.inl ⟨by rfl, ?yl⟩) (by assumption) ?_
      case yl => (intro w hSw; (try dsimp only at hSw); have k_0 := Ext.cell hSw q0; have k_1 := Ext.cell hSw q1; have k_2 := Ext.cell hSw q2; have k_3 := Ext.cell hSw q3; have k_4 := Ext.cell hSw q4; go_simp); with_reducible rfl
      try simp only [sxA, sxB, sxC, Act.put, sxD, sxE, sxF]
      refine tkA (i := 5) (v := ?_) rfl (fun c a w h => hpan c _ _ _ _ h) (Or.inl ⟨by rfl, ?yl⟩) (by assumption) ?_
      case yl => (intro w hSw; (try dsimp only at hSw); have k_0 := Ext.cell hSw q0; have k_1 := Ext.cell hSw q1; have k_2 := Ext.cell hSw q2; have k_3 := Ext.cell hSw q3; have k_4 := Ext.cell hSw q4; go_simp); with_reducible rfl
      try simp only [sxA, sxB, sxC, Act.put, sxD, sxE, sxF]
      refine tkA (i := 6) (v := ?_) rfl (fun c a w h => hpan c _ _ _ _ h) (Or.inl ⟨by rfl, ?yl⟩) (by assumption) ?_
      case yl => (intro w hSw; (try dsimp only at hSw); have k_0 := Ext.cell hSw q0; have k_1 := Ext.cell hSw q1; have k_2 := Ext.cell hSw q2; have k_3 := Ext.cell hSw q3; have k_4 := Ext.cell hSw q4; go_simp); with_reducible rfl
      try simp only [sxA, sxB, sxC, Act.put, sxD, sxE, sxF]
      refine tkA (i := 7) (v := ?_) rfl (fun c a w h => hpan c _ _ _ _ h) (Or.inl ⟨by rfl, ?yl⟩) (by assumption) ?_
      case yl => (intro w hSw; (try dsimp only at hSw); have k_0 := Ext.cell hSw q0; have k_1 := Ext.cell hSw q1; have k_2 := Ext.cell hSw q2; have k_3 := Ext.cell hSw q3; have k_4 := Ext.cell hSw q4; go_simp); with_reducible rfl
      try simp only [sxA, sxB, sxC, Act.put, sxD, sxE, sxF]
      refine tkA (i := 8) (v := ?_) rfl (fun c a w h => hpan c _ _ _ _ h) (Or.inl ⟨by rfl, ?yl⟩) (by assumption) ?_
      case yl => (intro w hSw; (try dsimp only at hSw); have k_0 := Ext.cell hSw q0; have k_1 := Ext.cell hSw q1; have k_2 := Ext.cell hSw q2; have k_3 := Ext.cell hSw q3; have k_4 := Ext.cell hSw q4; go_simp); with_reducible rfl
      try simp only [sxA, sxB, sxC, Act.put, sxD, sxE, sxF]
      refine tkA (i := 9) (v := ?_) rfl (fun c a w h => hpan c _ _ _ _ h) (Or.inl ⟨by rfl, ?yl⟩) (by assumption) ?_
      case yl => (intro w hSw; (try dsimp only at hSw); have k_0 := Ext.cell hSw q0; have k_1 := Ext.cell hSw q1; have k_2 := Ext.cell hSw q2; have k_3 := Ext.cell hSw q3; have k_4 := Ext.cell hSw q4; go_simp); with_reducible rfl
      try simp only [sxA, sxB, sxC, Act.put, sxD, sxE, sxF]
      refine tkA (i := 10) (v := ?_) rfl (fun c a w h => hpan c _ _ _ _ h) (Or.inl ⟨by rfl, ?yl⟩) (by assumption) ?_
      case yl => (intro w hSw; (try dsimp only at hSw); have k_0 := Ext.cell hSw q0; have k_1 := Ext.cell hSw q1; have k_2 := Ext.cell hSw q2; have k_3 := Ext.cell hSw q3; have k_4 := Ext.cell hSw q4; go_simp); with_reducible rfl
      try simp only [sxA, sxB, sxC, Act.put, sxD, sxE, sxF]
      refine tkA (i := 11) (v := ?_) rfl (fun c a w h => hpan c _ _ _ _ h) (Or.inl ⟨by rfl, ?yl⟩) (by assumption) ?_
      case yl => (intro w hSw; (try dsimp only at hSw); have k_0 := Ext.cell hSw q0; have k_1 := Ext.cell hSw q1; have k_2 := Ext.cell hSw q2; have k_3 := Ext.cell hSw q3; have k_4 := Ext.cell hSw q4; go_simp); with_reducible rfl
      try simp only [sxA, sxB, sxC, Act.put, sxD, sxE, sxF]
      refine tkA (i := 12) (v := ?_) rfl (fun c a w h => hpan c _ _ _ _ h) (Or.inl ⟨by rfl, ?yl⟩) (by assumption) ?_
      case yl => (intro w hSw; (try dsimp only at hSw); have k_0 := Ext.cell hSw q0; have k_1 := Ext.cell hSw q1; have k_2 := Ext.cell hSw q2; have k_3 := Ext.cell hSw q3; have k_4 := Ext.cell hSw q4; go_simp); with_reducible rfl
      try simp only [sxA, sxB, sxC, Act.put, sxD, sxE, sxF]
      refine tkA (i := 13) (v := ?_) rfl (fun c a w h => hpan c _ _ _ _ h) (Or.inl ⟨by rfl, ?yl⟩) (by assumption) ?_
      case yl => (intro w hSw; (try dsimp only at hSw); have k_0 := Ext.cell hSw q0; have k_1 := Ext.cell hSw q1; have k_2 := Ext.cell hSw q2; have k_3 := Ext.cell hSw q3; have k_4 := Ext.cell hSw q4; go_simp); with_reducible rfl
      try simp only [sxA, sxB, sxC, Act.put, sxD, sxE, sxF]
      refine tkA (i := 14) (v := ?_) rfl (fun c a w h => hpan c _ _ _ _ h) (Or.inl ⟨by rfl, ?yl⟩) (by assumption) ?_
      case yl => (intro w hSw; (try dsimp only at hSw); have k_0 := Ext.cell hSw q0; have k_1 := Ext.cell hSw q1; have k_2 := Ext.cell hSw q2; have k_3 := Ext.cell hSw q3; have k_4 := Ext.cell hSw q4; go_simp); with_reducible rfl
      try simp only [sxA, sxB, sxC, Act.put, sxD, sxE, sxF]
      refine tkA (i := 15) (v := ?_) rfl (fun c a w h => hpan c _ _ _ _ h) (Or.inl ⟨by rfl, ?yl⟩) (by assumption) ?_
      case yl => (intro w hSw; (try dsimp only at hSw); have k_0 := Ext.cell hSw q0; have k_1 := Ext.cell hSw q1; have k_2 := Ext.cell hSw q2; have k_3 := Ext.cell hSw q3; have k_4 := Ext.cell hSw q4; go_simp); with_reducible rfl
      try simp only [sxA, sxB, sxC, Act.put, sxD, sxE, sxF]
      refine tkA (i := 16) (v := ?_) rfl (fun c a w h => hpan c _ _ _ _ h) (Or.inl ⟨by rfl, ?yl⟩) (by assumption) ?_
      case yl => (intro w hSw; (try dsimp only at hSw); have k_0 := Ext.cell hSw q0; have k_1 := Ext.cell hSw q1; have k_2 := Ext.cell hSw q2; have k_3 := Ext.cell hSw q3; have k_4 := Ext.cell hSw q4; go_simp); with_reducible rfl
      try simp only [sxA, sxB, sxC, Act.put, sxD, sxE, sxF]
      refine tkA (i := 17) (v := ?_) rfl (fun c a w h => hpan c _ _ _ _ h) (Or.inl ⟨by rfl, ?yl⟩) (by assumption) ?_
      case yl => (intro w hSw; (try dsimp only at hSw); have k_0 := Ext.cell hSw q0; have k_1 := Ext.cell hSw q1; have k_2 := Ext.cell hSw q2; have k_3 := Ext.cell hSw q3; have k_4 := Ext.cell hSw q4; go_simp); with_reducible rfl
      try simp only [sxA, sxB, sxC, Act.put, sxD, sxE, sxF]
      refine tkA (i := 18) (v := ?_) rfl (fun c a w h => hpan c _ _ _ _ h) (Or.inl ⟨by rfl, ?yl⟩) (by assumption) ?_
      case yl => (intro w hSw; (try dsimp only at hSw); have k_0 := Ext.cell hSw q0; have k_1 := Ext.cell hSw q1; have k_2 := Ext.cell hSw q2; have k_3 := Ext.cell hSw q3; have k_4 := Ext.cell hSw q4; go_simp); with_reducible rfl
      try simp only [sxA, sxB, sxC, Act.put, sxD, sxE, sxF]
      refine tkA (i := 19) (v := ?_) rfl (fun c a w h => hpan c _ _ _ _ h) (Or.inl ⟨by rfl, ?yl⟩) (by assumption) ?_
      case yl => (intro w hSw; (try dsimp only at hSw); have k_0 := Ext.cell hSw q0; have k_1 := Ext.cell hSw q1; have k_2 := Ext.cell hSw q2; have k_3 := Ext.cell hSw q3; have k_4 := Ext.cell hSw q4; go_simp); with_reducible rfl
      try simp only [sxA, sxB, sxC, Act.put, sxD, sxE, sxF]
      refine tkA (i := 20) (v := ?_) rfl (fun c a w h => hpan c _ _ _ _ h) (Or.inl ⟨by rfl, ?yl⟩) (by assumption) ?_
      case yl => (intro w hSw; (try dsimp only at hSw); have k_0 := Ext.cell hSw q0; have k_1 := Ext.cell hSw q1; have k_2 := Ext.cell hSw q2; have k_3 := Ext.cell hSw q3; have k_4 := Ext.cell hSw q4; go_simp); with_reducible rfl
      try simp only [sxA, sxB, sxC, Act.put, sxD, sxE, sxF]
      refine tkA (i := 21) (v := ?_) rfl (fun c a w h => hpan c _ _ _ _ h) (Or.inl ⟨by rfl, ?yl⟩) (by assumption) ?_
      case yl => (intro w hSw; (try dsimp only at hSw); have k_0 := Ext.cell hSw q0; have k_1 := Ext.cell hSw q1; have k_2 := Ext.cell hSw q2; have k_3 := Ext.cell hSw q3; have k_4 := Ext.cell hSw q4; go_simp); with_reducible rfl
      try simp only [sxA, sxB, sxC, Act.put, sxD, sxE, sxF]
      refine tkA (i := 22) (v := ?_) rfl (fun c a w h => hpan c _ _ _ _ h) (Or.inl ⟨by rfl, ?yl⟩) (by assumption) ?_
      case yl => (intro w hSw; (try dsimp only at hSw); have k_0 := Ext.cell hSw q0; have k_1 := Ext.cell hSw q1; have k_2 := Ext.cell hSw q2; have k_3 := Ext.cell hSw q3; have k_4 := Ext.cell hSw q4; go_simp); with_reducible rfl
      try simp only [sxA, sxB, sxC, Act.put, sxD, sxE, sxF]
      refine tkA (i := 23) (v := ?_) rfl (fun c a w h => hpan c _ _ _ _ h) (Or.inl ⟨by rfl, ?yl⟩) (by assumption) ?_
      case yl => (intro w hSw; (try dsimp only at hSw); have k_0 := Ext.cell hSw q0; have k_1 := Ext.cell hSw q1; have k_2 := Ext.cell hSw q2; have k_3 := Ext.cell hSw q3; have k_4 := Ext.cell hSw q4; go_simp); with_reducible rfl
      try simp only [sxA, sxB, sxC, Act.put, sxD, sxE, sxF]
      refine tkA (i := 24) (v := ?_) rfl (fun c a w h => hpan c _ _ _ _ h) (Or.inl ⟨by rfl, ?yl⟩) (by assumption) ?_
      case yl => (intro w hSw; (try dsimp only at hSw); have k_0 := Ext.cell hSw q0; have k_1 := Ext.cell hSw q1; have k_2 := Ext.cell hSw q2; have k_3 := Ext.cell hSw q3; have k_4 := Ext.cell hSw q4; go_simp); with_reducible rfl
      try simp only [sxA, sxB, sxC, Act.put, sxD, sxE, sxF]
      refine tkA (i := 25) (v := ?_) rfl (fun c a w h => hpan c _ _ _ _ h) (Or.inl ⟨by rfl, ?yl⟩) (by assumption) ?_
      case yl => (intro w hSw; (try dsimp only at hSw); have k_0 := Ext.cell hSw q0; have k_1 := Ext.cell hSw q1; have k_2 := Ext.cell hSw q2; have k_3 := Ext.cell hSw q3; have k_4 := Ext.cell hSw q4; go_simp); with_reducible rfl
      try simp only [sxA, sxB, sxC, Act.put, sxD, sxE, sxF]
      refine tkA (i := 26) (v := ?_) rfl (fun c a w h => hpan c _ _ _ _ h) (Or.inl ⟨by rfl, ?yl⟩) (by assumption) ?_
      case yl => (intro w hSw; (try dsimp only at hSw); have k_0 := Ext.cell hSw q0; have k_1 := Ext.cell hSw q1; have k_2 := Ext.cell hSw q2; have k_3 := Ext.cell hSw q3; have k_4 := Ext.cell hSw q4; go_simp); with_reducible rfl
      try simp only [sxA, sxB, sxC, Act.put, sxD, sxE, sxF]
      refine tkA (i := 27) (v := ?_) rfl (fun c a w h => hpan c _ _ _ _ h) (Or.inl ⟨by rfl, ?yl⟩) (by assumption) ?_
      case yl => (intro w hSw; (try dsimp only at hSw); have k_0 := Ext.cell hSw q0; have k_1 := Ext.cell hSw q1; have k_2 := Ext.cell hSw q2; have k_3 := Ext.cell hSw q3; have k_4 := Ext.cell hSw q4; go_simp); with_reducible rfl
      try simp only [sxA, sxB, sxC, Act.put, sxD, sxE, sxF]
      refine tkA (i := 28) (v := undef) rfl (fun c a w h => hpan c _ _ _ _ h) (Or.inr ⟨by kernel_rfl, rfl⟩) (by assumption) ?_
      try simp only [sxA, sxB, sxC, Act.put, sxD, sxE, sxF]
      refine tkA (i := 29) (v := undef) rfl (fun c a w h => hpan c _ _ _ _ h) (Or.inr ⟨by kernel_rfl, rfl⟩) (by assumption) ?_
      try simp only [sxA, sxB, sxC, Act.put, sxD, sxE, sxF]
      refine tkA (i := 30) (v := undef) rfl (fun c a w h => hpan c _ _ _ _ h) (Or.inr ⟨by kernel_rfl, rfl⟩) (by assumption) ?_
      try simp only [sxA, sxB, sxC, Act.put, sxD, sxE, sxF]
      refine tkA (i := 31) (v := undef) rfl (fun c a w h => hpan c _ _ _ _ h) (Or.inr ⟨by kernel_rfl, rfl⟩) (by assumption) ?_
      try simp only [sxA, sxB, sxC, Act.put, sxD, sxE, sxF]
      refine tkA (i := 32) (v := undef) rfl (fun c a w h => hpan c _ _ _ _ h) (Or.inr ⟨by kernel_rfl, rfl⟩) (by assumption) ?_
      try simp only [sxA, sxB, sxC, Act.put, sxD, sxE, sxF]
      refine tkA (i := 33) (v := undef) rfl (fun c a w h => hpan c _ _ _ _ h) (Or.inr ⟨by kernel_rfl, rfl⟩) (by assumption) ?_
      try simp only [sxA, sxB, sxC, Act.put, sxD, sxE, sxF]
      refine tkA (i := 34) (v := undef) rfl (fun c a w h => hpan c _ _ _ _ h) (Or.inr ⟨by kernel_rfl, rfl⟩) (by assumption) ?_
      try simp only [sxA, sxB, sxC, Act.put, sxD, sxE, sxF]
      refine tkA (i := 35) (v := undef) rfl (fun c a w h => hpan c _ _ _ _ h) (Or.inr ⟨by kernel_rfl, rfl⟩) (by assumption) ?_
      try simp only [sxA, sxB, sxC, Act.put, sxD, sxE, sxF]
      refine tkA (i := 36) (v := ?_) rfl (fun c a w h => hpan c _ _ _ _ h) (Or.inl ⟨by rfl, ?yl⟩) (by assumption) ?_
      case yl => (intro w hSw; (try dsimp only at hSw); have k_0 := Ext.cell hSw q0; have k_1 := Ext.cell hSw q1; have k_2 := Ext.cell hSw q2; have k_3 := Ext.cell hSw q3; have k_4 := Ext.cell hSw q4; go_simp); with_reducible rfl
      try simp only [sxA, sxB, sxC, Act.put, sxD, sxE, sxF]
      refine tkA (i := 37) (v := ?_) rfl (fun c a w h => hpan c _ _ _ _ h) (Or.inl ⟨by rfl, ?yl⟩) (by assumption) ?_
      case yl => (intro w hSw; (try dsimp only at hSw); have k_0 := Ext.cell hSw q0; have k_1 := Ext.cell hSw q1; have k_2 := Ext.cell hSw q2; have k_3 := Ext.cell hSw q3; have k_4 := Ext.cell hSw q4; go_simp); with_reducible rfl
      try simp only [sxA, sxB, sxC, Act.put, sxD, sxE, sxF]
      refine tkA (i := 38) (v := ?_) rfl (fun c a w h => hpan c _ _ _ _ h) (Or.inl ⟨by rfl, ?yl⟩) (by assumption) ?_
      case yl => (intro w hSw; (try dsimp only at hSw); have k_0 := Ext.cell hSw q0; have k_1 := Ext.cell hSw q1; have k_2 := Ext.cell hSw q2; have k_3 := Ext.cell hSw q3; have k_4 := Ext.cell hSw q4; go_simp); with_reducible rfl
      try simp only [sxA, sxB, sxC, Act.put, sxD, sxE, sxF]
      refine tkA (i := 39) (v := ?_) rfl (fun c a w h => hpan c _ _ _ _ h) (Or.inl ⟨by rfl, ?yl⟩) (by assumption) ?_
      case yl => (intro w hSw; (try dsimp only at hSw); have k_0 := Ext.cell hSw q0; have k_1 := Ext.cell hSw q1; have k_2 := Ext.cell hSw q2; have k_3 := Ext.cell hSw q3; have k_4 := Ext.cell hSw q4; go_simp); with_reducible rfl
      try simp only [sxA, sxB, sxC, Act.put, sxD, sxE, sxF]
      refine wpAnyH_ready (rs := [40]) (by kernel_rfl) (by simp) ?_
      refine AllReadyH.cons (o := _) rfl (fun K hK => ?_) AllReadyH.nil
      go_simp
      refine (works_any _).mono ?_; rintro e W2 ⟨rfl, e2⟩
      have s2 := s1.trans e2
      refine hK.out _ _ s2 (fun _ => ?_)
      clear hK K
      (try simp only [sxA, sxB, sxC, Act.put, sxD, sxE, sxF])
      refine tkA (i := 41) (v := ?_) rfl (fun c a w h => hpan c _ _ _ _ h) (Or.inl ⟨by rfl, ?yl⟩) (by assumption) ?_
      case yl => (intro w hSw; (try dsimp only at hSw); have k_0 := Ext.cell hSw q0; have k_1 := Ext.cell hSw q1; have k_2 := Ext.cell hSw q2; have k_3 := Ext.cell hSw q3; have k_4 := Ext.cell hSw q4; go_simp); with_reducible rfl
      try simp only [sxA, sxB, sxC, Act.put, sxD, sxE, sxF]
      refine tkA (i := 42) (v := ?_) rfl (fun c a w h => hpan c _ _ _ _ h) (Or.inl ⟨by rfl, ?yl⟩) (by assumption) ?_
      case yl => (intro w hSw; (try dsimp only at hSw); have k_0 := Ext.cell hSw q0; have k_1 := Ext.cell hSw q1; have k_2 := Ext.cell hSw q2; have k_3 := Ext.cell hSw q3; have k_4 := Ext.cell hSw q4; go_simp); with_reducible rfl
      try simp only [sxA, sxB, sxC, Act.put, sxD, sxE, sxF]
      refine wpAnyH_done (by kernel_rfl) ?_ _
      try simp only [sxA, sxB, sxC, Act.put, sxD, sxE, sxF]
      rw [hQ2.out]
      refine ⟨rfl, ?u5_0_1, ?u5_1_1, ?u5_2_1, ?u5_3_1, ?u5_4_1, ?u5_5_1, ?u5_6_1, ?u5_7_1, ?u5_8_1, ?u5_9_1, ?u5_10_1, ?u5_11_1, ?u5_12_1, ?u5_13_1, ?u5_14_1, ?u5_15_1, ?u5_16_1, ?u5_17_1, ?u5_18_1, ?u5_19_1, ?u5_20_1, ?u5_21_1, ?u5_22_1, ?u5_23_1, ?u5_24_1, ?u5_25_1, ?u5_26_1, ?u5_27_1, ?u5_28_1, ?u5_29_1, ?u5_30_1, ?u5_31_1, ?eq5_1, s2⟩
      case eq5_1 => ((try simp only [sxA, sxB, sxC, Act.put, sxD, sxE, sxF]); first | done | with_reducible rfl | rfl)
     rw [hQ2.out]
     rintro e a' d10 ⟨rfl, v0_, v1_, v2_, v4_, v5_, v6_, v7_, v8_, v9_, v10_, v11_, v12_, v13_, v14_, v15_, v16_, v17_, v18_, v19_, v20_, v21_, v22_, v23_, v24_, v25_, v26_, v27_, v36_, v37_, v38_, v39_, v41_, rfl, x⟩
     clear hQ2 hpan; clear Q2
     subst hA_
     simp only [sxA, sxB, sxC, Act.put, sxD, sxE, sxF]
     clear q0 q1 q2 q3 q4
     replace mt0 := hid (x.cell mt0.out)
     replace f0 := hid (x.cell f0.out)
     replace f1 := hid (x.cell f1.out)
     replace f2 := hid (x.cell f2.out)
     replace f3 := hid (x.cell f3.out)
     replace f4 := hid (x.cell f4.out)
     replace bv0 := hid (x.cell bv0.out)
     replace bv1 := hid (x.cell bv1.out)
     replace bp0 := hid (x.cell bp0.out)
     replace bp1 := hid (x.cell bp1.out)
     replace X := hid (X.out.trans x)
     clear x
     go_wp2_with fail
     go_ret
     exact ⟨rfl, X.out⟩
    ·have hoK : (k : Int) ≤ (l : Int) := by omega
     clear hord h5 hsame hj
     subst ho1
     have hoI : ¬ (j : Int) < (j : Int) := by omega
     have q0 := mt0.out
     have q1 := f1.out
     have q2 := f2.out
     have q3 := f3.out
     have q4 := f4.out
     refine name_act (fun A_ hA_ => ?_)
     obtain ⟨Q2, hQ2⟩ : ∃ Q2 : Exit → Act → World → Prop, Q2 = fun e a' w' => e = .normal ∧ ∃ (v0_ v1_ v2_ v4_ v5_ v6_ v7_ v8_ v9_ v10_ v11_ v12_ v13_ v14_ v15_ v16_ v17_ v18_ v19_ v20_ v21_ v22_ v23_ v24_ v25_ v26_ v27_ v28_ v29_ v30_ v31_ v32_ v33_ v34_ v35_ v36_ v37_ v38_ v39_ v41_ : Value), a' = (((((((((((((((((((((((((((((((((((((((((((A_.put (some 136) (v0_)).put (some 137) (v1_)).put (some 138) (v2_)).put (some 139) (.bool true)).put (some 140) (v4_)).put (some 141) (v5_)).put (some 142) (v6_)).put (some 143) (v7_)).put (some 144) (v8_)).put (some 145) (v9_)).put (some 146) (v10_)).put (some 147) (v11_)).put (some 148) (v12_)).put (some 149) (v13_)).put (some 150) (v14_)).put (some 151) (v15_)).put (some 152) (v16_)).put (some 153) (v17_)).put (some 154) (v18_)).put (some 155) (v19_)).put (some 156) (v20_)).put (some 157) (v21_)).put (some 158) (v22_)).put (some 159) (v23_)).put (some 160) (v24_)).put (some 161) (v25_)).put (some 162) (v26_)).put (some 163) (v27_)).put (some 164) (v28_)).put (some 165) (v29_)).put (some 166) (v30_)).put (some 167) (v31_)).put (some 168) (v32_)).put (some 169) (v33_)).put (some 170) (v34_)).put (some 171) (v35_)).put (some 172) (v36_)).put (some 173) (v37_)).put (some 174) (v38_)).put (some 175) (v39_)).put (some 176) (.bool true)).put (some 177) (v41_)).put (some 6) (.bool true)) ∧ Ext d9 w' := ⟨_, rfl⟩
     have hpan : ∀ c a a' w w', Q2 (.panic c) a w → Q2 (.panic c) a' w' := by rw [hQ2]; rintro c a a' w w' ⟨h, _⟩; cases h
     replace hQ2 := hid hQ2
     refine wp_mono (Q := Q2) ?_ ?_
     ·subst hA_
      refine wp_region_held_drew (S := fun w' => Ext d9 w') (by kernel_rfl) (by repeat (with_reducible first | assumption | exact Ext.refl _ | refine Ext.drew ?_ | refine Ext.drewN ?_ _ | refine Ext.alloc ?_ _ | refine xS ?_ _ | refine xT ?_ (by assumption))) fun hHeld => ?_
      refine name_any (fun W0 hW => ?_)
      have s0 : Ext d9 W0 := by rw [hW]; exact hHeld
      clear hW hHeld
      refine tkA (i := 0) (v := ?_) rfl (fun c a w h => hpan c _ _ _ _ h) (Or.inl ⟨by rfl, ?yl⟩) (by assumption) ?_
      case yl => (intro w hSw; (try dsimp only at hSw); have k_0 := Ext.cell hSw q0; have k_1 := Ext.cell hSw q1; have k_2 := Ext.cell hSw q2; have k_3 := Ext.cell hSw q3; have k_4 := Ext.cell hSw q4; go_simp); with_reducible rfl
      try simp only [sxA, sxB, sxC, Act.put, sxD, sxE, sxF]
      refine tkA (i := 1) (v := ?_) rfl (fun c a w h => hpan c _ _ _ _ h) (Or.inl ⟨by rfl, ?yl⟩) (by assumption) ?_
      case yl => (intro w hSw; (try dsimp only at hSw); have k_0 := Ext.cell hSw q0; have k_1 := Ext.cell hSw q1; have k_2 := Ext.cell hSw q2; have k_3 := Ext.cell hSw q3; have k_4 := Ext.cell hSw q4; go_simp); with_reducible rfl
      try simp only [sxA, sxB, sxC, Act.put, sxD, sxE, sxF]
      refine tkA (i := 2) (v := ?_) rfl (fun c a w h => hpan c _ _ _ _ h) (Or.inl ⟨by rfl, ?yl⟩) (by assumption) ?_
      case yl => (intro w hSw; (try dsimp only at hSw); have k_0 := Ext.cell hSw q0; have k_1 := Ext.cell hSw q1; have k_2 := Ext.cell hSw q2; have k_3 := Ext.cell hSw q3; have k_4 := Ext.cell hSw q4; go_simp); with_reducible rfl
      try simp only [sxA, sxB, sxC, Act.put, sxD, sxE, sxF]
      refine wpAnyH_ready (rs := [3]) (by kernel_rfl) (by simp) ?_
      refine AllReadyH.cons (o := _) rfl (fun K hK => ?_) AllReadyH.nil
      go_simp
      refine (h6.out _ (hT'.out.ext (X.out.trans s0))).mono ?_; rintro e W1 ⟨rfl, e1⟩
      have s1 := s0.trans e1
      refine hK.out _ _ s1 (fun _ => ?_)
      clear hK K
      (try simp only [sxA, sxB, sxC, Act.put, sxD, sxE, sxF])
      refine tkA (i := 4) (v := ?_) rfl (fun c a w h => hpan c _ _ _ _ h) (Or.inl ⟨by rfl, ?yl⟩) (by assumption) ?_
      case yl => (intro w hSw; (try dsimp only at hSw); have k_0 := Ext.cell hSw q0; have k_1 := Ext.cell hSw q1; have k_2 := Ext.cell hSw q2; have k_3 := Ext.cell hSw q3; have k_4 := Ext.cell hSw q4; go_simp); with_reducible rfl
      try simp only [sxA, sxB, sxC, Act.put, sxD, sxE, sxF]
      refine tkA (i := 5) (v := ?_) rfl (fun c a w h => hpan c _ _ _ _ h) (Or.inl ⟨by rfl, ?yl⟩) (by assumption) ?_
      case yl => (intro w hSw; (try dsimp only at hSw); have k_0 := Ext.cell hSw q0; have k_1 := Ext.cell hSw q1; have k_2 := Ext.cell hSw q2; have k_3 := Ext.cell hSw q3; have k_4 := Ext.cell hSw q4; go_simp); with_reducible rfl
      try simp only [sxA, sxB, sxC, Act.put, sxD, sxE, sxF]
      refine tkA (i := 6) (v := ?_) rfl (fun c a w h => hpan c _ _ _ _ h) (Or.inl ⟨by rfl, ?yl⟩) (by assumption) ?_
      case yl => (intro w hSw; (try dsimp only at hSw); have k_0 := Ext.cell hSw q0; have k_1 := Ext.cell hSw q1; have k_2 := Ext.cell hSw q2; have k_3 := Ext.cell hSw q3; have k_4 := Ext.cell hSw q4; go_simp); with_reducible rfl
      try simp only [sxA, sxB, sxC, Act.put, sxD, sxE, sxF]
      refine tkA (i := 7) (v := ?_) rfl (fun c a w h => hpan c _ _ _ _ h) (Or.inl ⟨by rfl, ?yl⟩) (by assumption) ?_
      case yl => (intro w hSw; (try dsimp only at hSw); have k_0 := Ext.cell hSw q0; have k_1 := Ext.cell hSw q1; have k_2 := Ext.cell hSw q2; have k_3 := Ext.cell hSw q3; have k_4 := Ext.cell hSw q4; go_simp); with_reducible rfl
      try simp only [sxA, sxB, sxC, Act.put, sxD, sxE, sxF]
      refine tkA (i := 8) (v := ?_) rfl (fun c a w h => hpan c _ _ _ _ h) (Or.inl ⟨by rfl, ?yl⟩) (by assumption) ?_
      case yl => (intro w hSw; (try dsimp only at hSw); have k_0 := Ext.cell hSw q0; have k_1 := Ext.cell hSw q1; have k_2 := Ext.cell hSw q2; have k_3 := Ext.cell hSw q3; have k_4 := Ext.cell hSw q4; go_simp); with_reducible rfl
      try simp only [sxA, sxB, sxC, Act.put, sxD, sxE, sxF]
      refine tkA (i := 9) (v := ?_) rfl (fun c a w h => hpan c _ _ _ _ h) (Or.inl ⟨by rfl, ?yl⟩) (by assumption) ?_
      case yl => (intro w hSw; (try dsimp only at hSw); have k_0 := Ext.cell hSw q0; have k_1 := Ext.cell hSw q1; have k_2 := Ext.cell hSw q2; have k_3 := Ext.cell hSw q3; have k_4 := Ext.cell hSw q4; go_simp); with_reducible rfl
      try simp only [sxA, sxB, sxC, Act.put, sxD, sxE, sxF]
      refine tkA (i := 10) (v := ?_) rfl (fun c a w h => hpan c _ _ _ _ h) (Or.inl ⟨by rfl, ?yl⟩) (by assumption) ?_
      case yl => (intro w hSw; (try dsimp only at hSw); have k_0 := Ext.cell hSw q0; have k_1 := Ext.cell hSw q1; have k_2 := Ext.cell hSw q2; have k_3 := Ext.cell hSw q3; have k_4 := Ext.cell hSw q4; go_simp); with_reducible rfl
      try simp only [sxA, sxB, sxC, Act.put, sxD, sxE, sxF]
      refine tkA (i := 11) (v := ?_) rfl (fun c a w h => hpan c _ _ _ _ h) (Or.inl ⟨by rfl, ?yl⟩) (by assumption) ?_
      case yl => (intro w hSw; (try dsimp only at hSw); have k_0 := Ext.cell hSw q0; have k_1 := Ext.cell hSw q1; have k_2 := Ext.cell hSw q2; have k_3 := Ext.cell hSw q3; have k_4 := Ext.cell hSw q4; go_simp); with_reducible rfl
      try simp only [sxA, sxB, sxC, Act.put, sxD, sxE, sxF]
      refine tkA (i := 12) (v := ?_) rfl (fun c a w h => hpan c _ _ _ _ h) (Or.inl ⟨by rfl, ?yl⟩) (by assumption) ?_
      case yl => (intro w hSw; (try dsimp only at hSw); have k_0 := Ext.cell hSw q0; have k_1 := Ext.cell hSw q1; have k_2 := Ext.cell hSw q2; have k_3 := Ext.cell hSw q3; have k_4 := Ext.cell hSw q4; go_simp); with_reducible rfl
      try simp only [sxA, sxB, sxC, Act.put, sxD, sxE, sxF]
      refine tkA (i := 13) (v := ?_) rfl (fun c a w h => hpan c _ _ _ _ h) (Or.inl ⟨by rfl, ?yl⟩) (by assumption) ?_
      case yl => (intro w hSw; (try dsimp only at hSw); have k_0 := Ext.cell hSw q0; have k_1 := Ext.cell hSw q1; have k_2 := Ext.cell hSw q2; have k_3 := Ext.cell hSw q3; have k_4 := Ext.cell hSw q4; go_simp); with_reducible rfl
      try simp only [sxA, sxB, sxC, Act.put, sxD, sxE, sxF]
      refine tkA (i := 14) (v := ?_) rfl (fun c a w h => hpan c _ _ _ _ h) (Or.inl ⟨by rfl, ?yl⟩) (by assumption) ?_
      case yl => (intro w hSw; (try dsimp only at hSw); have k_0 := Ext.cell hSw q0; have k_1 := Ext.cell hSw q1; have k_2 := Ext.cell hSw q2; have k_3 := Ext.cell hSw q3; have k_4 := Ext.cell hSw q4; go_simp); with_reducible rfl
      try simp only [sxA, sxB, sxC, Act.put, sxD, sxE, sxF]
      refine tkA (i := 15) (v := ?_) rfl (fun c a w h => hpan c _ _ _ _ h) (Or.inl ⟨by rfl, ?yl⟩) (by assumption) ?_
      case yl => (intro w hSw; (try dsimp only at hSw); have k_0 := Ext.cell hSw q0; have k_1 := Ext.cell hSw q1; have k_2 := Ext.cell hSw q2; have k_3 := Ext.cell hSw q3; have k_4 := Ext.cell hSw q4; go_simp); with_reducible rfl
      try simp only [sxA, sxB, sxC, Act.put, sxD, sxE, sxF]
      refine tkA (i := 16) (v := ?_) rfl (fun c a w h => hpan c _ _ _ _ h) (Or.inl ⟨by rfl, ?yl⟩) (by assumption) ?_
      case yl => (intro w hSw; (try dsimp only at hSw); have k_0 := Ext.cell hSw q0; have k_1 := Ext.cell hSw q1; have k_2 := Ext.cell hSw q2; have k_3 := Ext.cell hSw q3; have k_4 := Ext.cell hSw q4; go_simp); with_reducible rfl
      try simp only [sxA, sxB, sxC, Act.put, sxD, sxE, sxF]
      refine tkA (i := 17) (v := ?_) rfl (fun c a w h => hpan c _ _ _ _ h) (Or.inl ⟨by rfl, ?yl⟩) (by assumption) ?_
      case yl => (intro w hSw; (try dsimp only at hSw); have k_0 := Ext.cell hSw q0; have k_1 := Ext.cell hSw q1; have k_2 := Ext.cell hSw q2; have k_3 := Ext.cell hSw q3; have k_4 := Ext.cell hSw q4; go_simp); with_reducible rfl
      try simp only [sxA, sxB, sxC, Act.put, sxD, sxE, sxF]
      refine tkA (i := 18) (v := ?_) rfl (fun c a w h => hpan c _ _ _ _ h) (Or.inl ⟨by rfl, ?yl⟩) (by assumption) ?_
      case yl => (intro w hSw; (try dsimp only at hSw); have k_0 := Ext.cell hSw q0; have k_1 := Ext.cell hSw q1; have k_2 := Ext.cell hSw q2; have k_3 := Ext.cell hSw q3; have k_4 := Ext.cell hSw q4; go_simp); with_reducible rfl
      try simp only [sxA, sxB, sxC, Act.put, sxD, sxE, sxF]
      refine tkA (i := 19) (v := ?_) rfl (fun c a w h => hpan c _ _ _ _ h) (Or.inl ⟨by rfl, ?yl⟩) (by assumption) ?_
      case yl => (intro w hSw; (try dsimp only at hSw); have k_0 := Ext.cell hSw q0; have k_1 := Ext.cell hSw q1; have k_2 := Ext.cell hSw q2; have k_3 := Ext.cell hSw q3; have k_4 := Ext.cell hSw q4; go_simp); with_reducible rfl
      try simp only [sxA, sxB, sxC, Act.put, sxD, sxE, sxF]
      refine tkA (i := 20) (v := ?_) rfl (fun c a w h => hpan c _ _ _ _ h) (Or.inl ⟨by rfl, ?yl⟩) (by assumption) ?_
      case yl => (intro w hSw; (try dsimp only at hSw); have k_0 := Ext.cell hSw q0; have k_1 := Ext.cell hSw q1; have k_2 := Ext.cell hSw q2; have k_3 := Ext.cell hSw q3; have k_4 := Ext.cell hSw q4; go_simp); with_reducible rfl
      try simp only [sxA, sxB, sxC, Act.put, sxD, sxE, sxF]
      refine tkA (i := 21) (v := ?_) rfl (fun c a w h => hpan c _ _ _ _ h) (Or.inl ⟨by rfl, ?yl⟩) (by assumption) ?_
      case yl => (intro w hSw; (try dsimp only at hSw); have k_0 := Ext.cell hSw q0; have k_1 := Ext.cell hSw q1; have k_2 := Ext.cell hSw q2; have k_3 := Ext.cell hSw q3; have k_4 := Ext.cell hSw q4; go_simp); with_reducible rfl
      try simp only [sxA, sxB, sxC, Act.put, sxD, sxE, sxF]
      refine tkA (i := 22) (v := ?_) rfl (fun c a w h => hpan c _ _ _ _ h) (Or.inl ⟨by rfl, ?yl⟩) (by assumption) ?_
      case yl => (intro w hSw; (try dsimp only at hSw); have k_0 := Ext.cell hSw q0; have k_1 := Ext.cell hSw q1; have k_2 := Ext.cell hSw q2; have k_3 := Ext.cell hSw q3; have k_4 := Ext.cell hSw q4; go_simp); with_reducible rfl
      try simp only [sxA, sxB, sxC, Act.put, sxD, sxE, sxF]
      refine tkA (i := 23) (v := ?_) rfl (fun c a w h => hpan c _ _ _ _ h) (Or.inl ⟨by rfl, ?yl⟩) (by assumption) ?_
      case yl => (intro w hSw; (try dsimp only at hSw); have k_0 := Ext.cell hSw q0; have k_1 := Ext.cell hSw q1; have k_2 := Ext.cell hSw q2; have k_3 := Ext.cell hSw q3; have k_4 := Ext.cell hSw q4; go_simp); with_reducible rfl
      try simp only [sxA, sxB, sxC, Act.put, sxD, sxE, sxF]
      refine tkA (i := 24) (v := ?_) rfl (fun c a w h => hpan c _ _ _ _ h) (Or.inl ⟨by rfl, ?yl⟩) (by assumption) ?_
      case yl => (intro w hSw; (try dsimp only at hSw); have k_0 := Ext.cell hSw q0; have k_1 := Ext.cell hSw q1; have k_2 := Ext.cell hSw q2; have k_3 := Ext.cell hSw q3; have k_4 := Ext.cell hSw q4; go_simp); with_reducible rfl
      try simp only [sxA, sxB, sxC, Act.put, sxD, sxE, sxF]
      refine tkA (i := 25) (v := ?_) rfl (fun c a w h => hpan c _ _ _ _ h) (Or.inl ⟨by rfl, ?yl⟩) (by assumption) ?_
      case yl => (intro w hSw; (try dsimp only at hSw); have k_0 := Ext.cell hSw q0; have k_1 := Ext.cell hSw q1; have k_2 := Ext.cell hSw q2; have k_3 := Ext.cell hSw q3; have k_4 := Ext.cell hSw q4; go_simp); with_reducible rfl
      try simp only [sxA, sxB, sxC, Act.put, sxD, sxE, sxF]
      refine tkA (i := 26) (v := ?_) rfl (fun c a w h => hpan c _ _ _ _ h) (Or.inl ⟨by rfl, ?yl⟩) (by assumption) ?_
      case yl => (intro w hSw; (try dsimp only at hSw); have k_0 := Ext.cell hSw q0; have k_1 := Ext.cell hSw q1; have k_2 := Ext.cell hSw q2; have k_3 := Ext.cell hSw q3; have k_4 := Ext.cell hSw q4; go_simp); with_reducible rfl
      try simp only [sxA, sxB, sxC, Act.put, sxD, sxE, sxF]
      refine tkA (i := 27) (v := ?_) rfl (fun c a w h => hpan c _ _ _ _ h) (Or.inl ⟨by rfl, ?yl⟩) (by assumption) ?_
      case yl => (intro w hSw; (try dsimp only at hSw); have k_0 := Ext.cell hSw q0; have k_1 := Ext.cell hSw q1; have k_2 := Ext.cell hSw q2; have k_3 := Ext.cell hSw q3; have k_4 := Ext.cell hSw q4; go_simp); with_reducible rfl
      try simp only [sxA, sxB, sxC, Act.put, sxD, sxE, sxF]
      refine tkA (i := 28) (v := ?_) rfl (fun c a w h => hpan c _ _ _ _ h) (Or.inl ⟨by rfl, ?yl⟩) (by assumption) ?_
      case yl => (intro w hSw; (try dsimp only at hSw); have k_0 := Ext.cell hSw q0; have k_1 := Ext.cell hSw q1; have k_2 := Ext.cell hSw q2; have k_3 := Ext.cell hSw q3; have k_4 := Ext.cell hSw q4; go_simp); with_reducible rfl
      try simp only [sxA, sxB, sxC, Act.put, sxD, sxE, sxF]
      refine tkA (i := 29) (v := ?_) rfl (fun c a w h => hpan c _ _ _ _ h) (Or.inl ⟨by rfl, ?yl⟩) (by assumption) ?_
      case yl => (intro w hSw; (try dsimp only at hSw); have k_0 := Ext.cell hSw q0; have k_1 := Ext.cell hSw q1; have k_2 := Ext.cell hSw q2; have k_3 := Ext.cell hSw q3; have k_4 := Ext.cell hSw q4; go_simp); with_reducible rfl
      try simp only [sxA, sxB, sxC, Act.put, sxD, sxE, sxF]
      refine tkA (i := 30) (v := ?_) rfl (fun c a w h => hpan c _ _ _ _ h) (Or.inl ⟨by rfl, ?yl⟩) (by assumption) ?_
      case yl => (intro w hSw; (try dsimp only at hSw); have k_0 := Ext.cell hSw q0; have k_1 := Ext.cell hSw q1; have k_2 := Ext.cell hSw q2; have k_3 := Ext.cell hSw q3; have k_4 := Ext.cell hSw q4; go_simp); with_reducible rfl
      try simp only [sxA, sxB, sxC, Act.put, sxD, sxE, sxF]
      refine tkA (i := 31) (v := ?_) rfl (fun c a w h => hpan c _ _ _ _ h) (Or.inl ⟨by rfl, ?yl⟩) (by assumption) ?_
      case yl => (intro w hSw; (try dsimp only at hSw); have k_0 := Ext.cell hSw q0; have k_1 := Ext.cell hSw q1; have k_2 := Ext.cell hSw q2; have k_3 := Ext.cell hSw q3; have k_4 := Ext.cell hSw q4; go_simp); with_reducible rfl
      try simp only [sxA, sxB, sxC, Act.put, sxD, sxE, sxF]
      refine tkA (i := 32) (v := ?_) rfl (fun c a w h => hpan c _ _ _ _ h) (Or.inl ⟨by rfl, ?yl⟩) (by assumption) ?_
      case yl => (intro w hSw; (try dsimp only at hSw); have k_0 := Ext.cell hSw q0; have k_1 := Ext.cell hSw q1; have k_2 := Ext.cell hSw q2; have k_3 := Ext.cell hSw q3; have k_4 := Ext.cell hSw q4; go_simp); with_reducible rfl
      try simp only [sxA, sxB, sxC, Act.put, sxD, sxE, sxF]
      refine tkA (i := 33) (v := ?_) rfl (fun c a w h => hpan c _ _ _ _ h) (Or.inl ⟨by rfl, ?yl⟩) (by assumption) ?_
      case yl => (intro w hSw; (try dsimp only at hSw); have k_0 := Ext.cell hSw q0; have k_1 := Ext.cell hSw q1; have k_2 := Ext.cell hSw q2; have k_3 := Ext.cell hSw q3; have k_4 := Ext.cell hSw q4; go_simp); with_reducible rfl
      try simp only [sxA, sxB, sxC, Act.put, sxD, sxE, sxF]
      refine tkA (i := 34) (v := ?_) rfl (fun c a w h => hpan c _ _ _ _ h) (Or.inl ⟨by rfl, ?yl⟩) (by assumption) ?_
      case yl => (intro w hSw; (try dsimp only at hSw); have k_0 := Ext.cell hSw q0; have k_1 := Ext.cell hSw q1; have k_2 := Ext.cell hSw q2; have k_3 := Ext.cell hSw q3; have k_4 := Ext.cell hSw q4; go_simp); with_reducible rfl
      try simp only [sxA, sxB, sxC, Act.put, sxD, sxE, sxF]
      refine tkA (i := 35) (v := ?_) rfl (fun c a w h => hpan c _ _ _ _ h) (Or.inl ⟨by rfl, ?yl⟩) (by assumption) ?_
      case yl => (intro w hSw; (try dsimp only at hSw); have k_0 := Ext.cell hSw q0; have k_1 := Ext.cell hSw q1; have k_2 := Ext.cell hSw q2; have k_3 := Ext.cell hSw q3; have k_4 := Ext.cell hSw q4; go_simp); with_reducible rfl
      try simp only [sxA, sxB, sxC, Act.put, sxD, sxE, sxF]
      refine tkA (i := 36) (v := ?_) rfl (fun c a w h => hpan c _ _ _ _ h) (Or.inl ⟨by rfl, ?yl⟩) (by assumption) ?_
      case yl => (intro w hSw; (try dsimp only at hSw); have k_0 := Ext.cell hSw q0; have k_1 := Ext.cell hSw q1; have k_2 := Ext.cell hSw q2; have k_3 := Ext.cell hSw q3; have k_4 := Ext.cell hSw q4; go_simp); with_reducible rfl
      try simp only [sxA, sxB, sxC, Act.put, sxD, sxE, sxF]
      refine tkA (i := 37) (v := ?_) rfl (fun c a w h => hpan c _ _ _ _ h) (Or.inl ⟨by rfl, ?yl⟩) (by assumption) ?_
      case yl => (intro w hSw; (try dsimp only at hSw); have k_0 := Ext.cell hSw q0; have k_1 := Ext.cell hSw q1; have k_2 := Ext.cell hSw q2; have k_3 := Ext.cell hSw q3; have k_4 := Ext.cell hSw q4; go_simp); with_reducible rfl
      try simp only [sxA, sxB, sxC, Act.put, sxD, sxE, sxF]
      refine tkA (i := 38) (v := ?_) rfl (fun c a w h => hpan c _ _ _ _ h) (Or.inl ⟨by rfl, ?yl⟩) (by assumption) ?_
      case yl => (intro w hSw; (try dsimp only at hSw); have k_0 := Ext.cell hSw q0; have k_1 := Ext.cell hSw q1; have k_2 := Ext.cell hSw q2; have k_3 := Ext.cell hSw q3; have k_4 := Ext.cell hSw q4; go_simp); with_reducible rfl
      try simp only [sxA, sxB, sxC, Act.put, sxD, sxE, sxF]
      refine tkA (i := 39) (v := ?_) rfl (fun c a w h => hpan c _ _ _ _ h) (Or.inl ⟨by rfl, ?yl⟩) (by assumption) ?_
      case yl => (intro w hSw; (try dsimp only at hSw); have k_0 := Ext.cell hSw q0; have k_1 := Ext.cell hSw q1; have k_2 := Ext.cell hSw q2; have k_3 := Ext.cell hSw q3; have k_4 := Ext.cell hSw q4; go_simp); with_reducible rfl
      try simp only [sxA, sxB, sxC, Act.put, sxD, sxE, sxF]
      refine wpAnyH_ready (rs := [40]) (by kernel_rfl) (by simp) ?_
      refine AllReadyH.cons (o := _) rfl (fun K hK => ?_) AllReadyH.nil
      go_simp
      refine (works_any _).mono ?_; rintro e W2 ⟨rfl, e2⟩
      have s2 := s1.trans e2
      refine hK.out _ _ s2 (fun _ => ?_)
      clear hK K
      (try simp only [sxA, sxB, sxC, Act.put, sxD, sxE, sxF])
      refine tkA (i := 41) (v := ?_) rfl (fun c a w h => hpan c _ _ _ _ h) (Or.inl ⟨by rfl, ?yl⟩) (by assumption) ?_
      case yl => (intro w hSw; (try dsimp only at hSw); have k_0 := Ext.cell hSw q0; have k_1 := Ext.cell hSw q1; have k_2 := Ext.cell hSw q2; have k_3 := Ext.cell hSw q3; have k_4 := Ext.cell hSw q4; go_simp); with_reducible rfl
      try simp only [sxA, sxB, sxC, Act.put, sxD, sxE, sxF]
      refine tkA (i := 42) (v := ?_) rfl (fun c a w h => hpan c _ _ _ _ h) (Or.inl ⟨by rfl, ?yl⟩) (by assumption) ?_
      case yl => (intro w hSw; (try dsimp only at hSw); have k_0 := Ext.cell hSw q0; have k_1 := Ext.cell hSw q1; have k_2 := Ext.cell hSw q2; have k_3 := Ext.cell hSw q3; have k_4 := Ext.cell hSw q4; go_simp); with_reducible rfl
      try simp only [sxA, sxB, sxC, Act.put, sxD, sxE, sxF]
      refine wpAnyH_done (by kernel_rfl) ?_ _
      try simp only [sxA, sxB, sxC, Act.put, sxD, sxE, sxF]
      rw [hQ2.out]
      refine ⟨rfl, ?u6_0_1, ?u6_1_1, ?u6_2_1, ?u6_3_1, ?u6_4_1, ?u6_5_1, ?u6_6_1, ?u6_7_1, ?u6_8_1, ?u6_9_1, ?u6_10_1, ?u6_11_1, ?u6_12_1, ?u6_13_1, ?u6_14_1, ?u6_15_1, ?u6_16_1, ?u6_17_1, ?u6_18_1, ?u6_19_1, ?u6_20_1, ?u6_21_1, ?u6_22_1, ?u6_23_1, ?u6_24_1, ?u6_25_1, ?u6_26_1, ?u6_27_1, ?u6_28_1, ?u6_29_1, ?u6_30_1, ?u6_31_1, ?u6_32_1, ?u6_33_1, ?u6_34_1, ?u6_35_1, ?u6_36_1, ?u6_37_1, ?u6_38_1, ?u6_39_1, ?eq6_1, s2⟩
      case eq6_1 => ((try simp only [sxA, sxB, sxC, Act.put, sxD, sxE, sxF]); first | done | with_reducible rfl | rfl)
     rw [hQ2.out]
     rintro e a' d10 ⟨rfl, v0_, v1_, v2_, v4_, v5_, v6_, v7_, v8_, v9_, v10_, v11_, v12_, v13_, v14_, v15_, v16_, v17_, v18_, v19_, v20_, v21_, v22_, v23_, v24_, v25_, v26_, v27_, v28_, v29_, v30_, v31_, v32_, v33_, v34_, v35_, v36_, v37_, v38_, v39_, v41_, rfl, x⟩
     clear hQ2 hpan; clear Q2
     subst hA_
     simp only [sxA, sxB, sxC, Act.put, sxD, sxE, sxF]
     clear q0 q1 q2 q3 q4
     replace mt0 := hid (x.cell mt0.out)
     replace f0 := hid (x.cell f0.out)
     replace f1 := hid (x.cell f1.out)
     replace f2 := hid (x.cell f2.out)
     replace f3 := hid (x.cell f3.out)
     replace f4 := hid (x.cell f4.out)
     replace bv0 := hid (x.cell bv0.out)
     replace bv1 := hid (x.cell bv1.out)
     replace bp0 := hid (x.cell bp0.out)
     replace bp1 := hid (x.cell bp1.out)
     replace X := hid (X.out.trans x)
     clear x
     go_wp2_with fail
     go_ret
     exact ⟨rfl, X.out⟩
   ·have h6 := hid (fun W hW => (show Calls Try.prog 46 #[(.agg #[.slice (some ⟨b, off, none⟩) m cap]), .int .i64 (j : Int), .int .i64 (l : Int)] W fun e w' => e = .returned (.bool false) ∧ Ext W w' from (h5.out W hW).mono (by
     rintro e w' ⟨bb, rfl, hb, hE⟩
     obtain rfl : bb = false := by cases bb with | false => rfl | true => exact absurd (hb.1 rfl) hb2
     exact ⟨rfl, hE⟩)))
    clear hord h5 hsame
    have q0 := mt0.out
    refine name_act (fun A_ hA_ => ?_)
    obtain ⟨Q2, hQ2⟩ : ∃ Q2 : Exit → Act → World → Prop, Q2 = fun e a' w' => e = .normal ∧ ∃ (v0_ v1_ v2_ v4_ v5_ v38_ v39_ v41_ : Value), a' = (((((((((((((((((((((((((((((((((((((((((((A_.put (some 136) (v0_)).put (some 137) (v1_)).put (some 138) (v2_)).put (some 139) (.bool false)).put (some 140) (v4_)).put (some 141) (v5_)).put (some 142) (undef)).put (some 143) (undef)).put (some 144) (undef)).put (some 145) (undef)).put (some 146) (undef)).put (some 147) (undef)).put (some 148) (undef)).put (some 149) (undef)).put (some 150) (undef)).put (some 151) (undef)).put (some 152) (undef)).put (some 153) (undef)).put (some 154) (undef)).put (some 155) (undef)).put (some 156) (undef)).put (some 157) (undef)).put (some 158) (undef)).put (some 159) (undef)).put (some 160) (undef)).put (some 161) (undef)).put (some 162) (undef)).put (some 163) (undef)).put (some 164) (undef)).put (some 165) (undef)).put (some 166) (undef)).put (some 167) (undef)).put (some 168) (undef)).put (some 169) (undef)).put (some 170) (undef)).put (some 171) (undef)).put (some 172) (undef)).put (some 173) (undef)).put (some 174) (v38_)).put (some 175) (v39_)).put (some 176) (.bool true)).put (some 177) (v41_)).put (some 6) (.bool true)) ∧ Ext d9 w' := ⟨_, rfl⟩
    have hpan : ∀ c a a' w w', Q2 (.panic c) a w → Q2 (.panic c) a' w' := by rw [hQ2]; rintro c a a' w w' ⟨h, _⟩; cases h
    replace hQ2 := hid hQ2
    refine wp_mono (Q := Q2) ?_ ?_
    ·subst hA_
     refine wp_region_held_drew (S := fun w' => Ext d9 w') (by kernel_rfl) (by repeat (with_reducible first | assumption | exact Ext.refl _ | refine Ext.drew ?_ | refine Ext.drewN ?_ _ | refine Ext.alloc ?_ _ | refine xS ?_ _ | refine xT ?_ (by assumption))) fun hHeld => ?_
     refine name_any (fun W0 hW => ?_)
     have s0 : Ext d9 W0 := by rw [hW]; exact hHeld
     clear hW hHeld
     refine tkA (i := 0) (v := ?_) rfl (fun c a w h => hpan c _ _ _ _ h) (Or.inl ⟨by rfl, ?yl⟩) (by assumption) ?_
     case yl => (intro w hSw; (try dsimp only at hSw); have k_0 := Ext.cell hSw q0; go_simp); with_reducible rfl
     try simp only [sxA, sxB, sxC, Act.put, sxD, sxE, sxF]
     refine tkA (i := 1) (v := ?_) rfl (fun c a w h => hpan c _ _ _ _ h) (Or.inl ⟨by rfl, ?yl⟩) (by assumption) ?_
     case yl => (intro w hSw; (try dsimp only at hSw); have k_0 := Ext.cell hSw q0; go_simp); with_reducible rfl
     try simp only [sxA, sxB, sxC, Act.put, sxD, sxE, sxF]
     refine tkA (i := 2) (v := ?_) rfl (fun c a w h => hpan c _ _ _ _ h) (Or.inl ⟨by rfl, ?yl⟩) (by assumption) ?_
     case yl => (intro w hSw; (try dsimp only at hSw); have k_0 := Ext.cell hSw q0; go_simp); with_reducible rfl
     try simp only [sxA, sxB, sxC, Act.put, sxD, sxE, sxF]
     refine wpAnyH_ready (rs := [3]) (by kernel_rfl) (by simp) ?_
     refine AllReadyH.cons (o := _) rfl (fun K hK => ?_) AllReadyH.nil
     go_simp
     refine (h6.out _ (hT'.out.ext (X.out.trans s0))).mono ?_; rintro e W1 ⟨rfl, e1⟩
     have s1 := s0.trans e1
     refine hK.out _ _ s1 (fun _ => ?_)
     clear hK K
     (try simp only [sxA, sxB, sxC, Act.put, sxD, sxE, sxF])
     refine tkA (i := 4) (v := ?_) rfl (fun c a w h => hpan c _ _ _ _ h) (Or.inl ⟨by rfl, ?yl⟩) (by assumption) ?_
     case yl => (intro w hSw; (try dsimp only at hSw); have k_0 := Ext.cell hSw q0; go_simp); with_reducible rfl
     try simp only [sxA, sxB, sxC, Act.put, sxD, sxE, sxF]
     refine tkA (i := 5) (v := ?_) rfl (fun c a w h => hpan c _ _ _ _ h) (Or.inl ⟨by rfl, ?yl⟩) (by assumption) ?_
     case yl => (intro w hSw; (try dsimp only at hSw); have k_0 := Ext.cell hSw q0; go_simp); with_reducible rfl
     try simp only [sxA, sxB, sxC, Act.put, sxD, sxE, sxF]
     refine tkA (i := 6) (v := undef) rfl (fun c a w h => hpan c _ _ _ _ h) (Or.inr ⟨by kernel_rfl, rfl⟩) (by assumption) ?_
     try simp only [sxA, sxB, sxC, Act.put, sxD, sxE, sxF]
     refine tkA (i := 7) (v := undef) rfl (fun c a w h => hpan c _ _ _ _ h) (Or.inr ⟨by kernel_rfl, rfl⟩) (by assumption) ?_
     try simp only [sxA, sxB, sxC, Act.put, sxD, sxE, sxF]
     refine tkA (i := 8) (v := undef) rfl (fun c a w h => hpan c _ _ _ _ h) (Or.inr ⟨by kernel_rfl, rfl⟩) (by assumption) ?_
     try simp only [sxA, sxB, sxC, Act.put, sxD, sxE, sxF]
     refine tkA (i := 9) (v := undef) rfl (fun c a w h => hpan c _ _ _ _ h) (Or.inr ⟨by kernel_rfl, rfl⟩) (by assumption) ?_
     try simp only [sxA, sxB, sxC, Act.put, sxD, sxE, sxF]
     refine tkA (i := 10) (v := undef) rfl (fun c a w h => hpan c _ _ _ _ h) (Or.inr ⟨by kernel_rfl, rfl⟩) (by assumption) ?_
     try simp only [sxA, sxB, sxC, Act.put, sxD, sxE, sxF]
     refine tkA (i := 11) (v := undef) rfl (fun c a w h => hpan c _ _ _ _ h) (Or.inr ⟨by kernel_rfl, rfl⟩) (by assumption) ?_
     try simp only [sxA, sxB, sxC, Act.put, sxD, sxE, sxF]
     refine tkA (i := 12) (v := undef) rfl (fun c a w h => hpan c _ _ _ _ h) (Or.inr ⟨by kernel_rfl, rfl⟩) (by assumption) ?_
     try simp only [sxA, sxB, sxC, Act.put, sxD, sxE, sxF]
     refine tkA (i := 13) (v := undef) rfl (fun c a w h => hpan c _ _ _ _ h) (Or.inr ⟨by kernel_rfl, rfl⟩) (by assumption) ?_
     try simp only [sxA, sxB, sxC, Act.put, sxD, sxE, sxF]
     refine tkA (i := 14) (v := undef) rfl (fun c a w h => hpan c _ _ _ _ h) (Or.inr ⟨by kernel_rfl, rfl⟩) (by assumption) ?_
     try simp only [sxA, sxB, sxC, Act.put, sxD, sxE, sxF]
     refine tkA (i := 15) (v := undef) rfl (fun c a w h => hpan c _ _ _ _ h) (Or.inr ⟨by kernel_rfl, rfl⟩) (by assumption) ?_
     try simp only [sxA, sxB, sxC, Act.put, sxD, sxE, sxF]
     refine tkA (i := 16) (v := undef) rfl (fun c a w h => hpan c _ _ _ _ h) (Or.inr ⟨by kernel_rfl, rfl⟩) (by assumption) ?_
     try simp only [sxA, sxB, sxC, Act.put, sxD, sxE, sxF]
     refine tkA (i := 17) (v := undef) rfl (fun c a w h => hpan c _ _ _ _ h) (Or.inr ⟨by kernel_rfl, rfl⟩) (by assumption) ?_
     try simp only [sxA, sxB, sxC, Act.put, sxD, sxE, sxF]
     refine tkA (i := 18) (v := undef) rfl (fun c a w h => hpan c _ _ _ _ h) (Or.inr ⟨by kernel_rfl, rfl⟩) (by assumption) ?_
     try simp only [sxA, sxB, sxC, Act.put, sxD, sxE, sxF]
     refine tkA (i := 19) (v := undef) rfl (fun c a w h => hpan c _ _ _ _ h) (Or.inr ⟨by kernel_rfl, rfl⟩) (by assumption) ?_
     try simp only [sxA, sxB, sxC, Act.put, sxD, sxE, sxF]
     refine tkA (i := 20) (v := undef) rfl (fun c a w h => hpan c _ _ _ _ h) (Or.inr ⟨by kernel_rfl, rfl⟩) (by assumption) ?_
     try simp only [sxA, sxB, sxC, Act.put, sxD, sxE, sxF]
     refine tkA (i := 21) (v := undef) rfl (fun c a w h => hpan c _ _ _ _ h) (Or.inr ⟨by kernel_rfl, rfl⟩) (by assumption) ?_
     try simp only [sxA, sxB, sxC, Act.put, sxD, sxE, sxF]
     refine tkA (i := 22) (v := undef) rfl (fun c a w h => hpan c _ _ _ _ h) (Or.inr ⟨by kernel_rfl, rfl⟩) (by assumption) ?_
     try simp only [sxA, sxB, sxC, Act.put, sxD, sxE, sxF]
     refine tkA (i := 23) (v := undef) rfl (fun c a w h => hpan c _ _ _ _ h) (Or.inr ⟨by kernel_rfl, rfl⟩) (by assumption) ?_
     try simp only [sxA, sxB, sxC, Act.put, sxD, sxE, sxF]
     refine tkA (i := 24) (v := undef) rfl (fun c a w h => hpan c _ _ _ _ h) (Or.inr ⟨by kernel_rfl, rfl⟩) (by assumption) ?_
     try simp only [sxA, sxB, sxC, Act.put, sxD, sxE, sxF]
     refine tkA (i := 25) (v := undef) rfl (fun c a w h => hpan c _ _ _ _ h) (Or.inr ⟨by kernel_rfl, rfl⟩) (by assumption) ?_
     try simp only [sxA, sxB, sxC, Act.put, sxD, sxE, sxF]
     refine tkA (i := 26) (v := undef) rfl (fun c a w h => hpan c _ _ _ _ h) (Or.inr ⟨by kernel_rfl, rfl⟩) (by assumption) ?_
     try simp only [sxA, sxB, sxC, Act.put, sxD, sxE, sxF]
     refine tkA (i := 27) (v := undef) rfl (fun c a w h => hpan c _ _ _ _ h) (Or.inr ⟨by kernel_rfl, rfl⟩) (by assumption) ?_
     try simp only [sxA, sxB, sxC, Act.put, sxD, sxE, sxF]
     refine tkA (i := 28) (v := undef) rfl (fun c a w h => hpan c _ _ _ _ h) (Or.inr ⟨by kernel_rfl, rfl⟩) (by assumption) ?_
     try simp only [sxA, sxB, sxC, Act.put, sxD, sxE, sxF]
     refine tkA (i := 29) (v := undef) rfl (fun c a w h => hpan c _ _ _ _ h) (Or.inr ⟨by kernel_rfl, rfl⟩) (by assumption) ?_
     try simp only [sxA, sxB, sxC, Act.put, sxD, sxE, sxF]
     refine tkA (i := 30) (v := undef) rfl (fun c a w h => hpan c _ _ _ _ h) (Or.inr ⟨by kernel_rfl, rfl⟩) (by assumption) ?_
     try simp only [sxA, sxB, sxC, Act.put, sxD, sxE, sxF]
     refine tkA (i := 31) (v := undef) rfl (fun c a w h => hpan c _ _ _ _ h) (Or.inr ⟨by kernel_rfl, rfl⟩) (by assumption) ?_
     try simp only [sxA, sxB, sxC, Act.put, sxD, sxE, sxF]
     refine tkA (i := 32) (v := undef) rfl (fun c a w h => hpan c _ _ _ _ h) (Or.inr ⟨by kernel_rfl, rfl⟩) (by assumption) ?_
     try simp only [sxA, sxB, sxC, Act.put, sxD, sxE, sxF]
     refine tkA (i := 33) (v := undef) rfl (fun c a w h => hpan c _ _ _ _ h) (Or.inr ⟨by kernel_rfl, rfl⟩) (by assumption) ?_
     try simp only [sxA, sxB, sxC, Act.put, sxD, sxE, sxF]
     refine tkA (i := 34) (v := undef) rfl (fun c a w h => hpan c _ _ _ _ h) (Or.inr ⟨by kernel_rfl, rfl⟩) (by assumption) ?_
     try simp only [sxA, sxB, sxC, Act.put, sxD, sxE, sxF]
     refine tkA (i := 35) (v := undef) rfl (fun c a w h => hpan c _ _ _ _ h) (Or.inr ⟨by kernel_rfl, rfl⟩) (by assumption) ?_
     try simp only [sxA, sxB, sxC, Act.put, sxD, sxE, sxF]
     refine tkA (i := 36) (v := undef) rfl (fun c a w h => hpan c _ _ _ _ h) (Or.inr ⟨by kernel_rfl, rfl⟩) (by assumption) ?_
     try simp only [sxA, sxB, sxC, Act.put, sxD, sxE, sxF]
     refine tkA (i := 37) (v := undef) rfl (fun c a w h => hpan c _ _ _ _ h) (Or.inr ⟨by kernel_rfl, rfl⟩) (by assumption) ?_
     try simp only [sxA, sxB, sxC, Act.put, sxD, sxE, sxF]
     refine tkA (i := 38) (v := ?_) rfl (fun c a w h => hpan c _ _ _ _ h) (Or.inl ⟨by rfl, ?yl⟩) (by assumption) ?_
     case yl => (intro w hSw; (try dsimp only at hSw); have k_0 := Ext.cell hSw q0; go_simp); with_reducible rfl
     try simp only [sxA, sxB, sxC, Act.put, sxD, sxE, sxF]
     refine tkA (i := 39) (v := ?_) rfl (fun c a w h => hpan c _ _ _ _ h) (Or.inl ⟨by rfl, ?yl⟩) (by assumption) ?_
     case yl => (intro w hSw; (try dsimp only at hSw); have k_0 := Ext.cell hSw q0; go_simp); with_reducible rfl
     try simp only [sxA, sxB, sxC, Act.put, sxD, sxE, sxF]
     refine wpAnyH_ready (rs := [40]) (by kernel_rfl) (by simp) ?_
     refine AllReadyH.cons (o := _) rfl (fun K hK => ?_) AllReadyH.nil
     go_simp
     refine (works_any _).mono ?_; rintro e W2 ⟨rfl, e2⟩
     have s2 := s1.trans e2
     refine hK.out _ _ s2 (fun _ => ?_)
     clear hK K
     (try simp only [sxA, sxB, sxC, Act.put, sxD, sxE, sxF])
     refine tkA (i := 41) (v := ?_) rfl (fun c a w h => hpan c _ _ _ _ h) (Or.inl ⟨by rfl, ?yl⟩) (by assumption) ?_
     case yl => (intro w hSw; (try dsimp only at hSw); have k_0 := Ext.cell hSw q0; go_simp); with_reducible rfl
     try simp only [sxA, sxB, sxC, Act.put, sxD, sxE, sxF]
     refine tkA (i := 42) (v := ?_) rfl (fun c a w h => hpan c _ _ _ _ h) (Or.inl ⟨by rfl, ?yl⟩) (by assumption) ?_
     case yl => (intro w hSw; (try dsimp only at hSw); have k_0 := Ext.cell hSw q0; go_simp); with_reducible rfl
     try simp only [sxA, sxB, sxC, Act.put, sxD, sxE, sxF]
     refine wpAnyH_done (by kernel_rfl) ?_ _
     try simp only [sxA, sxB, sxC, Act.put, sxD, sxE, sxF]
     rw [hQ2.out]
     refine ⟨rfl, ?u7_0_1, ?u7_1_1, ?u7_2_1, ?u7_3_1, ?u7_4_1, ?u7_5_1, ?u7_6_1, ?u7_7_1, ?eq7_1, s2⟩
     case eq7_1 => ((try simp only [sxA, sxB, sxC, Act.put, sxD, sxE, sxF]); first | done | with_reducible rfl | rfl)
    rw [hQ2.out]
    rintro e a' d10 ⟨rfl, v0_, v1_, v2_, v4_, v5_, v38_, v39_, v41_, rfl, x⟩
    clear hQ2 hpan; clear Q2
    subst hA_
    simp only [sxA, sxB, sxC, Act.put, sxD, sxE, sxF]
    clear q0
    replace mt0 := hid (x.cell mt0.out)
    replace f0 := hid (x.cell f0.out)
    replace f1 := hid (x.cell f1.out)
    replace f2 := hid (x.cell f2.out)
    replace f3 := hid (x.cell f3.out)
    replace f4 := hid (x.cell f4.out)
    replace bv0 := hid (x.cell bv0.out)
    replace bv1 := hid (x.cell bv1.out)
    replace bp0 := hid (x.cell bp0.out)
    replace bp1 := hid (x.cell bp1.out)
    replace X := hid (X.out.trans x)
    clear x
    go_wp2_with fail
    go_ret
    exact ⟨rfl, X.out⟩
  case inr =>
   have hpp := pure_proof g hjm hln
   have ePE : proofE t (uL t.length j) (uL (wid t) l) = 14 := hpp.2.1 fun h => hno j l hjm hln (hpp.1.1 h)
   have h2 := hid (fun W hW => (show Calls Try.prog 31 #[(.agg #[.slice (some ⟨b, off, none⟩) t.length cap])] W fun e w' => e = .returned (.tuple #[.int .i64 0, .int .i64 0, .int .i64 19]) ∧ Ext W w' from (pure_any t q _ cap W hW hl1 hw1).mono (by
    rintro e w' ⟨i', k', er, rfl, hp, hE⟩
    obtain ⟨rfl, rfl, rfl⟩ := hp.uniq (show PureR t 0 0 19 from .inr (.inr ⟨g, rfl, rfl, rfl, hno⟩))
    exact ⟨rfl, hE⟩)))
   have e1 := uL_len t.length j
   have e2 := uL_len (wid t) l
   have h3 := hid (fun aa cc bb cb W hW hK hL => checkProof_any t q (some ⟨b, off, none⟩) cap (uL t.length j) (uL_i64 _ _) (by omega) aa cc (uL (wid t) l) (uL_i64 _ _) (by omega) bb cb W hW hl1 hw1 hK hL)
   rw [e1, e2, ePE] at h3
   obtain ⟨pn, hpn⟩ : ∃ x, proofN t (uL t.length j) (uL (wid t) l) = x := ⟨_, rfl⟩
   obtain ⟨pd, hpd⟩ : ∃ x, proofD t (uL t.length j) (uL (wid t) l) = x := ⟨_, rfl⟩
   rw [hpn, hpd] at h3
   clear hpp ePE hpn hpd hno
   obtain ⟨m, hm⟩ : ∃ x, t.length = x := ⟨_, rfl⟩
   obtain ⟨n, hn⟩ : ∃ x, wid t = x := ⟨_, rfl⟩
   rw [hm] at h1 h2 h3 hfi m1 m4 hj hjm ⊢
   rw [hn] at h1 h3 r00 n1 n4 hl9 hln
   have hm0 : (0 : Int) < (m : Int) := by omega
   have hm00 : 0 < m := by omega
   have hn0 : (0 : Int) < (n : Int) := by omega
   have hn00 : 0 < n := by omega
   have hmz : ((m : Int) == 0) = false := by simp; omega
   have hnz : ((n : Int) == 0) = false := by simp; omega
   have hm9 : ¬ m = 0 := by omega
   have hn9 : ¬ n = 0 := by omega
   have R0 := hid r00
   have hjI : (j : Int) < (m : Int) := by omega
   have hlI : (l : Int) < (n : Int) := by omega
   clear hT hw hl hl1 hw1 e1 e2 hvn hvd hm hn v g hcc r00 hb hrv hcv
   go_enter Try.func8, Try.ntmps8
   go_wp2_with fail
   refine (hfi.out _ (hT'.out.ext (by repeat (with_reducible first | assumption | exact Ext.refl _ | refine Ext.drew ?_ | refine Ext.drewN ?_ _ | refine Ext.alloc ?_ _ | refine xS ?_ _ | refine xT ?_ (by assumption))))).mono ?_; rintro e w1 ⟨rfl, hE⟩
   have mt0 := hid (hE.cell (p := ⟨w.heap.size, 0, none⟩) (v := .slice (some ⟨b, off, none⟩) m cap) (by simp [go_sem]))
   have X := hid (show Ext w w1 from (by repeat (with_reducible first | assumption | exact Ext.refl _ | refine Ext.drew ?_ | refine Ext.drewN ?_ _ | refine Ext.alloc ?_ _ | refine xS ?_ _ | refine xT ?_ (by assumption))))
   clear hE
   generalize w.heap.size = Bt at *
   have f0 := hid (X.out.cell R0.out)
   have r_mt0 := mt0.out
   have l_mt0 := cell_lt r_mt0
   dsimp only at l_mt0
   go_wp2_with fail
   have q0 := mt0.out
   have q1 := f0.out
   refine name_act (fun A_ hA_ => ?_)
   obtain ⟨Q2, hQ2⟩ : ∃ Q2 : Exit → Act → World → Prop, Q2 = fun e a' w' => e = .normal ∧ ∃ (v0_ v1_ v2_ v3_ v4_ v5_ v6_ v7_ : Value), a' = ((((((((((A_.put (some 26) (v0_)).put (some 27) (v1_)).put (some 28) (v2_)).put (some 29) (v3_)).put (some 30) (v4_)).put (some 31) (v5_)).put (some 32) (v6_)).put (some 33) (v7_)).put (some 7) (.int .i64 m)).put (some 8) (.int .i64 n)) ∧ Ext w1 w' := ⟨_, rfl⟩
   have hpan : ∀ c a a' w w', Q2 (.panic c) a w → Q2 (.panic c) a' w' := by rw [hQ2]; rintro c a a' w w' ⟨h, _⟩; cases h
   replace hQ2 := hid hQ2
   refine wp_mono (Q := Q2) ?_ ?_
   ·subst hA_
    refine wp_region_held_drew (S := fun w' => Ext w1 w') (by kernel_rfl) (by repeat (with_reducible first | assumption | exact Ext.refl _ | refine Ext.drew ?_ | refine Ext.drewN ?_ _ | refine Ext.alloc ?_ _ | refine xS ?_ _ | refine xT ?_ (by assumption))) fun hHeld => ?_
    refine name_any (fun W0 hW => ?_)
    have s0 : Ext w1 W0 := by rw [hW]; exact hHeld
    clear hW hHeld
    refine tkA (i := 0) (v := ?_) rfl (fun c a w h => hpan c _ _ _ _ h) (Or.inl ⟨by rfl, ?yl⟩) (by assumption) ?_
    case yl => (intro w hSw; (try dsimp only at hSw); have k_0 := Ext.cell hSw q0; have k_1 := Ext.cell hSw q1; go_simp); with_reducible rfl
    try simp only [sxA, sxB, sxC, Act.put, sxD, sxE, sxF]
    refine tkA (i := 1) (v := ?_) rfl (fun c a w h => hpan c _ _ _ _ h) (Or.inl ⟨by rfl, ?yl⟩) (by assumption) ?_
    case yl => (intro w hSw; (try dsimp only at hSw); have k_0 := Ext.cell hSw q0; have k_1 := Ext.cell hSw q1; go_simp); with_reducible rfl
    try simp only [sxA, sxB, sxC, Act.put, sxD, sxE, sxF]
    refine tkA (i := 2) (v := ?_) rfl (fun c a w h => hpan c _ _ _ _ h) (Or.inl ⟨by rfl, ?yl⟩) (by assumption) ?_
    case yl => (intro w hSw; (try dsimp only at hSw); have k_0 := Ext.cell hSw q0; have k_1 := Ext.cell hSw q1; go_simp); with_reducible rfl
    try simp only [sxA, sxB, sxC, Act.put, sxD, sxE, sxF]
    refine tkA (i := 3) (v := ?_) rfl (fun c a w h => hpan c _ _ _ _ h) (Or.inl ⟨by rfl, ?yl⟩) (by assumption) ?_
    case yl => (intro w hSw; (try dsimp only at hSw); have k_0 := Ext.cell hSw q0; have k_1 := Ext.cell hSw q1; go_simp); with_reducible rfl
    try simp only [sxA, sxB, sxC, Act.put, sxD, sxE, sxF]
    refine tkA (i := 4) (v := ?_) rfl (fun c a w h => hpan c _ _ _ _ h) (Or.inl ⟨by rfl, ?yl⟩) (by assumption) ?_
    case yl => (intro w hSw; (try dsimp only at hSw); have k_0 := Ext.cell hSw q0; have k_1 := Ext.cell hSw q1; go_simp); with_reducible rfl
    try simp only [sxA, sxB, sxC, Act.put, sxD, sxE, sxF]
    refine tkA (i := 5) (v := ?_) rfl (fun c a w h => hpan c _ _ _ _ h) (Or.inl ⟨by rfl, ?yl⟩) (by assumption) ?_
    case yl => (intro w hSw; (try dsimp only at hSw); have k_0 := Ext.cell hSw q0; have k_1 := Ext.cell hSw q1; go_simp); with_reducible rfl
    try simp only [sxA, sxB, sxC, Act.put, sxD, sxE, sxF]
    refine tkA (i := 6) (v := ?_) rfl (fun c a w h => hpan c _ _ _ _ h) (Or.inl ⟨by rfl, ?yl⟩) (by assumption) ?_
    case yl => (intro w hSw; (try dsimp only at hSw); have k_0 := Ext.cell hSw q0; have k_1 := Ext.cell hSw q1; go_simp); with_reducible rfl
    try simp only [sxA, sxB, sxC, Act.put, sxD, sxE, sxF]
    refine tkA (i := 7) (v := ?_) rfl (fun c a w h => hpan c _ _ _ _ h) (Or.inl ⟨by rfl, ?yl⟩) (by assumption) ?_
    case yl => (intro w hSw; (try dsimp only at hSw); have k_0 := Ext.cell hSw q0; have k_1 := Ext.cell hSw q1; go_simp); with_reducible rfl
    try simp only [sxA, sxB, sxC, Act.put, sxD, sxE, sxF]
    refine tkA (i := 8) (v := ?_) rfl (fun c a w h => hpan c _ _ _ _ h) (Or.inl ⟨by rfl, ?yl⟩) (by assumption) ?_
    case yl => (intro w hSw; (try dsimp only at hSw); have k_0 := Ext.cell hSw q0; have k_1 := Ext.cell hSw q1; go_simp); with_reducible rfl
    try simp only [sxA, sxB, sxC, Act.put, sxD, sxE, sxF]
    refine tkA (i := 9) (v := ?_) rfl (fun c a w h => hpan c _ _ _ _ h) (Or.inl ⟨by rfl, ?yl⟩) (by assumption) ?_
    case yl => (intro w hSw; (try dsimp only at hSw); have k_0 := Ext.cell hSw q0; have k_1 := Ext.cell hSw q1; go_simp); with_reducible rfl
    try simp only [sxA, sxB, sxC, Act.put, sxD, sxE, sxF]
    refine wpAnyH_done (by kernel_rfl) ?_ _
    try simp only [sxA, sxB, sxC, Act.put, sxD, sxE, sxF]
    rw [hQ2.out]
    refine ⟨rfl, ?u8_0_1, ?u8_1_1, ?u8_2_1, ?u8_3_1, ?u8_4_1, ?u8_5_1, ?u8_6_1, ?u8_7_1, ?eq8_1, s0⟩
    case eq8_1 => ((try simp only [sxA, sxB, sxC, Act.put, sxD, sxE, sxF]); first | done | with_reducible rfl | rfl)
   rw [hQ2.out]
   rintro e a' d1 ⟨rfl, v0_, v1_, v2_, v3_, v4_, v5_, v6_, v7_, rfl, x⟩
   clear hQ2 hpan; clear Q2
   subst hA_
   simp only [sxA, sxB, sxC, Act.put, sxD, sxE, sxF]
   clear q0 q1
   replace mt0 := hid (x.cell mt0.out)
   replace f0 := hid (x.cell f0.out)
   replace X := hid (X.out.trans x)
   clear x
   have r_mt0 := mt0.out
   have l_mt0 := cell_lt r_mt0
   dsimp only at l_mt0
   go_wp2_with fail
   refine (h1.out _ (hT'.out.ext (X.out.trans (show Ext d1 _ from (by repeat (with_reducible first | assumption | exact Ext.refl _ | refine Ext.drew ?_ | refine Ext.drewN ?_ _ | refine Ext.alloc ?_ _ | refine xS ?_ _ | refine xT ?_ (by assumption))))))).mono ?_; rintro e u2 ⟨av, cv_, aw, cw, rfl, lv_, lw_, hE⟩
   have x : Ext d1 u2 := (by repeat (with_reducible first | assumption | exact Ext.refl _ | refine Ext.drew ?_ | refine Ext.drewN ?_ _ | refine Ext.alloc ?_ _ | refine xS ?_ _ | refine xT ?_ (by assumption)))
   clear r_mt0 l_mt0
   replace mt0 := hid (x.cell mt0.out)
   replace f0 := hid (x.cell f0.out)
   replace X := hid (X.out.trans x)
   have lv := hid lv_
   clear lv_
   have lw := hid lw_
   clear lw_
   clear x hE
   clear lv lw
   have r_mt0 := mt0.out
   have l_mt0 := cell_lt r_mt0
   dsimp only at l_mt0
   go_wp2_with fail
   refine name_c (fun v3 hw => ?_)
   have x : Ext u2 v3 := by rw [hw]; exact (by repeat (with_reducible first | assumption | exact Ext.refl _ | refine Ext.drew ?_ | refine Ext.drewN ?_ _ | refine Ext.alloc ?_ _ | refine xS ?_ _ | refine xT ?_ (by assumption)))
   have bv0 := hid (show v3.cell? ⟨u2.heap.size, 0, none⟩ = some (.int .i64 vn) by rw [hw]; simp [go_sem])
   have bv1 := hid (show v3.cell? ⟨u2.heap.size, 1, none⟩ = some (.int .i64 vd) by rw [hw]; simp [go_sem])
   clear r_mt0 l_mt0
   replace mt0 := hid (x.cell mt0.out)
   replace f0 := hid (x.cell f0.out)
   replace X := hid (X.out.trans x)
   clear x hw
   generalize u2.heap.size = Bbv at *
   refine (h2.out _ (hT'.out.ext (X.out.trans (show Ext v3 _ from (by repeat (with_reducible first | assumption | exact Ext.refl _ | refine Ext.drew ?_ | refine Ext.drewN ?_ _ | refine Ext.alloc ?_ _ | refine xS ?_ _ | refine xT ?_ (by assumption))))))).mono ?_; rintro e u4 ⟨rfl, hE⟩
   have x : Ext v3 u4 := (by repeat (with_reducible first | assumption | exact Ext.refl _ | refine Ext.drew ?_ | refine Ext.drewN ?_ _ | refine Ext.alloc ?_ _ | refine xS ?_ _ | refine xT ?_ (by assumption)))
   replace mt0 := hid (x.cell mt0.out)
   replace f0 := hid (x.cell f0.out)
   replace bv0 := hid (x.cell bv0.out)
   replace bv1 := hid (x.cell bv1.out)
   replace X := hid (X.out.trans x)
   clear x hE
   have r_mt0 := mt0.out
   have l_mt0 := cell_lt r_mt0
   dsimp only at l_mt0
   go_wp2_with fail
   refine name_act (fun A_ hA_ => ?_)
   obtain ⟨Q2, hQ2⟩ : ∃ Q2 : Exit → Act → World → Prop, Q2 = fun e a' w' => e = .normal ∧ ∃ (v0_ v1_ v2_ v3_ v4_ v5_ v6_ v7_ : Value), a' = ((((((((((A_.put (some 53) (v0_)).put (some 54) (v1_)).put (some 55) (v2_)).put (some 56) (v3_)).put (some 57) (v4_)).put (some 58) (v5_)).put (some 59) (v6_)).put (some 60) (v7_)).put (some 13) (.int .i64 j)).put (some 14) (.int .i64 l)) ∧ Ext u4 w' := ⟨_, rfl⟩
   have hpan : ∀ c a a' w w', Q2 (.panic c) a w → Q2 (.panic c) a' w' := by rw [hQ2]; rintro c a a' w w' ⟨h, _⟩; cases h
   replace hQ2 := hid hQ2
   refine wp_mono (Q := Q2) ?_ ?_
   ·subst hA_
    refine wp_region_held_drew (S := fun w' => Ext u4 w') (by kernel_rfl) (by repeat (with_reducible first | assumption | exact Ext.refl _ | refine Ext.drew ?_ | refine Ext.drewN ?_ _ | refine Ext.alloc ?_ _ | refine xS ?_ _ | refine xT ?_ (by assumption))) fun hHeld => ?_
    refine name_any (fun W0 hW => ?_)
    have s0 : Ext u4 W0 := by rw [hW]; exact hHeld
    clear hW hHeld
    refine tkA (i := 0) (v := ?_) rfl (fun c a w h => hpan c _ _ _ _ h) (Or.inl ⟨by rfl, ?yl⟩) (by assumption) ?_
    case yl => (intro w hSw; (try dsimp only at hSw);  go_simp); with_reducible rfl
    try simp only [sxA, sxB, sxC, Act.put, sxD, sxE, sxF]
    refine tkA (i := 1) (v := ?_) rfl (fun c a w h => hpan c _ _ _ _ h) (Or.inl ⟨by rfl, ?yl⟩) (by assumption) ?_
    case yl => (intro w hSw; (try dsimp only at hSw);  go_simp); with_reducible rfl
    try simp only [sxA, sxB, sxC, Act.put, sxD, sxE, sxF]
    refine tkA (i := 2) (v := ?_) rfl (fun c a w h => hpan c _ _ _ _ h) (Or.inl ⟨by rfl, ?yl⟩) (by assumption) ?_
    case yl => (intro w hSw; (try dsimp only at hSw);  go_simp); with_reducible rfl
    try simp only [sxA, sxB, sxC, Act.put, sxD, sxE, sxF]
    refine tkA (i := 3) (v := ?_) rfl (fun c a w h => hpan c _ _ _ _ h) (Or.inl ⟨by rfl, ?yl⟩) (by assumption) ?_
    case yl => (intro w hSw; (try dsimp only at hSw);  go_simp); with_reducible rfl
    try simp only [sxA, sxB, sxC, Act.put, sxD, sxE, sxF]
    refine tkA (i := 4) (v := ?_) rfl (fun c a w h => hpan c _ _ _ _ h) (Or.inl ⟨by rfl, ?yl⟩) (by assumption) ?_
    case yl => (intro w hSw; (try dsimp only at hSw);  go_simp); with_reducible rfl
    try simp only [sxA, sxB, sxC, Act.put, sxD, sxE, sxF]
    refine tkA (i := 5) (v := ?_) rfl (fun c a w h => hpan c _ _ _ _ h) (Or.inl ⟨by rfl, ?yl⟩) (by assumption) ?_
    case yl => (intro w hSw; (try dsimp only at hSw);  go_simp); with_reducible rfl
    try simp only [sxA, sxB, sxC, Act.put, sxD, sxE, sxF]
    refine tkA (i := 6) (v := ?_) rfl (fun c a w h => hpan c _ _ _ _ h) (Or.inl ⟨by rfl, ?yl⟩) (by assumption) ?_
    case yl => (intro w hSw; (try dsimp only at hSw);  go_simp); with_reducible rfl
    try simp only [sxA, sxB, sxC, Act.put, sxD, sxE, sxF]
    refine tkA (i := 7) (v := ?_) rfl (fun c a w h => hpan c _ _ _ _ h) (Or.inl ⟨by rfl, ?yl⟩) (by assumption) ?_
    case yl => (intro w hSw; (try dsimp only at hSw);  go_simp); with_reducible rfl
    try simp only [sxA, sxB, sxC, Act.put, sxD, sxE, sxF]
    refine tkA (i := 8) (v := ?_) rfl (fun c a w h => hpan c _ _ _ _ h) (Or.inl ⟨by rfl, ?yl⟩) (by assumption) ?_
    case yl => (intro w hSw; (try dsimp only at hSw);  go_simp); with_reducible rfl
    try simp only [sxA, sxB, sxC, Act.put, sxD, sxE, sxF]
    refine tkA (i := 9) (v := ?_) rfl (fun c a w h => hpan c _ _ _ _ h) (Or.inl ⟨by rfl, ?yl⟩) (by assumption) ?_
    case yl => (intro w hSw; (try dsimp only at hSw);  go_simp); with_reducible rfl
    try simp only [sxA, sxB, sxC, Act.put, sxD, sxE, sxF]
    refine wpAnyH_done (by kernel_rfl) ?_ _
    try simp only [sxA, sxB, sxC, Act.put, sxD, sxE, sxF]
    rw [hQ2.out]
    refine ⟨rfl, ?u9_0_1, ?u9_1_1, ?u9_2_1, ?u9_3_1, ?u9_4_1, ?u9_5_1, ?u9_6_1, ?u9_7_1, ?eq9_1, s0⟩
    case eq9_1 => ((try simp only [sxA, sxB, sxC, Act.put, sxD, sxE, sxF]); first | done | with_reducible rfl | rfl)
   rw [hQ2.out]
   rintro e a' d5 ⟨rfl, v0_, v1_, v2_, v3_, v4_, v5_, v6_, v7_, rfl, x⟩
   clear hQ2 hpan; clear Q2
   subst hA_
   simp only [sxA, sxB, sxC, Act.put, sxD, sxE, sxF]
   replace mt0 := hid (x.cell mt0.out)
   replace f0 := hid (x.cell f0.out)
   replace bv0 := hid (x.cell bv0.out)
   replace bv1 := hid (x.cell bv1.out)
   replace X := hid (X.out.trans x)
   clear x
   go_wp2_with fail
   refine name_act (fun A_ hA_ => ?_)
   obtain ⟨Q2, hQ2⟩ : ∃ Q2 : Exit → Act → World → Prop, Q2 = fun e a' w' => e = .normal ∧ ∃ (bx : Nat) (ky : Nat) (v0_ v2_ : Value), a' = ((((((A_.put (some 77) (v0_)).put (some 78) (.slice (some ⟨bx, 0, none⟩) m m)).put (some 79) (v2_)).put (some 80) (.slice (some ⟨ky, 0, none⟩) n n)).put (some 16) (.slice (some ⟨bx, 0, none⟩) m m)).put (some 17) (.slice (some ⟨ky, 0, none⟩) n n)) ∧ Ext d5 w' ∧ OwnI w' d5.heap.size 2 (.slice (some ⟨bx, 0, none⟩) m m) (List.replicate m 0) ∧ OwnI w' d5.heap.size 2 (.slice (some ⟨ky, 0, none⟩) n n) (List.replicate n 0) ∧ bx ≠ ky := ⟨_, rfl⟩
   have hpan : ∀ c a a' w w', Q2 (.panic c) a w → Q2 (.panic c) a' w' := by rw [hQ2]; rintro c a a' w w' ⟨h, _⟩; cases h
   replace hQ2 := hid hQ2
   refine wp_mono (Q := Q2) ?_ ?_
   ·subst hA_
    refine wp_region_held_drew (S := fun w' => Ext d5 w') (by kernel_rfl) (by repeat (with_reducible first | assumption | exact Ext.refl _ | refine Ext.drew ?_ | refine Ext.drewN ?_ _ | refine Ext.alloc ?_ _ | refine xS ?_ _ | refine xT ?_ (by assumption))) fun hHeld => ?_
    refine name_any (fun W0 hW => ?_)
    have s0 : Ext d5 W0 := by rw [hW]; exact hHeld
    clear hW hHeld
    refine tkA (i := 0) (v := ?_) rfl (fun c a w h => hpan c _ _ _ _ h) (Or.inl ⟨by rfl, ?yl⟩) (by assumption) ?_
    case yl => (intro w hSw; (try dsimp only at hSw);  go_simp); with_reducible rfl
    try simp only [sxA, sxB, sxC, Act.put, sxD, sxE, sxF]
    refine tkA (i := 2) (v := ?_) rfl (fun c a w h => hpan c _ _ _ _ h) (Or.inl ⟨by rfl, ?yl⟩) (by assumption) ?_
    case yl => (intro w hSw; (try dsimp only at hSw);  go_simp); with_reducible rfl
    try simp only [sxA, sxB, sxC, Act.put, sxD, sxE, sxF]
    refine wpAnyH_ready (rs := [1, 3]) (by kernel_rfl) (by simp) ?_
    refine AllReadyH.cons (o := _) rfl (fun K hK => ?_) ?_
    ·skip
     refine makeK _ _ _ rfl 2 Try.underlying25 elemI64 m rfl rfl (by omega) ?_
     intro W1 o1__ e1 l1__
     have o1_ := hid o1__; have l1_ := hid l1__; clear o1__ l1__
     have s1 := s0.trans e1
     refine hK.out _ _ s1 (fun _ => ?_)
     clear hK K
     (try simp only [sxA, sxB, sxC, Act.put, sxD, sxE, sxF])
     refine tkA (i := 4) (v := ?_) rfl (fun c a w h => hpan c _ _ _ _ h) (Or.inl ⟨by rfl, ?yl⟩) (by assumption) ?_
     case yl => (intro w hSw; (try dsimp only at hSw);  go_simp); with_reducible rfl
     try simp only [sxA, sxB, sxC, Act.put, sxD, sxE, sxF]
     refine wpAnyH_ready (rs := [3]) (by kernel_rfl) (by simp) ?_
     refine AllReadyH.cons (o := _) rfl (fun K hK => ?_) AllReadyH.nil
     refine makeK _ _ _ rfl 2 Try.underlying25 elemI64 n rfl rfl (by omega) ?_
     intro W2 o3__ e2 l3__
     have o3_ := hid o3__; have l3_ := hid l3__; clear o3__ l3__
     have s2 := s1.trans e2
     refine hK.out _ _ s2 (fun _ => ?_)
     clear hK K
     (try simp only [sxA, sxB, sxC, Act.put, sxD, sxE, sxF])
     refine tkA (i := 5) (v := ?_) rfl (fun c a w h => hpan c _ _ _ _ h) (Or.inl ⟨by rfl, ?yl⟩) (by assumption) ?_
     case yl => (intro w hSw; (try dsimp only at hSw);  go_simp); with_reducible rfl
     try simp only [sxA, sxB, sxC, Act.put, sxD, sxE, sxF]
     refine wpAnyH_done (by kernel_rfl) ?_ _
     try simp only [sxA, sxB, sxC, Act.put, sxD, sxE, sxF]
     rw [hQ2.out]
     refine ⟨rfl, W0.heap.size, W1.heap.size, ?u10_0_1, ?u10_1_1, ?eq10_1, s2, ((o1_.out.ext ((Ext.refl W1).trans e2)).mono s0.size), ((o3_.out.ext (Ext.refl W2)).mono s1.size), (Nat.ne_of_lt (Nat.lt_of_lt_of_le l1_.out (Ext.refl W1).size))⟩
     case eq10_1 => ((try simp only [sxA, sxB, sxC, Act.put, sxD, sxE, sxF]); first | done | with_reducible rfl | rfl)
    refine AllReadyH.cons (o := _) rfl (fun K hK => ?_) ?_
    ·skip
     refine makeK _ _ _ rfl 2 Try.underlying25 elemI64 n rfl rfl (by omega) ?_
     intro W1 o3__ e1 l3__
     have o3_ := hid o3__; have l3_ := hid l3__; clear o3__ l3__
     have s1 := s0.trans e1
     refine hK.out _ _ s1 (fun _ => ?_)
     clear hK K
     (try simp only [sxA, sxB, sxC, Act.put, sxD, sxE, sxF])
     refine wpAnyH_ready (rs := [1]) (by kernel_rfl) (by simp) ?_
     refine AllReadyH.cons (o := _) rfl (fun K hK => ?_) AllReadyH.nil
     refine makeK _ _ _ rfl 2 Try.underlying25 elemI64 m rfl rfl (by omega) ?_
     intro W2 o1__ e2 l1__
     have o1_ := hid o1__; have l1_ := hid l1__; clear o1__ l1__
     have s2 := s1.trans e2
     refine hK.out _ _ s2 (fun _ => ?_)
     clear hK K
     (try simp only [sxA, sxB, sxC, Act.put, sxD, sxE, sxF])
     refine tkA (i := 4) (v := ?_) rfl (fun c a w h => hpan c _ _ _ _ h) (Or.inl ⟨by rfl, ?yl⟩) (by assumption) ?_
     case yl => (intro w hSw; (try dsimp only at hSw);  go_simp); with_reducible rfl
     try simp only [sxA, sxB, sxC, Act.put, sxD, sxE, sxF]
     refine tkA (i := 5) (v := ?_) rfl (fun c a w h => hpan c _ _ _ _ h) (Or.inl ⟨by rfl, ?yl⟩) (by assumption) ?_
     case yl => (intro w hSw; (try dsimp only at hSw);  go_simp); with_reducible rfl
     try simp only [sxA, sxB, sxC, Act.put, sxD, sxE, sxF]
     refine wpAnyH_done (by kernel_rfl) ?_ _
     try simp only [sxA, sxB, sxC, Act.put, sxD, sxE, sxF]
     rw [hQ2.out]
     refine ⟨rfl, W1.heap.size, W0.heap.size, ?u10_0_2, ?u10_1_2, ?eq10_2, s2, ((o1_.out.ext (Ext.refl W2)).mono s1.size), ((o3_.out.ext ((Ext.refl W1).trans e2)).mono s0.size), (Nat.ne_of_gt (Nat.lt_of_lt_of_le l3_.out (Ext.refl W1).size))⟩
     case eq10_2 => ((try simp only [sxA, sxB, sxC, Act.put, sxD, sxE, sxF]); first | done | with_reducible rfl | rfl)
    exact AllReadyH.nil
   rw [hQ2.out]
   rintro e a' d6 ⟨rfl, bx, ky, v0_, v2_, rfl, x, o1, o3, n1_3⟩
   clear hQ2 hpan; clear Q2
   subst hA_
   simp only [sxA, sxB, sxC, Act.put, sxD, sxE, sxF]
   have hbx : d5.heap.size ≤ bx := (OwnI.block o1 _ rfl).1
   have hky : d5.heap.size ≤ ky := (OwnI.block o3 _ rfl).1
   have hBt : Bt < d5.heap.size := cell_lt mt0.out
   have nx : bx ≠ Bt := fun e => by omega
   have ny : ky ≠ Bt := fun e => by omega
   obtain ⟨c1, g1, -, s1⟩ := OwnI.facts o1 (j := j) (by rw [List.length_replicate]; assumption)
   obtain ⟨c3, g3, -, s3⟩ := OwnI.facts o3 (j := l) (by rw [List.length_replicate]; assumption)
   have tcd := x.cell mt0.out
   have hli := hid (two_ones (i := j) (k := l) o1 o3 n1_3)
   clear o1 o3
   go_wp2_with fail
   refine name_c (fun d2 hw => ?_)
   have y : Ext d5 d2 := by rw [hw]; exact (by repeat (with_reducible first | assumption | exact Ext.refl _ | refine Ext.drew ?_ | refine Ext.drewN ?_ _ | refine Ext.alloc ?_ _ | refine xS ?_ _ | refine xT ?_ (by assumption)))
   have la := hid (show Ints d2 (some ⟨bx, 0, none⟩) (uL m j) by rw [hw]; exact hli.out.1)
   have lb := hid (show Ints d2 (some ⟨ky, 0, none⟩) (uL n l) by rw [hw]; exact hli.out.2)
   clear hw hbx hky hBt nx ny c1 g1 s1 c3 g3 s3 tcd hli x n1_3
   replace mt0 := hid (y.cell mt0.out)
   replace f0 := hid (y.cell f0.out)
   replace bv0 := hid (y.cell bv0.out)
   replace bv1 := hid (y.cell bv1.out)
   replace X := hid (X.out.trans y)
   clear y
   refine (h3.out _ _ _ _ _ (hT'.out.ext (X.out.trans (show Ext d2 _ from (by repeat (with_reducible first | assumption | exact Ext.refl _ | refine Ext.drew ?_ | refine Ext.drewN ?_ _ | refine Ext.alloc ?_ _ | refine xS ?_ _ | refine xT ?_ (by assumption)))))) (la.out.ext (show Ext d2 _ from (by repeat (with_reducible first | assumption | exact Ext.refl _ | refine Ext.drew ?_ | refine Ext.drewN ?_ _ | refine Ext.alloc ?_ _ | refine xS ?_ _ | refine xT ?_ (by assumption))))) (lb.out.ext (show Ext d2 _ from (by repeat (with_reducible first | assumption | exact Ext.refl _ | refine Ext.drew ?_ | refine Ext.drewN ?_ _ | refine Ext.alloc ?_ _ | refine xS ?_ _ | refine xT ?_ (by assumption)))))).mono ?_; rintro e u7 ⟨rfl, hE⟩
   have x : Ext d2 u7 := (by repeat (with_reducible first | assumption | exact Ext.refl _ | refine Ext.drew ?_ | refine Ext.drewN ?_ _ | refine Ext.alloc ?_ _ | refine xS ?_ _ | refine xT ?_ (by assumption)))
   replace mt0 := hid (x.cell mt0.out)
   replace f0 := hid (x.cell f0.out)
   replace bv0 := hid (x.cell bv0.out)
   replace bv1 := hid (x.cell bv1.out)
   replace la := hid (la.out.ext x)
   replace lb := hid (lb.out.ext x)
   replace X := hid (X.out.trans x)
   clear x hE
   clear la lb
   go_wp2_with fail
   refine name_c (fun v8 hw => ?_)
   have x : Ext u7 v8 := by rw [hw]; exact (by repeat (with_reducible first | assumption | exact Ext.refl _ | refine Ext.drew ?_ | refine Ext.drewN ?_ _ | refine Ext.alloc ?_ _ | refine xS ?_ _ | refine xT ?_ (by assumption)))
   have bp0 := hid (show v8.cell? ⟨u7.heap.size, 0, none⟩ = some (.int .i64 pn) by rw [hw]; simp [go_sem])
   have bp1 := hid (show v8.cell? ⟨u7.heap.size, 1, none⟩ = some (.int .i64 pd) by rw [hw]; simp [go_sem])
   replace mt0 := hid (x.cell mt0.out)
   replace f0 := hid (x.cell f0.out)
   replace bv0 := hid (x.cell bv0.out)
   replace bv1 := hid (x.cell bv1.out)
   replace X := hid (X.out.trans x)
   clear x hw
   generalize u7.heap.size = Bbp at *
   refine (works_any _).mono ?_; rintro e u9 ⟨rfl, hE⟩
   have x : Ext v8 u9 := (by repeat (with_reducible first | assumption | exact Ext.refl _ | refine Ext.drew ?_ | refine Ext.drewN ?_ _ | refine Ext.alloc ?_ _ | refine xS ?_ _ | refine xT ?_ (by assumption)))
   replace mt0 := hid (x.cell mt0.out)
   replace f0 := hid (x.cell f0.out)
   replace bv0 := hid (x.cell bv0.out)
   replace bv1 := hid (x.cell bv1.out)
   replace bp0 := hid (x.cell bp0.out)
   replace bp1 := hid (x.cell bp1.out)
   replace X := hid (X.out.trans x)
   clear x hE
   go_wp2_with fail
   go_ret
   exact ⟨rfl, X.out⟩

end Go.Proofs.Ytommhgcgaclflaa
