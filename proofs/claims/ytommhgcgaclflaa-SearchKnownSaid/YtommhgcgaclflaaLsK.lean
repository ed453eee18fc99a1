/- The law SearchKnown, walked. (Printed by wip/genknown_s.py.) -/
import Derived.Test.YtommhgcgaclflaaTI
import Derived.Test.YtommhgcgaclflaaZB7
import Derived.Test.YtommhgcgaclflaaTH
namespace Go.Proofs.Ytommhgcgaclflaa
set_option linter.unusedVariables false
set_option linter.unusedSimpArgs false
set_option linter.unusedSectionVars false
set_option linter.unnecessarySimpa false
open Go Go.RowKit Game
set_option maxRecDepth 100000

set_option maxHeartbeats 40000000 in
theorem searchKnown_any (w : World) : Calls Try.prog 15 #[] w fun e w' => e = .returned (.bool true) ∧ Ext w w' := by
  go_enter Try.func15, Try.ntmps15
  go_wp2_with fail
  refine (mixed_any _).mono ?_; rintro e w1 ⟨ga, ca, rfl, hA, hE1⟩
  replace hA := hid hA
  go_wp2_with fail
  refine (pure_anyT _).mono ?_; rintro e w2 ⟨gb, cb, rfl, hB, hE2⟩
  replace hB := hid hB
  go_wp2_with fail
  refine (round_anyT _).mono ?_; rintro e w3 ⟨gc, cc, rfl, hC, hE3⟩
  replace hC := hid hC
  go_wp2_with fail
  refine name_wp (fun v0 hv0 => ?_)
  have x0 : Ext w3 v0 := by rw [hv0]; exact (by repeat (with_reducible first | assumption | exact Ext.refl _ | refine Ext.drew ?_ | refine Ext.drewN ?_ _ | refine Ext.alloc ?_ _ | (refine Ext.setCell ?_ ?sz _; case sz => (first | (simp; done) | (simp; omega))) | refine Ext.trans ?_ (by assumption)))
  have mA := hid (show v0.cell? ⟨w3.heap.size, 0, none⟩ = some (.slice (some ⟨ga, 0, none⟩) 2 ca) by rw [hv0]; simp [go_sem])
  have mB := hid (show v0.cell? ⟨w3.heap.size + 1, 0, none⟩ = some (.slice (some ⟨gb, 0, none⟩) 2 cb) by rw [hv0]; simp [go_sem])
  have mC := hid (show v0.cell? ⟨w3.heap.size + 1 + 1, 0, none⟩ = some (.slice (some ⟨gc, 0, none⟩) 3 cc) by rw [hv0]; simp [go_sem])
  have tA := hid ((hA.out.ext (Ext.trans hE2 hE3)).ext x0)
  have tB := hid ((hB.out.ext hE3).ext x0)
  have tC := hid (hC.out.ext x0)
  have X := hid (show Ext w v0 from (by repeat (with_reducible first | assumption | exact Ext.refl _ | refine Ext.drew ?_ | refine Ext.drewN ?_ _ | refine Ext.alloc ?_ _ | (refine Ext.setCell ?_ ?sz _; case sz => (first | (simp; done) | (simp; omega))) | refine Ext.trans ?_ (by assumption))))
  clear hv0 x0 hA hB hC hE1 hE2 hE3
  generalize w3.heap.size = B0 at *
  -- D(A, [[1, 0]], SK1, bx, (-1, 1))
  have m0 := mA.out
  have l0 := cell_lt m0
  dsimp only at l0
  refine name_act (fun A_ hA_ => ?_)
  replace hA_ := hid hA_
  obtain ⟨Q2, hQ2⟩ : ∃ Q2 : Exit → Act → World → Prop, Q2 = fun e a' w' => e = .normal ∧ ∃ (k1 : Nat) (Bbx : Nat), a' = (((((((((A_.put (some 23) (.agg #[.slice (some ⟨ga, 0, none⟩) 2 ca])).put (some 24) (.slice (some ⟨k1, 0, none⟩) 2 2)).put (some 25) (.slice (some ⟨k1, 0, none⟩) 2 2)).put (some 26) (.tuple #[.agg #[.int .i64 (-1), .int .i64 1], .int .i64 0])).put (some 22) (.tuple #[.agg #[.int .i64 (-1), .int .i64 1], .int .i64 0])).put (some 27) (.agg #[.int .i64 (-1), .int .i64 1])).put (some 28) (.int .i64 0)).put (some 4) (.pointer (some ⟨Bbx, 0, none⟩))).put (some 5) (.int .i64 0)) ∧ Ext v0 w' ∧ w'.cell? ⟨Bbx, 0, none⟩ = some (.int .i64 (-1)) ∧ w'.cell? ⟨Bbx, 1, none⟩ = some (.int .i64 1) ∧ w'.frozen? ⟨Bbx, 0, none⟩ = false ∧ w'.frozen? ⟨Bbx, 1, none⟩ = false ∧ v0.heap.size ≤ Bbx := ⟨_, rfl⟩
  have hpan : ∀ c a a' w w', Q2 (.panic c) a w → Q2 (.panic c) a' w' := by rw [hQ2]; rintro c a a' w w' ⟨h, _⟩; cases h
  replace hQ2 := hid hQ2
  refine wp_mono (Q := Q2) ?_ ?_
  · as_aux_lemma =>
    clear X mA mB mC tB tC
    refine wp_region_held_drew (S := fun w' => Ext v0 w') (by kernel_rfl) (by repeat (with_reducible first | assumption | exact Ext.refl _ | refine Ext.drew ?_ | refine Ext.drewN ?_ _ | refine Ext.alloc ?_ _ | (refine Ext.setCell ?_ ?sz _; case sz => (first | (simp; done) | (simp; omega))) | refine Ext.trans ?_ (by assumption))) fun hHeld => ?_
    try simp only [List.append_eq, List.cons_append, List.nil_append]
    refine name_any (fun W0 hW => ?_)
    have s0 : Ext v0 W0 := by rw [hW]; exact hHeld
    clear hW hHeld
    refine wpF_intro 10 (by kernel_rfl) (fun F hF => ?_)
    replace hF := hid hF
    have N1_0 : ∀ (k1 : Nat) (Bbx : Nat) (f_ : Nat) (l_ : Array Bool) (W0 : World) (a_ : Act), f_ = 2 → l_ = #[true, true, true, true, true, true, true, true, false, false] → a_ = ((((((((A_.put (some 23) (.agg #[.slice (some ⟨ga, 0, none⟩) 2 ca])).put (some 24) (.slice (some ⟨k1, 0, none⟩) 2 2)).put (some 25) (.slice (some ⟨k1, 0, none⟩) 2 2)).put (some 26) (.tuple #[.agg #[.int .i64 (-1), .int .i64 1], .int .i64 0])).put (some 22) (.tuple #[.agg #[.int .i64 (-1), .int .i64 1], .int .i64 0])).put (some 27) (.agg #[.int .i64 (-1), .int .i64 1])).put (some 28) (.int .i64 0)).put (some 4) (.pointer (some ⟨Bbx, 0, none⟩))) → Ext v0 W0 → Hid (W0.cell? ⟨Bbx, 0, none⟩ = some (.int .i64 0)) → Hid (W0.cell? ⟨Bbx, 1, none⟩ = some (.int .i64 0)) → Hid (W0.frozen? ⟨Bbx, 0, none⟩ = false) → Hid (W0.frozen? ⟨Bbx, 1, none⟩ = false) → Hid (v0.heap.size ≤ Bbx) → F f_ l_ a_ W0 := by
      intro k1 Bbx f_ l_ W0 a_ hf_ hl_ ha_ s0 b7_0 b7_1 d7_0 d7_1 z7
      rw [hA_.out] at ha_
      simp only [sxA, sxB, sxC, Act.put, sxD, sxE, sxF] at ha_
      subst hf_ hl_ ha_
      refine (hF.out _ _ _ _).2 ?_
      refine wpAnyH_ready (rs := [8]) (by kernel_rfl) (by simp) ?_
      refine AllReadyH.cons (o := _) rfl (fun K hK => ?_) AllReadyH.nil
      have f0 := b7_0.out
      have g0 := d7_0.out
      have f1 := b7_1.out
      have g1 := d7_1.out
      have l0_ := s0.size
      have z0_ := z7.out
      go_simp
      refine hK.out _ _ (by repeat (with_reducible first | assumption | exact Ext.refl _ | refine Ext.drew ?_ | refine Ext.drewN ?_ _ | refine Ext.alloc ?_ _ | (refine Ext.setCell ?_ ?sz _; case sz => (first | (simp; done) | (simp; omega))) | refine Ext.trans ?_ (by assumption))) (fun _ => ?_)
      clear hK K
      try simp only [sxA, sxB, sxC, Act.put, sxD, sxE, sxF]
      refine name_any (fun W1 hW => ?_)
      have s1 : Ext v0 W1 := by rw [hW]; exact (by repeat (with_reducible first | assumption | exact Ext.refl _ | refine Ext.drew ?_ | refine Ext.drewN ?_ _ | refine Ext.alloc ?_ _ | (refine Ext.setCell ?_ ?sz _; case sz => (first | (simp; done) | (simp; omega))) | refine Ext.trans ?_ (by assumption)))
      have nb0 := hid (show W1.cell? ⟨Bbx, 0, none⟩ = some (.int .i64 (-1)) by rw [hW]; simp [go_sem, f0, f1])
      have nb1 := hid (show W1.cell? ⟨Bbx, 1, none⟩ = some (.int .i64 1) by rw [hW]; simp [go_sem, f0, f1])
      have nd0 := hid (show W1.frozen? ⟨Bbx, 0, none⟩ = false by rw [hW]; simp [go_sem, World.frozen?_setCell, g0, g1])
      have nd1 := hid (show W1.frozen? ⟨Bbx, 1, none⟩ = false by rw [hW]; simp [go_sem, World.frozen?_setCell, g0, g1])
      clear hW
      refine wpAnyH_take (i := 9) (oi := _) (v := ?_) rfl (by kernel_rfl) (by kernel_rfl) (by kernel_rfl) (fun c a w h => hpan c _ _ _ _ h) (Or.inl ⟨by rfl, ?yl⟩) (by assumption) ?_
      case yl => (intro w hSw; (try dsimp only at hSw); have k_0 := Ext.cell hSw m0; go_simp); with_reducible rfl
      try simp only [sxA, sxB, sxC, Act.put, sxD, sxE, sxF]
      refine wpAnyH_done (by kernel_rfl) ?_ _
      try simp only [sxA, sxB, sxC, Act.put, sxD, sxE, sxF]
      rw [hQ2.out]
      refine ⟨rfl, k1, Bbx, ?eq1_1, s1, nb0.out, nb1.out, nd0.out, nd1.out, z7.out⟩
      case eq1_1 => (rw [hA_.out]; (try simp only [sxA, sxB, sxC, Act.put, sxD, sxE, sxF]); first | done | with_reducible rfl | rfl)
    have N1_1 : ∀ (k1 : Nat) (f_ : Nat) (l_ : Array Bool) (W0 : World) (a_ : Act), f_ = 3 → l_ = #[true, true, true, true, true, true, true, false, false, false] → a_ = (((((((A_.put (some 23) (.agg #[.slice (some ⟨ga, 0, none⟩) 2 ca])).put (some 24) (.slice (some ⟨k1, 0, none⟩) 2 2)).put (some 25) (.slice (some ⟨k1, 0, none⟩) 2 2)).put (some 26) (.tuple #[.agg #[.int .i64 (-1), .int .i64 1], .int .i64 0])).put (some 22) (.tuple #[.agg #[.int .i64 (-1), .int .i64 1], .int .i64 0])).put (some 27) (.agg #[.int .i64 (-1), .int .i64 1])).put (some 28) (.int .i64 0)) → Ext v0 W0 → F f_ l_ a_ W0 := by
      intro k1 f_ l_ W0 a_ hf_ hl_ ha_ s0
      rw [hA_.out] at ha_
      simp only [sxA, sxB, sxC, Act.put, sxD, sxE, sxF] at ha_
      subst hf_ hl_ ha_
      refine (hF.out _ _ _ _).2 ?_
      refine wpAnyH_ready (rs := [7]) (by kernel_rfl) (by simp) ?_
      refine AllReadyH.cons (o := _) rfl (fun K hK => ?_) AllReadyH.nil
      go_simp
      refine hK.out _ _ (Ext.alloc s0 _) (fun _ => ?_)
      clear hK K
      try simp only [sxA, sxB, sxC, Act.put, sxD, sxE, sxF]
      refine name_any (fun W1 hW => ?_)
      have e1 : Ext W0 W1 := by rw [hW]; exact Ext.alloc (Ext.refl _) _
      have s1 := s0.trans e1
      have nb0 := hid (show W1.cell? ⟨W0.heap.size, 0, none⟩ = some (.int .i64 0) by rw [hW]; simp [go_sem])
      have nb1 := hid (show W1.cell? ⟨W0.heap.size, 1, none⟩ = some (.int .i64 0) by rw [hW]; simp [go_sem])
      have nd0 := hid (show W1.frozen? ⟨W0.heap.size, 0, none⟩ = false by rw [hW]; simp [go_sem])
      have nd1 := hid (show W1.frozen? ⟨W0.heap.size, 1, none⟩ = false by rw [hW]; simp [go_sem])
      clear hW
      refine (hF.out _ _ _ _).1 ?_
      exact N1_0 k1 W0.heap.size _ _ W1 _ (by first | rfl | kernel_rfl) (by first | rfl | kernel_rfl) (by rw [hA_.out]; (try simp only [sxA, sxB, sxC, Act.put, sxD, sxE, sxF]); first | done | with_reducible rfl | rfl) s1 nb0 nb1 nd0 nd1 (hid s0.size)
    have N1_2 : ∀ (k1 : Nat) (Bbx : Nat) (f_ : Nat) (l_ : Array Bool) (W0 : World) (a_ : Act), f_ = 6 → l_ = #[true, true, true, false, false, false, false, true, false, false] → a_ = ((((A_.put (some 23) (.agg #[.slice (some ⟨ga, 0, none⟩) 2 ca])).put (some 24) (.slice (some ⟨k1, 0, none⟩) 2 2)).put (some 25) (.slice (some ⟨k1, 0, none⟩) 2 2)).put (some 4) (.pointer (some ⟨Bbx, 0, none⟩))) → Ext v0 W0 → Hid (Ints W0 (some ⟨k1, 0, none⟩) [1, 0]) → Hid (W0.cell? ⟨Bbx, 0, none⟩ = some (.int .i64 0)) → Hid (W0.cell? ⟨Bbx, 1, none⟩ = some (.int .i64 0)) → Hid (W0.frozen? ⟨Bbx, 0, none⟩ = false) → Hid (W0.frozen? ⟨Bbx, 1, none⟩ = false) → Hid (v0.heap.size ≤ Bbx) → F f_ l_ a_ W0 := by
      intro k1 Bbx f_ l_ W0 a_ hf_ hl_ ha_ s0 i1 b7_0 b7_1 d7_0 d7_1 z7
      rw [hA_.out] at ha_
      simp only [sxA, sxB, sxC, Act.put, sxD, sxE, sxF] at ha_
      subst hf_ hl_ ha_
      refine (hF.out _ _ _ _).2 ?_
      refine wpAnyH_ready (rs := [3]) (by kernel_rfl) (by simp) ?_
      refine AllReadyH.cons (o := _) rfl (fun K hK => ?_) AllReadyH.nil
      go_simp
      refine (SK1 _ _ _ _ _ (tA.out.ext s0) i1.out).mono ?_; rintro e W1 ⟨rfl, e1⟩
      have s1 := s0.trans e1
      refine hK.out _ _ s1 (fun _ => ?_)
      clear hK K
      try simp only [sxA, sxB, sxC, Act.put, sxD, sxE, sxF]
      refine wpAnyH_take (i := 4) (oi := _) (v := ?_) rfl (by kernel_rfl) (by kernel_rfl) (by kernel_rfl) (fun c a w h => hpan c _ _ _ _ h) (Or.inl ⟨by rfl, ?yl⟩) (by assumption) ?_
      case yl => (intro w hSw; (try dsimp only at hSw); have k_0 := Ext.cell hSw m0; go_simp); with_reducible rfl
      try simp only [sxA, sxB, sxC, Act.put, sxD, sxE, sxF]
      refine wpAnyH_take (i := 5) (oi := _) (v := ?_) rfl (by kernel_rfl) (by kernel_rfl) (by kernel_rfl) (fun c a w h => hpan c _ _ _ _ h) (Or.inl ⟨by rfl, ?yl⟩) (by assumption) ?_
      case yl => (intro w hSw; (try dsimp only at hSw); have k_0 := Ext.cell hSw m0; go_simp); with_reducible rfl
      try simp only [sxA, sxB, sxC, Act.put, sxD, sxE, sxF]
      refine wpAnyH_take (i := 6) (oi := _) (v := ?_) rfl (by kernel_rfl) (by kernel_rfl) (by kernel_rfl) (fun c a w h => hpan c _ _ _ _ h) (Or.inl ⟨by rfl, ?yl⟩) (by assumption) ?_
      case yl => (intro w hSw; (try dsimp only at hSw); have k_0 := Ext.cell hSw m0; go_simp); with_reducible rfl
      try simp only [sxA, sxB, sxC, Act.put, sxD, sxE, sxF]
      refine (hF.out _ _ _ _).1 ?_
      exact N1_0 k1 Bbx _ _ W1 _ (by first | rfl | kernel_rfl) (by first | rfl | kernel_rfl) (by rw [hA_.out]; (try simp only [sxA, sxB, sxC, Act.put, sxD, sxE, sxF]); first | done | with_reducible rfl | rfl) s1 (hid (e1.cell b7_0.out)) (hid (e1.cell b7_1.out)) (hid ((e1.frozen (cell_lt b7_0.out)).trans d7_0.out)) (hid ((e1.frozen (cell_lt b7_1.out)).trans d7_1.out)) z7
    have N1_3 : ∀ (k1 : Nat) (f_ : Nat) (l_ : Array Bool) (W0 : World) (a_ : Act), f_ = 7 → l_ = #[true, true, true, false, false, false, false, false, false, false] → a_ = (((A_.put (some 23) (.agg #[.slice (some ⟨ga, 0, none⟩) 2 ca])).put (some 24) (.slice (some ⟨k1, 0, none⟩) 2 2)).put (some 25) (.slice (some ⟨k1, 0, none⟩) 2 2)) → Ext v0 W0 → Hid (Ints W0 (some ⟨k1, 0, none⟩) [1, 0]) → F f_ l_ a_ W0 := by
      intro k1 f_ l_ W0 a_ hf_ hl_ ha_ s0 i1
      rw [hA_.out] at ha_
      simp only [sxA, sxB, sxC, Act.put, sxD, sxE, sxF] at ha_
      subst hf_ hl_ ha_
      refine (hF.out _ _ _ _).2 ?_
      refine wpAnyH_ready (rs := [3, 7]) (by kernel_rfl) (by simp) ?_
      refine AllReadyH.cons (o := _) rfl (fun K hK => ?_) ?_
      · skip
        go_simp
        refine (SK1 _ _ _ _ _ (tA.out.ext s0) i1.out).mono ?_; rintro e W1 ⟨rfl, e1⟩
        have s1 := s0.trans e1
        refine hK.out _ _ s1 (fun _ => ?_)
        clear hK K
        try simp only [sxA, sxB, sxC, Act.put, sxD, sxE, sxF]
        refine wpAnyH_take (i := 4) (oi := _) (v := ?_) rfl (by kernel_rfl) (by kernel_rfl) (by kernel_rfl) (fun c a w h => hpan c _ _ _ _ h) (Or.inl ⟨by rfl, ?yl⟩) (by assumption) ?_
        case yl => (intro w hSw; (try dsimp only at hSw); have k_0 := Ext.cell hSw m0; go_simp); with_reducible rfl
        try simp only [sxA, sxB, sxC, Act.put, sxD, sxE, sxF]
        refine wpAnyH_take (i := 5) (oi := _) (v := ?_) rfl (by kernel_rfl) (by kernel_rfl) (by kernel_rfl) (fun c a w h => hpan c _ _ _ _ h) (Or.inl ⟨by rfl, ?yl⟩) (by assumption) ?_
        case yl => (intro w hSw; (try dsimp only at hSw); have k_0 := Ext.cell hSw m0; go_simp); with_reducible rfl
        try simp only [sxA, sxB, sxC, Act.put, sxD, sxE, sxF]
        refine wpAnyH_take (i := 6) (oi := _) (v := ?_) rfl (by kernel_rfl) (by kernel_rfl) (by kernel_rfl) (fun c a w h => hpan c _ _ _ _ h) (Or.inl ⟨by rfl, ?yl⟩) (by assumption) ?_
        case yl => (intro w hSw; (try dsimp only at hSw); have k_0 := Ext.cell hSw m0; go_simp); with_reducible rfl
        try simp only [sxA, sxB, sxC, Act.put, sxD, sxE, sxF]
        refine (hF.out _ _ _ _).1 ?_
        exact N1_1 k1 _ _ W1 _ (by first | rfl | kernel_rfl) (by first | rfl | kernel_rfl) (by rw [hA_.out]; (try simp only [sxA, sxB, sxC, Act.put, sxD, sxE, sxF]); first | done | with_reducible rfl | rfl) s1
      refine AllReadyH.cons (o := _) rfl (fun K hK => ?_) ?_
      · skip
        go_simp
        refine hK.out _ _ (Ext.alloc s0 _) (fun _ => ?_)
        clear hK K
        try simp only [sxA, sxB, sxC, Act.put, sxD, sxE, sxF]
        refine name_any (fun W1 hW => ?_)
        have e1 : Ext W0 W1 := by rw [hW]; exact Ext.alloc (Ext.refl _) _
        have s1 := s0.trans e1
        have nb0 := hid (show W1.cell? ⟨W0.heap.size, 0, none⟩ = some (.int .i64 0) by rw [hW]; simp [go_sem])
        have nb1 := hid (show W1.cell? ⟨W0.heap.size, 1, none⟩ = some (.int .i64 0) by rw [hW]; simp [go_sem])
        have nd0 := hid (show W1.frozen? ⟨W0.heap.size, 0, none⟩ = false by rw [hW]; simp [go_sem])
        have nd1 := hid (show W1.frozen? ⟨W0.heap.size, 1, none⟩ = false by rw [hW]; simp [go_sem])
        clear hW
        refine (hF.out _ _ _ _).1 ?_
        exact N1_2 k1 W0.heap.size _ _ W1 _ (by first | rfl | kernel_rfl) (by first | rfl | kernel_rfl) (by rw [hA_.out]; (try simp only [sxA, sxB, sxC, Act.put, sxD, sxE, sxF]); first | done | with_reducible rfl | rfl) s1 (hid (i1.out.ext e1)) nb0 nb1 nd0 nd1 (hid s0.size)
      exact AllReadyH.nil
    have N1_4 : ∀ (k1 : Nat) (Bbx : Nat) (f_ : Nat) (l_ : Array Bool) (W0 : World) (a_ : Act), f_ = 7 → l_ = #[true, true, false, false, false, false, false, true, false, false] → a_ = (((A_.put (some 23) (.agg #[.slice (some ⟨ga, 0, none⟩) 2 ca])).put (some 24) (.slice (some ⟨k1, 0, none⟩) 2 2)).put (some 4) (.pointer (some ⟨Bbx, 0, none⟩))) → Ext v0 W0 → Hid (Ints W0 (some ⟨k1, 0, none⟩) [1, 0]) → Hid (W0.cell? ⟨Bbx, 0, none⟩ = some (.int .i64 0)) → Hid (W0.cell? ⟨Bbx, 1, none⟩ = some (.int .i64 0)) → Hid (W0.frozen? ⟨Bbx, 0, none⟩ = false) → Hid (W0.frozen? ⟨Bbx, 1, none⟩ = false) → Hid (v0.heap.size ≤ Bbx) → F f_ l_ a_ W0 := by
      intro k1 Bbx f_ l_ W0 a_ hf_ hl_ ha_ s0 i1 b7_0 b7_1 d7_0 d7_1 z7
      rw [hA_.out] at ha_
      simp only [sxA, sxB, sxC, Act.put, sxD, sxE, sxF] at ha_
      subst hf_ hl_ ha_
      refine (hF.out _ _ _ _).2 ?_
      refine wpAnyH_ready (rs := [2]) (by kernel_rfl) (by simp) ?_
      refine AllReadyH.cons (o := _) rfl (fun K hK => ?_) AllReadyH.nil
      go_simp
      refine (longs_any _ _).mono ?_; rintro e W1 ⟨rfl, rfl⟩
      refine hK.out _ _ s0 (fun _ => ?_)
      clear hK K
      try simp only [sxA, sxB, sxC, Act.put, sxD, sxE, sxF]
      refine (hF.out _ _ _ _).1 ?_
      exact N1_2 k1 Bbx _ _ W0 _ (by first | rfl | kernel_rfl) (by first | rfl | kernel_rfl) (by rw [hA_.out]; (try simp only [sxA, sxB, sxC, Act.put, sxD, sxE, sxF]); first | done | with_reducible rfl | rfl) s0 i1 b7_0 b7_1 d7_0 d7_1 z7
    have N1_5 : ∀ (k1 : Nat) (f_ : Nat) (l_ : Array Bool) (W0 : World) (a_ : Act), f_ = 8 → l_ = #[true, true, false, false, false, false, false, false, false, false] → a_ = ((A_.put (some 23) (.agg #[.slice (some ⟨ga, 0, none⟩) 2 ca])).put (some 24) (.slice (some ⟨k1, 0, none⟩) 2 2)) → Ext v0 W0 → Hid (Ints W0 (some ⟨k1, 0, none⟩) [1, 0]) → F f_ l_ a_ W0 := by
      intro k1 f_ l_ W0 a_ hf_ hl_ ha_ s0 i1
      rw [hA_.out] at ha_
      simp only [sxA, sxB, sxC, Act.put, sxD, sxE, sxF] at ha_
      subst hf_ hl_ ha_
      refine (hF.out _ _ _ _).2 ?_
      refine wpAnyH_ready (rs := [2, 7]) (by kernel_rfl) (by simp) ?_
      refine AllReadyH.cons (o := _) rfl (fun K hK => ?_) ?_
      · skip
        go_simp
        refine (longs_any _ _).mono ?_; rintro e W1 ⟨rfl, rfl⟩
        refine hK.out _ _ s0 (fun _ => ?_)
        clear hK K
        try simp only [sxA, sxB, sxC, Act.put, sxD, sxE, sxF]
        refine (hF.out _ _ _ _).1 ?_
        exact N1_3 k1 _ _ W0 _ (by first | rfl | kernel_rfl) (by first | rfl | kernel_rfl) (by rw [hA_.out]; (try simp only [sxA, sxB, sxC, Act.put, sxD, sxE, sxF]); first | done | with_reducible rfl | rfl) s0 i1
      refine AllReadyH.cons (o := _) rfl (fun K hK => ?_) ?_
      · skip
        go_simp
        refine hK.out _ _ (Ext.alloc s0 _) (fun _ => ?_)
        clear hK K
        try simp only [sxA, sxB, sxC, Act.put, sxD, sxE, sxF]
        refine name_any (fun W1 hW => ?_)
        have e1 : Ext W0 W1 := by rw [hW]; exact Ext.alloc (Ext.refl _) _
        have s1 := s0.trans e1
        have nb0 := hid (show W1.cell? ⟨W0.heap.size, 0, none⟩ = some (.int .i64 0) by rw [hW]; simp [go_sem])
        have nb1 := hid (show W1.cell? ⟨W0.heap.size, 1, none⟩ = some (.int .i64 0) by rw [hW]; simp [go_sem])
        have nd0 := hid (show W1.frozen? ⟨W0.heap.size, 0, none⟩ = false by rw [hW]; simp [go_sem])
        have nd1 := hid (show W1.frozen? ⟨W0.heap.size, 1, none⟩ = false by rw [hW]; simp [go_sem])
        clear hW
        refine (hF.out _ _ _ _).1 ?_
        exact N1_4 k1 W0.heap.size _ _ W1 _ (by first | rfl | kernel_rfl) (by first | rfl | kernel_rfl) (by rw [hA_.out]; (try simp only [sxA, sxB, sxC, Act.put, sxD, sxE, sxF]); first | done | with_reducible rfl | rfl) s1 (hid (i1.out.ext e1)) nb0 nb1 nd0 nd1 (hid s0.size)
      exact AllReadyH.nil
    have N1_6 : ∀ (Bbx : Nat) (f_ : Nat) (l_ : Array Bool) (W0 : World) (a_ : Act), f_ = 8 → l_ = #[true, false, false, false, false, false, false, true, false, false] → a_ = ((A_.put (some 23) (.agg #[.slice (some ⟨ga, 0, none⟩) 2 ca])).put (some 4) (.pointer (some ⟨Bbx, 0, none⟩))) → Ext v0 W0 → Hid (W0.cell? ⟨Bbx, 0, none⟩ = some (.int .i64 0)) → Hid (W0.cell? ⟨Bbx, 1, none⟩ = some (.int .i64 0)) → Hid (W0.frozen? ⟨Bbx, 0, none⟩ = false) → Hid (W0.frozen? ⟨Bbx, 1, none⟩ = false) → Hid (v0.heap.size ≤ Bbx) → F f_ l_ a_ W0 := by
      intro Bbx f_ l_ W0 a_ hf_ hl_ ha_ s0 b7_0 b7_1 d7_0 d7_1 z7
      rw [hA_.out] at ha_
      simp only [sxA, sxB, sxC, Act.put, sxD, sxE, sxF] at ha_
      subst hf_ hl_ ha_
      refine (hF.out _ _ _ _).2 ?_
      refine wpAnyH_ready (rs := [1]) (by kernel_rfl) (by simp) ?_
      refine AllReadyH.cons (o := _) rfl (fun K hK => ?_) AllReadyH.nil
      go_simp
      refine hK.out _ _ (Ext.alloc s0 _) (fun _ => ?_)
      clear hK K
      try simp only [sxA, sxB, sxC, Act.put, sxD, sxE, sxF]
      refine name_any (fun W1 hW => ?_)
      have e1 : Ext W0 W1 := by rw [hW]; exact Ext.alloc (Ext.refl _) _
      have s1 := s0.trans e1
      have ni := hid (show Ints W1 (some ⟨W0.heap.size, 0, none⟩) [1, 0] by rw [hW]; exact lit2 (w := W0) (x := 1) (y := 0) (t := 2) rfl)
      clear hW
      refine (hF.out _ _ _ _).1 ?_
      exact N1_4 W0.heap.size Bbx _ _ W1 _ (by first | rfl | kernel_rfl) (by first | rfl | kernel_rfl) (by rw [hA_.out]; (try simp only [sxA, sxB, sxC, Act.put, sxD, sxE, sxF]); first | done | with_reducible rfl | rfl) s1 ni (hid (e1.cell b7_0.out)) (hid (e1.cell b7_1.out)) (hid ((e1.frozen (cell_lt b7_0.out)).trans d7_0.out)) (hid ((e1.frozen (cell_lt b7_1.out)).trans d7_1.out)) z7
    have N1_7 : ∀ (f_ : Nat) (l_ : Array Bool) (W0 : World) (a_ : Act), f_ = 9 → l_ = #[true, false, false, false, false, false, false, false, false, false] → a_ = (A_.put (some 23) (.agg #[.slice (some ⟨ga, 0, none⟩) 2 ca])) → Ext v0 W0 → F f_ l_ a_ W0 := by
      intro  f_ l_ W0 a_ hf_ hl_ ha_ s0
      rw [hA_.out] at ha_
      simp only [sxA, sxB, sxC, Act.put, sxD, sxE, sxF] at ha_
      subst hf_ hl_ ha_
      refine (hF.out _ _ _ _).2 ?_
      refine wpAnyH_ready (rs := [1, 7]) (by kernel_rfl) (by simp) ?_
      refine AllReadyH.cons (o := _) rfl (fun K hK => ?_) ?_
      · skip
        go_simp
        refine hK.out _ _ (Ext.alloc s0 _) (fun _ => ?_)
        clear hK K
        try simp only [sxA, sxB, sxC, Act.put, sxD, sxE, sxF]
        refine name_any (fun W1 hW => ?_)
        have e1 : Ext W0 W1 := by rw [hW]; exact Ext.alloc (Ext.refl _) _
        have s1 := s0.trans e1
        have ni := hid (show Ints W1 (some ⟨W0.heap.size, 0, none⟩) [1, 0] by rw [hW]; exact lit2 (w := W0) (x := 1) (y := 0) (t := 2) rfl)
        clear hW
        refine (hF.out _ _ _ _).1 ?_
        exact N1_5 W0.heap.size _ _ W1 _ (by first | rfl | kernel_rfl) (by first | rfl | kernel_rfl) (by rw [hA_.out]; (try simp only [sxA, sxB, sxC, Act.put, sxD, sxE, sxF]); first | done | with_reducible rfl | rfl) s1 ni
      refine AllReadyH.cons (o := _) rfl (fun K hK => ?_) ?_
      · skip
        go_simp
        refine hK.out _ _ (Ext.alloc s0 _) (fun _ => ?_)
        clear hK K
        try simp only [sxA, sxB, sxC, Act.put, sxD, sxE, sxF]
        refine name_any (fun W1 hW => ?_)
        have e1 : Ext W0 W1 := by rw [hW]; exact Ext.alloc (Ext.refl _) _
        have s1 := s0.trans e1
        have nb0 := hid (show W1.cell? ⟨W0.heap.size, 0, none⟩ = some (.int .i64 0) by rw [hW]; simp [go_sem])
        have nb1 := hid (show W1.cell? ⟨W0.heap.size, 1, none⟩ = some (.int .i64 0) by rw [hW]; simp [go_sem])
        have nd0 := hid (show W1.frozen? ⟨W0.heap.size, 0, none⟩ = false by rw [hW]; simp [go_sem])
        have nd1 := hid (show W1.frozen? ⟨W0.heap.size, 1, none⟩ = false by rw [hW]; simp [go_sem])
        clear hW
        refine (hF.out _ _ _ _).1 ?_
        exact N1_6 W0.heap.size _ _ W1 _ (by first | rfl | kernel_rfl) (by first | rfl | kernel_rfl) (by rw [hA_.out]; (try simp only [sxA, sxB, sxC, Act.put, sxD, sxE, sxF]); first | done | with_reducible rfl | rfl) s1 nb0 nb1 nd0 nd1 (hid s0.size)
      exact AllReadyH.nil
    rw [hA_.out]
    refine (hF.out _ _ _ _).2 ?_
    refine wpAnyH_take (i := 0) (oi := _) (v := ?_) rfl (by kernel_rfl) (by kernel_rfl) (by kernel_rfl) (fun c a w h => hpan c _ _ _ _ h) (Or.inl ⟨by rfl, ?yl⟩) (by assumption) ?_
    case yl => (intro w hSw; (try dsimp only at hSw); have k_0 := Ext.cell hSw m0; go_simp); with_reducible rfl
    try simp only [sxA, sxB, sxC, Act.put, sxD, sxE, sxF]
    refine (hF.out _ _ _ _).1 ?_
    exact N1_7 _ _ W0 _ (by first | rfl | kernel_rfl) (by first | rfl | kernel_rfl) (by rw [hA_.out]; (try simp only [sxA, sxB, sxC, Act.put, sxD, sxE, sxF]); first | done | with_reducible rfl | rfl) s0
  rw [hQ2.out]
  rintro e a' v1 ⟨rfl, k1, Bbx, rfl, x, c7_0, c7_1, fz7_0, fz7_1, z7⟩
  clear hQ2 hpan; clear Q2
  have hA1_ := hA_.out
  clear hA_
  subst hA1_
  simp only [sxA, sxB, sxC, Act.put, sxD, sxE, sxF]
  have c0 := c7_0; have c1 := c7_1; clear c7_0 c7_1 fz7_0 fz7_1 z7
  replace c0 := hid c0
  replace c1 := hid c1
  replace mA := hid (x.cell mA.out)
  replace mB := hid (x.cell mB.out)
  replace mC := hid (x.cell mC.out)
  replace tA := hid (tA.out.ext x)
  replace tB := hid (tB.out.ext x)
  replace tC := hid (tC.out.ext x)
  replace X := hid (X.out.trans x)
  have bx0 := c0
  have bx1 := c1
  clear x c0 c1 m0 l0
  go_wp2_with fail
  -- D(A, [[1, 1]], SK2, by, (1, 1))
  have m0 := mA.out
  have l0 := cell_lt m0
  dsimp only at l0
  refine name_act (fun A_ hA_ => ?_)
  replace hA_ := hid hA_
  obtain ⟨Q2, hQ2⟩ : ∃ Q2 : Exit → Act → World → Prop, Q2 = fun e a' w' => e = .normal ∧ ∃ (k1 : Nat) (Bby : Nat), a' = (((((((((A_.put (some 30) (.agg #[.slice (some ⟨ga, 0, none⟩) 2 ca])).put (some 31) (.slice (some ⟨k1, 0, none⟩) 2 2)).put (some 32) (.slice (some ⟨k1, 0, none⟩) 2 2)).put (some 33) (.tuple #[.agg #[.int .i64 1, .int .i64 1], .int .i64 0])).put (some 29) (.tuple #[.agg #[.int .i64 1, .int .i64 1], .int .i64 0])).put (some 34) (.agg #[.int .i64 1, .int .i64 1])).put (some 35) (.int .i64 0)).put (some 6) (.pointer (some ⟨Bby, 0, none⟩))).put (some 7) (.int .i64 0)) ∧ Ext v1 w' ∧ w'.cell? ⟨Bby, 0, none⟩ = some (.int .i64 1) ∧ w'.cell? ⟨Bby, 1, none⟩ = some (.int .i64 1) ∧ w'.frozen? ⟨Bby, 0, none⟩ = false ∧ w'.frozen? ⟨Bby, 1, none⟩ = false ∧ v1.heap.size ≤ Bby := ⟨_, rfl⟩
  have hpan : ∀ c a a' w w', Q2 (.panic c) a w → Q2 (.panic c) a' w' := by rw [hQ2]; rintro c a a' w w' ⟨h, _⟩; cases h
  replace hQ2 := hid hQ2
  refine wp_mono (Q := Q2) ?_ ?_
  · as_aux_lemma =>
    clear X mA mB mC tB tC bx0 bx1
    refine wp_region_held_drew (S := fun w' => Ext v1 w') (by kernel_rfl) (by repeat (with_reducible first | assumption | exact Ext.refl _ | refine Ext.drew ?_ | refine Ext.drewN ?_ _ | refine Ext.alloc ?_ _ | (refine Ext.setCell ?_ ?sz _; case sz => (first | (simp; done) | (simp; omega))) | refine Ext.trans ?_ (by assumption))) fun hHeld => ?_
    try simp only [List.append_eq, List.cons_append, List.nil_append]
    refine name_any (fun W0 hW => ?_)
    have s0 : Ext v1 W0 := by rw [hW]; exact hHeld
    clear hW hHeld
    refine wpF_intro 10 (by kernel_rfl) (fun F hF => ?_)
    replace hF := hid hF
    have N2_0 : ∀ (k1 : Nat) (Bby : Nat) (f_ : Nat) (l_ : Array Bool) (W0 : World) (a_ : Act), f_ = 2 → l_ = #[true, true, true, true, true, true, true, true, false, false] → a_ = ((((((((A_.put (some 30) (.agg #[.slice (some ⟨ga, 0, none⟩) 2 ca])).put (some 31) (.slice (some ⟨k1, 0, none⟩) 2 2)).put (some 32) (.slice (some ⟨k1, 0, none⟩) 2 2)).put (some 33) (.tuple #[.agg #[.int .i64 1, .int .i64 1], .int .i64 0])).put (some 29) (.tuple #[.agg #[.int .i64 1, .int .i64 1], .int .i64 0])).put (some 34) (.agg #[.int .i64 1, .int .i64 1])).put (some 35) (.int .i64 0)).put (some 6) (.pointer (some ⟨Bby, 0, none⟩))) → Ext v1 W0 → Hid (W0.cell? ⟨Bby, 0, none⟩ = some (.int .i64 0)) → Hid (W0.cell? ⟨Bby, 1, none⟩ = some (.int .i64 0)) → Hid (W0.frozen? ⟨Bby, 0, none⟩ = false) → Hid (W0.frozen? ⟨Bby, 1, none⟩ = false) → Hid (v1.heap.size ≤ Bby) → F f_ l_ a_ W0 := by
      intro k1 Bby f_ l_ W0 a_ hf_ hl_ ha_ s0 b7_0 b7_1 d7_0 d7_1 z7
      rw [hA_.out] at ha_
      simp only [sxA, sxB, sxC, Act.put, sxD, sxE, sxF] at ha_
      subst hf_ hl_ ha_
      refine (hF.out _ _ _ _).2 ?_
      refine wpAnyH_ready (rs := [8]) (by kernel_rfl) (by simp) ?_
      refine AllReadyH.cons (o := _) rfl (fun K hK => ?_) AllReadyH.nil
      have f0 := b7_0.out
      have g0 := d7_0.out
      have f1 := b7_1.out
      have g1 := d7_1.out
      have l0_ := s0.size
      have z0_ := z7.out
      go_simp
      refine hK.out _ _ (by repeat (with_reducible first | assumption | exact Ext.refl _ | refine Ext.drew ?_ | refine Ext.drewN ?_ _ | refine Ext.alloc ?_ _ | (refine Ext.setCell ?_ ?sz _; case sz => (first | (simp; done) | (simp; omega))) | refine Ext.trans ?_ (by assumption))) (fun _ => ?_)
      clear hK K
      try simp only [sxA, sxB, sxC, Act.put, sxD, sxE, sxF]
      refine name_any (fun W1 hW => ?_)
      have s1 : Ext v1 W1 := by rw [hW]; exact (by repeat (with_reducible first | assumption | exact Ext.refl _ | refine Ext.drew ?_ | refine Ext.drewN ?_ _ | refine Ext.alloc ?_ _ | (refine Ext.setCell ?_ ?sz _; case sz => (first | (simp; done) | (simp; omega))) | refine Ext.trans ?_ (by assumption)))
      have nb0 := hid (show W1.cell? ⟨Bby, 0, none⟩ = some (.int .i64 1) by rw [hW]; simp [go_sem, f0, f1])
      have nb1 := hid (show W1.cell? ⟨Bby, 1, none⟩ = some (.int .i64 1) by rw [hW]; simp [go_sem, f0, f1])
      have nd0 := hid (show W1.frozen? ⟨Bby, 0, none⟩ = false by rw [hW]; simp [go_sem, World.frozen?_setCell, g0, g1])
      have nd1 := hid (show W1.frozen? ⟨Bby, 1, none⟩ = false by rw [hW]; simp [go_sem, World.frozen?_setCell, g0, g1])
      clear hW
      refine wpAnyH_take (i := 9) (oi := _) (v := ?_) rfl (by kernel_rfl) (by kernel_rfl) (by kernel_rfl) (fun c a w h => hpan c _ _ _ _ h) (Or.inl ⟨by rfl, ?yl⟩) (by assumption) ?_
      case yl => (intro w hSw; (try dsimp only at hSw); have k_0 := Ext.cell hSw m0; go_simp); with_reducible rfl
      try simp only [sxA, sxB, sxC, Act.put, sxD, sxE, sxF]
      refine wpAnyH_done (by kernel_rfl) ?_ _
      try simp only [sxA, sxB, sxC, Act.put, sxD, sxE, sxF]
      rw [hQ2.out]
      refine ⟨rfl, k1, Bby, ?eq2_1, s1, nb0.out, nb1.out, nd0.out, nd1.out, z7.out⟩
      case eq2_1 => (rw [hA_.out]; (try simp only [sxA, sxB, sxC, Act.put, sxD, sxE, sxF]); first | done | with_reducible rfl | rfl)
    have N2_1 : ∀ (k1 : Nat) (f_ : Nat) (l_ : Array Bool) (W0 : World) (a_ : Act), f_ = 3 → l_ = #[true, true, true, true, true, true, true, false, false, false] → a_ = (((((((A_.put (some 30) (.agg #[.slice (some ⟨ga, 0, none⟩) 2 ca])).put (some 31) (.slice (some ⟨k1, 0, none⟩) 2 2)).put (some 32) (.slice (some ⟨k1, 0, none⟩) 2 2)).put (some 33) (.tuple #[.agg #[.int .i64 1, .int .i64 1], .int .i64 0])).put (some 29) (.tuple #[.agg #[.int .i64 1, .int .i64 1], .int .i64 0])).put (some 34) (.agg #[.int .i64 1, .int .i64 1])).put (some 35) (.int .i64 0)) → Ext v1 W0 → F f_ l_ a_ W0 := by
      intro k1 f_ l_ W0 a_ hf_ hl_ ha_ s0
      rw [hA_.out] at ha_
      simp only [sxA, sxB, sxC, Act.put, sxD, sxE, sxF] at ha_
      subst hf_ hl_ ha_
      refine (hF.out _ _ _ _).2 ?_
      refine wpAnyH_ready (rs := [7]) (by kernel_rfl) (by simp) ?_
      refine AllReadyH.cons (o := _) rfl (fun K hK => ?_) AllReadyH.nil
      go_simp
      refine hK.out _ _ (Ext.alloc s0 _) (fun _ => ?_)
      clear hK K
      try simp only [sxA, sxB, sxC, Act.put, sxD, sxE, sxF]
      refine name_any (fun W1 hW => ?_)
      have e1 : Ext W0 W1 := by rw [hW]; exact Ext.alloc (Ext.refl _) _
      have s1 := s0.trans e1
      have nb0 := hid (show W1.cell? ⟨W0.heap.size, 0, none⟩ = some (.int .i64 0) by rw [hW]; simp [go_sem])
      have nb1 := hid (show W1.cell? ⟨W0.heap.size, 1, none⟩ = some (.int .i64 0) by rw [hW]; simp [go_sem])
      have nd0 := hid (show W1.frozen? ⟨W0.heap.size, 0, none⟩ = false by rw [hW]; simp [go_sem])
      have nd1 := hid (show W1.frozen? ⟨W0.heap.size, 1, none⟩ = false by rw [hW]; simp [go_sem])
      clear hW
      refine (hF.out _ _ _ _).1 ?_
      exact N2_0 k1 W0.heap.size _ _ W1 _ (by first | rfl | kernel_rfl) (by first | rfl | kernel_rfl) (by rw [hA_.out]; (try simp only [sxA, sxB, sxC, Act.put, sxD, sxE, sxF]); first | done | with_reducible rfl | rfl) s1 nb0 nb1 nd0 nd1 (hid s0.size)
    have N2_2 : ∀ (k1 : Nat) (Bby : Nat) (f_ : Nat) (l_ : Array Bool) (W0 : World) (a_ : Act), f_ = 6 → l_ = #[true, true, true, false, false, false, false, true, false, false] → a_ = ((((A_.put (some 30) (.agg #[.slice (some ⟨ga, 0, none⟩) 2 ca])).put (some 31) (.slice (some ⟨k1, 0, none⟩) 2 2)).put (some 32) (.slice (some ⟨k1, 0, none⟩) 2 2)).put (some 6) (.pointer (some ⟨Bby, 0, none⟩))) → Ext v1 W0 → Hid (Ints W0 (some ⟨k1, 0, none⟩) [1, 1]) → Hid (W0.cell? ⟨Bby, 0, none⟩ = some (.int .i64 0)) → Hid (W0.cell? ⟨Bby, 1, none⟩ = some (.int .i64 0)) → Hid (W0.frozen? ⟨Bby, 0, none⟩ = false) → Hid (W0.frozen? ⟨Bby, 1, none⟩ = false) → Hid (v1.heap.size ≤ Bby) → F f_ l_ a_ W0 := by
      intro k1 Bby f_ l_ W0 a_ hf_ hl_ ha_ s0 i1 b7_0 b7_1 d7_0 d7_1 z7
      rw [hA_.out] at ha_
      simp only [sxA, sxB, sxC, Act.put, sxD, sxE, sxF] at ha_
      subst hf_ hl_ ha_
      refine (hF.out _ _ _ _).2 ?_
      refine wpAnyH_ready (rs := [3]) (by kernel_rfl) (by simp) ?_
      refine AllReadyH.cons (o := _) rfl (fun K hK => ?_) AllReadyH.nil
      go_simp
      refine (SK2 _ _ _ _ _ (tA.out.ext s0) i1.out).mono ?_; rintro e W1 ⟨rfl, e1⟩
      have s1 := s0.trans e1
      refine hK.out _ _ s1 (fun _ => ?_)
      clear hK K
      try simp only [sxA, sxB, sxC, Act.put, sxD, sxE, sxF]
      refine wpAnyH_take (i := 4) (oi := _) (v := ?_) rfl (by kernel_rfl) (by kernel_rfl) (by kernel_rfl) (fun c a w h => hpan c _ _ _ _ h) (Or.inl ⟨by rfl, ?yl⟩) (by assumption) ?_
      case yl => (intro w hSw; (try dsimp only at hSw); have k_0 := Ext.cell hSw m0; go_simp); with_reducible rfl
      try simp only [sxA, sxB, sxC, Act.put, sxD, sxE, sxF]
      refine wpAnyH_take (i := 5) (oi := _) (v := ?_) rfl (by kernel_rfl) (by kernel_rfl) (by kernel_rfl) (fun c a w h => hpan c _ _ _ _ h) (Or.inl ⟨by rfl, ?yl⟩) (by assumption) ?_
      case yl => (intro w hSw; (try dsimp only at hSw); have k_0 := Ext.cell hSw m0; go_simp); with_reducible rfl
      try simp only [sxA, sxB, sxC, Act.put, sxD, sxE, sxF]
      refine wpAnyH_take (i := 6) (oi := _) (v := ?_) rfl (by kernel_rfl) (by kernel_rfl) (by kernel_rfl) (fun c a w h => hpan c _ _ _ _ h) (Or.inl ⟨by rfl, ?yl⟩) (by assumption) ?_
      case yl => (intro w hSw; (try dsimp only at hSw); have k_0 := Ext.cell hSw m0; go_simp); with_reducible rfl
      try simp only [sxA, sxB, sxC, Act.put, sxD, sxE, sxF]
      refine (hF.out _ _ _ _).1 ?_
      exact N2_0 k1 Bby _ _ W1 _ (by first | rfl | kernel_rfl) (by first | rfl | kernel_rfl) (by rw [hA_.out]; (try simp only [sxA, sxB, sxC, Act.put, sxD, sxE, sxF]); first | done | with_reducible rfl | rfl) s1 (hid (e1.cell b7_0.out)) (hid (e1.cell b7_1.out)) (hid ((e1.frozen (cell_lt b7_0.out)).trans d7_0.out)) (hid ((e1.frozen (cell_lt b7_1.out)).trans d7_1.out)) z7
    have N2_3 : ∀ (k1 : Nat) (f_ : Nat) (l_ : Array Bool) (W0 : World) (a_ : Act), f_ = 7 → l_ = #[true, true, true, false, false, false, false, false, false, false] → a_ = (((A_.put (some 30) (.agg #[.slice (some ⟨ga, 0, none⟩) 2 ca])).put (some 31) (.slice (some ⟨k1, 0, none⟩) 2 2)).put (some 32) (.slice (some ⟨k1, 0, none⟩) 2 2)) → Ext v1 W0 → Hid (Ints W0 (some ⟨k1, 0, none⟩) [1, 1]) → F f_ l_ a_ W0 := by
      intro k1 f_ l_ W0 a_ hf_ hl_ ha_ s0 i1
      rw [hA_.out] at ha_
      simp only [sxA, sxB, sxC, Act.put, sxD, sxE, sxF] at ha_
      subst hf_ hl_ ha_
      refine (hF.out _ _ _ _).2 ?_
      refine wpAnyH_ready (rs := [3, 7]) (by kernel_rfl) (by simp) ?_
      refine AllReadyH.cons (o := _) rfl (fun K hK => ?_) ?_
      · skip
        go_simp
        refine (SK2 _ _ _ _ _ (tA.out.ext s0) i1.out).mono ?_; rintro e W1 ⟨rfl, e1⟩
        have s1 := s0.trans e1
        refine hK.out _ _ s1 (fun _ => ?_)
        clear hK K
        try simp only [sxA, sxB, sxC, Act.put, sxD, sxE, sxF]
        refine wpAnyH_take (i := 4) (oi := _) (v := ?_) rfl (by kernel_rfl) (by kernel_rfl) (by kernel_rfl) (fun c a w h => hpan c _ _ _ _ h) (Or.inl ⟨by rfl, ?yl⟩) (by assumption) ?_
        case yl => (intro w hSw; (try dsimp only at hSw); have k_0 := Ext.cell hSw m0; go_simp); with_reducible rfl
        try simp only [sxA, sxB, sxC, Act.put, sxD, sxE, sxF]
        refine wpAnyH_take (i := 5) (oi := _) (v := ?_) rfl (by kernel_rfl) (by kernel_rfl) (by kernel_rfl) (fun c a w h => hpan c _ _ _ _ h) (Or.inl ⟨by rfl, ?yl⟩) (by assumption) ?_
        case yl => (intro w hSw; (try dsimp only at hSw); have k_0 := Ext.cell hSw m0; go_simp); with_reducible rfl
        try simp only [sxA, sxB, sxC, Act.put, sxD, sxE, sxF]
        refine wpAnyH_take (i := 6) (oi := _) (v := ?_) rfl (by kernel_rfl) (by kernel_rfl) (by kernel_rfl) (fun c a w h => hpan c _ _ _ _ h) (Or.inl ⟨by rfl, ?yl⟩) (by assumption) ?_
        case yl => (intro w hSw; (try dsimp only at hSw); have k_0 := Ext.cell hSw m0; go_simp); with_reducible rfl
        try simp only [sxA, sxB, sxC, Act.put, sxD, sxE, sxF]
        refine (hF.out _ _ _ _).1 ?_
        exact N2_1 k1 _ _ W1 _ (by first | rfl | kernel_rfl) (by first | rfl | kernel_rfl) (by rw [hA_.out]; (try simp only [sxA, sxB, sxC, Act.put, sxD, sxE, sxF]); first | done | with_reducible rfl | rfl) s1
      refine AllReadyH.cons (o := _) rfl (fun K hK => ?_) ?_
      · skip
        go_simp
        refine hK.out _ _ (Ext.alloc s0 _) (fun _ => ?_)
        clear hK K
        try simp only [sxA, sxB, sxC, Act.put, sxD, sxE, sxF]
        refine name_any (fun W1 hW => ?_)
        have e1 : Ext W0 W1 := by rw [hW]; exact Ext.alloc (Ext.refl _) _
        have s1 := s0.trans e1
        have nb0 := hid (show W1.cell? ⟨W0.heap.size, 0, none⟩ = some (.int .i64 0) by rw [hW]; simp [go_sem])
        have nb1 := hid (show W1.cell? ⟨W0.heap.size, 1, none⟩ = some (.int .i64 0) by rw [hW]; simp [go_sem])
        have nd0 := hid (show W1.frozen? ⟨W0.heap.size, 0, none⟩ = false by rw [hW]; simp [go_sem])
        have nd1 := hid (show W1.frozen? ⟨W0.heap.size, 1, none⟩ = false by rw [hW]; simp [go_sem])
        clear hW
        refine (hF.out _ _ _ _).1 ?_
        exact N2_2 k1 W0.heap.size _ _ W1 _ (by first | rfl | kernel_rfl) (by first | rfl | kernel_rfl) (by rw [hA_.out]; (try simp only [sxA, sxB, sxC, Act.put, sxD, sxE, sxF]); first | done | with_reducible rfl | rfl) s1 (hid (i1.out.ext e1)) nb0 nb1 nd0 nd1 (hid s0.size)
      exact AllReadyH.nil
    have N2_4 : ∀ (k1 : Nat) (Bby : Nat) (f_ : Nat) (l_ : Array Bool) (W0 : World) (a_ : Act), f_ = 7 → l_ = #[true, true, false, false, false, false, false, true, false, false] → a_ = (((A_.put (some 30) (.agg #[.slice (some ⟨ga, 0, none⟩) 2 ca])).put (some 31) (.slice (some ⟨k1, 0, none⟩) 2 2)).put (some 6) (.pointer (some ⟨Bby, 0, none⟩))) → Ext v1 W0 → Hid (Ints W0 (some ⟨k1, 0, none⟩) [1, 1]) → Hid (W0.cell? ⟨Bby, 0, none⟩ = some (.int .i64 0)) → Hid (W0.cell? ⟨Bby, 1, none⟩ = some (.int .i64 0)) → Hid (W0.frozen? ⟨Bby, 0, none⟩ = false) → Hid (W0.frozen? ⟨Bby, 1, none⟩ = false) → Hid (v1.heap.size ≤ Bby) → F f_ l_ a_ W0 := by
      intro k1 Bby f_ l_ W0 a_ hf_ hl_ ha_ s0 i1 b7_0 b7_1 d7_0 d7_1 z7
      rw [hA_.out] at ha_
      simp only [sxA, sxB, sxC, Act.put, sxD, sxE, sxF] at ha_
      subst hf_ hl_ ha_
      refine (hF.out _ _ _ _).2 ?_
      refine wpAnyH_ready (rs := [2]) (by kernel_rfl) (by simp) ?_
      refine AllReadyH.cons (o := _) rfl (fun K hK => ?_) AllReadyH.nil
      go_simp
      refine (longs_any _ _).mono ?_; rintro e W1 ⟨rfl, rfl⟩
      refine hK.out _ _ s0 (fun _ => ?_)
      clear hK K
      try simp only [sxA, sxB, sxC, Act.put, sxD, sxE, sxF]
      refine (hF.out _ _ _ _).1 ?_
      exact N2_2 k1 Bby _ _ W0 _ (by first | rfl | kernel_rfl) (by first | rfl | kernel_rfl) (by rw [hA_.out]; (try simp only [sxA, sxB, sxC, Act.put, sxD, sxE, sxF]); first | done | with_reducible rfl | rfl) s0 i1 b7_0 b7_1 d7_0 d7_1 z7
    have N2_5 : ∀ (k1 : Nat) (f_ : Nat) (l_ : Array Bool) (W0 : World) (a_ : Act), f_ = 8 → l_ = #[true, true, false, false, false, false, false, false, false, false] → a_ = ((A_.put (some 30) (.agg #[.slice (some ⟨ga, 0, none⟩) 2 ca])).put (some 31) (.slice (some ⟨k1, 0, none⟩) 2 2)) → Ext v1 W0 → Hid (Ints W0 (some ⟨k1, 0, none⟩) [1, 1]) → F f_ l_ a_ W0 := by
      intro k1 f_ l_ W0 a_ hf_ hl_ ha_ s0 i1
      rw [hA_.out] at ha_
      simp only [sxA, sxB, sxC, Act.put, sxD, sxE, sxF] at ha_
      subst hf_ hl_ ha_
      refine (hF.out _ _ _ _).2 ?_
      refine wpAnyH_ready (rs := [2, 7]) (by kernel_rfl) (by simp) ?_
      refine AllReadyH.cons (o := _) rfl (fun K hK => ?_) ?_
      · skip
        go_simp
        refine (longs_any _ _).mono ?_; rintro e W1 ⟨rfl, rfl⟩
        refine hK.out _ _ s0 (fun _ => ?_)
        clear hK K
        try simp only [sxA, sxB, sxC, Act.put, sxD, sxE, sxF]
        refine (hF.out _ _ _ _).1 ?_
        exact N2_3 k1 _ _ W0 _ (by first | rfl | kernel_rfl) (by first | rfl | kernel_rfl) (by rw [hA_.out]; (try simp only [sxA, sxB, sxC, Act.put, sxD, sxE, sxF]); first | done | with_reducible rfl | rfl) s0 i1
      refine AllReadyH.cons (o := _) rfl (fun K hK => ?_) ?_
      · skip
        go_simp
        refine hK.out _ _ (Ext.alloc s0 _) (fun _ => ?_)
        clear hK K
        try simp only [sxA, sxB, sxC, Act.put, sxD, sxE, sxF]
        refine name_any (fun W1 hW => ?_)
        have e1 : Ext W0 W1 := by rw [hW]; exact Ext.alloc (Ext.refl _) _
        have s1 := s0.trans e1
        have nb0 := hid (show W1.cell? ⟨W0.heap.size, 0, none⟩ = some (.int .i64 0) by rw [hW]; simp [go_sem])
        have nb1 := hid (show W1.cell? ⟨W0.heap.size, 1, none⟩ = some (.int .i64 0) by rw [hW]; simp [go_sem])
        have nd0 := hid (show W1.frozen? ⟨W0.heap.size, 0, none⟩ = false by rw [hW]; simp [go_sem])
        have nd1 := hid (show W1.frozen? ⟨W0.heap.size, 1, none⟩ = false by rw [hW]; simp [go_sem])
        clear hW
        refine (hF.out _ _ _ _).1 ?_
        exact N2_4 k1 W0.heap.size _ _ W1 _ (by first | rfl | kernel_rfl) (by first | rfl | kernel_rfl) (by rw [hA_.out]; (try simp only [sxA, sxB, sxC, Act.put, sxD, sxE, sxF]); first | done | with_reducible rfl | rfl) s1 (hid (i1.out.ext e1)) nb0 nb1 nd0 nd1 (hid s0.size)
      exact AllReadyH.nil
    have N2_6 : ∀ (Bby : Nat) (f_ : Nat) (l_ : Array Bool) (W0 : World) (a_ : Act), f_ = 8 → l_ = #[true, false, false, false, false, false, false, true, false, false] → a_ = ((A_.put (some 30) (.agg #[.slice (some ⟨ga, 0, none⟩) 2 ca])).put (some 6) (.pointer (some ⟨Bby, 0, none⟩))) → Ext v1 W0 → Hid (W0.cell? ⟨Bby, 0, none⟩ = some (.int .i64 0)) → Hid (W0.cell? ⟨Bby, 1, none⟩ = some (.int .i64 0)) → Hid (W0.frozen? ⟨Bby, 0, none⟩ = false) → Hid (W0.frozen? ⟨Bby, 1, none⟩ = false) → Hid (v1.heap.size ≤ Bby) → F f_ l_ a_ W0 := by
      intro Bby f_ l_ W0 a_ hf_ hl_ ha_ s0 b7_0 b7_1 d7_0 d7_1 z7
      rw [hA_.out] at ha_
      simp only [sxA, sxB, sxC, Act.put, sxD, sxE, sxF] at ha_
      subst hf_ hl_ ha_
      refine (hF.out _ _ _ _).2 ?_
      refine wpAnyH_ready (rs := [1]) (by kernel_rfl) (by simp) ?_
      refine AllReadyH.cons (o := _) rfl (fun K hK => ?_) AllReadyH.nil
      go_simp
      refine hK.out _ _ (Ext.alloc s0 _) (fun _ => ?_)
      clear hK K
      try simp only [sxA, sxB, sxC, Act.put, sxD, sxE, sxF]
      refine name_any (fun W1 hW => ?_)
      have e1 : Ext W0 W1 := by rw [hW]; exact Ext.alloc (Ext.refl _) _
      have s1 := s0.trans e1
      have ni := hid (show Ints W1 (some ⟨W0.heap.size, 0, none⟩) [1, 1] by rw [hW]; exact lit2 (w := W0) (x := 1) (y := 1) (t := 2) rfl)
      clear hW
      refine (hF.out _ _ _ _).1 ?_
      exact N2_4 W0.heap.size Bby _ _ W1 _ (by first | rfl | kernel_rfl) (by first | rfl | kernel_rfl) (by rw [hA_.out]; (try simp only [sxA, sxB, sxC, Act.put, sxD, sxE, sxF]); first | done | with_reducible rfl | rfl) s1 ni (hid (e1.cell b7_0.out)) (hid (e1.cell b7_1.out)) (hid ((e1.frozen (cell_lt b7_0.out)).trans d7_0.out)) (hid ((e1.frozen (cell_lt b7_1.out)).trans d7_1.out)) z7
    have N2_7 : ∀ (f_ : Nat) (l_ : Array Bool) (W0 : World) (a_ : Act), f_ = 9 → l_ = #[true, false, false, false, false, false, false, false, false, false] → a_ = (A_.put (some 30) (.agg #[.slice (some ⟨ga, 0, none⟩) 2 ca])) → Ext v1 W0 → F f_ l_ a_ W0 := by
      intro  f_ l_ W0 a_ hf_ hl_ ha_ s0
      rw [hA_.out] at ha_
      simp only [sxA, sxB, sxC, Act.put, sxD, sxE, sxF] at ha_
      subst hf_ hl_ ha_
      refine (hF.out _ _ _ _).2 ?_
      refine wpAnyH_ready (rs := [1, 7]) (by kernel_rfl) (by simp) ?_
      refine AllReadyH.cons (o := _) rfl (fun K hK => ?_) ?_
      · skip
        go_simp
        refine hK.out _ _ (Ext.alloc s0 _) (fun _ => ?_)
        clear hK K
        try simp only [sxA, sxB, sxC, Act.put, sxD, sxE, sxF]
        refine name_any (fun W1 hW => ?_)
        have e1 : Ext W0 W1 := by rw [hW]; exact Ext.alloc (Ext.refl _) _
        have s1 := s0.trans e1
        have ni := hid (show Ints W1 (some ⟨W0.heap.size, 0, none⟩) [1, 1] by rw [hW]; exact lit2 (w := W0) (x := 1) (y := 1) (t := 2) rfl)
        clear hW
        refine (hF.out _ _ _ _).1 ?_
        exact N2_5 W0.heap.size _ _ W1 _ (by first | rfl | kernel_rfl) (by first | rfl | kernel_rfl) (by rw [hA_.out]; (try simp only [sxA, sxB, sxC, Act.put, sxD, sxE, sxF]); first | done | with_reducible rfl | rfl) s1 ni
      refine AllReadyH.cons (o := _) rfl (fun K hK => ?_) ?_
      · skip
        go_simp
        refine hK.out _ _ (Ext.alloc s0 _) (fun _ => ?_)
        clear hK K
        try simp only [sxA, sxB, sxC, Act.put, sxD, sxE, sxF]
        refine name_any (fun W1 hW => ?_)
        have e1 : Ext W0 W1 := by rw [hW]; exact Ext.alloc (Ext.refl _) _
        have s1 := s0.trans e1
        have nb0 := hid (show W1.cell? ⟨W0.heap.size, 0, none⟩ = some (.int .i64 0) by rw [hW]; simp [go_sem])
        have nb1 := hid (show W1.cell? ⟨W0.heap.size, 1, none⟩ = some (.int .i64 0) by rw [hW]; simp [go_sem])
        have nd0 := hid (show W1.frozen? ⟨W0.heap.size, 0, none⟩ = false by rw [hW]; simp [go_sem])
        have nd1 := hid (show W1.frozen? ⟨W0.heap.size, 1, none⟩ = false by rw [hW]; simp [go_sem])
        clear hW
        refine (hF.out _ _ _ _).1 ?_
        exact N2_6 W0.heap.size _ _ W1 _ (by first | rfl | kernel_rfl) (by first | rfl | kernel_rfl) (by rw [hA_.out]; (try simp only [sxA, sxB, sxC, Act.put, sxD, sxE, sxF]); first | done | with_reducible rfl | rfl) s1 nb0 nb1 nd0 nd1 (hid s0.size)
      exact AllReadyH.nil
    rw [hA_.out]
    refine (hF.out _ _ _ _).2 ?_
    refine wpAnyH_take (i := 0) (oi := _) (v := ?_) rfl (by kernel_rfl) (by kernel_rfl) (by kernel_rfl) (fun c a w h => hpan c _ _ _ _ h) (Or.inl ⟨by rfl, ?yl⟩) (by assumption) ?_
    case yl => (intro w hSw; (try dsimp only at hSw); have k_0 := Ext.cell hSw m0; go_simp); with_reducible rfl
    try simp only [sxA, sxB, sxC, Act.put, sxD, sxE, sxF]
    refine (hF.out _ _ _ _).1 ?_
    exact N2_7 _ _ W0 _ (by first | rfl | kernel_rfl) (by first | rfl | kernel_rfl) (by rw [hA_.out]; (try simp only [sxA, sxB, sxC, Act.put, sxD, sxE, sxF]); first | done | with_reducible rfl | rfl) s0
  rw [hQ2.out]
  rintro e a' v2 ⟨rfl, k1, Bby, rfl, x, c7_0, c7_1, fz7_0, fz7_1, z7⟩
  clear hQ2 hpan; clear Q2
  have hA1_ := hA_.out
  clear hA_
  subst hA1_
  simp only [sxA, sxB, sxC, Act.put, sxD, sxE, sxF]
  have c0 := c7_0; have c1 := c7_1; clear c7_0 c7_1 fz7_0 fz7_1 z7
  replace c0 := hid c0
  replace c1 := hid c1
  replace mA := hid (x.cell mA.out)
  replace mB := hid (x.cell mB.out)
  replace mC := hid (x.cell mC.out)
  replace tA := hid (tA.out.ext x)
  replace tB := hid (tB.out.ext x)
  replace tC := hid (tC.out.ext x)
  replace bx0 := hid (x.cell bx0.out)
  replace bx1 := hid (x.cell bx1.out)
  replace X := hid (X.out.trans x)
  have by0 := c0
  have by1 := c1
  clear x c0 c1 m0 l0
  have m0 := mB.out
  have l0 := cell_lt m0
  dsimp only at l0
  go_wp2_with fail
  -- P(B, SK3, bv, (1, 1))
  refine (SK3 _ _ _ (tB.out.ext (by repeat (with_reducible first | assumption | exact Ext.refl _ | refine Ext.drew ?_ | refine Ext.drewN ?_ _ | refine Ext.alloc ?_ _ | (refine Ext.setCell ?_ ?sz _; case sz => (first | (simp; done) | (simp; omega))) | refine Ext.trans ?_ (by assumption))))).mono ?_; rintro e u2 ⟨rfl, hE⟩
  have x : Ext v2 u2 := (by repeat (with_reducible first | assumption | exact Ext.refl _ | refine Ext.drew ?_ | refine Ext.drewN ?_ _ | refine Ext.alloc ?_ _ | (refine Ext.setCell ?_ ?sz _; case sz => (first | (simp; done) | (simp; omega))) | refine Ext.trans ?_ (by assumption)))
  replace mA := hid (x.cell mA.out)
  replace mB := hid (x.cell mB.out)
  replace mC := hid (x.cell mC.out)
  replace tA := hid (tA.out.ext x)
  replace tB := hid (tB.out.ext x)
  replace tC := hid (tC.out.ext x)
  replace bx0 := hid (x.cell bx0.out)
  replace bx1 := hid (x.cell bx1.out)
  replace by0 := hid (x.cell by0.out)
  replace by1 := hid (x.cell by1.out)
  replace X := hid (X.out.trans x)
  clear x hE m0 l0
  have m0 := mC.out
  have l0 := cell_lt m0
  dsimp only at l0
  go_wp2_with fail
  refine name_c (fun v3 hw => ?_)
  have x : Ext u2 v3 := by rw [hw]; exact (by repeat (with_reducible first | assumption | exact Ext.refl _ | refine Ext.drew ?_ | refine Ext.drewN ?_ _ | refine Ext.alloc ?_ _ | (refine Ext.setCell ?_ ?sz _; case sz => (first | (simp; done) | (simp; omega))) | refine Ext.trans ?_ (by assumption)))
  have bv0 := hid (show v3.cell? ⟨u2.heap.size, 0, none⟩ = some (.int .i64 1) by rw [hw]; simp [go_sem])
  have bv1 := hid (show v3.cell? ⟨u2.heap.size, 1, none⟩ = some (.int .i64 1) by rw [hw]; simp [go_sem])
  replace mA := hid (x.cell mA.out)
  replace mB := hid (x.cell mB.out)
  replace mC := hid (x.cell mC.out)
  replace tA := hid (tA.out.ext x)
  replace tB := hid (tB.out.ext x)
  replace tC := hid (tC.out.ext x)
  replace bx0 := hid (x.cell bx0.out)
  replace bx1 := hid (x.cell bx1.out)
  replace by0 := hid (x.cell by0.out)
  replace by1 := hid (x.cell by1.out)
  replace X := hid (X.out.trans x)
  clear m0 l0
  clear x hw
  generalize u2.heap.size = Bbv at *
  have m0 := mC.out
  have l0 := cell_lt m0
  dsimp only at l0
  -- M(C, SK4, lp, lq)
  refine (SK4 _ _ _ (tC.out.ext (by repeat (with_reducible first | assumption | exact Ext.refl _ | refine Ext.drew ?_ | refine Ext.drewN ?_ _ | refine Ext.alloc ?_ _ | (refine Ext.setCell ?_ ?sz _; case sz => (first | (simp; done) | (simp; omega))) | refine Ext.trans ?_ (by assumption))))).mono ?_; rintro e u3 ⟨a3, c3, b3, d3, rfl, hI, hJ, hE⟩
  have x : Ext v3 u3 := (by repeat (with_reducible first | assumption | exact Ext.refl _ | refine Ext.drew ?_ | refine Ext.drewN ?_ _ | refine Ext.alloc ?_ _ | (refine Ext.setCell ?_ ?sz _; case sz => (first | (simp; done) | (simp; omega))) | refine Ext.trans ?_ (by assumption)))
  replace mA := hid (x.cell mA.out)
  replace mB := hid (x.cell mB.out)
  replace mC := hid (x.cell mC.out)
  replace tA := hid (tA.out.ext x)
  replace tB := hid (tB.out.ext x)
  replace tC := hid (tC.out.ext x)
  replace bx0 := hid (x.cell bx0.out)
  replace bx1 := hid (x.cell bx1.out)
  replace by0 := hid (x.cell by0.out)
  replace by1 := hid (x.cell by1.out)
  replace bv0 := hid (x.cell bv0.out)
  replace bv1 := hid (x.cell bv1.out)
  replace X := hid (X.out.trans x)
  have lp := hid hI
  have lq := hid hJ
  clear hI hJ
  clear x hE m0 l0
  have m0 := mA.out
  have l0 := cell_lt m0
  dsimp only at l0
  go_wp2_with fail
  -- M(A, SK5, li, lj)
  refine (SK5 _ _ _ (tA.out.ext (by repeat (with_reducible first | assumption | exact Ext.refl _ | refine Ext.drew ?_ | refine Ext.drewN ?_ _ | refine Ext.alloc ?_ _ | (refine Ext.setCell ?_ ?sz _; case sz => (first | (simp; done) | (simp; omega))) | refine Ext.trans ?_ (by assumption))))).mono ?_; rintro e u4 ⟨a4, c4, b4, d4, rfl, hI, hJ, hE⟩
  have x : Ext u3 u4 := (by repeat (with_reducible first | assumption | exact Ext.refl _ | refine Ext.drew ?_ | refine Ext.drewN ?_ _ | refine Ext.alloc ?_ _ | (refine Ext.setCell ?_ ?sz _; case sz => (first | (simp; done) | (simp; omega))) | refine Ext.trans ?_ (by assumption)))
  replace mA := hid (x.cell mA.out)
  replace mB := hid (x.cell mB.out)
  replace mC := hid (x.cell mC.out)
  replace tA := hid (tA.out.ext x)
  replace tB := hid (tB.out.ext x)
  replace tC := hid (tC.out.ext x)
  replace bx0 := hid (x.cell bx0.out)
  replace bx1 := hid (x.cell bx1.out)
  replace by0 := hid (x.cell by0.out)
  replace by1 := hid (x.cell by1.out)
  replace bv0 := hid (x.cell bv0.out)
  replace bv1 := hid (x.cell bv1.out)
  replace lp := hid (lp.out.ext x)
  replace lq := hid (lq.out.ext x)
  replace X := hid (X.out.trans x)
  have li := hid hI
  have lj := hid hJ
  clear hI hJ
  clear x hE m0 l0
  have m0 := mC.out
  have l0 := cell_lt m0
  dsimp only at l0
  go_wp2_with fail
  -- M(C, SK6, ll, lm)
  refine (SK6 _ _ _ (tC.out.ext (by repeat (with_reducible first | assumption | exact Ext.refl _ | refine Ext.drew ?_ | refine Ext.drewN ?_ _ | refine Ext.alloc ?_ _ | (refine Ext.setCell ?_ ?sz _; case sz => (first | (simp; done) | (simp; omega))) | refine Ext.trans ?_ (by assumption))))).mono ?_; rintro e u5 ⟨a5, c5, b5, d5, rfl, hI, hJ, hE⟩
  have x : Ext u4 u5 := (by repeat (with_reducible first | assumption | exact Ext.refl _ | refine Ext.drew ?_ | refine Ext.drewN ?_ _ | refine Ext.alloc ?_ _ | (refine Ext.setCell ?_ ?sz _; case sz => (first | (simp; done) | (simp; omega))) | refine Ext.trans ?_ (by assumption)))
  replace mA := hid (x.cell mA.out)
  replace mB := hid (x.cell mB.out)
  replace mC := hid (x.cell mC.out)
  replace tA := hid (tA.out.ext x)
  replace tB := hid (tB.out.ext x)
  replace tC := hid (tC.out.ext x)
  replace bx0 := hid (x.cell bx0.out)
  replace bx1 := hid (x.cell bx1.out)
  replace by0 := hid (x.cell by0.out)
  replace by1 := hid (x.cell by1.out)
  replace bv0 := hid (x.cell bv0.out)
  replace bv1 := hid (x.cell bv1.out)
  replace lp := hid (lp.out.ext x)
  replace lq := hid (lq.out.ext x)
  replace li := hid (li.out.ext x)
  replace lj := hid (lj.out.ext x)
  replace X := hid (X.out.trans x)
  have ll := hid hI
  have lm := hid hJ
  clear hI hJ
  clear x hE m0 l0
  have m0 := mA.out
  have l0 := cell_lt m0
  dsimp only at l0
  go_wp2_with fail
  as_aux_lemma =>
    clear m0 l0
    have e11 : ∀ w, (Op.equalIn 10000 30 (.agg #[.int .i64 1, .int .i64 1]) (.agg #[.int .i64 1, .int .i64 1])).run Try.prog w = .ok true w := fun w => by rw [run_eqRatio]; rfl
    have em1 : ∀ w, (Op.equalIn 10000 30 (.agg #[.int .i64 (-1), .int .i64 1]) (.agg #[.int .i64 (-1), .int .i64 1])).run Try.prog w = .ok true w := fun w => by rw [run_eqRatio]; rfl
    have hbx := hid (And.intro bx0.out bx1.out)
    have hby := hid (And.intro by0.out by1.out)
    have hbv := hid (And.intro bv0.out bv1.out)
    have hmC := hid (And.intro mC.out mC.out)
    refine wp_region_held_drew (S := fun w' => Ext u5 w') (by kernel_rfl) (by repeat (with_reducible first | assumption | exact Ext.refl _ | refine Ext.drew ?_ | refine Ext.drewN ?_ _ | refine Ext.alloc ?_ _ | (refine Ext.setCell ?_ ?sz _; case sz => (first | (simp; done) | (simp; omega))) | refine Ext.trans ?_ (by assumption))) fun hHeld => ?_
    simp only [List.append_eq, List.cons_append, List.nil_append]
    refine wpAnyH_take (i := 0) (oi := _) (v := ?_) rfl (by kernel_rfl) (by kernel_rfl) (by kernel_rfl) (fun _ _ _ h => h) (Or.inl ⟨by rfl, ?yl⟩) (by assumption) ?_
    case yl => (intro w hSw; go_simp); with_reducible rfl
    try simp only [sxA, sxB, sxC, Act.put, sxD, sxE, sxF]
    refine wpAnyH_take (i := 1) (oi := _) (v := ?_) rfl (by kernel_rfl) (by kernel_rfl) (by kernel_rfl) (fun _ _ _ h => h) (Or.inl ⟨by rfl, ?yl⟩) (by assumption) ?_
    case yl => (intro w hSw; go_simp); with_reducible rfl
    try simp only [sxA, sxB, sxC, Act.put, sxD, sxE, sxF]
    refine wpAnyH_take (i := 2) (oi := _) (v := ?_) rfl (by kernel_rfl) (by kernel_rfl) (by kernel_rfl) (fun _ _ _ h => h) (Or.inl ⟨by rfl, ?yl⟩) (by assumption) ?_
    case yl => (intro w hSw; go_simp); with_reducible rfl
    try simp only [sxA, sxB, sxC, Act.put, sxD, sxE, sxF]
    refine wpAnyH_take (i := 3) (oi := _) (v := ?_) rfl (by kernel_rfl) (by kernel_rfl) (by kernel_rfl) (fun _ _ _ h => h) (Or.inl ⟨by rfl, ?yl⟩) (by assumption) ?_
    case yl => (intro w hSw; (try dsimp only at hSw); have k0 := Ext.cell hSw hbx.out.1; have k1 := Ext.cell hSw hbx.out.2; go_simp); with_reducible rfl
    try simp only [sxA, sxB, sxC, Act.put, sxD, sxE, sxF]
    refine wpAnyH_ready (rs := [4]) (by kernel_rfl) (by simp) ?_
    refine AllReadyH.cons (o := _) rfl (fun K hK => ?_) AllReadyH.nil
    go_simp
    refine (byL_any (-1) 1 _).mono ?_; rintro e y2 ⟨rfl, hE⟩
    have hEy2 : Ext u5 y2 := (by repeat (with_reducible first | assumption | exact Ext.refl _ | refine Ext.drew ?_ | refine Ext.drewN ?_ _ | refine Ext.alloc ?_ _ | (refine Ext.setCell ?_ ?sz _; case sz => (first | (simp; done) | (simp; omega))) | refine Ext.trans ?_ (by assumption)))
    clear hE
    refine hK.out _ _ (by repeat (with_reducible first | assumption | exact Ext.refl _ | refine Ext.drew ?_ | refine Ext.drewN ?_ _ | refine Ext.alloc ?_ _ | (refine Ext.setCell ?_ ?sz _; case sz => (first | (simp; done) | (simp; omega))) | refine Ext.trans ?_ (by assumption))) (fun hHeld => ?_)
    clear hK K
    try simp only [sxA, sxB, sxC, Act.put, sxD, sxE, sxF]
    refine wpAnyH_take (i := 5) (oi := _) (v := ?_) rfl (by kernel_rfl) (by kernel_rfl) (by kernel_rfl) (fun _ _ _ h => h) (Or.inl ⟨by rfl, ?yl⟩) (by assumption) ?_
    case yl => (intro w hSw; go_simp); with_reducible rfl
    try simp only [sxA, sxB, sxC, Act.put, sxD, sxE, sxF]
    refine wpAnyH_take (i := 6) (oi := _) (v := ?_) rfl (by kernel_rfl) (by kernel_rfl) (by kernel_rfl) (fun _ _ _ h => h) (Or.inl ⟨by rfl, ?yl⟩) (by assumption) ?_
    case yl => (intro w hSw; go_simp); with_reducible rfl
    try simp only [sxA, sxB, sxC, Act.put, sxD, sxE, sxF]
    refine wpAnyH_take (i := 7) (oi := _) (v := ?_) rfl (by kernel_rfl) (by kernel_rfl) (by kernel_rfl) (fun _ _ _ h => h) (Or.inl ⟨by rfl, ?yl⟩) (by assumption) ?_
    case yl => (intro w hSw; go_simp); with_reducible rfl
    try simp only [sxA, sxB, sxC, Act.put, sxD, sxE, sxF]
    refine wpAnyH_take (i := 8) (oi := _) (v := ?_) rfl (by kernel_rfl) (by kernel_rfl) (by kernel_rfl) (fun _ _ _ h => h) (Or.inl ⟨by rfl, ?yl⟩) (by assumption) ?_
    case yl => (intro w hSw; go_simp); with_reducible rfl
    try simp only [sxA, sxB, sxC, Act.put, sxD, sxE, sxF]
    refine wpAnyH_take (i := 9) (oi := _) (v := ?_) rfl (by kernel_rfl) (by kernel_rfl) (by kernel_rfl) (fun _ _ _ h => h) (Or.inl ⟨by rfl, ?yl⟩) (by assumption) ?_
    case yl => (intro w hSw; go_simp); with_reducible rfl
    try simp only [sxA, sxB, sxC, Act.put, sxD, sxE, sxF]
    refine wpAnyH_take (i := 10) (oi := _) (v := ?_) rfl (by kernel_rfl) (by kernel_rfl) (by kernel_rfl) (fun _ _ _ h => h) (Or.inl ⟨by rfl, ?yl⟩) (by assumption) ?_
    case yl => (intro w hSw; go_simp); with_reducible rfl
    try simp only [sxA, sxB, sxC, Act.put, sxD, sxE, sxF]
    refine wpAnyH_take (i := 11) (oi := _) (v := ?_) rfl (by kernel_rfl) (by kernel_rfl) (by kernel_rfl) (fun _ _ _ h => h) (Or.inl ⟨by rfl, ?yl⟩) (by assumption) ?_
    case yl => (intro w hSw; go_simp); with_reducible rfl
    try simp only [sxA, sxB, sxC, Act.put, sxD, sxE, sxF]
    refine wpAnyH_take (i := 12) (oi := _) (v := ?_) rfl (by kernel_rfl) (by kernel_rfl) (by kernel_rfl) (fun _ _ _ h => h) (Or.inl ⟨by rfl, ?yl⟩) (by assumption) ?_
    case yl => (intro w hSw; (try dsimp only at hSw); have k0 := Ext.cell hSw hby.out.1; have k1 := Ext.cell hSw hby.out.2; go_simp); with_reducible rfl
    try simp only [sxA, sxB, sxC, Act.put, sxD, sxE, sxF]
    refine wpAnyH_ready (rs := [13]) (by kernel_rfl) (by simp) ?_
    refine AllReadyH.cons (o := _) rfl (fun K hK => ?_) AllReadyH.nil
    go_simp
    refine (byL_any (1) 1 _).mono ?_; rintro e y3 ⟨rfl, hE⟩
    have hEy3 : Ext u5 y3 := (by repeat (with_reducible first | assumption | exact Ext.refl _ | refine Ext.drew ?_ | refine Ext.drewN ?_ _ | refine Ext.alloc ?_ _ | (refine Ext.setCell ?_ ?sz _; case sz => (first | (simp; done) | (simp; omega))) | refine Ext.trans ?_ (by assumption)))
    clear hE
    refine hK.out _ _ (by repeat (with_reducible first | assumption | exact Ext.refl _ | refine Ext.drew ?_ | refine Ext.drewN ?_ _ | refine Ext.alloc ?_ _ | (refine Ext.setCell ?_ ?sz _; case sz => (first | (simp; done) | (simp; omega))) | refine Ext.trans ?_ (by assumption))) (fun hHeld => ?_)
    clear hK K
    try simp only [sxA, sxB, sxC, Act.put, sxD, sxE, sxF]
    refine wpAnyH_take (i := 14) (oi := _) (v := ?_) rfl (by kernel_rfl) (by kernel_rfl) (by kernel_rfl) (fun _ _ _ h => h) (Or.inl ⟨by rfl, ?yl⟩) (by assumption) ?_
    case yl => (intro w hSw; go_simp); with_reducible rfl
    try simp only [sxA, sxB, sxC, Act.put, sxD, sxE, sxF]
    refine wpAnyH_take (i := 15) (oi := _) (v := ?_) rfl (by kernel_rfl) (by kernel_rfl) (by kernel_rfl) (fun _ _ _ h => h) (Or.inl ⟨by rfl, ?yl⟩) (by assumption) ?_
    case yl => (intro w hSw; go_simp); with_reducible rfl
    try simp only [sxA, sxB, sxC, Act.put, sxD, sxE, sxF]
    refine wpAnyH_take (i := 16) (oi := _) (v := ?_) rfl (by kernel_rfl) (by kernel_rfl) (by kernel_rfl) (fun _ _ _ h => h) (Or.inl ⟨by rfl, ?yl⟩) (by assumption) ?_
    case yl => (intro w hSw; go_simp); with_reducible rfl
    try simp only [sxA, sxB, sxC, Act.put, sxD, sxE, sxF]
    refine wpAnyH_take (i := 17) (oi := _) (v := ?_) rfl (by kernel_rfl) (by kernel_rfl) (by kernel_rfl) (fun _ _ _ h => h) (Or.inl ⟨by rfl, ?yl⟩) (by assumption) ?_
    case yl => (intro w hSw; go_simp); with_reducible rfl
    try simp only [sxA, sxB, sxC, Act.put, sxD, sxE, sxF]
    refine wpAnyH_take (i := 18) (oi := _) (v := ?_) rfl (by kernel_rfl) (by kernel_rfl) (by kernel_rfl) (fun _ _ _ h => h) (Or.inl ⟨by rfl, ?yl⟩) (by assumption) ?_
    case yl => (intro w hSw; go_simp); with_reducible rfl
    try simp only [sxA, sxB, sxC, Act.put, sxD, sxE, sxF]
    refine wpAnyH_take (i := 19) (oi := _) (v := ?_) rfl (by kernel_rfl) (by kernel_rfl) (by kernel_rfl) (fun _ _ _ h => h) (Or.inl ⟨by rfl, ?yl⟩) (by assumption) ?_
    case yl => (intro w hSw; go_simp); with_reducible rfl
    try simp only [sxA, sxB, sxC, Act.put, sxD, sxE, sxF]
    refine wpAnyH_take (i := 20) (oi := _) (v := ?_) rfl (by kernel_rfl) (by kernel_rfl) (by kernel_rfl) (fun _ _ _ h => h) (Or.inl ⟨by rfl, ?yl⟩) (by assumption) ?_
    case yl => (intro w hSw; go_simp); with_reducible rfl
    try simp only [sxA, sxB, sxC, Act.put, sxD, sxE, sxF]
    refine wpAnyH_take (i := 21) (oi := _) (v := ?_) rfl (by kernel_rfl) (by kernel_rfl) (by kernel_rfl) (fun _ _ _ h => h) (Or.inl ⟨by rfl, ?yl⟩) (by assumption) ?_
    case yl => (intro w hSw; (try dsimp only at hSw); have k0 := Ext.cell hSw hbv.out.1; have k1 := Ext.cell hSw hbv.out.2; go_simp); with_reducible rfl
    try simp only [sxA, sxB, sxC, Act.put, sxD, sxE, sxF]
    refine wpAnyH_ready (rs := [22]) (by kernel_rfl) (by simp) ?_
    refine AllReadyH.cons (o := _) rfl (fun K hK => ?_) AllReadyH.nil
    go_simp
    refine (byL_any (1) 1 _).mono ?_; rintro e y4 ⟨rfl, hE⟩
    have hEy4 : Ext u5 y4 := (by repeat (with_reducible first | assumption | exact Ext.refl _ | refine Ext.drew ?_ | refine Ext.drewN ?_ _ | refine Ext.alloc ?_ _ | (refine Ext.setCell ?_ ?sz _; case sz => (first | (simp; done) | (simp; omega))) | refine Ext.trans ?_ (by assumption)))
    clear hE
    refine hK.out _ _ (by repeat (with_reducible first | assumption | exact Ext.refl _ | refine Ext.drew ?_ | refine Ext.drewN ?_ _ | refine Ext.alloc ?_ _ | (refine Ext.setCell ?_ ?sz _; case sz => (first | (simp; done) | (simp; omega))) | refine Ext.trans ?_ (by assumption))) (fun hHeld => ?_)
    clear hK K
    try simp only [sxA, sxB, sxC, Act.put, sxD, sxE, sxF]
    refine wpAnyH_take (i := 23) (oi := _) (v := ?_) rfl (by kernel_rfl) (by kernel_rfl) (by kernel_rfl) (fun _ _ _ h => h) (Or.inl ⟨by rfl, ?yl⟩) (by assumption) ?_
    case yl => (intro w hSw; go_simp); with_reducible rfl
    try simp only [sxA, sxB, sxC, Act.put, sxD, sxE, sxF]
    refine wpAnyH_take (i := 24) (oi := _) (v := ?_) rfl (by kernel_rfl) (by kernel_rfl) (by kernel_rfl) (fun _ _ _ h => h) (Or.inl ⟨by rfl, ?yl⟩) (by assumption) ?_
    case yl => (intro w hSw; go_simp); with_reducible rfl
    try simp only [sxA, sxB, sxC, Act.put, sxD, sxE, sxF]
    refine wpAnyH_take (i := 25) (oi := _) (v := ?_) rfl (by kernel_rfl) (by kernel_rfl) (by kernel_rfl) (fun _ _ _ h => h) (Or.inl ⟨by rfl, ?yl⟩) (by assumption) ?_
    case yl => (intro w hSw; go_simp); with_reducible rfl
    try simp only [sxA, sxB, sxC, Act.put, sxD, sxE, sxF]
    refine wpAnyH_take (i := 26) (oi := _) (v := ?_) rfl (by kernel_rfl) (by kernel_rfl) (by kernel_rfl) (fun _ _ _ h => h) (Or.inl ⟨by rfl, ?yl⟩) (by assumption) ?_
    case yl => (intro w hSw; go_simp); with_reducible rfl
    try simp only [sxA, sxB, sxC, Act.put, sxD, sxE, sxF]
    refine wpAnyH_take (i := 27) (oi := _) (v := ?_) rfl (by kernel_rfl) (by kernel_rfl) (by kernel_rfl) (fun _ _ _ h => h) (Or.inl ⟨by rfl, ?yl⟩) (by assumption) ?_
    case yl => (intro w hSw; go_simp); with_reducible rfl
    try simp only [sxA, sxB, sxC, Act.put, sxD, sxE, sxF]
    refine wpAnyH_take (i := 28) (oi := _) (v := ?_) rfl (by kernel_rfl) (by kernel_rfl) (by kernel_rfl) (fun _ _ _ h => h) (Or.inl ⟨by rfl, ?yl⟩) (by assumption) ?_
    case yl => (intro w hSw; go_simp); with_reducible rfl
    try simp only [sxA, sxB, sxC, Act.put, sxD, sxE, sxF]
    refine wpAnyH_take (i := 29) (oi := _) (v := ?_) rfl (by kernel_rfl) (by kernel_rfl) (by kernel_rfl) (fun _ _ _ h => h) (Or.inl ⟨by rfl, ?yl⟩) (by assumption) ?_
    case yl => (intro w hSw; go_simp); with_reducible rfl
    try simp only [sxA, sxB, sxC, Act.put, sxD, sxE, sxF]
    refine wpAnyH_take (i := 30) (oi := _) (v := ?_) rfl (by kernel_rfl) (by kernel_rfl) (by kernel_rfl) (fun _ _ _ h => h) (Or.inl ⟨by rfl, ?yl⟩) (by assumption) ?_
    case yl => (intro w hSw; go_simp); with_reducible rfl
    try simp only [sxA, sxB, sxC, Act.put, sxD, sxE, sxF]
    refine wpAnyH_ready (rs := [31]) (by kernel_rfl) (by simp) ?_
    refine AllReadyH.cons (o := _) rfl (fun K hK => ?_) AllReadyH.nil
    go_simp
    refine hK.out _ _ (by repeat (with_reducible first | assumption | exact Ext.refl _ | refine Ext.drew ?_ | refine Ext.drewN ?_ _ | refine Ext.alloc ?_ _ | (refine Ext.setCell ?_ ?sz _; case sz => (first | (simp; done) | (simp; omega))) | refine Ext.trans ?_ (by assumption))) (fun hHeld => ?_)
    clear hK K
    try simp only [sxA, sxB, sxC, Act.put, sxD, sxE, sxF]
    have j0 := hid (lit3 (w := y4) (x := 0) (y := 1) (z := 2) (t := 3) (n := y4.heap.size) rfl)
    refine wpAnyH_ready (rs := [32]) (by kernel_rfl) (by simp) ?_
    refine AllReadyH.cons (o := _) rfl (fun K hK => ?_) AllReadyH.nil
    go_simp
    refine (of_any _ _).mono ?_; rintro e w' ⟨rfl, rfl⟩
    refine hK.out _ _ (by repeat (with_reducible first | assumption | exact Ext.refl _ | refine Ext.drew ?_ | refine Ext.drewN ?_ _ | refine Ext.alloc ?_ _ | (refine Ext.setCell ?_ ?sz _; case sz => (first | (simp; done) | (simp; omega))) | refine Ext.trans ?_ (by assumption))) (fun hHeld => ?_)
    clear hK K
    try simp only [sxA, sxB, sxC, Act.put, sxD, sxE, sxF]
    refine wpAnyH_ready (rs := [33]) (by kernel_rfl) (by simp) ?_
    refine AllReadyH.cons (o := _) rfl (fun K hK => ?_) AllReadyH.nil
    go_simp
    refine (intsY3 _ _ _ _ 0 1 2 _ (lp.out.ext (by repeat (with_reducible first | assumption | exact Ext.refl _ | refine Ext.drew ?_ | refine Ext.drewN ?_ _ | refine Ext.alloc ?_ _ | (refine Ext.setCell ?_ ?sz _; case sz => (first | (simp; done) | (simp; omega))) | refine Ext.trans ?_ (by assumption)))) (j0.out.ext (by repeat (with_reducible first | assumption | exact Ext.refl _ | refine Ext.drew ?_ | refine Ext.drewN ?_ _ | refine Ext.alloc ?_ _ | (refine Ext.setCell ?_ ?sz _; case sz => (first | (simp; done) | (simp; omega))) | refine Ext.trans ?_ (by assumption))))).mono ?_; rintro e z0 ⟨rfl, hE⟩
    have hEz0 : Ext u5 z0 := (by repeat (with_reducible first | assumption | exact Ext.refl _ | refine Ext.drew ?_ | refine Ext.drewN ?_ _ | refine Ext.alloc ?_ _ | (refine Ext.setCell ?_ ?sz _; case sz => (first | (simp; done) | (simp; omega))) | refine Ext.trans ?_ (by assumption)))
    clear hE
    refine hK.out _ _ (by repeat (with_reducible first | assumption | exact Ext.refl _ | refine Ext.drew ?_ | refine Ext.drewN ?_ _ | refine Ext.alloc ?_ _ | (refine Ext.setCell ?_ ?sz _; case sz => (first | (simp; done) | (simp; omega))) | refine Ext.trans ?_ (by assumption))) (fun hHeld => ?_)
    clear hK K
    try simp only [sxA, sxB, sxC, Act.put, sxD, sxE, sxF]
    clear j0
    refine wpAnyH_take (i := 34) (oi := _) (v := ?_) rfl (by kernel_rfl) (by kernel_rfl) (by kernel_rfl) (fun _ _ _ h => h) (Or.inl ⟨by rfl, ?yl⟩) (by assumption) ?_
    case yl => (intro w hSw; go_simp); with_reducible rfl
    try simp only [sxA, sxB, sxC, Act.put, sxD, sxE, sxF]
    refine wpAnyH_take (i := 35) (oi := _) (v := ?_) rfl (by kernel_rfl) (by kernel_rfl) (by kernel_rfl) (fun _ _ _ h => h) (Or.inl ⟨by rfl, ?yl⟩) (by assumption) ?_
    case yl => (intro w hSw; go_simp); with_reducible rfl
    try simp only [sxA, sxB, sxC, Act.put, sxD, sxE, sxF]
    refine wpAnyH_take (i := 36) (oi := _) (v := ?_) rfl (by kernel_rfl) (by kernel_rfl) (by kernel_rfl) (fun _ _ _ h => h) (Or.inl ⟨by rfl, ?yl⟩) (by assumption) ?_
    case yl => (intro w hSw; go_simp); with_reducible rfl
    try simp only [sxA, sxB, sxC, Act.put, sxD, sxE, sxF]
    refine wpAnyH_ready (rs := [37]) (by kernel_rfl) (by simp) ?_
    refine AllReadyH.cons (o := _) rfl (fun K hK => ?_) AllReadyH.nil
    go_simp
    refine hK.out _ _ (by repeat (with_reducible first | assumption | exact Ext.refl _ | refine Ext.drew ?_ | refine Ext.drewN ?_ _ | refine Ext.alloc ?_ _ | (refine Ext.setCell ?_ ?sz _; case sz => (first | (simp; done) | (simp; omega))) | refine Ext.trans ?_ (by assumption))) (fun hHeld => ?_)
    clear hK K
    try simp only [sxA, sxB, sxC, Act.put, sxD, sxE, sxF]
    have j1 := hid (lit3 (w := z0) (x := 0) (y := 1) (z := 2) (t := 3) (n := z0.heap.size) rfl)
    refine wpAnyH_ready (rs := [38]) (by kernel_rfl) (by simp) ?_
    refine AllReadyH.cons (o := _) rfl (fun K hK => ?_) AllReadyH.nil
    go_simp
    refine (of_any _ _).mono ?_; rintro e w' ⟨rfl, rfl⟩
    refine hK.out _ _ (by repeat (with_reducible first | assumption | exact Ext.refl _ | refine Ext.drew ?_ | refine Ext.drewN ?_ _ | refine Ext.alloc ?_ _ | (refine Ext.setCell ?_ ?sz _; case sz => (first | (simp; done) | (simp; omega))) | refine Ext.trans ?_ (by assumption))) (fun hHeld => ?_)
    clear hK K
    try simp only [sxA, sxB, sxC, Act.put, sxD, sxE, sxF]
    refine wpAnyH_ready (rs := [39]) (by kernel_rfl) (by simp) ?_
    refine AllReadyH.cons (o := _) rfl (fun K hK => ?_) AllReadyH.nil
    go_simp
    refine (intsY3 _ _ _ _ 0 1 2 _ (lq.out.ext (by repeat (with_reducible first | assumption | exact Ext.refl _ | refine Ext.drew ?_ | refine Ext.drewN ?_ _ | refine Ext.alloc ?_ _ | (refine Ext.setCell ?_ ?sz _; case sz => (first | (simp; done) | (simp; omega))) | refine Ext.trans ?_ (by assumption)))) (j1.out.ext (by repeat (with_reducible first | assumption | exact Ext.refl _ | refine Ext.drew ?_ | refine Ext.drewN ?_ _ | refine Ext.alloc ?_ _ | (refine Ext.setCell ?_ ?sz _; case sz => (first | (simp; done) | (simp; omega))) | refine Ext.trans ?_ (by assumption))))).mono ?_; rintro e z1 ⟨rfl, hE⟩
    have hEz1 : Ext u5 z1 := (by repeat (with_reducible first | assumption | exact Ext.refl _ | refine Ext.drew ?_ | refine Ext.drewN ?_ _ | refine Ext.alloc ?_ _ | (refine Ext.setCell ?_ ?sz _; case sz => (first | (simp; done) | (simp; omega))) | refine Ext.trans ?_ (by assumption)))
    clear hE
    refine hK.out _ _ (by repeat (with_reducible first | assumption | exact Ext.refl _ | refine Ext.drew ?_ | refine Ext.drewN ?_ _ | refine Ext.alloc ?_ _ | (refine Ext.setCell ?_ ?sz _; case sz => (first | (simp; done) | (simp; omega))) | refine Ext.trans ?_ (by assumption))) (fun hHeld => ?_)
    clear hK K
    try simp only [sxA, sxB, sxC, Act.put, sxD, sxE, sxF]
    clear j1
    refine wpAnyH_take (i := 40) (oi := _) (v := ?_) rfl (by kernel_rfl) (by kernel_rfl) (by kernel_rfl) (fun _ _ _ h => h) (Or.inl ⟨by rfl, ?yl⟩) (by assumption) ?_
    case yl => (intro w hSw; go_simp); with_reducible rfl
    try simp only [sxA, sxB, sxC, Act.put, sxD, sxE, sxF]
    refine wpAnyH_take (i := 41) (oi := _) (v := ?_) rfl (by kernel_rfl) (by kernel_rfl) (by kernel_rfl) (fun _ _ _ h => h) (Or.inl ⟨by rfl, ?yl⟩) (by assumption) ?_
    case yl => (intro w hSw; go_simp); with_reducible rfl
    try simp only [sxA, sxB, sxC, Act.put, sxD, sxE, sxF]
    refine wpAnyH_take (i := 42) (oi := _) (v := ?_) rfl (by kernel_rfl) (by kernel_rfl) (by kernel_rfl) (fun _ _ _ h => h) (Or.inl ⟨by rfl, ?yl⟩) (by assumption) ?_
    case yl => (intro w hSw; go_simp); with_reducible rfl
    try simp only [sxA, sxB, sxC, Act.put, sxD, sxE, sxF]
    refine wpAnyH_take (i := 43) (oi := _) (v := ?_) rfl (by kernel_rfl) (by kernel_rfl) (by kernel_rfl) (fun _ _ _ h => h) (Or.inl ⟨by rfl, ?yl⟩) (by assumption) ?_
    case yl => (intro w hSw; go_simp); with_reducible rfl
    try simp only [sxA, sxB, sxC, Act.put, sxD, sxE, sxF]
    refine wpAnyH_take (i := 44) (oi := _) (v := ?_) rfl (by kernel_rfl) (by kernel_rfl) (by kernel_rfl) (fun _ _ _ h => h) (Or.inl ⟨by rfl, ?yl⟩) (by assumption) ?_
    case yl => (intro w hSw; go_simp); with_reducible rfl
    try simp only [sxA, sxB, sxC, Act.put, sxD, sxE, sxF]
    refine wpAnyH_take (i := 45) (oi := _) (v := ?_) rfl (by kernel_rfl) (by kernel_rfl) (by kernel_rfl) (fun _ _ _ h => h) (Or.inl ⟨by rfl, ?yl⟩) (by assumption) ?_
    case yl => (intro w hSw; go_simp); with_reducible rfl
    try simp only [sxA, sxB, sxC, Act.put, sxD, sxE, sxF]
    refine wpAnyH_take (i := 46) (oi := _) (v := ?_) rfl (by kernel_rfl) (by kernel_rfl) (by kernel_rfl) (fun _ _ _ h => h) (Or.inl ⟨by rfl, ?yl⟩) (by assumption) ?_
    case yl => (intro w hSw; go_simp); with_reducible rfl
    try simp only [sxA, sxB, sxC, Act.put, sxD, sxE, sxF]
    refine wpAnyH_ready (rs := [47]) (by kernel_rfl) (by simp) ?_
    refine AllReadyH.cons (o := _) rfl (fun K hK => ?_) AllReadyH.nil
    go_simp
    refine hK.out _ _ (by repeat (with_reducible first | assumption | exact Ext.refl _ | refine Ext.drew ?_ | refine Ext.drewN ?_ _ | refine Ext.alloc ?_ _ | (refine Ext.setCell ?_ ?sz _; case sz => (first | (simp; done) | (simp; omega))) | refine Ext.trans ?_ (by assumption))) (fun hHeld => ?_)
    clear hK K
    try simp only [sxA, sxB, sxC, Act.put, sxD, sxE, sxF]
    have j2 := hid (lit2 (w := z1) (x := 0) (y := 1) (t := 3) (n := z1.heap.size) rfl)
    refine wpAnyH_ready (rs := [48]) (by kernel_rfl) (by simp) ?_
    refine AllReadyH.cons (o := _) rfl (fun K hK => ?_) AllReadyH.nil
    go_simp
    refine (of_any _ _).mono ?_; rintro e w' ⟨rfl, rfl⟩
    refine hK.out _ _ (by repeat (with_reducible first | assumption | exact Ext.refl _ | refine Ext.drew ?_ | refine Ext.drewN ?_ _ | refine Ext.alloc ?_ _ | (refine Ext.setCell ?_ ?sz _; case sz => (first | (simp; done) | (simp; omega))) | refine Ext.trans ?_ (by assumption))) (fun hHeld => ?_)
    clear hK K
    try simp only [sxA, sxB, sxC, Act.put, sxD, sxE, sxF]
    refine wpAnyH_ready (rs := [49]) (by kernel_rfl) (by simp) ?_
    refine AllReadyH.cons (o := _) rfl (fun K hK => ?_) AllReadyH.nil
    go_simp
    refine (intsY2 _ _ _ _ 0 1 _ (li.out.ext (by repeat (with_reducible first | assumption | exact Ext.refl _ | refine Ext.drew ?_ | refine Ext.drewN ?_ _ | refine Ext.alloc ?_ _ | (refine Ext.setCell ?_ ?sz _; case sz => (first | (simp; done) | (simp; omega))) | refine Ext.trans ?_ (by assumption)))) (j2.out.ext (by repeat (with_reducible first | assumption | exact Ext.refl _ | refine Ext.drew ?_ | refine Ext.drewN ?_ _ | refine Ext.alloc ?_ _ | (refine Ext.setCell ?_ ?sz _; case sz => (first | (simp; done) | (simp; omega))) | refine Ext.trans ?_ (by assumption))))).mono ?_; rintro e z2 ⟨rfl, hE⟩
    have hEz2 : Ext u5 z2 := (by repeat (with_reducible first | assumption | exact Ext.refl _ | refine Ext.drew ?_ | refine Ext.drewN ?_ _ | refine Ext.alloc ?_ _ | (refine Ext.setCell ?_ ?sz _; case sz => (first | (simp; done) | (simp; omega))) | refine Ext.trans ?_ (by assumption)))
    clear hE
    refine hK.out _ _ (by repeat (with_reducible first | assumption | exact Ext.refl _ | refine Ext.drew ?_ | refine Ext.drewN ?_ _ | refine Ext.alloc ?_ _ | (refine Ext.setCell ?_ ?sz _; case sz => (first | (simp; done) | (simp; omega))) | refine Ext.trans ?_ (by assumption))) (fun hHeld => ?_)
    clear hK K
    try simp only [sxA, sxB, sxC, Act.put, sxD, sxE, sxF]
    clear j2
    refine wpAnyH_take (i := 50) (oi := _) (v := ?_) rfl (by kernel_rfl) (by kernel_rfl) (by kernel_rfl) (fun _ _ _ h => h) (Or.inl ⟨by rfl, ?yl⟩) (by assumption) ?_
    case yl => (intro w hSw; go_simp); with_reducible rfl
    try simp only [sxA, sxB, sxC, Act.put, sxD, sxE, sxF]
    refine wpAnyH_take (i := 51) (oi := _) (v := ?_) rfl (by kernel_rfl) (by kernel_rfl) (by kernel_rfl) (fun _ _ _ h => h) (Or.inl ⟨by rfl, ?yl⟩) (by assumption) ?_
    case yl => (intro w hSw; go_simp); with_reducible rfl
    try simp only [sxA, sxB, sxC, Act.put, sxD, sxE, sxF]
    refine wpAnyH_take (i := 52) (oi := _) (v := ?_) rfl (by kernel_rfl) (by kernel_rfl) (by kernel_rfl) (fun _ _ _ h => h) (Or.inl ⟨by rfl, ?yl⟩) (by assumption) ?_
    case yl => (intro w hSw; go_simp); with_reducible rfl
    try simp only [sxA, sxB, sxC, Act.put, sxD, sxE, sxF]
    refine wpAnyH_ready (rs := [53]) (by kernel_rfl) (by simp) ?_
    refine AllReadyH.cons (o := _) rfl (fun K hK => ?_) AllReadyH.nil
    go_simp
    refine hK.out _ _ (by repeat (with_reducible first | assumption | exact Ext.refl _ | refine Ext.drew ?_ | refine Ext.drewN ?_ _ | refine Ext.alloc ?_ _ | (refine Ext.setCell ?_ ?sz _; case sz => (first | (simp; done) | (simp; omega))) | refine Ext.trans ?_ (by assumption))) (fun hHeld => ?_)
    clear hK K
    try simp only [sxA, sxB, sxC, Act.put, sxD, sxE, sxF]
    have j3 := hid (lit2 (w := z2) (x := 0) (y := 1) (t := 3) (n := z2.heap.size) rfl)
    refine wpAnyH_ready (rs := [54]) (by kernel_rfl) (by simp) ?_
    refine AllReadyH.cons (o := _) rfl (fun K hK => ?_) AllReadyH.nil
    go_simp
    refine (of_any _ _).mono ?_; rintro e w' ⟨rfl, rfl⟩
    refine hK.out _ _ (by repeat (with_reducible first | assumption | exact Ext.refl _ | refine Ext.drew ?_ | refine Ext.drewN ?_ _ | refine Ext.alloc ?_ _ | (refine Ext.setCell ?_ ?sz _; case sz => (first | (simp; done) | (simp; omega))) | refine Ext.trans ?_ (by assumption))) (fun hHeld => ?_)
    clear hK K
    try simp only [sxA, sxB, sxC, Act.put, sxD, sxE, sxF]
    refine wpAnyH_ready (rs := [55]) (by kernel_rfl) (by simp) ?_
    refine AllReadyH.cons (o := _) rfl (fun K hK => ?_) AllReadyH.nil
    go_simp
    refine (intsY2 _ _ _ _ 0 1 _ (lj.out.ext (by repeat (with_reducible first | assumption | exact Ext.refl _ | refine Ext.drew ?_ | refine Ext.drewN ?_ _ | refine Ext.alloc ?_ _ | (refine Ext.setCell ?_ ?sz _; case sz => (first | (simp; done) | (simp; omega))) | refine Ext.trans ?_ (by assumption)))) (j3.out.ext (by repeat (with_reducible first | assumption | exact Ext.refl _ | refine Ext.drew ?_ | refine Ext.drewN ?_ _ | refine Ext.alloc ?_ _ | (refine Ext.setCell ?_ ?sz _; case sz => (first | (simp; done) | (simp; omega))) | refine Ext.trans ?_ (by assumption))))).mono ?_; rintro e z3 ⟨rfl, hE⟩
    have hEz3 : Ext u5 z3 := (by repeat (with_reducible first | assumption | exact Ext.refl _ | refine Ext.drew ?_ | refine Ext.drewN ?_ _ | refine Ext.alloc ?_ _ | (refine Ext.setCell ?_ ?sz _; case sz => (first | (simp; done) | (simp; omega))) | refine Ext.trans ?_ (by assumption)))
    clear hE
    refine hK.out _ _ (by repeat (with_reducible first | assumption | exact Ext.refl _ | refine Ext.drew ?_ | refine Ext.drewN ?_ _ | refine Ext.alloc ?_ _ | (refine Ext.setCell ?_ ?sz _; case sz => (first | (simp; done) | (simp; omega))) | refine Ext.trans ?_ (by assumption))) (fun hHeld => ?_)
    clear hK K
    try simp only [sxA, sxB, sxC, Act.put, sxD, sxE, sxF]
    clear j3
    refine wpAnyH_take (i := 56) (oi := _) (v := ?_) rfl (by kernel_rfl) (by kernel_rfl) (by kernel_rfl) (fun _ _ _ h => h) (Or.inl ⟨by rfl, ?yl⟩) (by assumption) ?_
    case yl => (intro w hSw; go_simp); with_reducible rfl
    try simp only [sxA, sxB, sxC, Act.put, sxD, sxE, sxF]
    refine wpAnyH_take (i := 57) (oi := _) (v := ?_) rfl (by kernel_rfl) (by kernel_rfl) (by kernel_rfl) (fun _ _ _ h => h) (Or.inl ⟨by rfl, ?yl⟩) (by assumption) ?_
    case yl => (intro w hSw; go_simp); with_reducible rfl
    try simp only [sxA, sxB, sxC, Act.put, sxD, sxE, sxF]
    refine wpAnyH_take (i := 58) (oi := _) (v := ?_) rfl (by kernel_rfl) (by kernel_rfl) (by kernel_rfl) (fun _ _ _ h => h) (Or.inl ⟨by rfl, ?yl⟩) (by assumption) ?_
    case yl => (intro w hSw; go_simp); with_reducible rfl
    try simp only [sxA, sxB, sxC, Act.put, sxD, sxE, sxF]
    refine wpAnyH_take (i := 59) (oi := _) (v := ?_) rfl (by kernel_rfl) (by kernel_rfl) (by kernel_rfl) (fun _ _ _ h => h) (Or.inl ⟨by rfl, ?yl⟩) (by assumption) ?_
    case yl => (intro w hSw; go_simp); with_reducible rfl
    try simp only [sxA, sxB, sxC, Act.put, sxD, sxE, sxF]
    refine wpAnyH_take (i := 60) (oi := _) (v := ?_) rfl (by kernel_rfl) (by kernel_rfl) (by kernel_rfl) (fun _ _ _ h => h) (Or.inl ⟨by rfl, ?yl⟩) (by assumption) ?_
    case yl => (intro w hSw; go_simp); with_reducible rfl
    try simp only [sxA, sxB, sxC, Act.put, sxD, sxE, sxF]
    refine wpAnyH_take (i := 61) (oi := _) (v := ?_) rfl (by kernel_rfl) (by kernel_rfl) (by kernel_rfl) (fun _ _ _ h => h) (Or.inl ⟨by rfl, ?yl⟩) (by assumption) ?_
    case yl => (intro w hSw; go_simp); with_reducible rfl
    try simp only [sxA, sxB, sxC, Act.put, sxD, sxE, sxF]
    refine wpAnyH_take (i := 62) (oi := _) (v := ?_) rfl (by kernel_rfl) (by kernel_rfl) (by kernel_rfl) (fun _ _ _ h => h) (Or.inl ⟨by rfl, ?yl⟩) (by assumption) ?_
    case yl => (intro w hSw; go_simp); with_reducible rfl
    try simp only [sxA, sxB, sxC, Act.put, sxD, sxE, sxF]
    refine wpAnyH_ready (rs := [63]) (by kernel_rfl) (by simp) ?_
    refine AllReadyH.cons (o := _) rfl (fun K hK => ?_) AllReadyH.nil
    go_simp
    refine hK.out _ _ (by repeat (with_reducible first | assumption | exact Ext.refl _ | refine Ext.drew ?_ | refine Ext.drewN ?_ _ | refine Ext.alloc ?_ _ | (refine Ext.setCell ?_ ?sz _; case sz => (first | (simp; done) | (simp; omega))) | refine Ext.trans ?_ (by assumption))) (fun hHeld => ?_)
    clear hK K
    try simp only [sxA, sxB, sxC, Act.put, sxD, sxE, sxF]
    have j4 := hid (lit3 (w := z3) (x := 0) (y := 1) (z := 2) (t := 3) (n := z3.heap.size) rfl)
    refine wpAnyH_ready (rs := [64]) (by kernel_rfl) (by simp) ?_
    refine AllReadyH.cons (o := _) rfl (fun K hK => ?_) AllReadyH.nil
    go_simp
    refine (of_any _ _).mono ?_; rintro e w' ⟨rfl, rfl⟩
    refine hK.out _ _ (by repeat (with_reducible first | assumption | exact Ext.refl _ | refine Ext.drew ?_ | refine Ext.drewN ?_ _ | refine Ext.alloc ?_ _ | (refine Ext.setCell ?_ ?sz _; case sz => (first | (simp; done) | (simp; omega))) | refine Ext.trans ?_ (by assumption))) (fun hHeld => ?_)
    clear hK K
    try simp only [sxA, sxB, sxC, Act.put, sxD, sxE, sxF]
    refine wpAnyH_ready (rs := [65]) (by kernel_rfl) (by simp) ?_
    refine AllReadyH.cons (o := _) rfl (fun K hK => ?_) AllReadyH.nil
    go_simp
    refine (intsY3 _ _ _ _ 0 1 2 _ (ll.out.ext (by repeat (with_reducible first | assumption | exact Ext.refl _ | refine Ext.drew ?_ | refine Ext.drewN ?_ _ | refine Ext.alloc ?_ _ | (refine Ext.setCell ?_ ?sz _; case sz => (first | (simp; done) | (simp; omega))) | refine Ext.trans ?_ (by assumption)))) (j4.out.ext (by repeat (with_reducible first | assumption | exact Ext.refl _ | refine Ext.drew ?_ | refine Ext.drewN ?_ _ | refine Ext.alloc ?_ _ | (refine Ext.setCell ?_ ?sz _; case sz => (first | (simp; done) | (simp; omega))) | refine Ext.trans ?_ (by assumption))))).mono ?_; rintro e z4 ⟨rfl, hE⟩
    have hEz4 : Ext u5 z4 := (by repeat (with_reducible first | assumption | exact Ext.refl _ | refine Ext.drew ?_ | refine Ext.drewN ?_ _ | refine Ext.alloc ?_ _ | (refine Ext.setCell ?_ ?sz _; case sz => (first | (simp; done) | (simp; omega))) | refine Ext.trans ?_ (by assumption)))
    clear hE
    refine hK.out _ _ (by repeat (with_reducible first | assumption | exact Ext.refl _ | refine Ext.drew ?_ | refine Ext.drewN ?_ _ | refine Ext.alloc ?_ _ | (refine Ext.setCell ?_ ?sz _; case sz => (first | (simp; done) | (simp; omega))) | refine Ext.trans ?_ (by assumption))) (fun hHeld => ?_)
    clear hK K
    try simp only [sxA, sxB, sxC, Act.put, sxD, sxE, sxF]
    clear j4
    refine wpAnyH_take (i := 66) (oi := _) (v := ?_) rfl (by kernel_rfl) (by kernel_rfl) (by kernel_rfl) (fun _ _ _ h => h) (Or.inl ⟨by rfl, ?yl⟩) (by assumption) ?_
    case yl => (intro w hSw; go_simp); with_reducible rfl
    try simp only [sxA, sxB, sxC, Act.put, sxD, sxE, sxF]
    refine wpAnyH_take (i := 67) (oi := _) (v := ?_) rfl (by kernel_rfl) (by kernel_rfl) (by kernel_rfl) (fun _ _ _ h => h) (Or.inl ⟨by rfl, ?yl⟩) (by assumption) ?_
    case yl => (intro w hSw; go_simp); with_reducible rfl
    try simp only [sxA, sxB, sxC, Act.put, sxD, sxE, sxF]
    refine wpAnyH_take (i := 68) (oi := _) (v := ?_) rfl (by kernel_rfl) (by kernel_rfl) (by kernel_rfl) (fun _ _ _ h => h) (Or.inl ⟨by rfl, ?yl⟩) (by assumption) ?_
    case yl => (intro w hSw; go_simp); with_reducible rfl
    try simp only [sxA, sxB, sxC, Act.put, sxD, sxE, sxF]
    refine wpAnyH_ready (rs := [69]) (by kernel_rfl) (by simp) ?_
    refine AllReadyH.cons (o := _) rfl (fun K hK => ?_) AllReadyH.nil
    go_simp
    refine hK.out _ _ (by repeat (with_reducible first | assumption | exact Ext.refl _ | refine Ext.drew ?_ | refine Ext.drewN ?_ _ | refine Ext.alloc ?_ _ | (refine Ext.setCell ?_ ?sz _; case sz => (first | (simp; done) | (simp; omega))) | refine Ext.trans ?_ (by assumption))) (fun hHeld => ?_)
    clear hK K
    try simp only [sxA, sxB, sxC, Act.put, sxD, sxE, sxF]
    have j5 := hid (lit3 (w := z4) (x := 0) (y := 1) (z := 2) (t := 3) (n := z4.heap.size) rfl)
    refine wpAnyH_ready (rs := [70]) (by kernel_rfl) (by simp) ?_
    refine AllReadyH.cons (o := _) rfl (fun K hK => ?_) AllReadyH.nil
    go_simp
    refine (of_any _ _).mono ?_; rintro e w' ⟨rfl, rfl⟩
    refine hK.out _ _ (by repeat (with_reducible first | assumption | exact Ext.refl _ | refine Ext.drew ?_ | refine Ext.drewN ?_ _ | refine Ext.alloc ?_ _ | (refine Ext.setCell ?_ ?sz _; case sz => (first | (simp; done) | (simp; omega))) | refine Ext.trans ?_ (by assumption))) (fun hHeld => ?_)
    clear hK K
    try simp only [sxA, sxB, sxC, Act.put, sxD, sxE, sxF]
    refine wpAnyH_ready (rs := [71]) (by kernel_rfl) (by simp) ?_
    refine AllReadyH.cons (o := _) rfl (fun K hK => ?_) AllReadyH.nil
    go_simp
    refine (intsY3 _ _ _ _ 0 1 2 _ (lm.out.ext (by repeat (with_reducible first | assumption | exact Ext.refl _ | refine Ext.drew ?_ | refine Ext.drewN ?_ _ | refine Ext.alloc ?_ _ | (refine Ext.setCell ?_ ?sz _; case sz => (first | (simp; done) | (simp; omega))) | refine Ext.trans ?_ (by assumption)))) (j5.out.ext (by repeat (with_reducible first | assumption | exact Ext.refl _ | refine Ext.drew ?_ | refine Ext.drewN ?_ _ | refine Ext.alloc ?_ _ | (refine Ext.setCell ?_ ?sz _; case sz => (first | (simp; done) | (simp; omega))) | refine Ext.trans ?_ (by assumption))))).mono ?_; rintro e z5 ⟨rfl, hE⟩
    have hEz5 : Ext u5 z5 := (by repeat (with_reducible first | assumption | exact Ext.refl _ | refine Ext.drew ?_ | refine Ext.drewN ?_ _ | refine Ext.alloc ?_ _ | (refine Ext.setCell ?_ ?sz _; case sz => (first | (simp; done) | (simp; omega))) | refine Ext.trans ?_ (by assumption)))
    clear hE
    refine hK.out _ _ (by repeat (with_reducible first | assumption | exact Ext.refl _ | refine Ext.drew ?_ | refine Ext.drewN ?_ _ | refine Ext.alloc ?_ _ | (refine Ext.setCell ?_ ?sz _; case sz => (first | (simp; done) | (simp; omega))) | refine Ext.trans ?_ (by assumption))) (fun hHeld => ?_)
    clear hK K
    try simp only [sxA, sxB, sxC, Act.put, sxD, sxE, sxF]
    clear j5
    refine wpAnyH_take (i := 72) (oi := _) (v := ?_) rfl (by kernel_rfl) (by kernel_rfl) (by kernel_rfl) (fun _ _ _ h => h) (Or.inl ⟨by rfl, ?yl⟩) (by assumption) ?_
    case yl => (intro w hSw; go_simp); with_reducible rfl
    try simp only [sxA, sxB, sxC, Act.put, sxD, sxE, sxF]
    refine wpAnyH_take (i := 73) (oi := _) (v := ?_) rfl (by kernel_rfl) (by kernel_rfl) (by kernel_rfl) (fun _ _ _ h => h) (Or.inl ⟨by rfl, ?yl⟩) (by assumption) ?_
    case yl => (intro w hSw; go_simp); with_reducible rfl
    try simp only [sxA, sxB, sxC, Act.put, sxD, sxE, sxF]
    refine wpAnyH_take (i := 74) (oi := _) (v := ?_) rfl (by kernel_rfl) (by kernel_rfl) (by kernel_rfl) (fun _ _ _ h => h) (Or.inl ⟨by rfl, ?yl⟩) (by assumption) ?_
    case yl => (intro w hSw; (try dsimp only at hSw); have k0 := Ext.cell hSw hmC.out.1; have k1 := Ext.cell hSw hmC.out.2; go_simp); with_reducible rfl
    try simp only [sxA, sxB, sxC, Act.put, sxD, sxE, sxF]
    refine wpAnyH_ready (rs := [75]) (by kernel_rfl) (by simp) ?_
    refine AllReadyH.cons (o := _) rfl (fun K hK => ?_) AllReadyH.nil
    go_simp
    refine (SK7 _ _ _ (tC.out.ext (by repeat (with_reducible first | assumption | exact Ext.refl _ | refine Ext.drew ?_ | refine Ext.drewN ?_ _ | refine Ext.alloc ?_ _ | (refine Ext.setCell ?_ ?sz _; case sz => (first | (simp; done) | (simp; omega))) | refine Ext.trans ?_ (by assumption))))).mono ?_; rintro e y8 ⟨rfl, hE⟩
    have hEy8 : Ext u5 y8 := (by repeat (with_reducible first | assumption | exact Ext.refl _ | refine Ext.drew ?_ | refine Ext.drewN ?_ _ | refine Ext.alloc ?_ _ | (refine Ext.setCell ?_ ?sz _; case sz => (first | (simp; done) | (simp; omega))) | refine Ext.trans ?_ (by assumption)))
    clear hE
    refine hK.out _ _ (by repeat (with_reducible first | assumption | exact Ext.refl _ | refine Ext.drew ?_ | refine Ext.drewN ?_ _ | refine Ext.alloc ?_ _ | (refine Ext.setCell ?_ ?sz _; case sz => (first | (simp; done) | (simp; omega))) | refine Ext.trans ?_ (by assumption))) (fun hHeld => ?_)
    clear hK K
    try simp only [sxA, sxB, sxC, Act.put, sxD, sxE, sxF]
    refine wpAnyH_take (i := 76) (oi := _) (v := ?_) rfl (by kernel_rfl) (by kernel_rfl) (by kernel_rfl) (fun _ _ _ h => h) (Or.inl ⟨by rfl, ?yl⟩) (by assumption) ?_
    case yl => (intro w hSw; go_simp); with_reducible rfl
    try simp only [sxA, sxB, sxC, Act.put, sxD, sxE, sxF]
    refine wpAnyH_take (i := 77) (oi := _) (v := ?_) rfl (by kernel_rfl) (by kernel_rfl) (by kernel_rfl) (fun _ _ _ h => h) (Or.inl ⟨by rfl, ?yl⟩) (by assumption) ?_
    case yl => (intro w hSw; go_simp); with_reducible rfl
    try simp only [sxA, sxB, sxC, Act.put, sxD, sxE, sxF]
    refine wpAnyH_take (i := 78) (oi := _) (v := ?_) rfl (by kernel_rfl) (by kernel_rfl) (by kernel_rfl) (fun _ _ _ h => h) (Or.inl ⟨by rfl, ?yl⟩) (by assumption) ?_
    case yl => (intro w hSw; go_simp); with_reducible rfl
    try simp only [sxA, sxB, sxC, Act.put, sxD, sxE, sxF]
    refine wpAnyH_ready (rs := [79]) (by kernel_rfl) (by simp) ?_
    refine AllReadyH.cons (o := _) rfl (fun K hK => ?_) AllReadyH.nil
    go_simp
    refine (works_any _).mono ?_; rintro e y9 ⟨rfl, hE⟩
    have hEy9 : Ext u5 y9 := (by repeat (with_reducible first | assumption | exact Ext.refl _ | refine Ext.drew ?_ | refine Ext.drewN ?_ _ | refine Ext.alloc ?_ _ | (refine Ext.setCell ?_ ?sz _; case sz => (first | (simp; done) | (simp; omega))) | refine Ext.trans ?_ (by assumption)))
    clear hE
    refine hK.out _ _ (by repeat (with_reducible first | assumption | exact Ext.refl _ | refine Ext.drew ?_ | refine Ext.drewN ?_ _ | refine Ext.alloc ?_ _ | (refine Ext.setCell ?_ ?sz _; case sz => (first | (simp; done) | (simp; omega))) | refine Ext.trans ?_ (by assumption))) (fun hHeld => ?_)
    clear hK K
    try simp only [sxA, sxB, sxC, Act.put, sxD, sxE, sxF]
    refine wpAnyH_take (i := 80) (oi := _) (v := ?_) rfl (by kernel_rfl) (by kernel_rfl) (by kernel_rfl) (fun _ _ _ h => h) (Or.inl ⟨by rfl, ?yl⟩) (by assumption) ?_
    case yl => (intro w hSw; go_simp); with_reducible rfl
    try simp only [sxA, sxB, sxC, Act.put, sxD, sxE, sxF]
    refine wpAnyH_take (i := 81) (oi := _) (v := ?_) rfl (by kernel_rfl) (by kernel_rfl) (by kernel_rfl) (fun _ _ _ h => h) (Or.inl ⟨by rfl, ?yl⟩) (by assumption) ?_
    case yl => (intro w hSw; go_simp); with_reducible rfl
    try simp only [sxA, sxB, sxC, Act.put, sxD, sxE, sxF]
    refine wpAnyH_done (by kernel_rfl) ?_ _
    try simp only [sxA, sxB, sxC, Act.put, sxD, sxE, sxF]
    go_wp2_with fail
    go_ret
    exact ⟨rfl, X.out.trans (by repeat (with_reducible first | assumption | exact Ext.refl _ | refine Ext.drew ?_ | refine Ext.drewN ?_ _ | refine Ext.alloc ?_ _ | (refine Ext.setCell ?_ ?sz _; case sz => (first | (simp; done) | (simp; omega))) | refine Ext.trans ?_ (by assumption)))⟩

end Go.Proofs.Ytommhgcgaclflaa
