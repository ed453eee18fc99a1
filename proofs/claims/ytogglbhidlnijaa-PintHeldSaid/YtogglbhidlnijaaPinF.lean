/- The program's Over, Depths, Pools. -/
import Derived.Test.YtogglbhidlnijaaPinE
import Derived.Laws.CopyOwn
namespace Go.Proofs.Ytogglbhidlnijaa
set_option linter.unusedVariables false
set_option linter.unusedSimpArgs false
set_option linter.unusedSectionVars false
set_option linter.unnecessarySimpa false
open Go Go.RowKit

set_option maxHeartbeats 1000000 in
theorem over_any (m : Meas) (q : Fit m) (a : Option Addr) (cap : Nat) (t i : Int) (w : World) (hI : Ints w a m.hs) (hl : m.hs.length ≤ 1000) (ht : I64 t) (hi : I64 i) :
    Calls Try.prog 23 #[(.agg #[.int .i64 m.L, .int .i64 m.R, .slice a m.hs.length cap]), .int .i64 t, .int .i64 i] w fun e w' => e = .returned (.tuple #[.int .i64 (overOf m t i), .int .i64 (overE m t i)]) ∧ Ext w w' := by
  have hB := (Ext.refl w).alloc (.cells #[.int .i64 m.L, .int .i64 m.R, .slice a m.hs.length cap] 24)
  go_enter Try.func23, Try.ntmps23
  go_wp2_with fail
  (refine (open1_any m q a cap t i _ _ (by first | assumption | exact Ints.ext hI (by repeat (with_reducible first | assumption | exact Ext.refl _ | refine Ext.drew ?_ | refine Ext.drewN ?_ _ | refine Ext.alloc ?_ _ | (refine Ext.setCell ?_ ?sz _; case sz => (first | (simp; done) | (simp; omega))) | refine Ext.trans ?_ (by assumption)))) (by exact lit1 (by simp)) hl ht hi).mono ?_)
  rintro e w1 (⟨g, rfl, hE⟩ | ⟨g, tb, rfl, hT, hE⟩)
  · have g0 : (plc m t i != 0) = true := by simp [g]
    have H1 : overE m t i = plc m t i := by unfold overE; rw [if_pos g]
    have H2 := hid (show overOf m t i = 0 by unfold overOf; rw [if_neg (by rw [H1]; exact g)])
    have H1 := hid H1
    clear g
    go_wp2_with fail
    go_ret2
    exact ⟨ret2i H2.out.symm H1.out.symm, (by repeat (with_reducible first | assumption | exact Ext.refl _ | refine Ext.drew ?_ | refine Ext.drewN ?_ _ | refine Ext.alloc ?_ _ | (refine Ext.setCell ?_ ?sz _; case sz => (first | (simp; done) | (simp; omega))) | refine Ext.trans ?_ (by assumption)))⟩
  · obtain ⟨k, i0, i1⟩ := plc_ok.1 g
    have n8 := k.v.n8
    obtain ⟨i, rfl⟩ := Int.eq_ofNat_of_zero_le i0
    have cl := hT.cl i (by omega)
    have cr := hT.cr i (by omega)
    have cd := hT.cd i (by omega)
    rw [fL_full m t (by omega)] at cl
    rw [fR_full m t (by omega)] at cr
    rw [fD_full, if_pos (by omega)] at cd
    have i2 : (i : Int) < 8 := by omega
    by_cases d : depth m t i = 0
    · have d0 : (depth m t i == 0) = true := by simp [d]
      have H1 : overE m t i = 5 := by unfold overE; rw [if_neg (by simpa using g), if_pos d]
      have H2 := hid (show overOf m t i = 0 by unfold overOf; rw [if_neg (by simp [H1])])
      replace H1 := hid H1
      clear g d
      go_wp2_with fail
      go_ret2
      exact ⟨ret2i H2.out.symm H1.out.symm, (by repeat (with_reducible first | assumption | exact Ext.refl _ | refine Ext.drew ?_ | refine Ext.drewN ?_ _ | refine Ext.alloc ?_ _ | (refine Ext.setCell ?_ ?sz _; case sz => (first | (simp; done) | (simp; omega))) | refine Ext.trans ?_ (by assumption)))⟩
    · have d0 : (depth m t i == 0) = false := by simp [d]
      have H1 : overE m t i = 0 := by unfold overE; rw [if_neg (by simpa using g), if_neg d]
      have H2 := hid (show overOf m t i = sideOf m t i by unfold overOf; rw [if_pos H1])
      replace H1 := hid H1
      clear g d
      have hs : (topL m t i < topR m t i ∧ sideOf m t i = 1) ∨ (¬ topL m t i < topR m t i ∧ topR m t i < topL m t i ∧ sideOf m t i = 2) ∨ (¬ topL m t i < topR m t i ∧ ¬ topR m t i < topL m t i ∧ sideOf m t i = 3) := by
        unfold sideOf; split
        · simp_all
        · split <;> simp_all
      rcases hs with ⟨s1, HT⟩ | ⟨s1, s2, HT⟩ | ⟨s1, s2, HT⟩ <;> replace HT := hid HT
      all_goals
        go_wp2_with fail
        go_quiet (fail)
        go_wp2_with fail
        go_quiet (fail)
        go_wp2_with fail
        go_ret2
        exact ⟨ret2i (by rw [H2.out, HT.out]; decide) H1.out.symm, (by repeat (with_reducible first | assumption | exact Ext.refl _ | refine Ext.drew ?_ | refine Ext.drewN ?_ _ | refine Ext.alloc ?_ _ | (refine Ext.setCell ?_ ?sz _; case sz => (first | (simp; done) | (simp; omega))) | refine Ext.trans ?_ (by assumption)))⟩


/-- The call returns the integers l and an error. -/
def RetIntsP (l : List Int) (er : Int) (w : World) (e : Ending) (w' : World) : Prop :=
  ∃ a cap, e = .returned (.tuple #[.slice a l.length cap, .int .i64 er]) ∧ Ints w' a l ∧ Ext w w'

theorem elemI64p : ElemI Try.prog 2 := elemI_mk (by kernel_rfl)

set_option maxHeartbeats 1000000 in
theorem depths_any (m : Meas) (q : Fit m) (a : Option Addr) (cap : Nat) (t : Int) (w : World) (hI : Ints w a m.hs) (hl : m.hs.length ≤ 1000) (ht : I64 t) :
    Calls Try.prog 19 #[(.agg #[.int .i64 m.L, .int .i64 m.R, .slice a m.hs.length cap]), .int .i64 t] w (RetIntsP (depthsOf m t) (tlt m t) w) := by
  have hB := (Ext.refl w).alloc (.cells #[.int .i64 m.L, .int .i64 m.R, .slice a m.hs.length cap] 24)
  go_enter Try.func19, Try.ntmps19
  go_wp2_with fail
  (refine (open0_any m q a cap t _ (by first | assumption | exact Ints.ext hI (by repeat (with_reducible first | assumption | exact Ext.refl _ | refine Ext.drew ?_ | refine Ext.drewN ?_ _ | refine Ext.alloc ?_ _ | (refine Ext.setCell ?_ ?sz _; case sz => (first | (simp; done) | (simp; omega))) | refine Ext.trans ?_ (by assumption)))) hl ht).mono ?_)
  rintro e w1 (⟨g, rfl, hE⟩ | ⟨g, tb, rfl, hT, hE⟩)
  · have g0 : (tlt m t != 0) = true := by simp [g]
    have H := hid (show depthsOf m t = [] by unfold depthsOf; rw [if_neg g])
    clear g
    go_wp2_with fail
    go_ret2
    refine ⟨none, 0, ?_, ?_, (by repeat (with_reducible first | assumption | exact Ext.refl _ | refine Ext.drew ?_ | refine Ext.drewN ?_ _ | refine Ext.alloc ?_ _ | (refine Ext.setCell ?_ ?sz _; case sz => (first | (simp; done) | (simp; omega))) | refine Ext.trans ?_ (by assumption)))⟩
    · rw [H.out]; rfl
    · rw [H.out]; exact Ints.nil _ _
  · have k := tlt_ok.1 g
    have n8 := k.v.n8
    have n1 := k.v.n1
    have H := hid (show depthsOf m t = depths m t by unfold depthsOf; rw [if_pos g])
    replace g := hid g
    obtain ⟨c0, c1, c2⟩ := box3 (show Ext (w.alloc (.cells #[.int .i64 m.L, .int .i64 m.R, .slice a m.hs.length cap] 24)) w1 from (by repeat (with_reducible first | assumption | exact Ext.refl _ | refine Ext.drew ?_ | refine Ext.drewN ?_ _ | refine Ext.alloc ?_ _ | (refine Ext.setCell ?_ ?sz _; case sz => (first | (simp; done) | (simp; omega))) | refine Ext.trans ?_ (by assumption))))
    obtain ⟨i0, hi, hz, hsz, hby⟩ := elemI64p
    go_wp2_with (at_make; refine wpList_make_full _ rfl _ _ 22 rfl w1.heap.size 2 i0 (.int .i64 0) 1 Try.underlying22 hi hz hsz .i64 .i64 _ _ m.hs.length rfl rfl rfl rfl (by rw [hby]; omega) (by unfold maxLen; omega) (Nat.le_refl _) ?_)
    intro w2 ho hg
    obtain ⟨h1, h2 | ⟨gb, cap', cur, hv, hgb, hgg, hnc, hcm, hcs, htk⟩⟩ := ho
    · simp at h2
    · cases hv
      have hE2 : Ext w1 w2 := (Ext.refl _).grown hg (fun k hk => by cases hk)
      have hT2 := TabF.ext hT hE2
      have HI := hid hi
      have HS := hid hsz
      have HC := hid hcs
      have HG := hid hgg
      clear h1 htk hcm hnc hi hz hsz hby hcs hgg hg hgb
      go_wp2_with (with_reducible refine wpList_copy_own (o := ⟨some 27, _, _, _, _, _⟩) rfl (.tmp 22) (.tmp 26) 22 22 rfl 2 Try.underlying22 ?h0 w1.heap.size 0 m.hs.length m.hs.length ⟨tb, 20, none⟩ 8 8 ?h1 ?h2 cur 2 HG.out ((depths m t).map (Value.int .i64)) ?ca ?cb ?cc ?cd ?_)
      case h0 => rw [HI.out]; simp [HS.out]
      case h1 => rfl
      case h2 => rfl
      case ca => rw [List.length_map, depths_len]; exact (Nat.min_eq_right n8).symm
      case cb =>
        intro j u hj
        simp only [List.getElem?_map, Option.map_eq_some_iff] at hj
        obtain ⟨z, hz, rfl⟩ := hj
        obtain ⟨hj, rfl⟩ := List.getElem?_eq_some_iff.1 hz
        have hj2 : j < m.hs.length := by rwa [depths_len] at hj
        have := hT2.cd j (by omega)
        rw [fD_full, if_pos hj2] at this
        rw [← nth_lt hj, depths_nth m t hj2]
        unfold Addr.add
        split
        · rename_i h0; subst h0; exact this
        · exact this
      case cc => rw [List.length_map, depths_len, HC.out]; omega
      case cd =>
        intro u hu
        simp at hu
        obtain ⟨z, _, rfl⟩ := hu
        rfl
      go_ret2
      refine ⟨some ⟨w1.heap.size, 0, none⟩, m.hs.length, ?_, ?_, ?_⟩
      · rw [H.out, g.out, depths_len]; rfl
      · rw [H.out]
        refine ints_row (setRow_heap w2 w1.heap.size cur _ 2 (0, 0) HG.out) fun i hi => ?_
        simp only [List.getElem?_toArray]
        rw [List.getElem?_append_left (by simpa using hi)]
        simp only [List.getElem?_map, nth, List.getD_eq_getElem?_getD]
        rw [List.getElem?_eq_getElem hi]; rfl
      · exact Ext.setRow (by repeat (with_reducible first | assumption | exact Ext.refl _ | refine Ext.drew ?_ | refine Ext.drewN ?_ _ | refine Ext.alloc ?_ _ | (refine Ext.setCell ?_ ?sz _; case sz => (first | (simp; done) | (simp; omega))) | refine Ext.trans ?_ (by assumption))) (Ext.size (show Ext w w1 from (by repeat (with_reducible first | assumption | exact Ext.refl _ | refine Ext.drew ?_ | refine Ext.drewN ?_ _ | refine Ext.alloc ?_ _ | (refine Ext.setCell ?_ ?sz _; case sz => (first | (simp; done) | (simp; omega))) | refine Ext.trans ?_ (by assumption))))) _


theorem elemPairP : ElemP Try.prog 70 := elemP_mk (by kernel_rfl)
/-- The call returns the pairs l and an error. -/
def RetPrsP (l : List (Int × Int)) (er : Int) (w : World) (e : Ending) (w' : World) : Prop :=
  ∃ a cap, e = .returned (.tuple #[.slice a l.length cap, .int .i64 er]) ∧ Prs w' a l ∧ Ext w w'

set_option maxHeartbeats 2000000 in
theorem pools_any (m : Meas) (q : Fit m) (a : Option Addr) (cap : Nat) (t : Int) (w : World) (hI : Ints w a m.hs) (hl : m.hs.length ≤ 1000) (ht : I64 t) :
    Calls Try.prog 25 #[(.agg #[.int .i64 m.L, .int .i64 m.R, .slice a m.hs.length cap]), .int .i64 t] w (RetPrsP (poolsOf m t) (tlt m t) w) := by
  have hB := (Ext.refl w).alloc (.cells #[.int .i64 m.L, .int .i64 m.R, .slice a m.hs.length cap] 24)
  go_enter Try.func25, Try.ntmps25
  go_wp2_with fail
  (refine (open0_any m q a cap t _ (by first | assumption | exact Ints.ext hI (by repeat (with_reducible first | assumption | exact Ext.refl _ | refine Ext.drew ?_ | refine Ext.drewN ?_ _ | refine Ext.alloc ?_ _ | (refine Ext.setCell ?_ ?sz _; case sz => (first | (simp; done) | (simp; omega))) | refine Ext.trans ?_ (by assumption)))) hl ht).mono ?_)
  rintro e w1 (⟨g, rfl, hE⟩ | ⟨g, tb, rfl, hT, hE⟩)
  · have g0 : (tlt m t != 0) = true := by simp [g]
    have H := hid (show poolsOf m t = [] by unfold poolsOf; rw [if_neg g])
    clear g
    go_wp2_with fail
    go_ret2
    refine ⟨none, 0, ?_, ?_, (by repeat (with_reducible first | assumption | exact Ext.refl _ | refine Ext.drew ?_ | refine Ext.drewN ?_ _ | refine Ext.alloc ?_ _ | (refine Ext.setCell ?_ ?sz _; case sz => (first | (simp; done) | (simp; omega))) | refine Ext.trans ?_ (by assumption)))⟩
    · rw [H.out]; rfl
    · rw [H.out]; exact Prs.nil _ _
  · have k := tlt_ok.1 g
    have n8 := k.v.n8
    have n1 := k.v.n1
    have H := hid (show poolsOf m t = pls m t m.hs.length by unfold poolsOf; rw [if_pos g])
    replace g := hid g
    obtain ⟨c0, c1, c2⟩ := box3 (show Ext (w.alloc (.cells #[.int .i64 m.L, .int .i64 m.R, .slice a m.hs.length cap] 24)) w1 from (by repeat (with_reducible first | assumption | exact Ext.refl _ | refine Ext.drew ?_ | refine Ext.drewN ?_ _ | refine Ext.alloc ?_ _ | (refine Ext.setCell ?_ ?sz _; case sz => (first | (simp; done) | (simp; omega))) | refine Ext.trans ?_ (by assumption))))
    have htb := hT.lt
    have hdp : ∀ j : Nat, 0 ≤ depth m t j ∨ ¬ j < m.hs.length := fun j => by
      by_cases h : j < m.hs.length
      · exact .inl (depth_bd k.v k.t0 k.t1 (by omega) (by omega)).1
      · exact .inr h
    replace hdp := hid hdp
    go_wp2_with fail
    go_loopw [8, 22] (fun o i wr => ∃ k : Nat, k ≤ m.hs.length ∧ i = .int .i64 k ∧ OwnP wr w1.heap.size 70 o (pls m t k) ∧ Ext w1 wr) (fun _ i _ => (m.hs.length - intOf i).toNat)
    case atStart => exact ⟨0, by omega, rfl, OwnP.nil _ _ _, Ext.refl _⟩
    case round =>
      obtain ⟨j, hj, rfl, ho, hw⟩ := hrel
      have hT1 := TabF.ext hT hw
      by_cases hlt : j < m.hs.length
      · have cd := hT1.cd j (by omega)
        rw [fD_full, if_pos hlt] at cd
        have hd := (depth_bd (f := (j : Int)) k.v k.t0 k.t1 (by omega) (by omega)).1
        have pb0 := (pls_bd m t j).1
        by_cases d0 : depth m t j = 0
        · have d1 : (depth m t j == 0) = true := by simp [d0]
          have hx := hid (show pls m t (j + 1) = pls m t j by show pstep m t _ _ = _; unfold pstep; rw [if_pos d0])
          replace d0 := hid d0
          go_wp2_with fail
          go_roundw
          case rel => exact ⟨j + 1, by omega, by go_num, by rw [hx.out]; exact ho, hw⟩
          case measure => simp [intOf]; omega
        · have d1 : (depth m t j == 0) = false := by simp [d0]
          by_cases e0 : 0 < j ∧ 0 < depth m t ((j : Int) - 1)
          · obtain ⟨l1, hx⟩ := pstep_yes hlt e0 (by omega)
            replace hx := hid hx
            replace d0 := hid d0
            obtain ⟨j', rfl⟩ : ∃ j', j = j' + 1 := ⟨j - 1, by omega⟩
            have cd' := hT1.cd j' (by omega)
            rw [fD_full, if_pos (by omega)] at cd'
            have e1 : (((j' + 1 : Nat) : Int) - 1) = (j' : Int) := by omega
            rw [e1] at e0
            clear e1
            have e2 := e0.2
            clear e0
            have j8 : (j' : Int) < 8 := by omega
            push_cast at d1 cd hd
            generalize pls m t (j' + 1) = l at *
            obtain ⟨sb, sc, rfl, sb0, sb1, sc0⟩ := ho.addr l1
            obtain ⟨q', hq⟩ : ∃ q', l.length = q' + 1 := ⟨l.length - 1, by omega⟩
            obtain ⟨f1, f2, f3, f4, -, -⟩ := ho.facts (j := q') (by omega)
            have q8 : q' + 1 ≤ 1000 := by omega
            have ho' := ho
            rw [hq] at ho' ⊢
            have hq1 := hid (show l.length - 1 = q' by omega)
            replace hq := hid hq
            clear l1 ho
            go_wp2_with fail
            go_roundw
            case rel =>
              refine ⟨j' + 1 + 1, by omega, by go_num, ?_, OwnP.setExt ho' hw (Nat.le_refl _) _ _⟩
              rw [hx.out, hq1.out]
              exact ho'.set2 (by have := hq.out; omega) _
            case measure => simp [intOf]; omega
          · have hx := hid (pstep_no e0 (fun i => (hdp.out i).imp id (fun h => by omega)) d0)
            replace d0 := hid d0
            by_cases j0 : j = 0
            · subst j0
              generalize pls m t 0 = l at *
              simp only [Int.natCast_zero] at d1 cd hd
              obtain rfl : l = [] := List.eq_nil_of_length_eq_zero (by omega)
              clear pb0 e0
              obtain ⟨sa, sc, rfl, hcp, hP⟩ := ho.slice
              simp only [List.length_nil]
              go_wp2_with (at_builtin; refine app_pair_full rfl _ _ _ rfl 70 Try.underlying34 elemPairP [] ((0 : Int), (0 : Int)) sa rfl _ rfl ?cau ?c1u ?c2u ?c3u ?_)
              case cau => exact hP.ext (by repeat (with_reducible first | assumption | exact Ext.refl _ | refine Ext.drew ?_ | refine Ext.drewN ?_ _ | refine Ext.alloc ?_ _ | (refine Ext.setCell ?_ ?sz _; case sz => (first | (simp; done) | (simp; omega))) | refine Ext.trans ?_ (by assumption)))
              try (case c1u => exact new20 rfl)
              try (case c2u => exact new21 rfl)
              try (case c3u => simp)
              intro cp w3 ho3 hE3
              go_wp2_with fail
              go_roundw
              case rel => exact ⟨1, by omega, rfl, by rw [hx.out]; exact ho3.mono (by have := Ext.size hw; simp; omega), (by repeat (with_reducible first | assumption | exact Ext.refl _ | refine Ext.drew ?_ | refine Ext.drewN ?_ _ | refine Ext.alloc ?_ _ | (refine Ext.setCell ?_ ?sz _; case sz => (first | (simp; done) | (simp; omega))) | refine Ext.trans ?_ (by assumption)))⟩
              case measure => simp [intOf]; omega
            · obtain ⟨j', rfl⟩ : ∃ j', j = j' + 1 := ⟨j - 1, by omega⟩
              have cd' := hT1.cd j' (by omega)
              rw [fD_full, if_pos (by omega)] at cd'
              have e2 : depth m t j' ≤ 0 := by
                have e1 : (((j' + 1 : Nat) : Int) - 1) = (j' : Int) := by omega
                rw [e1] at e0; omega
              have j8 : (j' : Int) < 8 := by omega
              generalize pls m t (j' + 1) = l at *
              push_cast at d1 cd hd
              clear e0
              obtain ⟨sa, sc, rfl, hcp, hP⟩ := ho.slice
              have hcp1 : (l.length : Int) ≤ (sc : Int) := by omega
              go_wp2_with (at_builtin; refine app_pair_full rfl _ _ _ rfl 70 Try.underlying34 elemPairP l (((j' : Int) + 1), ((j' : Int) + 1)) sa rfl _ rfl ?cav ?c1v ?c2v ?c3v ?_)
              case cav => exact hP.ext (by repeat (with_reducible first | assumption | exact Ext.refl _ | refine Ext.drew ?_ | refine Ext.drewN ?_ _ | refine Ext.alloc ?_ _ | (refine Ext.setCell ?_ ?sz _; case sz => (first | (simp; done) | (simp; omega))) | refine Ext.trans ?_ (by assumption)))
              try (case c1v => exact new20 rfl)
              try (case c2v => exact new21 rfl)
              try (case c3v => omega)
              intro cp w3 ho3 hE3
              go_wp2_with fail
              go_roundw
              case rel => exact ⟨j' + 1 + 1, by omega, by go_num, by rw [hx.out]; exact ho3.mono (by have := Ext.size hw; simp; omega), (by repeat (with_reducible first | assumption | exact Ext.refl _ | refine Ext.drew ?_ | refine Ext.drewN ?_ _ | refine Ext.alloc ?_ _ | (refine Ext.setCell ?_ ?sz _; case sz => (first | (simp; done) | (simp; omega))) | refine Ext.trans ?_ (by assumption)))⟩
              case measure => simp [intOf]; omega
      · obtain rfl : j = m.hs.length := by omega
        obtain ⟨b, cp, rfl, _, hi⟩ := ho.slice
        go_wp2_with fail
        go_ret2
        refine ⟨b, cp, ?_, ?_, (by repeat (with_reducible first | assumption | exact Ext.refl _ | refine Ext.drew ?_ | refine Ext.drewN ?_ _ | refine Ext.alloc ?_ _ | (refine Ext.setCell ?_ ?sz _; case sz => (first | (simp; done) | (simp; omega))) | refine Ext.trans ?_ (by assumption)))⟩
        · rw [H.out, g.out]; rfl
        · rw [H.out]; exact hi

end Go.Proofs.Ytogglbhidlnijaa
