/- The law PintGrown, walked. -/
import Derived.Test.YtogglbhidlnijaaLawX
import Derived.Test.YtogglbhidlnijaaMemG
import Derived.Test.YtogglbhidlnijaaOrd
import Derived.Deep.DeepCutAuto
namespace Go.Proofs.Ytogglbhidlnijaa
set_option linter.unusedVariables false
set_option linter.unusedSimpArgs false
set_option linter.unusedSectionVars false
set_option linter.unnecessarySimpa false
open Go Go.RowKit
set_option maxRecDepth 100000


theorem mul3t {c t : Int} (c0 : 1 ≤ c) (c1 : c ≤ 3) (t0 : -20 ≤ t) (t1 : t ≤ 20) : -60 ≤ c * t ∧ c * t ≤ 60 := by
  have : c = 1 ∨ c = 2 ∨ c = 3 := by omega
  rcases this with rfl | rfl | rfl <;> omega
theorem mul3d {c x : Int} (c0 : 1 ≤ c) (c1 : c ≤ 3) (x0 : 0 ≤ x) (x1 : x ≤ 420) : 0 ≤ c * x ∧ c * x ≤ 1260 := by
  have : c = 1 ∨ c = 2 ∨ c = 3 := by omega
  rcases this with rfl | rfl | rfl <;> omega
theorem longsN_any (a b : Option Addr) (c1 c2 : Nat) (l : List Int) (n k : Nat) (hn : n = l.length) (hk : k = l.length) (w : World) (hI : Ints w a l) (hJ : Ints w b l) (hl : l.length ≤ 1099511627776) :
    Calls Try.prog 29 #[.slice a n c1, .slice b k c2] w fun e w' => e = .returned (.bool true) ∧ Ext w w' := by
  subst hn hk
  exact longsEq_any a b c1 c2 l w hI hJ hl
theorem fineY_any (m : Meas) (v : Vld m) (x y : Int) (hx : x = m.L) (hy : y = m.R) (a : Option Addr) (n cap : Nat) (hn : n = m.hs.length) (w : World) (hI : Ints w a m.hs) :
    Calls Try.prog 54 #[.agg #[.int .i64 x, .int .i64 y, .slice a n cap]] w fun e w' => e = .returned (.bool true) ∧ Ext w w' := by
  subst hx hy hn
  exact fine_yes m v a cap w hI
theorem fineN_any (m : Meas) (q : Fit m) (v : ¬ Vld m) (x y : Int) (hx : x = m.L) (hy : y = m.R) (a : Option Addr) (n cap : Nat) (hn : n = m.hs.length) (w : World) (hI : Ints w a m.hs) (hl : n ≤ 1000) :
    Calls Try.prog 54 #[.agg #[.int .i64 x, .int .i64 y, .slice a n cap]] w fun e w' => e = .returned (.bool false) ∧ Ext w w' := by
  subst hx hy hn
  exact fine_no m q v a cap w hI (by omega)

set_option maxHeartbeats 8000000 in
theorem pintGrown_any (m : Meas) (q : Fit m) (a : Option Addr) (cap : Nat) (tn d u : Int) (w : World) (hI : Ints w a m.hs) (hl : m.hs.length ≤ 9223372036854775807) (ht : -128 ≤ tn ∧ tn ≤ 127) (hd : 0 ≤ d ∧ d ≤ 255) (hu : 0 ≤ u ∧ u ≤ 255) :
    Calls Try.prog 10 #[(.agg #[.int .i64 m.L, .int .i64 m.R, .slice a m.hs.length cap]), .int .i8 tn, .int .u8 d, .int .u8 u] w fun e w' => e = .returned (.bool true) ∧ Ext w w' := by
  have hB := (Ext.refl w).alloc (.cells #[.int .i64 m.L, .int .i64 m.R, .slice a m.hs.length cap] 24)
  obtain ⟨d0, d1⟩ := hd
  obtain ⟨u0, u1⟩ := hu
  by_cases v : Vld m
  case neg =>
    go_enter Try.func10, Try.ntmps10
    go_wp2_with fail
    refine (fine_no m q v a cap _ (hI.ext (by repeat (with_reducible first | assumption | exact Ext.refl _ | refine Ext.drew ?_ | refine Ext.drewN ?_ _ | refine Ext.alloc ?_ _ | (refine Ext.setCell ?_ ?sz _; case sz => (first | (simp; done) | (simp; omega))) | refine Ext.trans ?_ (by assumption)))) hl).mono ?_; rintro e w1 ⟨rfl, hE⟩
    go_wp2_with fail
    refine (works_any _).mono ?_; rintro e w2 ⟨rfl, hE2⟩
    go_wp2_with fail
    go_ret
    exact ⟨rfl, (by repeat (with_reducible first | assumption | exact Ext.refl _ | refine Ext.drew ?_ | refine Ext.drewN ?_ _ | refine Ext.alloc ?_ _ | (refine Ext.setCell ?_ ?sz _; case sz => (first | (simp; done) | (simp; omega))) | refine Ext.trans ?_ (by assumption)))⟩
  case pos =>
    have n1 := v.n1
    have n8 := v.n8
    have hl' : m.hs.length ≤ 1000 := by omega
    go_enter Try.func10, Try.ntmps10
    go_wp2_with fail
    refine (fine_yes m v a cap _ (hI.ext (by repeat (with_reducible first | assumption | exact Ext.refl _ | refine Ext.drew ?_ | refine Ext.drewN ?_ _ | refine Ext.alloc ?_ _ | (refine Ext.setCell ?_ ?sz _; case sz => (first | (simp; done) | (simp; omega))) | refine Ext.trans ?_ (by assumption))))).mono ?_; rintro e w1 ⟨rfl, hE⟩
    have X : Hid (Ext w w1) := hid (by repeat (with_reducible first | assumption | exact Ext.refl _ | refine Ext.drew ?_ | refine Ext.drewN ?_ _ | refine Ext.alloc ?_ _ | (refine Ext.setCell ?_ ?sz _; case sz => (first | (simp; done) | (simp; omega))) | refine Ext.trans ?_ (by assumption)))
    have S : MS w.heap.size m a cap w1 := ⟨hE.cell (by simp [go_sem]), hE.cell (by simp [go_sem]), hE.cell (by simp [go_sem]), hI.ext (by repeat (with_reducible first | assumption | exact Ext.refl _ | refine Ext.drew ?_ | refine Ext.drewN ?_ _ | refine Ext.alloc ?_ _ | (refine Ext.setCell ?_ ?sz _; case sz => (first | (simp; done) | (simp; omega))) | refine Ext.trans ?_ (by assumption)))⟩
    generalize w.heap.size = B at *
    replace S := hid S
    clear hE hB hI
    have m0 := S.out.m0; have m1 := S.out.m1; have m2 := S.out.m2
    go_wp2_with fail
    refine (tilted_any tn ht _).mono ?_; rintro e w2 ⟨rfl, hE⟩
    obtain ⟨t0, t1⟩ := tiltOf_bd tn
    generalize tiltOf tn = t at *
    (have x : Ext w1 w2 := (by repeat (with_reducible first | assumption | exact Ext.refl _ | refine Ext.drew ?_ | refine Ext.drewN ?_ _ | refine Ext.alloc ?_ _ | (refine Ext.setCell ?_ ?sz _; case sz => (first | (simp; done) | (simp; omega))) | refine Ext.trans ?_ (by assumption))); replace S := hid (S.out.ext x); replace X := hid (X.out.trans x); clear x hE m0 m1 m2; have m0 := S.out.m0; have m1 := S.out.m1; have m2 := S.out.m2; go_wp2_with fail)
    obtain ⟨c, hc⟩ : ∃ c, 1 + u % 3 = c := ⟨_, rfl⟩
    have c0 : 1 ≤ c := by omega
    have c1 : c ≤ 3 := by omega
    try rw [hc]
    clear hc
    obtain ⟨l0, l1⟩ := mul3_bd v.l0 v.l1 c0 c1
    obtain ⟨r0, r1⟩ := mul3_bd v.r0 v.r1 c0 c1
    have bl0 := v.l0
    have bl1 := v.l1
    have br0 := v.r0
    have br1 := v.r1
    go_upto_region 4 with (fail)
    go_cut [12, 13] (fun p r wx => ∃ C D : Nat, p = .pointer (some ⟨C, 0, none⟩) ∧ r = .pointer (some ⟨D, 0, none⟩) ∧ Hid (BoxS wx C D (max C D + 1) 2 (.int .i64 (m.L + d)) (.int .i64 (m.R + d)) (.slice none 0 0) (.int .i64 (c * m.L)) (.int .i64 (c * m.R)) (.slice none 0 0) (.slice none 0 0) [] (.slice none 0 0) []) ∧ C ≠ D ∧ w2.heap.size ≤ C ∧ w2.heap.size ≤ D ∧ Ext w2 wx)
    case first =>
      have y1 := Go.IntWalk.i64_in (m.L + d) (by omega)
      have y2 := Go.IntWalk.i64_in (m.R + d) (by omega)
      have y3 := Go.IntWalk.i64_in (c * m.L) (by omega)
      have y4 := Go.IntWalk.i64_in (c * m.R) (by omega)
      go_region_held3 (fun w' => w'.cell? ⟨B, 0, none⟩ = some (.int .i64 m.L) ∧ w'.cell? ⟨B, 1, none⟩ = some (.int .i64 m.R) ∧ w'.cell? ⟨B, 2, none⟩ = some (.slice a m.hs.length cap) ∧ Ext w2 w') (((try go_split_ands); (repeat' apply And.intro) <;> (first | (with_reducible assumption) | exact Ext.cell (w := w2) (by repeat (with_reducible first | assumption | exact Ext.refl _ | refine Ext.drew ?_ | refine Ext.drewN ?_ _ | refine Ext.alloc ?_ _ | (refine Ext.setCell ?_ ?sz _; case sz => (first | (simp; done) | (simp; omega))) | refine Ext.trans ?_ (by assumption))) (by assumption) | exact (by repeat (with_reducible first | assumption | exact Ext.refl _ | refine Ext.drew ?_ | refine Ext.drewN ?_ _ | refine Ext.alloc ?_ _ | (refine Ext.setCell ?_ ?sz _; case sz => (first | (simp; done) | (simp; omega))) | refine Ext.trans ?_ (by assumption)))))) (first | (go_at_call 58; refine (measureL_any _ _ none 0 0 _).mono ?_; rintro e wa ⟨rfl, hEa⟩; (try ((first | replace q := NewB.ext q hEa | replace q := NewB.ext q (Ext.trans (Ext.alloc (Ext.refl _) _) hEa) | replace q := NewB.ext q (Ext.trans (Ext.alloc (Ext.alloc (Ext.refl _) _) _) hEa)); have qa := q.c0; have qb := q.c1; have qc := q.c2; have qd := q.f0; have qe := q.f1; have qf := q.f2; have qg := q.lt)); (try ((first | replace r := NewB.ext r hEa | replace r := NewB.ext r (Ext.trans (Ext.alloc (Ext.refl _) _) hEa) | replace r := NewB.ext r (Ext.trans (Ext.alloc (Ext.alloc (Ext.refl _) _) _) hEa)); have ra := r.c0; have rb := r.c1; have rc := r.c2; have rd := r.f0; have re := r.f1; have rf := r.f2; have rg := r.lt)); (try ((first | have t := NewB.ext s hEa | have t := NewB.ext s (Ext.trans (Ext.alloc (Ext.refl _) _) hEa)); have ta := t.c0; have tb := t.c1; have tc := t.c2; have td := t.f0; have te := t.f1; have tf := t.f2; have tg := t.lt)); (try ((first | have qq := newB_of2 hEa | have qq := newB_of2 (Ext.trans (Ext.drew (Ext.refl _)) hEa)); obtain ⟨q, r⟩ := qq; have qa := q.c0; have qb := q.c1; have qc := q.c2; have qd := q.f0; have qe := q.f1; have qf := q.f2; have qg := q.lt; have ra := r.c0; have rb := r.c1; have rc := r.c2; have rd := r.f0; have re := r.f1; have rf := r.f2; have rg := r.lt)); (try ((first | have s := newB_of hEa | have s := newB_of (Ext.trans (Ext.drew (Ext.refl _)) hEa)); have sa := s.c0; have sb := s.c1; have sc := s.c2; have sd := s.f0; have se := s.f1; have sf := s.f2; have sg := s.lt)); have r3 := hEa.size; (try simp at r3); (try have z0 : w2.heap.size < wa.heap.size := by omega); (try have z1 : w2.heap.size + 1 < wa.heap.size := by omega)))
      all_goals
        clear y1 y2 y3 y4
        go_wp2_with fail
        go_meet
        case rel => exact ⟨_, _, rfl, rfl, hid ⟨(by simp [go_sem, *]; done), (by simp [go_sem, *]; done), (by simp [go_sem, *]; done), (by simp [go_sem, *]; done), (by simp [go_sem, *]; done), (by simp [go_sem, *]; done), (by simp [go_sem, *]; done), (by simp [go_sem, *]; done), OwnI.nil _ _ _, OwnI.nil _ _ _, (fun b h => by cases h), (by first | omega | (simp; done) | (simp; omega)), (by first | omega | (simp; done) | (simp; omega)), (by first | omega | (simp; done) | (simp; omega))⟩, (by first | omega | (simp; done) | (simp; omega)), (by first | omega | (simp; done) | (simp; omega)), (by first | omega | (simp; done) | (simp; omega)), (by repeat (with_reducible first | assumption | exact Ext.refl _ | refine Ext.drew ?_ | refine Ext.drewN ?_ _ | refine Ext.alloc ?_ _ | (refine Ext.setCell ?_ ?sz _; case sz => (first | (simp; done) | (simp; omega))) | refine Ext.trans ?_ (by assumption)))⟩
    case rest =>
      obtain ⟨C, D, rfl, rfl, hT0, hCD, hC, hD, hW⟩ := hcut
      obtain ⟨w3, rfl⟩ : ∃ w3 : World, w3 = wc := ⟨_, rfl⟩
      have hDC : D ≠ C := Ne.symm hCD
      obtain ⟨G, hG⟩ : ∃ G, max C D + 1 = G := ⟨_, rfl⟩
      rw [hG] at hT0
      have hCG : C < G := by omega
      have hDG : D < G := by omega
      obtain ⟨b, off, rfl, _, z1⟩ := S.out.i.at (by omega)
      replace z1 := hid z1
      clear hG
      replace m0 := hW.cell m0
      replace m1 := hW.cell m1
      replace m2 := hW.cell m2
      go_wp2_with fail
      go_loopw [14] (fun i wr => ∃ (k : Nat) (v1 v2 : Value), k ≤ m.hs.length ∧ i = .int .i64 k ∧ Hid (BoxS wr C D G 2 (.int .i64 (m.L + d)) (.int .i64 (m.R + d)) v1 (.int .i64 (c * m.L)) (.int .i64 (c * m.R)) v2 v1 (maps (fun z => z + d) m.hs k) v2 (maps (fun z => c * z) m.hs k)) ∧ Ext w2 wr) (fun i _ => (m.hs.length - intOf i).toNat)
      case atStart => exact ⟨0, _, _, by omega, rfl, hT0, hW⟩
      case round =>
        obtain ⟨k, v1, v2, hk, rfl, hT, hw⟩ := hrel
        replace m0 := hw.cell S.out.m0
        replace m1 := hw.cell S.out.m1
        replace m2 := hw.cell S.out.m2
        by_cases hlt : k < m.hs.length
        · have z1k := z1.out k hlt
          have ck := hw.cell z1k
          have bx0 := v.h0 k
          have bx1 := v.h1 k
          have hsn1 := hid (show maps (fun z => z + d) m.hs (k + 1) = maps (fun z => z + d) m.hs k ++ [nth m.hs k + d] from rfl)
          have hsn2 := hid (show maps (fun z => c * z) m.hs (k + 1) = maps (fun z => c * z) m.hs k ++ [c * nth m.hs k] from rfl)
          obtain ⟨mx0, mx1⟩ := mul3_bd bx0 bx1 c0 c1
          generalize nth m.hs k = x at *
          have y1 := Go.IntWalk.i64_in (x + d) (by omega)
          have y2 := Go.IntWalk.i64_in (c * x) (by omega)
          have cC := hT.out.c2
          have cD := hT.out.d2
          have HW := hid hw
          have HWr := hid (Ext.refl wr)
          have hws := hT.out.hG
          clear hT0 hW
          have zk := z1k
          have hGr := hT.out.hG
          go_wp2_with fail
          refine wp_region_told (Told 10 21 (fun w' => w'.cell? ⟨C, 2, none⟩ = some v1 ∧ w'.cell? ⟨B, 2, none⟩ = some (.slice (some ⟨b, off, none⟩) m.hs.length cap) ∧ w'.cell? ⟨b, off + k, none⟩ = some (.int .i64 x)) (fun w' => w'.cell? ⟨D, 2, none⟩ = some v2 ∧ w'.cell? ⟨B, 2, none⟩ = some (.slice (some ⟨b, off, none⟩) m.hs.length cap) ∧ w'.cell? ⟨b, off + k, none⟩ = some (.int .i64 x)) (fun _ => True)) (by kernel_rfl) (Told.all ⟨cC, m2, ck⟩ ⟨cD, m2, ck⟩ trivial) (fun hTold => ?_)
          (refine wpAnyT_take (i := 0) (oi := _) (v := ?_) rfl (by kernel_rfl) (by kernel_rfl) (by kernel_rfl) (by kernel_rfl) (fun _ _ _ h => h) (Told.c) (Told.ind (by decide) (by decide)) (Or.inl ⟨by rfl, ?yl⟩) (by assumption) (fun hHeld => ?_); (case yl => ((intro w hSw; (try dsimp only at hSw); go_simp); with_reducible rfl)); (try clear hTold); rename _ => hTold; (try simp only [Act.put, List.setIfInBounds_toArray, List.set_cons_zero, List.set_cons_succ]))
          (refine wpAnyT_take (i := 1) (oi := _) (v := ?_) rfl (by kernel_rfl) (by kernel_rfl) (by kernel_rfl) (by kernel_rfl) (fun _ _ _ h => h) (Told.a (f := 26) (by kernel_rfl)) (Told.ind (by decide) (by decide)) (Or.inl ⟨by rfl, ?yl⟩) (by assumption) (fun hHeld => ?_); (case yl => ((intro w hSw; (try dsimp only at hSw); go_simp); with_reducible rfl)); (try clear hTold); rename _ => hTold; (try simp only [Act.put, List.setIfInBounds_toArray, List.set_cons_zero, List.set_cons_succ]))
          (refine wpAnyT_take (i := 2) (oi := _) (v := ?_) rfl (by kernel_rfl) (by kernel_rfl) (by kernel_rfl) (by kernel_rfl) (fun _ _ _ h => h) (Told.c) (Told.ind (by decide) (by decide)) (Or.inl ⟨by rfl, ?yl⟩) (by assumption) (fun hHeld => ?_); (case yl => ((intro w hSw; (try dsimp only at hSw); go_simp); with_reducible rfl)); (try clear hTold); rename _ => hTold; (try simp only [Act.put, List.setIfInBounds_toArray, List.set_cons_zero, List.set_cons_succ]))
          (refine wpAnyT_take (i := 3) (oi := _) (v := ?_) rfl (by kernel_rfl) (by kernel_rfl) (by kernel_rfl) (by kernel_rfl) (fun _ _ _ h => h) (Told.a (f := 26) (by kernel_rfl)) (Told.ind (by decide) (by decide)) (Or.inl ⟨by rfl, ?yl⟩) (by assumption) (fun hHeld => ?_); (case yl => ((intro w hSw; (try dsimp only at hSw); go_simp); with_reducible rfl)); (try clear hTold); rename _ => hTold; (try simp only [Act.put, List.setIfInBounds_toArray, List.set_cons_zero, List.set_cons_succ]))
          (refine wpAnyT_take (i := 4) (oi := _) (v := ?_) rfl (by kernel_rfl) (by kernel_rfl) (by kernel_rfl) (by kernel_rfl) (fun _ _ _ h => h) (Told.c) (Told.ind (by decide) (by decide)) (Or.inl ⟨by rfl, ?yl⟩) (by assumption) (fun hHeld => ?_); (case yl => ((intro w hSw; (try dsimp only at hSw); go_simp); with_reducible rfl)); (try clear hTold); rename _ => hTold; (try simp only [Act.put, List.setIfInBounds_toArray, List.set_cons_zero, List.set_cons_succ]))
          (refine wpAnyT_take (i := 5) (oi := _) (v := ?_) rfl (by kernel_rfl) (by kernel_rfl) (by kernel_rfl) (by kernel_rfl) (fun _ _ _ h => h) (Told.c) (Told.ind (by decide) (by decide)) (Or.inl ⟨by rfl, ?yl⟩) (by assumption) (fun hHeld => ?_); (case yl => ((intro w hSw; (try dsimp only at hSw); go_simp); with_reducible rfl)); (try clear hTold); rename _ => hTold; (try simp only [Act.put, List.setIfInBounds_toArray, List.set_cons_zero, List.set_cons_succ]))
          (refine wpAnyT_take (i := 6) (oi := _) (v := ?_) rfl (by kernel_rfl) (by kernel_rfl) (by kernel_rfl) (by kernel_rfl) (fun _ _ _ h => h) (Told.a (f := 26) (by kernel_rfl)) (Told.ind (by decide) (by decide)) (Or.inl ⟨by rfl, ?yl⟩) (by assumption) (fun hHeld => ?_); (case yl => ((intro w hSw; (try dsimp only at hSw); go_simp); with_reducible rfl)); (try clear hTold); rename _ => hTold; (try simp only [Act.put, List.setIfInBounds_toArray, List.set_cons_zero, List.set_cons_succ]))
          (refine wpAnyT_take (i := 7) (oi := _) (v := ?_) rfl (by kernel_rfl) (by kernel_rfl) (by kernel_rfl) (by kernel_rfl) (fun _ _ _ h => h) (Told.c) (Told.ind (by decide) (by decide)) (Or.inl ⟨by rfl, ?yl⟩) (by assumption) (fun hHeld => ?_); (case yl => ((intro w hSw; (try dsimp only at hSw); go_simp); with_reducible rfl)); (try clear hTold); rename _ => hTold; (try simp only [Act.put, List.setIfInBounds_toArray, List.set_cons_zero, List.set_cons_succ]))
          (refine wpAnyT_take (i := 8) (oi := _) (v := ?_) rfl (by kernel_rfl) (by kernel_rfl) (by kernel_rfl) (by kernel_rfl) (fun _ _ _ h => h) (Told.c) (Told.ind (by decide) (by decide)) (Or.inl ⟨by rfl, ?yl⟩) (by assumption) (fun hHeld => ?_); (case yl => ((intro w hSw; (try dsimp only at hSw); go_simp); with_reducible rfl)); (try clear hTold); rename _ => hTold; (try simp only [Act.put, List.setIfInBounds_toArray, List.set_cons_zero, List.set_cons_succ]))
          (refine wpAnyT_take (i := 11) (oi := _) (v := ?_) rfl (by kernel_rfl) (by kernel_rfl) (by kernel_rfl) (by kernel_rfl) (fun _ _ _ h => h) (Told.c) (Told.ind (by decide) (by decide)) (Or.inl ⟨by rfl, ?yl⟩) (by assumption) (fun hHeld => ?_); (case yl => ((intro w hSw; (try dsimp only at hSw); go_simp); with_reducible rfl)); (try clear hTold); rename _ => hTold; (try simp only [Act.put, List.setIfInBounds_toArray, List.set_cons_zero, List.set_cons_succ]))
          (refine wpAnyT_take (i := 12) (oi := _) (v := ?_) rfl (by kernel_rfl) (by kernel_rfl) (by kernel_rfl) (by kernel_rfl) (fun _ _ _ h => h) (Told.b (f := 26) (by kernel_rfl)) (Told.ind (by decide) (by decide)) (Or.inl ⟨by rfl, ?yl⟩) (by assumption) (fun hHeld => ?_); (case yl => ((intro w hSw; (try dsimp only at hSw); go_simp); with_reducible rfl)); (try clear hTold); rename _ => hTold; (try simp only [Act.put, List.setIfInBounds_toArray, List.set_cons_zero, List.set_cons_succ]))
          (refine wpAnyT_take (i := 13) (oi := _) (v := ?_) rfl (by kernel_rfl) (by kernel_rfl) (by kernel_rfl) (by kernel_rfl) (fun _ _ _ h => h) (Told.c) (Told.ind (by decide) (by decide)) (Or.inl ⟨by rfl, ?yl⟩) (by assumption) (fun hHeld => ?_); (case yl => ((intro w hSw; (try dsimp only at hSw); go_simp); with_reducible rfl)); (try clear hTold); rename _ => hTold; (try simp only [Act.put, List.setIfInBounds_toArray, List.set_cons_zero, List.set_cons_succ]))
          (refine wpAnyT_take (i := 14) (oi := _) (v := ?_) rfl (by kernel_rfl) (by kernel_rfl) (by kernel_rfl) (by kernel_rfl) (fun _ _ _ h => h) (Told.c) (Told.ind (by decide) (by decide)) (Or.inl ⟨by rfl, ?yl⟩) (by assumption) (fun hHeld => ?_); (case yl => ((intro w hSw; (try dsimp only at hSw); go_simp); with_reducible rfl)); (try clear hTold); rename _ => hTold; (try simp only [Act.put, List.setIfInBounds_toArray, List.set_cons_zero, List.set_cons_succ]))
          (refine wpAnyT_take (i := 15) (oi := _) (v := ?_) rfl (by kernel_rfl) (by kernel_rfl) (by kernel_rfl) (by kernel_rfl) (fun _ _ _ h => h) (Told.b (f := 26) (by kernel_rfl)) (Told.ind (by decide) (by decide)) (Or.inl ⟨by rfl, ?yl⟩) (by assumption) (fun hHeld => ?_); (case yl => ((intro w hSw; (try dsimp only at hSw); go_simp); with_reducible rfl)); (try clear hTold); rename _ => hTold; (try simp only [Act.put, List.setIfInBounds_toArray, List.set_cons_zero, List.set_cons_succ]))
          (refine wpAnyT_take (i := 16) (oi := _) (v := ?_) rfl (by kernel_rfl) (by kernel_rfl) (by kernel_rfl) (by kernel_rfl) (fun _ _ _ h => h) (Told.c) (Told.ind (by decide) (by decide)) (Or.inl ⟨by rfl, ?yl⟩) (by assumption) (fun hHeld => ?_); (case yl => ((intro w hSw; (try dsimp only at hSw); go_simp); with_reducible rfl)); (try clear hTold); rename _ => hTold; (try simp only [Act.put, List.setIfInBounds_toArray, List.set_cons_zero, List.set_cons_succ]))
          (refine wpAnyT_take (i := 17) (oi := _) (v := ?_) rfl (by kernel_rfl) (by kernel_rfl) (by kernel_rfl) (by kernel_rfl) (fun _ _ _ h => h) (Told.c) (Told.ind (by decide) (by decide)) (Or.inl ⟨by rfl, ?yl⟩) (by assumption) (fun hHeld => ?_); (case yl => ((intro w hSw; (try dsimp only at hSw); go_simp); with_reducible rfl)); (try clear hTold); rename _ => hTold; (try simp only [Act.put, List.setIfInBounds_toArray, List.set_cons_zero, List.set_cons_succ]))
          (refine wpAnyT_take (i := 18) (oi := _) (v := ?_) rfl (by kernel_rfl) (by kernel_rfl) (by kernel_rfl) (by kernel_rfl) (fun _ _ _ h => h) (Told.b (f := 26) (by kernel_rfl)) (Told.ind (by decide) (by decide)) (Or.inl ⟨by rfl, ?yl⟩) (by assumption) (fun hHeld => ?_); (case yl => ((intro w hSw; (try dsimp only at hSw); go_simp); with_reducible rfl)); (try clear hTold); rename _ => hTold; (try simp only [Act.put, List.setIfInBounds_toArray, List.set_cons_zero, List.set_cons_succ]))
          (refine wpAnyT_take (i := 19) (oi := _) (v := ?_) rfl (by kernel_rfl) (by kernel_rfl) (by kernel_rfl) (by kernel_rfl) (fun _ _ _ h => h) (Told.c) (Told.ind (by decide) (by decide)) (Or.inl ⟨by rfl, ?yl⟩) (by assumption) (fun hHeld => ?_); (case yl => ((intro w hSw; (try dsimp only at hSw); go_simp); with_reducible rfl)); (try clear hTold); rename _ => hTold; (try simp only [Act.put, List.setIfInBounds_toArray, List.set_cons_zero, List.set_cons_succ]))
          refine wpAnyT_two (i := 9) (j := 20) (o := _) (p := _) (by kernel_rfl) rfl rfl (fun K hK => ?_) (fun K hK => ?_)
          · go_simp
            refine hK.out _ _ (Told.all ⟨Ext.cell (w := wr) (by repeat (with_reducible first | assumption | exact Ext.refl _ | refine Ext.drew ?_ | refine Ext.drewN ?_ _ | refine Ext.alloc ?_ _ | (refine Ext.setCell ?_ ?sz _; case sz => (first | (simp; done) | (simp; omega))) | refine Ext.trans ?_ (by assumption))) cC, Ext.cell (w := wr) (by repeat (with_reducible first | assumption | exact Ext.refl _ | refine Ext.drew ?_ | refine Ext.drewN ?_ _ | refine Ext.alloc ?_ _ | (refine Ext.setCell ?_ ?sz _; case sz => (first | (simp; done) | (simp; omega))) | refine Ext.trans ?_ (by assumption))) m2, Ext.cell (w := wr) (by repeat (with_reducible first | assumption | exact Ext.refl _ | refine Ext.drew ?_ | refine Ext.drewN ?_ _ | refine Ext.alloc ?_ _ | (refine Ext.setCell ?_ ?sz _; case sz => (first | (simp; done) | (simp; omega))) | refine Ext.trans ?_ (by assumption))) ck⟩ ⟨Ext.cell (w := wr) (by repeat (with_reducible first | assumption | exact Ext.refl _ | refine Ext.drew ?_ | refine Ext.drewN ?_ _ | refine Ext.alloc ?_ _ | (refine Ext.setCell ?_ ?sz _; case sz => (first | (simp; done) | (simp; omega))) | refine Ext.trans ?_ (by assumption))) cD, Ext.cell (w := wr) (by repeat (with_reducible first | assumption | exact Ext.refl _ | refine Ext.drew ?_ | refine Ext.drewN ?_ _ | refine Ext.alloc ?_ _ | (refine Ext.setCell ?_ ?sz _; case sz => (first | (simp; done) | (simp; omega))) | refine Ext.trans ?_ (by assumption))) m2, Ext.cell (w := wr) (by repeat (with_reducible first | assumption | exact Ext.refl _ | refine Ext.drew ?_ | refine Ext.drewN ?_ _ | refine Ext.alloc ?_ _ | (refine Ext.setCell ?_ ?sz _; case sz => (first | (simp; done) | (simp; omega))) | refine Ext.trans ?_ (by assumption))) ck⟩ trivial) (fun hTold => ?_)
            clear hK K
            (try simp only [List.getElem_toArray, List.getElem_cons_succ, List.getElem_cons_zero, Act.put, List.setIfInBounds_toArray, List.set_cons_zero, List.set_cons_succ])
            refine wpAnyT_two (i := 10) (j := 20) (o := _) (p := _) (by kernel_rfl) rfl rfl (fun K hK => ?_) (fun K hK => ?_)
            · rw [if_pos (by rfl)]
              refine appD_wp _ _ _ rfl 2 Try.underlying22 elemI64x G (maps (fun z => z + d) m.hs k) [x + d] _ rfl _ 1 rfl ?h11 ?h12 (by simp) (by rw [maps_len]; simp; omega) ?h13 ?_
              case h11 => exact hT.out.ow1.ext (by repeat (with_reducible first | assumption | exact Ext.refl _ | refine Ext.drew ?_ | refine Ext.drewN ?_ _ | refine Ext.alloc ?_ _ | (refine Ext.setCell ?_ ?sz _; case sz => (first | (simp; done) | (simp; omega))) | refine Ext.trans ?_ (by assumption)))
              case h12 => exact (Ints.ext (w := wr.alloc (.cells #[.int .i64 (x + d)] 2)) (ints_one rfl) (by repeat (with_reducible first | assumption | exact Ext.refl _ | refine Ext.drew ?_ | refine Ext.drewN ?_ _ | refine Ext.alloc ?_ _ | (refine Ext.setCell ?_ ?sz _; case sz => (first | (simp; done) | (simp; omega))) | refine Ext.trans ?_ (by assumption))))
              case h13 => (simp; omega)
              intro b5 p5 w5 ho5 hg5 hat5 hbb5
              have ho5' : OwnI w5 G 2 (.slice (some ⟨b5, 0, none⟩) ((maps (fun z => z + d) m.hs k).length + 1) p5) (maps (fun z => z + d) m.hs k ++ [x + d]) := by rw [List.length_append] at ho5; exact ho5
              obtain ⟨T5, hx5⟩ := (hT.out.ext (by repeat (with_reducible first | assumption | exact Ext.refl _ | refine Ext.drew ?_ | refine Ext.drewN ?_ _ | refine Ext.alloc ?_ _ | (refine Ext.setCell ?_ ?sz _; case sz => (first | (simp; done) | (simp; omega))) | refine Ext.trans ?_ (by assumption)))).grow1 hg5 ho5' hat5
              replace T5 := hid T5
              have e5 : Ext w2 w5 := hx5 w2 (by have := HW.out; exact (by repeat (with_reducible first | assumption | exact Ext.refl _ | refine Ext.drew ?_ | refine Ext.drewN ?_ _ | refine Ext.alloc ?_ _ | (refine Ext.setCell ?_ ?sz _; case sz => (first | (simp; done) | (simp; omega))) | refine Ext.trans ?_ (by assumption)))) (by omega)
              have q5 : w5.cell? ⟨D, 2, none⟩ = some v2 := T5.out.d2
              have m5 := e5.cell S.out.m2
              have k5 := e5.cell zk
              refine hK.out _ _ (Told.half (by kernel_rfl) ⟨q5, m5, k5⟩ trivial) (fun hTold => ?_)
              clear hK K
              (try simp only [List.getElem_toArray, List.getElem_cons_succ, List.getElem_cons_zero, Act.put, List.setIfInBounds_toArray, List.set_cons_zero, List.set_cons_succ])
              (refine wpAnyT_take (i := 22) (oi := _) (v := ?_) rfl (by kernel_rfl) (by kernel_rfl) (by kernel_rfl) (by kernel_rfl) (fun _ _ _ h => h) (Told.c) (Told.ind (by decide) (by decide)) (Or.inl ⟨by rfl, ?yl⟩) (by assumption) (fun hHeld => ?_); (case yl => ((intro w hSw; (try dsimp only at hSw); go_simp); with_reducible rfl)); (try clear hTold); rename _ => hTold; (try simp only [Act.put, List.setIfInBounds_toArray, List.set_cons_zero, List.set_cons_succ]))
              refine wpAnyT_one (i := 20) (o := _) (by kernel_rfl) rfl (fun K hK => ?_)
              go_simp
              refine hK.out _ _ (Told.half (by kernel_rfl) ⟨Ext.cell (w := w5) (by repeat (with_reducible first | assumption | exact Ext.refl _ | refine Ext.drew ?_ | refine Ext.drewN ?_ _ | refine Ext.alloc ?_ _ | (refine Ext.setCell ?_ ?sz _; case sz => (first | (simp; done) | (simp; omega))) | refine Ext.trans ?_ (by assumption))) q5, Ext.cell (w := w5) (by repeat (with_reducible first | assumption | exact Ext.refl _ | refine Ext.drew ?_ | refine Ext.drewN ?_ _ | refine Ext.alloc ?_ _ | (refine Ext.setCell ?_ ?sz _; case sz => (first | (simp; done) | (simp; omega))) | refine Ext.trans ?_ (by assumption))) m5, Ext.cell (w := w5) (by repeat (with_reducible first | assumption | exact Ext.refl _ | refine Ext.drew ?_ | refine Ext.drewN ?_ _ | refine Ext.alloc ?_ _ | (refine Ext.setCell ?_ ?sz _; case sz => (first | (simp; done) | (simp; omega))) | refine Ext.trans ?_ (by assumption))) k5⟩ trivial) (fun hTold => ?_)
              clear hK K
              (try simp only [List.getElem_toArray, List.getElem_cons_succ, List.getElem_cons_zero, Act.put, List.setIfInBounds_toArray, List.set_cons_zero, List.set_cons_succ])
              refine wpAnyT_one (i := 21) (o := _) (by kernel_rfl) rfl (fun K hK => ?_)
              rw [if_pos (by rfl)]
              refine appD_wp _ _ _ rfl 2 Try.underlying22 elemI64x G (maps (fun z => c * z) m.hs k) [c * x] _ rfl _ 1 rfl ?h14 ?h15 (by simp) (by rw [maps_len]; simp; omega) ?h16 ?_
              case h14 => exact T5.out.ow2.ext (by repeat (with_reducible first | assumption | exact Ext.refl _ | refine Ext.drew ?_ | refine Ext.drewN ?_ _ | refine Ext.alloc ?_ _ | (refine Ext.setCell ?_ ?sz _; case sz => (first | (simp; done) | (simp; omega))) | refine Ext.trans ?_ (by assumption)))
              case h15 => exact (Ints.ext (w := w5.alloc (.cells #[.int .i64 (c * x)] 2)) (ints_one rfl) (by repeat (with_reducible first | assumption | exact Ext.refl _ | refine Ext.drew ?_ | refine Ext.drewN ?_ _ | refine Ext.alloc ?_ _ | (refine Ext.setCell ?_ ?sz _; case sz => (first | (simp; done) | (simp; omega))) | refine Ext.trans ?_ (by assumption))))
              case h16 => (have := T5.out.hG; (try simp); omega)
              intro b6 p6 w6 ho6 hg6 hat6 hbb6
              have ho6' : OwnI w6 G 2 (.slice (some ⟨b6, 0, none⟩) ((maps (fun z => c * z) m.hs k).length + 1) p6) (maps (fun z => c * z) m.hs k ++ [c * x]) := by rw [List.length_append] at ho6; exact ho6
              obtain ⟨T6, hx6⟩ := (T5.out.ext (by repeat (with_reducible first | assumption | exact Ext.refl _ | refine Ext.drew ?_ | refine Ext.drewN ?_ _ | refine Ext.alloc ?_ _ | (refine Ext.setCell ?_ ?sz _; case sz => (first | (simp; done) | (simp; omega))) | refine Ext.trans ?_ (by assumption)))).grow2 hg6 ho6' hat6
              have e6 : Ext w2 w6 := hx6 w2 (by repeat (with_reducible first | assumption | exact Ext.refl _ | refine Ext.drew ?_ | refine Ext.drewN ?_ _ | refine Ext.alloc ?_ _ | (refine Ext.setCell ?_ ?sz _; case sz => (first | (simp; done) | (simp; omega))) | refine Ext.trans ?_ (by assumption))) (by omega)
              have j0 := T6.c2
              have j1 := T6.cf
              have j2 := T6.d2
              have j3 := T6.df
              have j4 := T6.hG
              refine hK.out _ _ (Told.past (by kernel_rfl) (by kernel_rfl) trivial) (fun hTold => ?_)
              clear hK K
              (try simp only [List.getElem_toArray, List.getElem_cons_succ, List.getElem_cons_zero, Act.put, List.setIfInBounds_toArray, List.set_cons_zero, List.set_cons_succ])
              refine wpAnyT_one (i := 23) (o := _) (by kernel_rfl) rfl (fun K hK => ?_)
              go_simp
              refine hK.out _ _ (Told.past (by kernel_rfl) (by kernel_rfl) trivial) (fun hTold => ?_)
              clear hK K
              (try simp only [List.getElem_toArray, List.getElem_cons_succ, List.getElem_cons_zero, Act.put, List.setIfInBounds_toArray, List.set_cons_zero, List.set_cons_succ])
              refine wpAnyT_one (i := 24) (o := _) (by kernel_rfl) rfl (fun K hK => ?_)
              go_simp
              refine hK.out _ _ (Told.past (by kernel_rfl) (by kernel_rfl) trivial) (fun hTold => ?_)
              clear hK K
              (try simp only [List.getElem_toArray, List.getElem_cons_succ, List.getElem_cons_zero, Act.put, List.setIfInBounds_toArray, List.set_cons_zero, List.set_cons_succ])
              refine wpAnyT_one (i := 25) (o := _) (by kernel_rfl) rfl (fun K hK => ?_)
              go_simp
              refine hK.out _ _ (Told.past (by kernel_rfl) (by kernel_rfl) trivial) (fun hTold => ?_)
              clear hK K
              (try simp only [List.getElem_toArray, List.getElem_cons_succ, List.getElem_cons_zero, Act.put, List.setIfInBounds_toArray, List.set_cons_zero, List.set_cons_succ])
              refine wpAnyT_done (by kernel_rfl) ?_ _
              clear hTold y1 y2
              go_wp2
              go_roundw
              case rel => exact ⟨k + 1, _, _, by omega, by go_num, by rw [hsn1.out, hsn2.out]; exact hid (T6.put hbb5 hbb6 hCD), (by have hx := e6; exact (by repeat (with_reducible first | assumption | exact Ext.refl _ | refine Ext.drew ?_ | refine Ext.drewN ?_ _ | refine Ext.alloc ?_ _ | (refine Ext.setCell ?_ ?sz _; case sz => (first | (simp; done) | (simp; omega))) | refine Ext.trans ?_ (by assumption))))⟩
              case measure => simp [intOf] <;> omega
            · go_simp
              refine hK.out _ _ (Told.all ⟨Ext.cell (w := wr) (by repeat (with_reducible first | assumption | exact Ext.refl _ | refine Ext.drew ?_ | refine Ext.drewN ?_ _ | refine Ext.alloc ?_ _ | (refine Ext.setCell ?_ ?sz _; case sz => (first | (simp; done) | (simp; omega))) | refine Ext.trans ?_ (by assumption))) cC, Ext.cell (w := wr) (by repeat (with_reducible first | assumption | exact Ext.refl _ | refine Ext.drew ?_ | refine Ext.drewN ?_ _ | refine Ext.alloc ?_ _ | (refine Ext.setCell ?_ ?sz _; case sz => (first | (simp; done) | (simp; omega))) | refine Ext.trans ?_ (by assumption))) m2, Ext.cell (w := wr) (by repeat (with_reducible first | assumption | exact Ext.refl _ | refine Ext.drew ?_ | refine Ext.drewN ?_ _ | refine Ext.alloc ?_ _ | (refine Ext.setCell ?_ ?sz _; case sz => (first | (simp; done) | (simp; omega))) | refine Ext.trans ?_ (by assumption))) ck⟩ ⟨Ext.cell (w := wr) (by repeat (with_reducible first | assumption | exact Ext.refl _ | refine Ext.drew ?_ | refine Ext.drewN ?_ _ | refine Ext.alloc ?_ _ | (refine Ext.setCell ?_ ?sz _; case sz => (first | (simp; done) | (simp; omega))) | refine Ext.trans ?_ (by assumption))) cD, Ext.cell (w := wr) (by repeat (with_reducible first | assumption | exact Ext.refl _ | refine Ext.drew ?_ | refine Ext.drewN ?_ _ | refine Ext.alloc ?_ _ | (refine Ext.setCell ?_ ?sz _; case sz => (first | (simp; done) | (simp; omega))) | refine Ext.trans ?_ (by assumption))) m2, Ext.cell (w := wr) (by repeat (with_reducible first | assumption | exact Ext.refl _ | refine Ext.drew ?_ | refine Ext.drewN ?_ _ | refine Ext.alloc ?_ _ | (refine Ext.setCell ?_ ?sz _; case sz => (first | (simp; done) | (simp; omega))) | refine Ext.trans ?_ (by assumption))) ck⟩ trivial) (fun hTold => ?_)
              clear hK K
              (try simp only [List.getElem_toArray, List.getElem_cons_succ, List.getElem_cons_zero, Act.put, List.setIfInBounds_toArray, List.set_cons_zero, List.set_cons_succ])
              refine wpAnyT_one (i := 10) (o := _) (by kernel_rfl) rfl (fun K hK => ?_)
              rw [if_pos (by rfl)]
              refine appD_wp _ _ _ rfl 2 Try.underlying22 elemI64x G (maps (fun z => z + d) m.hs k) [x + d] _ rfl _ 1 rfl ?h21 ?h22 (by simp) (by rw [maps_len]; simp; omega) ?h23 ?_
              case h21 => exact hT.out.ow1.ext (by repeat (with_reducible first | assumption | exact Ext.refl _ | refine Ext.drew ?_ | refine Ext.drewN ?_ _ | refine Ext.alloc ?_ _ | (refine Ext.setCell ?_ ?sz _; case sz => (first | (simp; done) | (simp; omega))) | refine Ext.trans ?_ (by assumption)))
              case h22 => exact (Ints.ext (w := wr.alloc (.cells #[.int .i64 (x + d)] 2)) (ints_one rfl) (by repeat (with_reducible first | assumption | exact Ext.refl _ | refine Ext.drew ?_ | refine Ext.drewN ?_ _ | refine Ext.alloc ?_ _ | (refine Ext.setCell ?_ ?sz _; case sz => (first | (simp; done) | (simp; omega))) | refine Ext.trans ?_ (by assumption))))
              case h23 => (simp; omega)
              intro b5 p5 w5 ho5 hg5 hat5 hbb5
              have ho5' : OwnI w5 G 2 (.slice (some ⟨b5, 0, none⟩) ((maps (fun z => z + d) m.hs k).length + 1) p5) (maps (fun z => z + d) m.hs k ++ [x + d]) := by rw [List.length_append] at ho5; exact ho5
              obtain ⟨T5, hx5⟩ := (hT.out.ext (by repeat (with_reducible first | assumption | exact Ext.refl _ | refine Ext.drew ?_ | refine Ext.drewN ?_ _ | refine Ext.alloc ?_ _ | (refine Ext.setCell ?_ ?sz _; case sz => (first | (simp; done) | (simp; omega))) | refine Ext.trans ?_ (by assumption)))).grow1 hg5 ho5' hat5
              replace T5 := hid T5
              have e5 : Ext w2 w5 := hx5 w2 (by have := HW.out; exact (by repeat (with_reducible first | assumption | exact Ext.refl _ | refine Ext.drew ?_ | refine Ext.drewN ?_ _ | refine Ext.alloc ?_ _ | (refine Ext.setCell ?_ ?sz _; case sz => (first | (simp; done) | (simp; omega))) | refine Ext.trans ?_ (by assumption)))) (by omega)
              have q5 : w5.cell? ⟨D, 2, none⟩ = some v2 := T5.out.d2
              have m5 := e5.cell S.out.m2
              have k5 := e5.cell zk
              refine hK.out _ _ (Told.half (by kernel_rfl) ⟨q5, m5, k5⟩ trivial) (fun hTold => ?_)
              clear hK K
              (try simp only [List.getElem_toArray, List.getElem_cons_succ, List.getElem_cons_zero, Act.put, List.setIfInBounds_toArray, List.set_cons_zero, List.set_cons_succ])
              (refine wpAnyT_take (i := 22) (oi := _) (v := ?_) rfl (by kernel_rfl) (by kernel_rfl) (by kernel_rfl) (by kernel_rfl) (fun _ _ _ h => h) (Told.c) (Told.ind (by decide) (by decide)) (Or.inl ⟨by rfl, ?yl⟩) (by assumption) (fun hHeld => ?_); (case yl => ((intro w hSw; (try dsimp only at hSw); go_simp); with_reducible rfl)); (try clear hTold); rename _ => hTold; (try simp only [Act.put, List.setIfInBounds_toArray, List.set_cons_zero, List.set_cons_succ]))
              refine wpAnyT_one (i := 21) (o := _) (by kernel_rfl) rfl (fun K hK => ?_)
              rw [if_pos (by rfl)]
              refine appD_wp _ _ _ rfl 2 Try.underlying22 elemI64x G (maps (fun z => c * z) m.hs k) [c * x] _ rfl _ 1 rfl ?h24 ?h25 (by simp) (by rw [maps_len]; simp; omega) ?h26 ?_
              case h24 => exact T5.out.ow2.ext (by repeat (with_reducible first | assumption | exact Ext.refl _ | refine Ext.drew ?_ | refine Ext.drewN ?_ _ | refine Ext.alloc ?_ _ | (refine Ext.setCell ?_ ?sz _; case sz => (first | (simp; done) | (simp; omega))) | refine Ext.trans ?_ (by assumption)))
              case h25 => exact (Ints.grown (Ints.ext (w := (wr.alloc (.cells #[.int .i64 (x + d)] 2)).alloc (.cells #[.int .i64 (c * x)] 2)) (ints_one (by simp)) (by repeat (with_reducible first | assumption | exact Ext.refl _ | refine Ext.drew ?_ | refine Ext.drewN ?_ _ | refine Ext.alloc ?_ _ | (refine Ext.setCell ?_ ?sz _; case sz => (first | (simp; done) | (simp; omega))) | refine Ext.trans ?_ (by assumption)))) hg5 (ownI_new hT.out.ow1 (by omega)))
              case h26 => (have := T5.out.hG; (try simp); omega)
              intro b6 p6 w6 ho6 hg6 hat6 hbb6
              have ho6' : OwnI w6 G 2 (.slice (some ⟨b6, 0, none⟩) ((maps (fun z => c * z) m.hs k).length + 1) p6) (maps (fun z => c * z) m.hs k ++ [c * x]) := by rw [List.length_append] at ho6; exact ho6
              obtain ⟨T6, hx6⟩ := (T5.out.ext (by repeat (with_reducible first | assumption | exact Ext.refl _ | refine Ext.drew ?_ | refine Ext.drewN ?_ _ | refine Ext.alloc ?_ _ | (refine Ext.setCell ?_ ?sz _; case sz => (first | (simp; done) | (simp; omega))) | refine Ext.trans ?_ (by assumption)))).grow2 hg6 ho6' hat6
              have e6 : Ext w2 w6 := hx6 w2 (by repeat (with_reducible first | assumption | exact Ext.refl _ | refine Ext.drew ?_ | refine Ext.drewN ?_ _ | refine Ext.alloc ?_ _ | (refine Ext.setCell ?_ ?sz _; case sz => (first | (simp; done) | (simp; omega))) | refine Ext.trans ?_ (by assumption))) (by omega)
              have j0 := T6.c2
              have j1 := T6.cf
              have j2 := T6.d2
              have j3 := T6.df
              have j4 := T6.hG
              refine hK.out _ _ (Told.past (by kernel_rfl) (by kernel_rfl) trivial) (fun hTold => ?_)
              clear hK K
              (try simp only [List.getElem_toArray, List.getElem_cons_succ, List.getElem_cons_zero, Act.put, List.setIfInBounds_toArray, List.set_cons_zero, List.set_cons_succ])
              refine wpAnyT_one (i := 23) (o := _) (by kernel_rfl) rfl (fun K hK => ?_)
              go_simp
              refine hK.out _ _ (Told.past (by kernel_rfl) (by kernel_rfl) trivial) (fun hTold => ?_)
              clear hK K
              (try simp only [List.getElem_toArray, List.getElem_cons_succ, List.getElem_cons_zero, Act.put, List.setIfInBounds_toArray, List.set_cons_zero, List.set_cons_succ])
              refine wpAnyT_one (i := 24) (o := _) (by kernel_rfl) rfl (fun K hK => ?_)
              go_simp
              refine hK.out _ _ (Told.past (by kernel_rfl) (by kernel_rfl) trivial) (fun hTold => ?_)
              clear hK K
              (try simp only [List.getElem_toArray, List.getElem_cons_succ, List.getElem_cons_zero, Act.put, List.setIfInBounds_toArray, List.set_cons_zero, List.set_cons_succ])
              refine wpAnyT_one (i := 25) (o := _) (by kernel_rfl) rfl (fun K hK => ?_)
              go_simp
              refine hK.out _ _ (Told.past (by kernel_rfl) (by kernel_rfl) trivial) (fun hTold => ?_)
              clear hK K
              (try simp only [List.getElem_toArray, List.getElem_cons_succ, List.getElem_cons_zero, Act.put, List.setIfInBounds_toArray, List.set_cons_zero, List.set_cons_succ])
              refine wpAnyT_done (by kernel_rfl) ?_ _
              clear hTold y1 y2
              go_wp2
              go_roundw
              case rel => exact ⟨k + 1, _, _, by omega, by go_num, by rw [hsn1.out, hsn2.out]; exact hid (T6.put hbb5 hbb6 hCD), (by have hx := e6; exact (by repeat (with_reducible first | assumption | exact Ext.refl _ | refine Ext.drew ?_ | refine Ext.drewN ?_ _ | refine Ext.alloc ?_ _ | (refine Ext.setCell ?_ ?sz _; case sz => (first | (simp; done) | (simp; omega))) | refine Ext.trans ?_ (by assumption))))⟩
              case measure => simp [intOf] <;> omega
          · go_simp
            refine hK.out _ _ (Told.all ⟨Ext.cell (w := wr) (by repeat (with_reducible first | assumption | exact Ext.refl _ | refine Ext.drew ?_ | refine Ext.drewN ?_ _ | refine Ext.alloc ?_ _ | (refine Ext.setCell ?_ ?sz _; case sz => (first | (simp; done) | (simp; omega))) | refine Ext.trans ?_ (by assumption))) cC, Ext.cell (w := wr) (by repeat (with_reducible first | assumption | exact Ext.refl _ | refine Ext.drew ?_ | refine Ext.drewN ?_ _ | refine Ext.alloc ?_ _ | (refine Ext.setCell ?_ ?sz _; case sz => (first | (simp; done) | (simp; omega))) | refine Ext.trans ?_ (by assumption))) m2, Ext.cell (w := wr) (by repeat (with_reducible first | assumption | exact Ext.refl _ | refine Ext.drew ?_ | refine Ext.drewN ?_ _ | refine Ext.alloc ?_ _ | (refine Ext.setCell ?_ ?sz _; case sz => (first | (simp; done) | (simp; omega))) | refine Ext.trans ?_ (by assumption))) ck⟩ ⟨Ext.cell (w := wr) (by repeat (with_reducible first | assumption | exact Ext.refl _ | refine Ext.drew ?_ | refine Ext.drewN ?_ _ | refine Ext.alloc ?_ _ | (refine Ext.setCell ?_ ?sz _; case sz => (first | (simp; done) | (simp; omega))) | refine Ext.trans ?_ (by assumption))) cD, Ext.cell (w := wr) (by repeat (with_reducible first | assumption | exact Ext.refl _ | refine Ext.drew ?_ | refine Ext.drewN ?_ _ | refine Ext.alloc ?_ _ | (refine Ext.setCell ?_ ?sz _; case sz => (first | (simp; done) | (simp; omega))) | refine Ext.trans ?_ (by assumption))) m2, Ext.cell (w := wr) (by repeat (with_reducible first | assumption | exact Ext.refl _ | refine Ext.drew ?_ | refine Ext.drewN ?_ _ | refine Ext.alloc ?_ _ | (refine Ext.setCell ?_ ?sz _; case sz => (first | (simp; done) | (simp; omega))) | refine Ext.trans ?_ (by assumption))) ck⟩ trivial) (fun hTold => ?_)
            clear hK K
            (try simp only [List.getElem_toArray, List.getElem_cons_succ, List.getElem_cons_zero, Act.put, List.setIfInBounds_toArray, List.set_cons_zero, List.set_cons_succ])
            refine wpAnyT_one (i := 9) (o := _) (by kernel_rfl) rfl (fun K hK => ?_)
            go_simp
            refine hK.out _ _ (Told.all ⟨Ext.cell (w := wr) (by repeat (with_reducible first | assumption | exact Ext.refl _ | refine Ext.drew ?_ | refine Ext.drewN ?_ _ | refine Ext.alloc ?_ _ | (refine Ext.setCell ?_ ?sz _; case sz => (first | (simp; done) | (simp; omega))) | refine Ext.trans ?_ (by assumption))) cC, Ext.cell (w := wr) (by repeat (with_reducible first | assumption | exact Ext.refl _ | refine Ext.drew ?_ | refine Ext.drewN ?_ _ | refine Ext.alloc ?_ _ | (refine Ext.setCell ?_ ?sz _; case sz => (first | (simp; done) | (simp; omega))) | refine Ext.trans ?_ (by assumption))) m2, Ext.cell (w := wr) (by repeat (with_reducible first | assumption | exact Ext.refl _ | refine Ext.drew ?_ | refine Ext.drewN ?_ _ | refine Ext.alloc ?_ _ | (refine Ext.setCell ?_ ?sz _; case sz => (first | (simp; done) | (simp; omega))) | refine Ext.trans ?_ (by assumption))) ck⟩ ⟨Ext.cell (w := wr) (by repeat (with_reducible first | assumption | exact Ext.refl _ | refine Ext.drew ?_ | refine Ext.drewN ?_ _ | refine Ext.alloc ?_ _ | (refine Ext.setCell ?_ ?sz _; case sz => (first | (simp; done) | (simp; omega))) | refine Ext.trans ?_ (by assumption))) cD, Ext.cell (w := wr) (by repeat (with_reducible first | assumption | exact Ext.refl _ | refine Ext.drew ?_ | refine Ext.drewN ?_ _ | refine Ext.alloc ?_ _ | (refine Ext.setCell ?_ ?sz _; case sz => (first | (simp; done) | (simp; omega))) | refine Ext.trans ?_ (by assumption))) m2, Ext.cell (w := wr) (by repeat (with_reducible first | assumption | exact Ext.refl _ | refine Ext.drew ?_ | refine Ext.drewN ?_ _ | refine Ext.alloc ?_ _ | (refine Ext.setCell ?_ ?sz _; case sz => (first | (simp; done) | (simp; omega))) | refine Ext.trans ?_ (by assumption))) ck⟩ trivial) (fun hTold => ?_)
            clear hK K
            (try simp only [List.getElem_toArray, List.getElem_cons_succ, List.getElem_cons_zero, Act.put, List.setIfInBounds_toArray, List.set_cons_zero, List.set_cons_succ])
            refine wpAnyT_one (i := 10) (o := _) (by kernel_rfl) rfl (fun K hK => ?_)
            rw [if_pos (by rfl)]
            refine appD_wp _ _ _ rfl 2 Try.underlying22 elemI64x G (maps (fun z => z + d) m.hs k) [x + d] _ rfl _ 1 rfl ?h31 ?h32 (by simp) (by rw [maps_len]; simp; omega) ?h33 ?_
            case h31 => exact hT.out.ow1.ext (by repeat (with_reducible first | assumption | exact Ext.refl _ | refine Ext.drew ?_ | refine Ext.drewN ?_ _ | refine Ext.alloc ?_ _ | (refine Ext.setCell ?_ ?sz _; case sz => (first | (simp; done) | (simp; omega))) | refine Ext.trans ?_ (by assumption)))
            case h32 => exact (Ints.ext (w := (wr.alloc (.cells #[.int .i64 (c * x)] 2)).alloc (.cells #[.int .i64 (x + d)] 2)) (ints_one (by simp)) (by repeat (with_reducible first | assumption | exact Ext.refl _ | refine Ext.drew ?_ | refine Ext.drewN ?_ _ | refine Ext.alloc ?_ _ | (refine Ext.setCell ?_ ?sz _; case sz => (first | (simp; done) | (simp; omega))) | refine Ext.trans ?_ (by assumption))))
            case h33 => (simp; omega)
            intro b5 p5 w5 ho5 hg5 hat5 hbb5
            have ho5' : OwnI w5 G 2 (.slice (some ⟨b5, 0, none⟩) ((maps (fun z => z + d) m.hs k).length + 1) p5) (maps (fun z => z + d) m.hs k ++ [x + d]) := by rw [List.length_append] at ho5; exact ho5
            obtain ⟨T5, hx5⟩ := (hT.out.ext (by repeat (with_reducible first | assumption | exact Ext.refl _ | refine Ext.drew ?_ | refine Ext.drewN ?_ _ | refine Ext.alloc ?_ _ | (refine Ext.setCell ?_ ?sz _; case sz => (first | (simp; done) | (simp; omega))) | refine Ext.trans ?_ (by assumption)))).grow1 hg5 ho5' hat5
            replace T5 := hid T5
            have e5 : Ext w2 w5 := hx5 w2 (by have := HW.out; exact (by repeat (with_reducible first | assumption | exact Ext.refl _ | refine Ext.drew ?_ | refine Ext.drewN ?_ _ | refine Ext.alloc ?_ _ | (refine Ext.setCell ?_ ?sz _; case sz => (first | (simp; done) | (simp; omega))) | refine Ext.trans ?_ (by assumption)))) (by omega)
            have q5 : w5.cell? ⟨D, 2, none⟩ = some v2 := T5.out.d2
            have m5 := e5.cell S.out.m2
            have k5 := e5.cell zk
            refine hK.out _ _ (Told.half (by kernel_rfl) ⟨q5, m5, k5⟩ trivial) (fun hTold => ?_)
            clear hK K
            (try simp only [List.getElem_toArray, List.getElem_cons_succ, List.getElem_cons_zero, Act.put, List.setIfInBounds_toArray, List.set_cons_zero, List.set_cons_succ])
            (refine wpAnyT_take (i := 22) (oi := _) (v := ?_) rfl (by kernel_rfl) (by kernel_rfl) (by kernel_rfl) (by kernel_rfl) (fun _ _ _ h => h) (Told.c) (Told.ind (by decide) (by decide)) (Or.inl ⟨by rfl, ?yl⟩) (by assumption) (fun hHeld => ?_); (case yl => ((intro w hSw; (try dsimp only at hSw); go_simp); with_reducible rfl)); (try clear hTold); rename _ => hTold; (try simp only [Act.put, List.setIfInBounds_toArray, List.set_cons_zero, List.set_cons_succ]))
            refine wpAnyT_one (i := 21) (o := _) (by kernel_rfl) rfl (fun K hK => ?_)
            rw [if_pos (by rfl)]
            refine appD_wp _ _ _ rfl 2 Try.underlying22 elemI64x G (maps (fun z => c * z) m.hs k) [c * x] _ rfl _ 1 rfl ?h34 ?h35 (by simp) (by rw [maps_len]; simp; omega) ?h36 ?_
            case h34 => exact T5.out.ow2.ext (by repeat (with_reducible first | assumption | exact Ext.refl _ | refine Ext.drew ?_ | refine Ext.drewN ?_ _ | refine Ext.alloc ?_ _ | (refine Ext.setCell ?_ ?sz _; case sz => (first | (simp; done) | (simp; omega))) | refine Ext.trans ?_ (by assumption)))
            case h35 => exact (Ints.grown (Ints.ext (w := wr.alloc (.cells #[.int .i64 (c * x)] 2)) (ints_one rfl) (by repeat (with_reducible first | assumption | exact Ext.refl _ | refine Ext.drew ?_ | refine Ext.drewN ?_ _ | refine Ext.alloc ?_ _ | (refine Ext.setCell ?_ ?sz _; case sz => (first | (simp; done) | (simp; omega))) | refine Ext.trans ?_ (by assumption)))) hg5 (ownI_new hT.out.ow1 (by omega)))
            case h36 => (have := T5.out.hG; (try simp); omega)
            intro b6 p6 w6 ho6 hg6 hat6 hbb6
            have ho6' : OwnI w6 G 2 (.slice (some ⟨b6, 0, none⟩) ((maps (fun z => c * z) m.hs k).length + 1) p6) (maps (fun z => c * z) m.hs k ++ [c * x]) := by rw [List.length_append] at ho6; exact ho6
            obtain ⟨T6, hx6⟩ := (T5.out.ext (by repeat (with_reducible first | assumption | exact Ext.refl _ | refine Ext.drew ?_ | refine Ext.drewN ?_ _ | refine Ext.alloc ?_ _ | (refine Ext.setCell ?_ ?sz _; case sz => (first | (simp; done) | (simp; omega))) | refine Ext.trans ?_ (by assumption)))).grow2 hg6 ho6' hat6
            have e6 : Ext w2 w6 := hx6 w2 (by repeat (with_reducible first | assumption | exact Ext.refl _ | refine Ext.drew ?_ | refine Ext.drewN ?_ _ | refine Ext.alloc ?_ _ | (refine Ext.setCell ?_ ?sz _; case sz => (first | (simp; done) | (simp; omega))) | refine Ext.trans ?_ (by assumption))) (by omega)
            have j0 := T6.c2
            have j1 := T6.cf
            have j2 := T6.d2
            have j3 := T6.df
            have j4 := T6.hG
            refine hK.out _ _ (Told.past (by kernel_rfl) (by kernel_rfl) trivial) (fun hTold => ?_)
            clear hK K
            (try simp only [List.getElem_toArray, List.getElem_cons_succ, List.getElem_cons_zero, Act.put, List.setIfInBounds_toArray, List.set_cons_zero, List.set_cons_succ])
            refine wpAnyT_one (i := 23) (o := _) (by kernel_rfl) rfl (fun K hK => ?_)
            go_simp
            refine hK.out _ _ (Told.past (by kernel_rfl) (by kernel_rfl) trivial) (fun hTold => ?_)
            clear hK K
            (try simp only [List.getElem_toArray, List.getElem_cons_succ, List.getElem_cons_zero, Act.put, List.setIfInBounds_toArray, List.set_cons_zero, List.set_cons_succ])
            refine wpAnyT_one (i := 24) (o := _) (by kernel_rfl) rfl (fun K hK => ?_)
            go_simp
            refine hK.out _ _ (Told.past (by kernel_rfl) (by kernel_rfl) trivial) (fun hTold => ?_)
            clear hK K
            (try simp only [List.getElem_toArray, List.getElem_cons_succ, List.getElem_cons_zero, Act.put, List.setIfInBounds_toArray, List.set_cons_zero, List.set_cons_succ])
            refine wpAnyT_one (i := 25) (o := _) (by kernel_rfl) rfl (fun K hK => ?_)
            go_simp
            refine hK.out _ _ (Told.past (by kernel_rfl) (by kernel_rfl) trivial) (fun hTold => ?_)
            clear hK K
            (try simp only [List.getElem_toArray, List.getElem_cons_succ, List.getElem_cons_zero, Act.put, List.setIfInBounds_toArray, List.set_cons_zero, List.set_cons_succ])
            refine wpAnyT_done (by kernel_rfl) ?_ _
            clear hTold y1 y2
            go_wp2
            go_roundw
            case rel => exact ⟨k + 1, _, _, by omega, by go_num, by rw [hsn1.out, hsn2.out]; exact hid (T6.put hbb5 hbb6 hCD), (by have hx := e6; exact (by repeat (with_reducible first | assumption | exact Ext.refl _ | refine Ext.drew ?_ | refine Ext.drewN ?_ _ | refine Ext.alloc ?_ _ | (refine Ext.setCell ?_ ?sz _; case sz => (first | (simp; done) | (simp; omega))) | refine Ext.trans ?_ (by assumption))))⟩
            case measure => simp [intOf] <;> omega
        · have e : k = m.hs.length := by omega
          subst e
          obtain ⟨ax, cx, rfl, hIx⟩ := hT.out.ow1.slice
          obtain ⟨ay, cy, rfl, hIy⟩ := hT.out.ow2.slice
          have e0 := hT.out.c0
          have e1 := hT.out.c1
          have e2 := hT.out.c2
          have f0 := hT.out.d0
          have f1 := hT.out.d1
          have f2 := hT.out.d2
          rw [maps_all] at hIx hIy
          rw [maps_len] at e2 f2
          have hIx : Ints wr ax (up m d).hs := hIx
          have hIy : Ints wr ay (tm m c).hs := hIy
          replace S := hid (S.out.ext hw)
          replace X := hid (X.out.trans hw)
          replace hIx := hid hIx
          replace hIy := hid hIy
          clear hT hT0 hW hw hlt m0 m1 m2 z1 hCD hDC hCG hDG hC hD
          have m0 := S.out.m0; have m1 := S.out.m1; have m2 := S.out.m2
          obtain ⟨w4, rfl⟩ : ∃ w4 : World, w4 = wr := ⟨_, rfl⟩
          go_wp2_with fail
          refine (depthsN_any m v m.L m.R rfl rfl _ _ cap rfl t t0 t1 _ S.out.i).mono ?_; rintro e w5 ⟨a5, n5, c5, h5, rfl, hn5, hK, hE⟩
          rw [depths_len] at hn5
          subst hn5
          (replace e0 := hE.cell e0; replace e1 := hE.cell e1; replace e2 := hE.cell e2; replace f0 := hE.cell f0; replace f1 := hE.cell f1; replace f2 := hE.cell f2; replace hIx := hid (hIx.out.ext hE); replace hIy := hid (hIy.out.ext hE))
          replace hK := hid hK
          (have x : Ext w4 w5 := (by repeat (with_reducible first | assumption | exact Ext.refl _ | refine Ext.drew ?_ | refine Ext.drewN ?_ _ | refine Ext.alloc ?_ _ | (refine Ext.setCell ?_ ?sz _; case sz => (first | (simp; done) | (simp; omega))) | refine Ext.trans ?_ (by assumption))); replace S := hid (S.out.ext x); replace X := hid (X.out.trans x); clear x hE m0 m1 m2; have m0 := S.out.m0; have m1 := S.out.m1; have m2 := S.out.m2; go_wp2_with fail)
          by_cases vu : Vld (up m d)
          · refine (fineY_any (up m d) vu _ _ rfl rfl ax _ cx (up_len m d).symm _ hIx.out).mono ?_; rintro e w6 ⟨rfl, hE⟩
            (replace e0 := hE.cell e0; replace e1 := hE.cell e1; replace e2 := hE.cell e2; replace f0 := hE.cell f0; replace f1 := hE.cell f1; replace f2 := hE.cell f2; replace hIx := hid (hIx.out.ext hE); replace hIy := hid (hIy.out.ext hE))
            replace hK := hid (hK.out.ext hE)
            (have x : Ext w5 w6 := (by repeat (with_reducible first | assumption | exact Ext.refl _ | refine Ext.drew ?_ | refine Ext.drewN ?_ _ | refine Ext.alloc ?_ _ | (refine Ext.setCell ?_ ?sz _; case sz => (first | (simp; done) | (simp; omega))) | refine Ext.trans ?_ (by assumption))); replace S := hid (S.out.ext x); replace X := hid (X.out.trans x); clear x hE m0 m1 m2; have m0 := S.out.m0; have m1 := S.out.m1; have m2 := S.out.m2; go_wp2_with fail)
            refine (depthsN_any (up m d) vu _ _ rfl rfl ax _ cx (up_len m d).symm t t0 t1 _ hIx.out).mono ?_; rintro e w7 ⟨a7, n7, c7, h7, rfl, hn7, hJ, hE⟩
            rw [depths_len, up_len] at hn7
            subst hn7
            rw [up_depths] at hJ
            (replace e0 := hE.cell e0; replace e1 := hE.cell e1; replace e2 := hE.cell e2; replace f0 := hE.cell f0; replace f1 := hE.cell f1; replace f2 := hE.cell f2; replace hIx := hid (hIx.out.ext hE); replace hIy := hid (hIy.out.ext hE))
            replace hK := hid (hK.out.ext hE)
            replace hJ := hid hJ
            (have x : Ext w6 w7 := (by repeat (with_reducible first | assumption | exact Ext.refl _ | refine Ext.drew ?_ | refine Ext.drewN ?_ _ | refine Ext.alloc ?_ _ | (refine Ext.setCell ?_ ?sz _; case sz => (first | (simp; done) | (simp; omega))) | refine Ext.trans ?_ (by assumption))); replace S := hid (S.out.ext x); replace X := hid (X.out.trans x); clear x hE m0 m1 m2; have m0 := S.out.m0; have m1 := S.out.m1; have m2 := S.out.m2; go_wp2_with fail)
            refine (longsN_any _ _ c5 c7 (depths m t) _ _ (depths_len m t).symm (depths_len m t).symm _ hK.out hJ.out (by rw [depths_len]; omega)).mono ?_; rintro e w8 ⟨rfl, hE⟩
            (replace e0 := hE.cell e0; replace e1 := hE.cell e1; replace e2 := hE.cell e2; replace f0 := hE.cell f0; replace f1 := hE.cell f1; replace f2 := hE.cell f2; replace hIx := hid (hIx.out.ext hE); replace hIy := hid (hIy.out.ext hE))
            replace hK := hid (hK.out.ext hE)
            clear hJ
            (have x : Ext w7 w8 := (by repeat (with_reducible first | assumption | exact Ext.refl _ | refine Ext.drew ?_ | refine Ext.drewN ?_ _ | refine Ext.alloc ?_ _ | (refine Ext.setCell ?_ ?sz _; case sz => (first | (simp; done) | (simp; omega))) | refine Ext.trans ?_ (by assumption))); replace S := hid (S.out.ext x); replace X := hid (X.out.trans x); clear x hE m0 m1 m2; have m0 := S.out.m0; have m1 := S.out.m1; have m2 := S.out.m2; go_wp2_with fail)
            by_cases vy : Vld (tm m c)
            case neg =>
              refine (fineN_any (tm m c) (tm_fit v c0 c1) vy _ _ rfl rfl ay _ cy (tm_len m c).symm _ hIy.out hl').mono ?_; rintro e w9 ⟨rfl, hE⟩
              (have x : Ext w8 w9 := (by repeat (with_reducible first | assumption | exact Ext.refl _ | refine Ext.drew ?_ | refine Ext.drewN ?_ _ | refine Ext.alloc ?_ _ | (refine Ext.setCell ?_ ?sz _; case sz => (first | (simp; done) | (simp; omega))) | refine Ext.trans ?_ (by assumption))); replace S := hid (S.out.ext x); replace X := hid (X.out.trans x); clear x hE m0 m1 m2; have m0 := S.out.m0; have m1 := S.out.m1; have m2 := S.out.m2; go_wp2_with fail)
              refine (works_any _).mono ?_; rintro e wz ⟨rfl, hE⟩
              go_wp2_with fail
              go_ret
              exact ⟨ret_bool (by simp), X.out.trans (by repeat (with_reducible first | assumption | exact Ext.refl _ | refine Ext.drew ?_ | refine Ext.drewN ?_ _ | refine Ext.alloc ?_ _ | (refine Ext.setCell ?_ ?sz _; case sz => (first | (simp; done) | (simp; omega))) | refine Ext.trans ?_ (by assumption)))⟩
            case pos =>
              refine (fineY_any (tm m c) vy _ _ rfl rfl ay _ cy (tm_len m c).symm _ hIy.out).mono ?_; rintro e w9 ⟨rfl, hE⟩
              (replace e0 := hE.cell e0; replace e1 := hE.cell e1; replace e2 := hE.cell e2; replace f0 := hE.cell f0; replace f1 := hE.cell f1; replace f2 := hE.cell f2; replace hIx := hid (hIx.out.ext hE); replace hIy := hid (hIy.out.ext hE))
              replace hK := hid (hK.out.ext hE)
              obtain ⟨ct0, ct1⟩ := mul3t c0 c1 t0 t1
              by_cases r1 : c * t < -20
              · (have x : Ext w8 w9 := (by repeat (with_reducible first | assumption | exact Ext.refl _ | refine Ext.drew ?_ | refine Ext.drewN ?_ _ | refine Ext.alloc ?_ _ | (refine Ext.setCell ?_ ?sz _; case sz => (first | (simp; done) | (simp; omega))) | refine Ext.trans ?_ (by assumption))); replace S := hid (S.out.ext x); replace X := hid (X.out.trans x); clear x hE m0 m1 m2; have m0 := S.out.m0; have m1 := S.out.m1; have m2 := S.out.m2; go_wp2_with fail)
                refine (works_any _).mono ?_; rintro e wz ⟨rfl, hE⟩
                go_wp2_with fail
                go_ret
                exact ⟨ret_bool (by simp), X.out.trans (by repeat (with_reducible first | assumption | exact Ext.refl _ | refine Ext.drew ?_ | refine Ext.drewN ?_ _ | refine Ext.alloc ?_ _ | (refine Ext.setCell ?_ ?sz _; case sz => (first | (simp; done) | (simp; omega))) | refine Ext.trans ?_ (by assumption)))⟩
              · by_cases r2 : 20 < c * t
                · (have x : Ext w8 w9 := (by repeat (with_reducible first | assumption | exact Ext.refl _ | refine Ext.drew ?_ | refine Ext.drewN ?_ _ | refine Ext.alloc ?_ _ | (refine Ext.setCell ?_ ?sz _; case sz => (first | (simp; done) | (simp; omega))) | refine Ext.trans ?_ (by assumption))); replace S := hid (S.out.ext x); replace X := hid (X.out.trans x); clear x hE m0 m1 m2; have m0 := S.out.m0; have m1 := S.out.m1; have m2 := S.out.m2; go_wp2_with fail)
                  refine (works_any _).mono ?_; rintro e wz ⟨rfl, hE⟩
                  go_wp2_with fail
                  go_ret
                  exact ⟨ret_bool (by simp), X.out.trans (by repeat (with_reducible first | assumption | exact Ext.refl _ | refine Ext.drew ?_ | refine Ext.drewN ?_ _ | refine Ext.alloc ?_ _ | (refine Ext.setCell ?_ ?sz _; case sz => (first | (simp; done) | (simp; omega))) | refine Ext.trans ?_ (by assumption)))⟩
                · (have x : Ext w8 w9 := (by repeat (with_reducible first | assumption | exact Ext.refl _ | refine Ext.drew ?_ | refine Ext.drewN ?_ _ | refine Ext.alloc ?_ _ | (refine Ext.setCell ?_ ?sz _; case sz => (first | (simp; done) | (simp; omega))) | refine Ext.trans ?_ (by assumption))); replace S := hid (S.out.ext x); replace X := hid (X.out.trans x); clear x hE m0 m1 m2; have m0 := S.out.m0; have m1 := S.out.m1; have m2 := S.out.m2; go_wp2_with fail)
                  refine (depthsN_any (tm m c) vy _ _ rfl rfl ay _ cy (tm_len m c).symm (c * t) (by omega) (by omega) _ hIy.out).mono ?_; rintro e w10 ⟨a9, n9, c9, h9, rfl, hn9, hJ, hE⟩
                  replace hK := hid (hK.out.ext hE)
                  rw [depths_len, tm_len] at hn9
                  subst hn9
                  obtain ⟨b1, o1, rfl, _, z5⟩ := hK.out.at (by rw [depths_len]; omega)
                  obtain ⟨b2, o2, rfl, _, z6⟩ := hJ.at (by rw [depths_len, tm_len]; omega)
                  rw [depths_len] at z5
                  rw [depths_len, tm_len] at z6
                  replace z5 := hid z5
                  replace z6 := hid z6
                  clear hK hJ
                  (have x : Ext w9 w10 := (by repeat (with_reducible first | assumption | exact Ext.refl _ | refine Ext.drew ?_ | refine Ext.drewN ?_ _ | refine Ext.alloc ?_ _ | (refine Ext.setCell ?_ ?sz _; case sz => (first | (simp; done) | (simp; omega))) | refine Ext.trans ?_ (by assumption))); replace S := hid (S.out.ext x); replace X := hid (X.out.trans x); clear x hE m0 m1 m2; have m0 := S.out.m0; have m1 := S.out.m1; have m2 := S.out.m2; go_wp2_with fail)
                  go_loopw [17, 23] (fun o i wr => ∃ k : Nat, k ≤ m.hs.length ∧ i = .int .i64 k ∧ o = .bool true ∧ Ext w10 wr) (fun _ i _ => (m.hs.length - intOf i).toNat)
                  case atStart => exact ⟨0, by omega, rfl, rfl, Ext.refl _⟩
                  case round =>
                    obtain ⟨k, hk, rfl, rfl, hv⟩ := hrel
                    by_cases hlt : k < m.hs.length
                    · have g5 := hv.cell (z5.out k hlt)
                      have g6 := hv.cell (z6.out k hlt)
                      rw [depths_nth _ _ hlt] at g5
                      rw [tm_dep m t c (by omega) k hlt] at g6
                      have dd : 0 ≤ dep m t k ∧ dep m t k ≤ 420 := depth_bd (f := k) v t0 t1 (by omega) (by omega)
                      obtain ⟨dd0, dd1⟩ := dd
                      generalize dep m t k = x at *
                      obtain ⟨dx0, dx1⟩ := mul3d c0 c1 dd0 dd1
                      have hb : (c * x == c * x) = true := by simp
                      have yx := Go.IntWalk.i64_in (c * x) (by omega)
                      clear m0 m1 m2
                      go_wp2_with fail
                      go_quiet (fail)
                      clear yx
                      go_wp2
                      go_roundw
                      case rel => exact ⟨k + 1, by omega, by go_num, rfl, (by repeat (with_reducible first | assumption | exact Ext.refl _ | refine Ext.drew ?_ | refine Ext.drewN ?_ _ | refine Ext.alloc ?_ _ | (refine Ext.setCell ?_ ?sz _; case sz => (first | (simp; done) | (simp; omega))) | refine Ext.trans ?_ (by assumption)))⟩
                      case measure => simp [intOf] <;> omega
                    · have X6 := X.out.trans hv
                      clear m0 m1 m2 z5 z6 hv
                      go_wp2_with fail
                      refine (works_any _).mono ?_; rintro e wz ⟨rfl, hE⟩
                      go_wp2_with fail
                      go_ret
                      exact ⟨ret_bool (by simp), X6.trans (by repeat (with_reducible first | assumption | exact Ext.refl _ | refine Ext.drew ?_ | refine Ext.drewN ?_ _ | refine Ext.alloc ?_ _ | (refine Ext.setCell ?_ ?sz _; case sz => (first | (simp; done) | (simp; omega))) | refine Ext.trans ?_ (by assumption)))⟩
          · refine (fineN_any (up m d) (up_fit v d0 d1) vu _ _ rfl rfl ax _ cx (up_len m d).symm _ hIx.out hl').mono ?_; rintro e w8 ⟨rfl, hE⟩
            (replace e0 := hE.cell e0; replace e1 := hE.cell e1; replace e2 := hE.cell e2; replace f0 := hE.cell f0; replace f1 := hE.cell f1; replace f2 := hE.cell f2; replace hIx := hid (hIx.out.ext hE); replace hIy := hid (hIy.out.ext hE))
            replace hK := hid (hK.out.ext hE)
            (have x : Ext w5 w8 := (by repeat (with_reducible first | assumption | exact Ext.refl _ | refine Ext.drew ?_ | refine Ext.drewN ?_ _ | refine Ext.alloc ?_ _ | (refine Ext.setCell ?_ ?sz _; case sz => (first | (simp; done) | (simp; omega))) | refine Ext.trans ?_ (by assumption))); replace S := hid (S.out.ext x); replace X := hid (X.out.trans x); clear x hE m0 m1 m2; have m0 := S.out.m0; have m1 := S.out.m1; have m2 := S.out.m2; go_wp2_with fail)
            by_cases vy : Vld (tm m c)
            case neg =>
              refine (fineN_any (tm m c) (tm_fit v c0 c1) vy _ _ rfl rfl ay _ cy (tm_len m c).symm _ hIy.out hl').mono ?_; rintro e w9 ⟨rfl, hE⟩
              (have x : Ext w8 w9 := (by repeat (with_reducible first | assumption | exact Ext.refl _ | refine Ext.drew ?_ | refine Ext.drewN ?_ _ | refine Ext.alloc ?_ _ | (refine Ext.setCell ?_ ?sz _; case sz => (first | (simp; done) | (simp; omega))) | refine Ext.trans ?_ (by assumption))); replace S := hid (S.out.ext x); replace X := hid (X.out.trans x); clear x hE m0 m1 m2; have m0 := S.out.m0; have m1 := S.out.m1; have m2 := S.out.m2; go_wp2_with fail)
              refine (works_any _).mono ?_; rintro e wz ⟨rfl, hE⟩
              go_wp2_with fail
              go_ret
              exact ⟨ret_bool (by simp), X.out.trans (by repeat (with_reducible first | assumption | exact Ext.refl _ | refine Ext.drew ?_ | refine Ext.drewN ?_ _ | refine Ext.alloc ?_ _ | (refine Ext.setCell ?_ ?sz _; case sz => (first | (simp; done) | (simp; omega))) | refine Ext.trans ?_ (by assumption)))⟩
            case pos =>
              refine (fineY_any (tm m c) vy _ _ rfl rfl ay _ cy (tm_len m c).symm _ hIy.out).mono ?_; rintro e w9 ⟨rfl, hE⟩
              (replace e0 := hE.cell e0; replace e1 := hE.cell e1; replace e2 := hE.cell e2; replace f0 := hE.cell f0; replace f1 := hE.cell f1; replace f2 := hE.cell f2; replace hIx := hid (hIx.out.ext hE); replace hIy := hid (hIy.out.ext hE))
              replace hK := hid (hK.out.ext hE)
              obtain ⟨ct0, ct1⟩ := mul3t c0 c1 t0 t1
              by_cases r1 : c * t < -20
              · (have x : Ext w8 w9 := (by repeat (with_reducible first | assumption | exact Ext.refl _ | refine Ext.drew ?_ | refine Ext.drewN ?_ _ | refine Ext.alloc ?_ _ | (refine Ext.setCell ?_ ?sz _; case sz => (first | (simp; done) | (simp; omega))) | refine Ext.trans ?_ (by assumption))); replace S := hid (S.out.ext x); replace X := hid (X.out.trans x); clear x hE m0 m1 m2; have m0 := S.out.m0; have m1 := S.out.m1; have m2 := S.out.m2; go_wp2_with fail)
                refine (works_any _).mono ?_; rintro e wz ⟨rfl, hE⟩
                go_wp2_with fail
                go_ret
                exact ⟨ret_bool (by simp), X.out.trans (by repeat (with_reducible first | assumption | exact Ext.refl _ | refine Ext.drew ?_ | refine Ext.drewN ?_ _ | refine Ext.alloc ?_ _ | (refine Ext.setCell ?_ ?sz _; case sz => (first | (simp; done) | (simp; omega))) | refine Ext.trans ?_ (by assumption)))⟩
              · by_cases r2 : 20 < c * t
                · (have x : Ext w8 w9 := (by repeat (with_reducible first | assumption | exact Ext.refl _ | refine Ext.drew ?_ | refine Ext.drewN ?_ _ | refine Ext.alloc ?_ _ | (refine Ext.setCell ?_ ?sz _; case sz => (first | (simp; done) | (simp; omega))) | refine Ext.trans ?_ (by assumption))); replace S := hid (S.out.ext x); replace X := hid (X.out.trans x); clear x hE m0 m1 m2; have m0 := S.out.m0; have m1 := S.out.m1; have m2 := S.out.m2; go_wp2_with fail)
                  refine (works_any _).mono ?_; rintro e wz ⟨rfl, hE⟩
                  go_wp2_with fail
                  go_ret
                  exact ⟨ret_bool (by simp), X.out.trans (by repeat (with_reducible first | assumption | exact Ext.refl _ | refine Ext.drew ?_ | refine Ext.drewN ?_ _ | refine Ext.alloc ?_ _ | (refine Ext.setCell ?_ ?sz _; case sz => (first | (simp; done) | (simp; omega))) | refine Ext.trans ?_ (by assumption)))⟩
                · (have x : Ext w8 w9 := (by repeat (with_reducible first | assumption | exact Ext.refl _ | refine Ext.drew ?_ | refine Ext.drewN ?_ _ | refine Ext.alloc ?_ _ | (refine Ext.setCell ?_ ?sz _; case sz => (first | (simp; done) | (simp; omega))) | refine Ext.trans ?_ (by assumption))); replace S := hid (S.out.ext x); replace X := hid (X.out.trans x); clear x hE m0 m1 m2; have m0 := S.out.m0; have m1 := S.out.m1; have m2 := S.out.m2; go_wp2_with fail)
                  refine (depthsN_any (tm m c) vy _ _ rfl rfl ay _ cy (tm_len m c).symm (c * t) (by omega) (by omega) _ hIy.out).mono ?_; rintro e w10 ⟨a9, n9, c9, h9, rfl, hn9, hJ, hE⟩
                  replace hK := hid (hK.out.ext hE)
                  rw [depths_len, tm_len] at hn9
                  subst hn9
                  obtain ⟨b1, o1, rfl, _, z5⟩ := hK.out.at (by rw [depths_len]; omega)
                  obtain ⟨b2, o2, rfl, _, z6⟩ := hJ.at (by rw [depths_len, tm_len]; omega)
                  rw [depths_len] at z5
                  rw [depths_len, tm_len] at z6
                  replace z5 := hid z5
                  replace z6 := hid z6
                  clear hK hJ
                  (have x : Ext w9 w10 := (by repeat (with_reducible first | assumption | exact Ext.refl _ | refine Ext.drew ?_ | refine Ext.drewN ?_ _ | refine Ext.alloc ?_ _ | (refine Ext.setCell ?_ ?sz _; case sz => (first | (simp; done) | (simp; omega))) | refine Ext.trans ?_ (by assumption))); replace S := hid (S.out.ext x); replace X := hid (X.out.trans x); clear x hE m0 m1 m2; have m0 := S.out.m0; have m1 := S.out.m1; have m2 := S.out.m2; go_wp2_with fail)
                  go_loopw [17, 23] (fun o i wr => ∃ k : Nat, k ≤ m.hs.length ∧ i = .int .i64 k ∧ o = .bool true ∧ Ext w10 wr) (fun _ i _ => (m.hs.length - intOf i).toNat)
                  case atStart => exact ⟨0, by omega, rfl, rfl, Ext.refl _⟩
                  case round =>
                    obtain ⟨k, hk, rfl, rfl, hv⟩ := hrel
                    by_cases hlt : k < m.hs.length
                    · have g5 := hv.cell (z5.out k hlt)
                      have g6 := hv.cell (z6.out k hlt)
                      rw [depths_nth _ _ hlt] at g5
                      rw [tm_dep m t c (by omega) k hlt] at g6
                      have dd : 0 ≤ dep m t k ∧ dep m t k ≤ 420 := depth_bd (f := k) v t0 t1 (by omega) (by omega)
                      obtain ⟨dd0, dd1⟩ := dd
                      generalize dep m t k = x at *
                      obtain ⟨dx0, dx1⟩ := mul3d c0 c1 dd0 dd1
                      have hb : (c * x == c * x) = true := by simp
                      have yx := Go.IntWalk.i64_in (c * x) (by omega)
                      clear m0 m1 m2
                      go_wp2_with fail
                      go_quiet (fail)
                      clear yx
                      go_wp2
                      go_roundw
                      case rel => exact ⟨k + 1, by omega, by go_num, rfl, (by repeat (with_reducible first | assumption | exact Ext.refl _ | refine Ext.drew ?_ | refine Ext.drewN ?_ _ | refine Ext.alloc ?_ _ | (refine Ext.setCell ?_ ?sz _; case sz => (first | (simp; done) | (simp; omega))) | refine Ext.trans ?_ (by assumption)))⟩
                      case measure => simp [intOf] <;> omega
                    · have X6 := X.out.trans hv
                      clear m0 m1 m2 z5 z6 hv
                      go_wp2_with fail
                      refine (works_any _).mono ?_; rintro e wz ⟨rfl, hE⟩
                      go_wp2_with fail
                      go_ret
                      exact ⟨ret_bool (by simp), X6.trans (by repeat (with_reducible first | assumption | exact Ext.refl _ | refine Ext.drew ?_ | refine Ext.drewN ?_ _ | refine Ext.alloc ?_ _ | (refine Ext.setCell ?_ ?sz _; case sz => (first | (simp; done) | (simp; omega))) | refine Ext.trans ?_ (by assumption)))⟩

end Go.Proofs.Ytogglbhidlnijaa
