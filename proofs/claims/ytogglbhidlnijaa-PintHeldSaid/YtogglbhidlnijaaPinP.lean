/- The program's Seal, Right and Wrong. -/
import Derived.Test.YtogglbhidlnijaaPinO
import Derived.Deep.RegionHeld3
import Derived.Laws.EntriesVeiled
namespace Go.Proofs.Ytogglbhidlnijaa
set_option linter.unusedVariables false
set_option linter.unusedSimpArgs false
set_option linter.unusedSectionVars false
set_option linter.unnecessarySimpa false
open Go Go.RowKit
set_option maxRecDepth 100000

theorem prs1 {w : World} {x y : Int} {t : TypeId} {n : Nat} (h : n = w.heap.size) : Prs (w.alloc (.cells #[.int .i64 x, .int .i64 y] t)) (some ⟨n, 0, none⟩) [(x, y)] := by
  subst h
  intro i hi
  obtain rfl : i = 0 := by simpa using hi
  exact ⟨_, _, rfl, by simp [go_sem, pa], by simp [go_sem, pb]⟩
theorem one_pa {x y : Int} (h : I64 x) (i : Nat) : I64 (pa [(x, y)] i) := by
  match i with
  | 0 => simpa [pa] using h
  | i + 1 => simp [pa, I64]
theorem one_pb {x y : Int} (h : I64 y) (i : Nat) : I64 (pb [(x, y)] i) := by
  match i with
  | 0 => simpa [pb] using h
  | i + 1 => simp [pb, I64]

theorem cntTo_filter (l : List Int) (x y : Int) : ∀ k, k ≤ l.length → cntTo l x y k = ((l.take k).filter (inB x y)).length
  | 0, _ => by simp [cntTo]
  | k + 1, h => by
    rw [cntTo, cntTo_filter l x y k (by omega), List.take_succ_eq_append_getElem (by omega), List.filter_append, List.length_append, ← nth_lt (by omega)]
    congr 1
    by_cases g : x ≤ nth l k ∧ nth l k ≤ y
    · rw [if_pos g, List.filter_cons_of_pos (by simpa [inB] using g)]; rfl
    · rw [if_neg g, List.filter_cons_of_neg (by simpa [inB] using g)]; rfl
theorem cnt_kept {d : Dent} (v : VldD d) (t x y : Int) : ((heldAll d t).filter fun p => inB x y p.2).length = cnt d t x y := by
  have h := heldAll_perm v t
  unfold cnt
  rw [cntTo_filter _ _ _ _ (Nat.le_refl _), List.take_length, ← (h.filter (inB x y)).length_eq, List.filter_map, List.length_map]
  rfl
theorem all_len {d : Dent} (v : VldD d) (t : Int) : (heldAll d t).length = (held d t).length := by rw [← (heldAll_perm v t).length_eq, List.length_map]


set_option maxHeartbeats 2000000 in
theorem seal_any (d : Dent) (q : FitD d) (a : Option Addr) (cap : Nat) (t x y : Int) (w : World) (hP : Prs w a d.rs) (hl : d.rs.length ≤ 1000) (ht : I64 t) (hx : I64 x) (hy : I64 y) :
    Calls Try.prog 42 #[(.agg #[.int .i64 d.L, .int .i64 d.R, .slice a d.rs.length cap]), .int .i64 t, .agg #[.int .i64 x, .int .i64 y]] w fun e w' => e = .returned (.tuple #[.int .i64 (sealOf d t x y), .int .i64 (ask d t x y)]) ∧ Ext w w' := by
  have hB := (Ext.refl w).alloc (.cells #[.int .i64 d.L, .int .i64 d.R, .slice a d.rs.length cap] 50)
  have HT := fun W hW hA => truths_any d q a (some ⟨w.heap.size + 1 + 1, 0, none⟩) cap 1 t [(x, y)] W hW hl ht hA (by simp) (one_pa hx) (one_pb hy)
  replace HT := hid HT
  have HP := hid hP
  clear hP
  have he := errT_one d t x y
  replace he := hid he
  by_cases g : ask d t x y = 0
  · have k := (ask_ok.1 g).1
    have H1 := hid (show sealOf d t x y = if cnt d t x y = (held d t).length then 2 else if cnt d t x y = 0 then 0 else 1 by unfold sealOf; rw [if_pos g]; rfl)
    have hck := hid (cnt_kept k.v t x y)
    have hal := hid (all_len k.v t)
    obtain ⟨p0, p1, p2⟩ := held_ok k
    have hcl : cnt d t x y ≤ (held d t).length := cntTo_le _ _ _ _
    replace p2 := hid p2
    replace g := hid g
    go_enter Try.func42, Try.ntmps42
    go_wp2_with fail
    refine (HT.out _ (HP.out.ext (by repeat (with_reducible first | assumption | exact Ext.refl _ | refine Ext.drew ?_ | refine Ext.drewN ?_ _ | refine Ext.alloc ?_ _ | (refine Ext.setCell ?_ ?sz _; case sz => (first | (simp; done) | (simp; omega))) | refine Ext.trans ?_ (by assumption)))) (by exact prs1 (by simp))).mono ?_; rintro e w1 ⟨hE, ⟨h1, rfl⟩ | ⟨h1, b, hb, rfl, hT⟩⟩
    · rw [he.out] at h1; exact absurd g.out h1
    clear h1
    simp at hb
    have hln := lenT hT
    have x1 : Ext ((w.alloc (.cells #[.int .i64 d.L, .int .i64 d.R, .slice a d.rs.length cap] 50)).alloc (.cells #[.int .i64 x, .int .i64 y] 52)) w1 := (by repeat (with_reducible first | assumption | exact Ext.refl _ | refine Ext.drew ?_ | refine Ext.drewN ?_ _ | refine Ext.alloc ?_ _ | (refine Ext.setCell ?_ ?sz _; case sz => (first | (simp; done) | (simp; omega))) | refine Ext.trans ?_ (by assumption)))
    have c3 := x1.cell (p := ⟨w.heap.size + 1, 0, none⟩) (v := .int .i64 x) (by simp [go_sem])
    have c4 := x1.cell (p := ⟨w.heap.size + 1, 1, none⟩) (v := .int .i64 y) (by simp [go_sem])
    have hKK := keepIn_any x y b _ _ _ w1 hT trivial
    replace hKK := hid hKK
    replace hT := hid hT
    rw [hal.out] at hln
    generalize hn : (held d t).length = n at *
    replace hn := hid hn
    go_wp2_with fail
    refine hKK.out.mono ?_; rintro e w2 ⟨rfl, hg2, kk, hT2, hk2⟩
    have hl2 := lenT hT2
    have hkl : kk.length = cnt d t x y := by rw [hk2.length_eq, hck.out]
    rw [hkl] at hl2
    have x2 : Ext w w2 := (show Ext w w1 from (by repeat (with_reducible first | assumption | exact Ext.refl _ | refine Ext.drew ?_ | refine Ext.drewN ?_ _ | refine Ext.alloc ?_ _ | (refine Ext.setCell ?_ ?sz _; case sz => (first | (simp; done) | (simp; omega))) | refine Ext.trans ?_ (by assumption)))).grown hg2 (fun r e => by cases e; omega)
    replace x2 := hid x2
    replace hT2 := hid hT2
    clear hE hB hg2 hk2 hkl x1
    generalize cnt d t x y = cn at *
    by_cases g1 : cn = n
    · have b1 : ((cn : Int) == (n : Int)) = true := by rw [beq_iff_eq]; omega
      have H := hid (H1.out.trans (if_pos g1))
      clear g1
      go_wp2_with fail
      go_ret2
      exact ⟨ret2i H.out.symm g.out.symm, x2.out⟩
    · have b1 : ((cn : Int) == (n : Int)) = false := by rw [beq_eq_false_iff_ne]; omega
      by_cases g2 : cn = 0
      · have b2 : ((cn : Int) == 0) = true := by rw [beq_iff_eq]; omega
        have H := hid (H1.out.trans ((if_neg g1).trans (if_pos g2)))
        clear g1 g2
        go_wp2_with fail
        go_ret2
        exact ⟨ret2i H.out.symm g.out.symm, x2.out⟩
      · have b2 : ((cn : Int) == 0) = false := by rw [beq_eq_false_iff_ne]; omega
        have H := hid (H1.out.trans ((if_neg g1).trans (if_neg g2)))
        clear g1 g2
        go_wp2_with fail
        go_ret2
        exact ⟨ret2i H.out.symm g.out.symm, x2.out⟩
  · have H1 := hid (show sealOf d t x y = 0 by unfold sealOf; rw [if_neg g])
    have g0 : (ask d t x y != 0) = true := by simp [g]
    replace g := hid g
    go_enter Try.func42, Try.ntmps42
    go_wp2_with fail
    refine (HT.out _ (HP.out.ext (by repeat (with_reducible first | assumption | exact Ext.refl _ | refine Ext.drew ?_ | refine Ext.drewN ?_ _ | refine Ext.alloc ?_ _ | (refine Ext.setCell ?_ ?sz _; case sz => (first | (simp; done) | (simp; omega))) | refine Ext.trans ?_ (by assumption)))) (by exact prs1 (by simp))).mono ?_; rintro e w1 ⟨hE, ⟨h1, rfl⟩ | ⟨h1, _⟩⟩
    case inr => rw [he.out] at h1; exact absurd h1 g.out
    rw [he.out]
    clear h1
    go_wp2_with fail
    go_ret2
    exact ⟨ret2i H1.out.symm rfl, (by repeat (with_reducible first | assumption | exact Ext.refl _ | refine Ext.drew ?_ | refine Ext.drewN ?_ _ | refine Ext.alloc ?_ _ | (refine Ext.setCell ?_ ?sz _; case sz => (first | (simp; done) | (simp; omega))) | refine Ext.trans ?_ (by assumption)))⟩

/-- A truth that is good, or the error. -/
def TruthP (d : Dent) (t : Int) (good : Int → Bool) (er : Int) (w : World) (e : Ending) (w' : World) : Prop :=
  Ext w w' ∧ ((er ≠ 0 ∧ e = .returned (.tuple #[.slice none 0 0, .int .i64 er])) ∨
    (er = 0 ∧ ∃ y a cap, IsT d.rs y ∧ good (holds (meas d y) t) = true ∧ e = .returned (.tuple #[.slice a y.length cap, .int .i64 0]) ∧ Ints w' a y))

theorem kept_spec {d : Dent} (v : VldD d) (t : Int) (good : Int → Bool) {kk : List (List Int × Int)} (h : kk.Perm ((heldAll d t).filter fun p => good p.2)) : ∀ p ∈ kk, IsT d.rs p.1 ∧ good (holds (meas d p.1) t) = true := by
  intro p hp
  have h2 := List.mem_filter.1 (h.mem_iff.1 hp)
  obtain ⟨x, hx, rfl⟩ := List.mem_map.1 h2.1
  exact ⟨(mem_allT (okL_of v)).1 hx, h2.2⟩
theorem out_len (l : List (List Int × Int)) (x y : Int) : (l.filter fun p => inB x y p.2).length + (l.filter fun p => outB x y p.2).length = l.length := by
  induction l with
  | nil => rfl
  | cons p l ih =>
    cases e : inB x y p.2 with
    | true =>
      have e2 : outB x y p.2 = false := by unfold outB; unfold inB at e; rw [e]; rfl
      rw [List.filter_cons_of_pos (by simpa using e), List.filter_cons_of_neg (by simp [e2])]
      simp only [List.length_cons]; omega
    | false =>
      have e2 : outB x y p.2 = true := by unfold outB; unfold inB at e; rw [e]; rfl
      rw [List.filter_cons_of_neg (by simp [e]), List.filter_cons_of_pos (by simpa using e2)]
      simp only [List.length_cons]; omega
theorem right_no {d : Dent} {t x y : Int} (h : ask d t x y = 0) (hn : ((heldAll d t).filter fun p => inB x y p.2) = []) : rightE d t x y = 20 := by
  have k := (ask_ok.1 h).1
  have h1 := cnt_kept k.v t x y
  have h2 := (held_ok k).1
  rw [hn] at h1
  have h3 : sealOf d t x y = 0 := by unfold sealOf sealN; rw [if_pos h, ← h1, if_neg (by simp; omega)]; rfl
  unfold rightE; rw [if_pos ⟨h, h3⟩]
theorem right_yes {d : Dent} {t x y : Int} (h : ask d t x y = 0) (hn : ((heldAll d t).filter fun p => inB x y p.2) ≠ []) : rightE d t x y = 0 := by
  have k := (ask_ok.1 h).1
  have h1 := cnt_kept k.v t x y
  have h2 := List.length_pos_iff.2 hn
  have h3 : sealOf d t x y ≠ 0 := by unfold sealOf sealN; rw [if_pos h]; split; · omega
                                     rw [if_neg (by omega)]; omega
  unfold rightE; rw [if_neg (fun e => h3 e.2)]; exact h
theorem wrong_no {d : Dent} {t x y : Int} (h : ask d t x y = 0) (hn : ((heldAll d t).filter fun p => outB x y p.2) = []) : wrongE d t x y = 5 := by
  have k := (ask_ok.1 h).1
  have h1 := cnt_kept k.v t x y
  have h2 := out_len (heldAll d t) x y
  have h3 := all_len k.v t
  rw [hn] at h2
  simp only [List.length_nil] at h2
  have h4 : sealOf d t x y = 2 := by unfold sealOf sealN; rw [if_pos h, if_pos (by omega)]
  unfold wrongE; rw [if_pos ⟨h, h4⟩]
theorem wrong_yes {d : Dent} {t x y : Int} (h : ask d t x y = 0) (hn : ((heldAll d t).filter fun p => outB x y p.2) ≠ []) : wrongE d t x y = 0 := by
  have k := (ask_ok.1 h).1
  have h1 := cnt_kept k.v t x y
  have h2 := out_len (heldAll d t) x y
  have h3 := all_len k.v t
  have h5 := List.length_pos_iff.2 hn
  have h4 : sealOf d t x y ≠ 2 := by unfold sealOf sealN; rw [if_pos h, if_neg (by omega)]; split <;> omega
  unfold wrongE; rw [if_neg (fun e => h4 e.2)]; exact h

def FirstNo (ne : Int) (w : World) (e : Ending) (w' : World) : Prop := e = .returned (.tuple #[.slice none 0 0, .int .i64 ne]) ∧ Ext w w'
def FirstYes (k : List (List Int × Int)) (w : World) (e : Ending) (w' : World) : Prop := ∃ y a cap, y ∈ k.map Prod.fst ∧ e = .returned (.tuple #[.slice a y.length cap, .int .i64 0]) ∧ Ints w' a y ∧ Ext w w'
theorem first_no (d : Dent) (v : VldD d) (a : Option Addr) (cap : Nat) (b n c : Nat) (k : List (List Int × Int)) (ne : Int) (w : World) (hP : Prs w a d.rs) (hT : TM w b d.rs.length c k) (hk : k = []) :
    Calls Try.prog 94 #[(.agg #[.int .i64 d.L, .int .i64 d.R, .slice a d.rs.length cap]), .map (some b), .int .i64 ne] w (FirstNo ne w) :=
  (first_any d v a cap b n c k ne w hP hT (by rw [hk]; simp)).mono fun e w' ⟨h1, h2⟩ => by
    rcases h2 with ⟨_, rfl⟩ | ⟨y, _, _, hy, _⟩
    · exact ⟨rfl, h1⟩
    · rw [hk] at hy; simp at hy
theorem first_yes (d : Dent) (v : VldD d) (a : Option Addr) (cap : Nat) (b n c : Nat) (k : List (List Int × Int)) (ne : Int) (w : World) (hP : Prs w a d.rs) (hT : TM w b d.rs.length c k) (hk : ∀ p ∈ k, IsT d.rs p.1) (hn : k ≠ []) :
    Calls Try.prog 94 #[(.agg #[.int .i64 d.L, .int .i64 d.R, .slice a d.rs.length cap]), .map (some b), .int .i64 ne] w (FirstYes k w) :=
  (first_any d v a cap b n c k ne w hP hT hk).mono fun e w' ⟨h1, h2⟩ => by
    rcases h2 with ⟨h, _⟩ | ⟨y, a', c', hy, rfl, hi⟩
    · exact absurd h hn
    · exact ⟨y, a', c', hy, rfl, hi, h1⟩


set_option maxHeartbeats 4000000 in
  theorem right_any (d : Dent) (q : FitD d) (a : Option Addr) (cap : Nat) (t x y : Int) (w : World) (hP : Prs w a d.rs) (hl : d.rs.length ≤ 1000) (ht : I64 t) (hx : I64 x) (hy : I64 y) :
    Calls Try.prog 46 #[(.agg #[.int .i64 d.L, .int .i64 d.R, .slice a d.rs.length cap]), .int .i64 t, .agg #[.int .i64 x, .int .i64 y]] w (TruthP d t (inB x y) (rightE d t x y) w) := by
   have hB := (Ext.refl w).alloc (.cells #[.int .i64 d.L, .int .i64 d.R, .slice a d.rs.length cap] 50)
   have HT := fun W hW hA => truths_any d q a (some ⟨w.heap.size + 1 + 1, 0, none⟩) cap 1 t [(x, y)] W hW hl ht hA (by simp) (one_pa hx) (one_pb hy)
   replace HT := hid HT
   have HP := hid hP
   clear hP
   have he := errT_one d t x y
   replace he := hid he
   by_cases g : ask d t x y = 0
   · have k := (ask_ok.1 g).1
     have hsp := fun kk => kept_spec k.v t (inB x y) (kk := kk)
     have hno := hid (right_no g)
     have hye := hid (right_yes g)
     replace g := hid g
     replace hsp := hid hsp
     by_cases hne : ((heldAll d t).filter fun p => inB x y p.2) = []
     · have H := hid (hno.out hne)
       replace hne := hid hne
       go_enter Try.func46, Try.ntmps46
       go_wp2_with fail
       refine (HT.out _ (HP.out.ext (by repeat (with_reducible first | assumption | exact Ext.refl _ | refine Ext.drew ?_ | refine Ext.drewN ?_ _ | refine Ext.alloc ?_ _ | (refine Ext.setCell ?_ ?sz _; case sz => (first | (simp; done) | (simp; omega))) | refine Ext.trans ?_ (by assumption)))) (by exact prs1 (by simp))).mono ?_; rintro e w1 ⟨hE, ⟨h1, rfl⟩ | ⟨h1, b, hb, rfl, hT⟩⟩
       · rw [he.out] at h1; exact absurd g.out h1
       clear h1
       simp at hb
       have x1 : Ext ((w.alloc (.cells #[.int .i64 d.L, .int .i64 d.R, .slice a d.rs.length cap] 50)).alloc (.cells #[.int .i64 x, .int .i64 y] 52)) w1 := (by repeat (with_reducible first | assumption | exact Ext.refl _ | refine Ext.drew ?_ | refine Ext.drewN ?_ _ | refine Ext.alloc ?_ _ | (refine Ext.setCell ?_ ?sz _; case sz => (first | (simp; done) | (simp; omega))) | refine Ext.trans ?_ (by assumption)))
       have hbl := hT.lt
       have c3 := x1.cell (p := ⟨w.heap.size + 1, 0, none⟩) (v := .int .i64 x) (by simp [go_sem])
       have c4 := x1.cell (p := ⟨w.heap.size + 1, 1, none⟩) (v := .int .i64 y) (by simp [go_sem])
       replace hT := hid hT
       clear hE
       go_wp2_with fail
       go_region_held3 (fun w' => w'.cell? ⟨w.heap.size, 0, none⟩ = some (.int .i64 d.L) ∧ w'.cell? ⟨w.heap.size, 1, none⟩ = some (.int .i64 d.R) ∧ w'.cell? ⟨w.heap.size, 2, none⟩ = some (.slice a d.rs.length cap) ∧ w'.cell? ⟨w.heap.size + 1, 0, none⟩ = some (.int .i64 x) ∧ w'.cell? ⟨w.heap.size + 1, 1, none⟩ = some (.int .i64 y) ∧ Ext ((w.alloc (.cells #[.int .i64 d.L, .int .i64 d.R, .slice a d.rs.length cap] 50)).alloc (.cells #[.int .i64 x, .int .i64 y] 52)) w')
        (((try go_split_ands); (repeat' apply And.intro) <;> (first | (with_reducible assumption) | exact Ext.cell (w := ((w.alloc (.cells #[.int .i64 d.L, .int .i64 d.R, .slice a d.rs.length cap] 50)).alloc (.cells #[.int .i64 x, .int .i64 y] 52))) (by repeat (with_reducible first | assumption | exact Ext.refl _ | refine Ext.drew ?_ | refine Ext.drewN ?_ _ | refine Ext.alloc ?_ _ | (refine Ext.setCell ?_ ?sz _; case sz => (first | (simp; done) | (simp; omega))) | refine Ext.trans ?_ (by assumption))) (by simp [go_sem]; done) | exact (by repeat (with_reducible first | assumption | exact Ext.refl _ | refine Ext.drew ?_ | refine Ext.drewN ?_ _ | refine Ext.alloc ?_ _ | (refine Ext.setCell ?_ ?sz _; case sz => (first | (simp; done) | (simp; omega))) | refine Ext.trans ?_ (by assumption))))))
        (first | (go_at_call 89; refine (keepIn_any x y b _ _ _ _ (hT.out.ext (by repeat (with_reducible first | assumption | exact Ext.refl _ | refine Ext.drew ?_ | refine Ext.drewN ?_ _ | refine Ext.alloc ?_ _ | (refine Ext.setCell ?_ ?sz _; case sz => (first | (simp; done) | (simp; omega))) | refine Ext.trans ?_ (by assumption)))) trivial).mono ?_; rintro e w3 ⟨rfl, hg3, kk, hT3, hk3⟩; have x3 : Ext ((w.alloc (.cells #[.int .i64 d.L, .int .i64 d.R, .slice a d.rs.length cap] 50)).alloc (.cells #[.int .i64 x, .int .i64 y] 52)) w3 := Ext.grown (by repeat (with_reducible first | assumption | exact Ext.refl _ | refine Ext.drew ?_ | refine Ext.drewN ?_ _ | refine Ext.alloc ?_ _ | (refine Ext.setCell ?_ ?sz _; case sz => (first | (simp; done) | (simp; omega))) | refine Ext.trans ?_ (by assumption))) hg3 (fun r e => by cases e; simp; omega)) | (go_at_call 94; refine (first_no d k.v a cap b d.rs.length _ kk 20 _ (HP.out.ext (by repeat (with_reducible first | assumption | exact Ext.refl _ | refine Ext.drew ?_ | refine Ext.drewN ?_ _ | refine Ext.alloc ?_ _ | (refine Ext.setCell ?_ ?sz _; case sz => (first | (simp; done) | (simp; omega))) | refine Ext.trans ?_ (by assumption)))) hT3 (by rw [hne.out] at hk3; exact List.Perm.eq_nil hk3)).mono ?_; rintro e w4 ⟨rfl, hE4⟩))
       all_goals
         go_wp2_with fail
         go_ret2
         exact ⟨(by repeat (with_reducible first | assumption | exact Ext.refl _ | refine Ext.drew ?_ | refine Ext.drewN ?_ _ | refine Ext.alloc ?_ _ | (refine Ext.setCell ?_ ?sz _; case sz => (first | (simp; done) | (simp; omega))) | refine Ext.trans ?_ (by assumption))), .inl ⟨by rw [H.out]; decide, by rw [H.out]; rfl⟩⟩
     · have H := hid (hye.out hne)
       replace hne := hid hne
       go_enter Try.func46, Try.ntmps46
       go_wp2_with fail
       refine (HT.out _ (HP.out.ext (by repeat (with_reducible first | assumption | exact Ext.refl _ | refine Ext.drew ?_ | refine Ext.drewN ?_ _ | refine Ext.alloc ?_ _ | (refine Ext.setCell ?_ ?sz _; case sz => (first | (simp; done) | (simp; omega))) | refine Ext.trans ?_ (by assumption)))) (by exact prs1 (by simp))).mono ?_; rintro e w1 ⟨hE, ⟨h1, rfl⟩ | ⟨h1, b, hb, rfl, hT⟩⟩
       · rw [he.out] at h1; exact absurd g.out h1
       clear h1
       simp at hb
       have x1 : Ext ((w.alloc (.cells #[.int .i64 d.L, .int .i64 d.R, .slice a d.rs.length cap] 50)).alloc (.cells #[.int .i64 x, .int .i64 y] 52)) w1 := (by repeat (with_reducible first | assumption | exact Ext.refl _ | refine Ext.drew ?_ | refine Ext.drewN ?_ _ | refine Ext.alloc ?_ _ | (refine Ext.setCell ?_ ?sz _; case sz => (first | (simp; done) | (simp; omega))) | refine Ext.trans ?_ (by assumption)))
       have hbl := hT.lt
       have c3 := x1.cell (p := ⟨w.heap.size + 1, 0, none⟩) (v := .int .i64 x) (by simp [go_sem])
       have c4 := x1.cell (p := ⟨w.heap.size + 1, 1, none⟩) (v := .int .i64 y) (by simp [go_sem])
       replace hT := hid hT
       clear hE
       go_wp2_with fail
       go_region_held3 (fun w' => w'.cell? ⟨w.heap.size, 0, none⟩ = some (.int .i64 d.L) ∧ w'.cell? ⟨w.heap.size, 1, none⟩ = some (.int .i64 d.R) ∧ w'.cell? ⟨w.heap.size, 2, none⟩ = some (.slice a d.rs.length cap) ∧ w'.cell? ⟨w.heap.size + 1, 0, none⟩ = some (.int .i64 x) ∧ w'.cell? ⟨w.heap.size + 1, 1, none⟩ = some (.int .i64 y) ∧ Ext ((w.alloc (.cells #[.int .i64 d.L, .int .i64 d.R, .slice a d.rs.length cap] 50)).alloc (.cells #[.int .i64 x, .int .i64 y] 52)) w')
        (((try go_split_ands); (repeat' apply And.intro) <;> (first | (with_reducible assumption) | exact Ext.cell (w := ((w.alloc (.cells #[.int .i64 d.L, .int .i64 d.R, .slice a d.rs.length cap] 50)).alloc (.cells #[.int .i64 x, .int .i64 y] 52))) (by repeat (with_reducible first | assumption | exact Ext.refl _ | refine Ext.drew ?_ | refine Ext.drewN ?_ _ | refine Ext.alloc ?_ _ | (refine Ext.setCell ?_ ?sz _; case sz => (first | (simp; done) | (simp; omega))) | refine Ext.trans ?_ (by assumption))) (by simp [go_sem]; done) | exact (by repeat (with_reducible first | assumption | exact Ext.refl _ | refine Ext.drew ?_ | refine Ext.drewN ?_ _ | refine Ext.alloc ?_ _ | (refine Ext.setCell ?_ ?sz _; case sz => (first | (simp; done) | (simp; omega))) | refine Ext.trans ?_ (by assumption))))))
        (first | (go_at_call 89; refine (keepIn_any x y b _ _ _ _ (hT.out.ext (by repeat (with_reducible first | assumption | exact Ext.refl _ | refine Ext.drew ?_ | refine Ext.drewN ?_ _ | refine Ext.alloc ?_ _ | (refine Ext.setCell ?_ ?sz _; case sz => (first | (simp; done) | (simp; omega))) | refine Ext.trans ?_ (by assumption)))) trivial).mono ?_; rintro e w3 ⟨rfl, hg3, kk, hT3, hk3⟩; have x3 : Ext ((w.alloc (.cells #[.int .i64 d.L, .int .i64 d.R, .slice a d.rs.length cap] 50)).alloc (.cells #[.int .i64 x, .int .i64 y] 52)) w3 := Ext.grown (by repeat (with_reducible first | assumption | exact Ext.refl _ | refine Ext.drew ?_ | refine Ext.drewN ?_ _ | refine Ext.alloc ?_ _ | (refine Ext.setCell ?_ ?sz _; case sz => (first | (simp; done) | (simp; omega))) | refine Ext.trans ?_ (by assumption))) hg3 (fun r e => by cases e; simp; omega)) | (go_at_call 94; refine (first_yes d k.v a cap b d.rs.length _ kk 20 _ (HP.out.ext (by repeat (with_reducible first | assumption | exact Ext.refl _ | refine Ext.drew ?_ | refine Ext.drewN ?_ _ | refine Ext.alloc ?_ _ | (refine Ext.setCell ?_ ?sz _; case sz => (first | (simp; done) | (simp; omega))) | refine Ext.trans ?_ (by assumption)))) hT3 (fun p hp => (hsp.out kk hk3 p hp).1) (fun e => hne.out (List.Perm.nil_eq (by rw [← e]; exact hk3)).symm)).mono ?_; rintro e w4 ⟨y4, a4, cp4, hy4, rfl, hI4, hE4⟩))
       all_goals
         obtain ⟨p4, hp4, hpe⟩ := List.mem_map.1 hy4
         have hsp4 := hid (hsp.out kk hk3 p4 hp4)
         replace hpe := hid hpe
         clear hp4 hy4
         go_wp2_with fail
         go_ret2
         exact ⟨(by repeat (with_reducible first | assumption | exact Ext.refl _ | refine Ext.drew ?_ | refine Ext.drewN ?_ _ | refine Ext.alloc ?_ _ | (refine Ext.setCell ?_ ?sz _; case sz => (first | (simp; done) | (simp; omega))) | refine Ext.trans ?_ (by assumption))), .inr ⟨H.out, y4, a4, cp4, by rw [← hpe.out]; exact hsp4.out.1, by rw [← hpe.out]; exact hsp4.out.2, rfl, hI4.ext (by first | exact (by repeat (with_reducible first | assumption | exact Ext.refl _ | refine Ext.drew ?_ | refine Ext.drewN ?_ _ | refine Ext.alloc ?_ _ | (refine Ext.setCell ?_ ?sz _; case sz => (first | (simp; done) | (simp; omega))) | refine Ext.trans ?_ (by assumption))) | exact Ext.refl _)⟩⟩
   · have hE0 : rightE d t x y = ask d t x y := by unfold rightE; rw [if_neg (fun h => g h.1)]
     have g0 : (ask d t x y != 0) = true := by simp [g]
     replace g := hid g
     replace hE0 := hid hE0
     go_enter Try.func46, Try.ntmps46
     go_wp2_with fail
     refine (HT.out _ (HP.out.ext (by repeat (with_reducible first | assumption | exact Ext.refl _ | refine Ext.drew ?_ | refine Ext.drewN ?_ _ | refine Ext.alloc ?_ _ | (refine Ext.setCell ?_ ?sz _; case sz => (first | (simp; done) | (simp; omega))) | refine Ext.trans ?_ (by assumption)))) (by exact prs1 (by simp))).mono ?_; rintro e w1 ⟨hE, ⟨h1, rfl⟩ | ⟨h1, _⟩⟩
     case inr => rw [he.out] at h1; exact absurd h1 g.out
     rw [he.out]
     clear h1
     go_wp2_with fail
     go_ret2
     exact ⟨(by repeat (with_reducible first | assumption | exact Ext.refl _ | refine Ext.drew ?_ | refine Ext.drewN ?_ _ | refine Ext.alloc ?_ _ | (refine Ext.setCell ?_ ?sz _; case sz => (first | (simp; done) | (simp; omega))) | refine Ext.trans ?_ (by assumption))), .inl ⟨by rw [hE0.out]; exact g.out, by rw [hE0.out]; rfl⟩⟩

set_option maxHeartbeats 4000000 in
  theorem wrong_any (d : Dent) (q : FitD d) (a : Option Addr) (cap : Nat) (t x y : Int) (w : World) (hP : Prs w a d.rs) (hl : d.rs.length ≤ 1000) (ht : I64 t) (hx : I64 x) (hy : I64 y) :
    Calls Try.prog 47 #[(.agg #[.int .i64 d.L, .int .i64 d.R, .slice a d.rs.length cap]), .int .i64 t, .agg #[.int .i64 x, .int .i64 y]] w (TruthP d t (outB x y) (wrongE d t x y) w) := by
   have hB := (Ext.refl w).alloc (.cells #[.int .i64 d.L, .int .i64 d.R, .slice a d.rs.length cap] 50)
   have HT := fun W hW hA => truths_any d q a (some ⟨w.heap.size + 1 + 1, 0, none⟩) cap 1 t [(x, y)] W hW hl ht hA (by simp) (one_pa hx) (one_pb hy)
   replace HT := hid HT
   have HP := hid hP
   clear hP
   have he := errT_one d t x y
   replace he := hid he
   by_cases g : ask d t x y = 0
   · have k := (ask_ok.1 g).1
     have hsp := fun kk => kept_spec k.v t (outB x y) (kk := kk)
     have hno := hid (wrong_no g)
     have hye := hid (wrong_yes g)
     replace g := hid g
     replace hsp := hid hsp
     by_cases hne : ((heldAll d t).filter fun p => outB x y p.2) = []
     · have H := hid (hno.out hne)
       replace hne := hid hne
       go_enter Try.func47, Try.ntmps47
       go_wp2_with fail
       refine (HT.out _ (HP.out.ext (by repeat (with_reducible first | assumption | exact Ext.refl _ | refine Ext.drew ?_ | refine Ext.drewN ?_ _ | refine Ext.alloc ?_ _ | (refine Ext.setCell ?_ ?sz _; case sz => (first | (simp; done) | (simp; omega))) | refine Ext.trans ?_ (by assumption)))) (by exact prs1 (by simp))).mono ?_; rintro e w1 ⟨hE, ⟨h1, rfl⟩ | ⟨h1, b, hb, rfl, hT⟩⟩
       · rw [he.out] at h1; exact absurd g.out h1
       clear h1
       simp at hb
       have x1 : Ext ((w.alloc (.cells #[.int .i64 d.L, .int .i64 d.R, .slice a d.rs.length cap] 50)).alloc (.cells #[.int .i64 x, .int .i64 y] 52)) w1 := (by repeat (with_reducible first | assumption | exact Ext.refl _ | refine Ext.drew ?_ | refine Ext.drewN ?_ _ | refine Ext.alloc ?_ _ | (refine Ext.setCell ?_ ?sz _; case sz => (first | (simp; done) | (simp; omega))) | refine Ext.trans ?_ (by assumption)))
       have hbl := hT.lt
       have c3 := x1.cell (p := ⟨w.heap.size + 1, 0, none⟩) (v := .int .i64 x) (by simp [go_sem])
       have c4 := x1.cell (p := ⟨w.heap.size + 1, 1, none⟩) (v := .int .i64 y) (by simp [go_sem])
       replace hT := hid hT
       clear hE
       go_wp2_with fail
       go_region_held3 (fun w' => w'.cell? ⟨w.heap.size, 0, none⟩ = some (.int .i64 d.L) ∧ w'.cell? ⟨w.heap.size, 1, none⟩ = some (.int .i64 d.R) ∧ w'.cell? ⟨w.heap.size, 2, none⟩ = some (.slice a d.rs.length cap) ∧ w'.cell? ⟨w.heap.size + 1, 0, none⟩ = some (.int .i64 x) ∧ w'.cell? ⟨w.heap.size + 1, 1, none⟩ = some (.int .i64 y) ∧ Ext ((w.alloc (.cells #[.int .i64 d.L, .int .i64 d.R, .slice a d.rs.length cap] 50)).alloc (.cells #[.int .i64 x, .int .i64 y] 52)) w')
        (((try go_split_ands); (repeat' apply And.intro) <;> (first | (with_reducible assumption) | exact Ext.cell (w := ((w.alloc (.cells #[.int .i64 d.L, .int .i64 d.R, .slice a d.rs.length cap] 50)).alloc (.cells #[.int .i64 x, .int .i64 y] 52))) (by repeat (with_reducible first | assumption | exact Ext.refl _ | refine Ext.drew ?_ | refine Ext.drewN ?_ _ | refine Ext.alloc ?_ _ | (refine Ext.setCell ?_ ?sz _; case sz => (first | (simp; done) | (simp; omega))) | refine Ext.trans ?_ (by assumption))) (by simp [go_sem]; done) | exact (by repeat (with_reducible first | assumption | exact Ext.refl _ | refine Ext.drew ?_ | refine Ext.drewN ?_ _ | refine Ext.alloc ?_ _ | (refine Ext.setCell ?_ ?sz _; case sz => (first | (simp; done) | (simp; omega))) | refine Ext.trans ?_ (by assumption))))))
        (first | (go_at_call 89; refine (keepOut_any x y b _ _ _ _ (hT.out.ext (by repeat (with_reducible first | assumption | exact Ext.refl _ | refine Ext.drew ?_ | refine Ext.drewN ?_ _ | refine Ext.alloc ?_ _ | (refine Ext.setCell ?_ ?sz _; case sz => (first | (simp; done) | (simp; omega))) | refine Ext.trans ?_ (by assumption)))) ⟨w1.heap.size, 0, none⟩ (Ext.cell (w := w1.alloc (.cells #[.func (.func 90) #[.agg #[.int .i64 x, .int .i64 y]] #[]] 100)) (by repeat (with_reducible first | assumption | exact Ext.refl _ | refine Ext.drew ?_ | refine Ext.drewN ?_ _ | refine Ext.alloc ?_ _ | (refine Ext.setCell ?_ ?sz _; case sz => (first | (simp; done) | (simp; omega))) | refine Ext.trans ?_ (by assumption))) (by simp [go_sem])) (by simp; omega) (Nat.lt_of_lt_of_le (by simp) (Ext.size (w := w1.alloc (.cells #[.func (.func 90) #[.agg #[.int .i64 x, .int .i64 y]] #[]] 100)) (by repeat (with_reducible first | assumption | exact Ext.refl _ | refine Ext.drew ?_ | refine Ext.drewN ?_ _ | refine Ext.alloc ?_ _ | (refine Ext.setCell ?_ ?sz _; case sz => (first | (simp; done) | (simp; omega))) | refine Ext.trans ?_ (by assumption)))))).mono ?_; rintro e w3 ⟨rfl, hg3, kk, hT3, hk3⟩; have x3 : Ext ((w.alloc (.cells #[.int .i64 d.L, .int .i64 d.R, .slice a d.rs.length cap] 50)).alloc (.cells #[.int .i64 x, .int .i64 y] 52)) w3 := Ext.grown (by repeat (with_reducible first | assumption | exact Ext.refl _ | refine Ext.drew ?_ | refine Ext.drewN ?_ _ | refine Ext.alloc ?_ _ | (refine Ext.setCell ?_ ?sz _; case sz => (first | (simp; done) | (simp; omega))) | refine Ext.trans ?_ (by assumption))) hg3 (fun r e => by cases e; simp; omega)) | (go_at_call 94; refine (first_no d k.v a cap b d.rs.length _ kk 5 _ (HP.out.ext (by repeat (with_reducible first | assumption | exact Ext.refl _ | refine Ext.drew ?_ | refine Ext.drewN ?_ _ | refine Ext.alloc ?_ _ | (refine Ext.setCell ?_ ?sz _; case sz => (first | (simp; done) | (simp; omega))) | refine Ext.trans ?_ (by assumption)))) hT3 (by rw [hne.out] at hk3; exact List.Perm.eq_nil hk3)).mono ?_; rintro e w4 ⟨rfl, hE4⟩))
       all_goals
         go_wp2_with fail
         go_ret2
         exact ⟨(by repeat (with_reducible first | assumption | exact Ext.refl _ | refine Ext.drew ?_ | refine Ext.drewN ?_ _ | refine Ext.alloc ?_ _ | (refine Ext.setCell ?_ ?sz _; case sz => (first | (simp; done) | (simp; omega))) | refine Ext.trans ?_ (by assumption))), .inl ⟨by rw [H.out]; decide, by rw [H.out]; rfl⟩⟩
     · have H := hid (hye.out hne)
       replace hne := hid hne
       go_enter Try.func47, Try.ntmps47
       go_wp2_with fail
       refine (HT.out _ (HP.out.ext (by repeat (with_reducible first | assumption | exact Ext.refl _ | refine Ext.drew ?_ | refine Ext.drewN ?_ _ | refine Ext.alloc ?_ _ | (refine Ext.setCell ?_ ?sz _; case sz => (first | (simp; done) | (simp; omega))) | refine Ext.trans ?_ (by assumption)))) (by exact prs1 (by simp))).mono ?_; rintro e w1 ⟨hE, ⟨h1, rfl⟩ | ⟨h1, b, hb, rfl, hT⟩⟩
       · rw [he.out] at h1; exact absurd g.out h1
       clear h1
       simp at hb
       have x1 : Ext ((w.alloc (.cells #[.int .i64 d.L, .int .i64 d.R, .slice a d.rs.length cap] 50)).alloc (.cells #[.int .i64 x, .int .i64 y] 52)) w1 := (by repeat (with_reducible first | assumption | exact Ext.refl _ | refine Ext.drew ?_ | refine Ext.drewN ?_ _ | refine Ext.alloc ?_ _ | (refine Ext.setCell ?_ ?sz _; case sz => (first | (simp; done) | (simp; omega))) | refine Ext.trans ?_ (by assumption)))
       have hbl := hT.lt
       have c3 := x1.cell (p := ⟨w.heap.size + 1, 0, none⟩) (v := .int .i64 x) (by simp [go_sem])
       have c4 := x1.cell (p := ⟨w.heap.size + 1, 1, none⟩) (v := .int .i64 y) (by simp [go_sem])
       replace hT := hid hT
       clear hE
       go_wp2_with fail
       go_region_held3 (fun w' => w'.cell? ⟨w.heap.size, 0, none⟩ = some (.int .i64 d.L) ∧ w'.cell? ⟨w.heap.size, 1, none⟩ = some (.int .i64 d.R) ∧ w'.cell? ⟨w.heap.size, 2, none⟩ = some (.slice a d.rs.length cap) ∧ w'.cell? ⟨w.heap.size + 1, 0, none⟩ = some (.int .i64 x) ∧ w'.cell? ⟨w.heap.size + 1, 1, none⟩ = some (.int .i64 y) ∧ Ext ((w.alloc (.cells #[.int .i64 d.L, .int .i64 d.R, .slice a d.rs.length cap] 50)).alloc (.cells #[.int .i64 x, .int .i64 y] 52)) w')
        (((try go_split_ands); (repeat' apply And.intro) <;> (first | (with_reducible assumption) | exact Ext.cell (w := ((w.alloc (.cells #[.int .i64 d.L, .int .i64 d.R, .slice a d.rs.length cap] 50)).alloc (.cells #[.int .i64 x, .int .i64 y] 52))) (by repeat (with_reducible first | assumption | exact Ext.refl _ | refine Ext.drew ?_ | refine Ext.drewN ?_ _ | refine Ext.alloc ?_ _ | (refine Ext.setCell ?_ ?sz _; case sz => (first | (simp; done) | (simp; omega))) | refine Ext.trans ?_ (by assumption))) (by simp [go_sem]; done) | exact (by repeat (with_reducible first | assumption | exact Ext.refl _ | refine Ext.drew ?_ | refine Ext.drewN ?_ _ | refine Ext.alloc ?_ _ | (refine Ext.setCell ?_ ?sz _; case sz => (first | (simp; done) | (simp; omega))) | refine Ext.trans ?_ (by assumption))))))
        (first | (go_at_call 89; refine (keepOut_any x y b _ _ _ _ (hT.out.ext (by repeat (with_reducible first | assumption | exact Ext.refl _ | refine Ext.drew ?_ | refine Ext.drewN ?_ _ | refine Ext.alloc ?_ _ | (refine Ext.setCell ?_ ?sz _; case sz => (first | (simp; done) | (simp; omega))) | refine Ext.trans ?_ (by assumption)))) ⟨w1.heap.size, 0, none⟩ (Ext.cell (w := w1.alloc (.cells #[.func (.func 90) #[.agg #[.int .i64 x, .int .i64 y]] #[]] 100)) (by repeat (with_reducible first | assumption | exact Ext.refl _ | refine Ext.drew ?_ | refine Ext.drewN ?_ _ | refine Ext.alloc ?_ _ | (refine Ext.setCell ?_ ?sz _; case sz => (first | (simp; done) | (simp; omega))) | refine Ext.trans ?_ (by assumption))) (by simp [go_sem])) (by simp; omega) (Nat.lt_of_lt_of_le (by simp) (Ext.size (w := w1.alloc (.cells #[.func (.func 90) #[.agg #[.int .i64 x, .int .i64 y]] #[]] 100)) (by repeat (with_reducible first | assumption | exact Ext.refl _ | refine Ext.drew ?_ | refine Ext.drewN ?_ _ | refine Ext.alloc ?_ _ | (refine Ext.setCell ?_ ?sz _; case sz => (first | (simp; done) | (simp; omega))) | refine Ext.trans ?_ (by assumption)))))).mono ?_; rintro e w3 ⟨rfl, hg3, kk, hT3, hk3⟩; have x3 : Ext ((w.alloc (.cells #[.int .i64 d.L, .int .i64 d.R, .slice a d.rs.length cap] 50)).alloc (.cells #[.int .i64 x, .int .i64 y] 52)) w3 := Ext.grown (by repeat (with_reducible first | assumption | exact Ext.refl _ | refine Ext.drew ?_ | refine Ext.drewN ?_ _ | refine Ext.alloc ?_ _ | (refine Ext.setCell ?_ ?sz _; case sz => (first | (simp; done) | (simp; omega))) | refine Ext.trans ?_ (by assumption))) hg3 (fun r e => by cases e; simp; omega)) | (go_at_call 94; refine (first_yes d k.v a cap b d.rs.length _ kk 5 _ (HP.out.ext (by repeat (with_reducible first | assumption | exact Ext.refl _ | refine Ext.drew ?_ | refine Ext.drewN ?_ _ | refine Ext.alloc ?_ _ | (refine Ext.setCell ?_ ?sz _; case sz => (first | (simp; done) | (simp; omega))) | refine Ext.trans ?_ (by assumption)))) hT3 (fun p hp => (hsp.out kk hk3 p hp).1) (fun e => hne.out (List.Perm.nil_eq (by rw [← e]; exact hk3)).symm)).mono ?_; rintro e w4 ⟨y4, a4, cp4, hy4, rfl, hI4, hE4⟩))
       all_goals
         obtain ⟨p4, hp4, hpe⟩ := List.mem_map.1 hy4
         have hsp4 := hid (hsp.out kk hk3 p4 hp4)
         replace hpe := hid hpe
         clear hp4 hy4
         go_wp2_with fail
         go_ret2
         exact ⟨(by repeat (with_reducible first | assumption | exact Ext.refl _ | refine Ext.drew ?_ | refine Ext.drewN ?_ _ | refine Ext.alloc ?_ _ | (refine Ext.setCell ?_ ?sz _; case sz => (first | (simp; done) | (simp; omega))) | refine Ext.trans ?_ (by assumption))), .inr ⟨H.out, y4, a4, cp4, by rw [← hpe.out]; exact hsp4.out.1, by rw [← hpe.out]; exact hsp4.out.2, rfl, hI4.ext (by first | exact (by repeat (with_reducible first | assumption | exact Ext.refl _ | refine Ext.drew ?_ | refine Ext.drewN ?_ _ | refine Ext.alloc ?_ _ | (refine Ext.setCell ?_ ?sz _; case sz => (first | (simp; done) | (simp; omega))) | refine Ext.trans ?_ (by assumption))) | exact Ext.refl _)⟩⟩
   · have hE0 : wrongE d t x y = ask d t x y := by unfold wrongE; rw [if_neg (fun h => g h.1)]
     have g0 : (ask d t x y != 0) = true := by simp [g]
     replace g := hid g
     replace hE0 := hid hE0
     go_enter Try.func47, Try.ntmps47
     go_wp2_with fail
     refine (HT.out _ (HP.out.ext (by repeat (with_reducible first | assumption | exact Ext.refl _ | refine Ext.drew ?_ | refine Ext.drewN ?_ _ | refine Ext.alloc ?_ _ | (refine Ext.setCell ?_ ?sz _; case sz => (first | (simp; done) | (simp; omega))) | refine Ext.trans ?_ (by assumption)))) (by exact prs1 (by simp))).mono ?_; rintro e w1 ⟨hE, ⟨h1, rfl⟩ | ⟨h1, _⟩⟩
     case inr => rw [he.out] at h1; exact absurd h1 g.out
     rw [he.out]
     clear h1
     go_wp2_with fail
     go_ret2
     exact ⟨(by repeat (with_reducible first | assumption | exact Ext.refl _ | refine Ext.drew ?_ | refine Ext.drewN ?_ _ | refine Ext.alloc ?_ _ | (refine Ext.setCell ?_ ?sz _; case sz => (first | (simp; done) | (simp; omega))) | refine Ext.trans ?_ (by assumption))), .inl ⟨by rw [hE0.out]; exact g.out, by rw [hE0.out]; rfl⟩⟩

end Go.Proofs.Ytogglbhidlnijaa
