/- Texts of one proof, laid together: SL, SM, SN, SO, SP, SQ. -/
import Derived.Test.YtommhgcgaclflaaZB7
import Derived.Test.YtommhgcgaclflaaZB14
import Derived.Laws.StructEq
namespace Go.Proofs.Ytommhgcgaclflaa
set_option linter.unusedVariables false
set_option linter.unusedSimpArgs false
set_option linter.unusedSectionVars false
set_option linter.unnecessarySimpa false
open Go Go.RowKit Game
set_option maxRecDepth 100000

def proofE (t : List (List Int)) (r c : List Int) : Int :=
 if sureE t r ≠ 0 then sureE t r else if boundE t c ≠ 0 then boundE t c else if sureNE t r = boundNE t c ∧ sureDE t r = boundDE t c then 0 else 14
def proofN (t : List (List Int)) (r c : List Int) : Int := if proofE t r c = 0 then sureNE t r else 0
def proofD (t : List (List Int)) (r c : List Int) : Int := if proofE t r c = 0 then sureDE t r else 0

theorem run_eqRatio (a b c d : Int) (w : World) : (Op.equalIn 10000 30 (.agg #[.int .i64 a, .int .i64 b]) (.agg #[.int .i64 c, .int .i64 d])).run Try.prog w = .ok (decide (a = c ∧ b = d)) w := by
 have hp : Try.prog.plainKey 2 = true := by kernel_rfl
 rw [show (10000 : Nat) = 9998 + 1 + 1 from rfl, run_equalIn_agg w (9998 + 1) 30 _ _ (by unfold Program.fieldsOf; rw [Try.underlying30]) (by kernel_rfl)]
 unfold Program.fieldsOf
 rw [Try.underlying30]
 have q : ∀ (xs : Array Value) (off : Nat) (v : Value) (w : World), xs[off]? = some v → (part 2 xs off).run Try.prog w = .ok v w := fun xs off v w h => run_part_plain w hp h
 have hi : ∀ (x y : Int) (w : World), (Op.equalIn (9998 + 1) 2 (.int .i64 x) (.int .i64 y)).run Try.prog w = .ok (x == y) w := fun x y w => run_equalIn_int w 9998 2 .i64 .i64 x y Try.underlying2
 simp only [Op.eqFields]
 rw [if_pos (by decide), if_pos (by decide)]
 simp only [Sem.run_bind, q #[.int .i64 a, .int .i64 b] 0 (.int .i64 a) w rfl, q #[.int .i64 c, .int .i64 d] 0 (.int .i64 c) w rfl, Result.andThen_ok, hi]
 by_cases h1 : a = c
 ·subst h1
  simp only [beq_self_eq_true, Bool.not_true, Bool.false_eq_true, if_false, Sem.run_bind, q #[.int .i64 a, .int .i64 b] 1 (.int .i64 b) w rfl, q #[.int .i64 a, .int .i64 d] 1 (.int .i64 d) w rfl, Result.andThen_ok, hi]
  by_cases h2 : b = d
  ·subst h2; simp
  ·simp [h2]
 ·simp [h1]


set_option maxHeartbeats 4000000 in
 theorem checkProof_any (t : List (List Int)) (q : FitT t) (a : Option Addr) (cap : Nat) (r : List Int) (hqr : ∀ i, I64 (nth r i)) (hr : r.length ≤ 1000) (a2 : Option Addr) (c2 : Nat) (c : List Int) (hqc : ∀ i, I64 (nth c i)) (hc : c.length ≤ 1000) (a3 : Option Addr) (c3 : Nat) (w : World) (hT : Tab w a t) (hl : t.length ≤ 1000) (hw : ∀ i, (row t i).length ≤ 1000) (hI : Ints w a2 r) (hJ : Ints w a3 c) :
  Calls Try.prog 27 #[(.agg #[.slice a t.length cap]), .slice a2 r.length c2, .slice a3 c.length c3] w fun e w' => e = .returned (.tuple #[.agg #[.int .i64 (proofN t r c), .int .i64 (proofD t r c)], .int .i64 (proofE t r c)]) ∧ Ext w w' := by
  have hT' := hid hT
  have hI' := hid hI
  have hJ' := hid hJ
  have hd : Hid (proofE t r c = if sureE t r ≠ 0 then sureE t r else if boundE t c ≠ 0 then boundE t c else if sureNE t r = boundNE t c ∧ sureDE t r = boundDE t c then 0 else 14) := hid rfl
  have h0 : Hid (proofE t r c ≠ 0 → proofN t r c = 0 ∧ proofD t r c = 0) := hid fun h => by unfold proofN proofD; rw [if_neg h, if_neg h]; exact ⟨rfl, rfl⟩
  have h1 : Hid (proofE t r c = 0 → proofN t r c = sureNE t r ∧ proofD t r c = sureDE t r) := hid fun h => by unfold proofN proofD; rw [if_pos h, if_pos h]; exact ⟨rfl, rfl⟩
  have hsu := hid (fun W hW hW2 => sureP_any t q a cap r hqr hr a2 c2 W hW hl hw hW2)
  have hbo := hid (fun W hW hW2 => boundP_any t q a cap c hqc hc a3 c3 W hW hl hw hW2)
  clear hT hI hJ
  have heq := run_eqRatio (sureNE t r) (sureDE t r) (boundNE t c) (boundDE t c)
  by_cases g : sureE t r = 0
  case neg =>
   have e1 : Hid (proofE t r c = sureE t r) := hid (by rw [hd.out, if_pos g])
   have e2 := hid (h0.out (by rw [e1.out]; exact g))
   have g1 : (sureE t r != 0) = true := by simpa using g
   clear h0 h1 hd g heq
   go_enter Try.func27, Try.ntmps27
   go_wp2_with fail
   refine (hsu.out _ (hT'.out.ext (by repeat (with_reducible first | assumption | exact Ext.refl _ | refine Ext.drew ?_ | refine Ext.drewN ?_ _ | refine Ext.alloc ?_ _ | refine xS ?_ _ | refine xT ?_ (by assumption)))) (hI'.out.ext (by repeat (with_reducible first | assumption | exact Ext.refl _ | refine Ext.drew ?_ | refine Ext.drewN ?_ _ | refine Ext.alloc ?_ _ | refine xS ?_ _ | refine xT ?_ (by assumption))))).mono ?_; rintro e w1 ⟨rfl, hE⟩
   (have F := hid ((fr0 w a t.length cap 24 30).ext hE); obtain ⟨tc, c0, c1, f0, f1, l0⟩ := F.out; have tl0 := cell_lt tc; simp only at tl0)
   go_wp2_with fail
   refine bodyPost_ret (v := .tuple #[.agg #[.int .i64 0, .int .i64 0], .int .i64 (sureE t r)]) ?_ rfl ?_
   ·simp [results, Try.results27, go_sem, *]
   ·exact ⟨by rw [e1.out, e2.out.1, e2.out.2], (by repeat (with_reducible first | assumption | exact Ext.refl _ | refine Ext.drew ?_ | refine Ext.drewN ?_ _ | refine Ext.alloc ?_ _ | refine xS ?_ _ | refine xT ?_ (by assumption)))⟩
  case pos =>
   have G := hid g
   by_cases g2 : boundE t c = 0
   case neg =>
    have e1 : Hid (proofE t r c = boundE t c) := hid (by rw [hd.out, if_neg (by simp [g]), if_pos g2])
    have e2 := hid (h0.out (by rw [e1.out]; exact g2))
    have g1 : (boundE t c != 0) = true := by simpa using g2
    clear h0 h1 hd g g2 heq
    go_enter Try.func27, Try.ntmps27
    go_wp2_with fail
    refine (hsu.out _ (hT'.out.ext (by repeat (with_reducible first | assumption | exact Ext.refl _ | refine Ext.drew ?_ | refine Ext.drewN ?_ _ | refine Ext.alloc ?_ _ | refine xS ?_ _ | refine xT ?_ (by assumption)))) (hI'.out.ext (by repeat (with_reducible first | assumption | exact Ext.refl _ | refine Ext.drew ?_ | refine Ext.drewN ?_ _ | refine Ext.alloc ?_ _ | refine xS ?_ _ | refine xT ?_ (by assumption))))).mono ?_; rintro e w1 ⟨rfl, hE⟩
    rw [G.out]
    (have F := hid ((fr0 w a t.length cap 24 30).ext hE); obtain ⟨tc, c0, c1, f0, f1, l0⟩ := F.out; have tl0 := cell_lt tc; simp only at tl0)
    go_wp2_with fail
    refine (hbo.out _ (hT'.out.ext (by repeat (with_reducible first | assumption | exact Ext.refl _ | refine Ext.drew ?_ | refine Ext.drewN ?_ _ | refine Ext.alloc ?_ _ | refine xS ?_ _ | refine xT ?_ (by assumption)))) (hJ'.out.ext (by repeat (with_reducible first | assumption | exact Ext.refl _ | refine Ext.drew ?_ | refine Ext.drewN ?_ _ | refine Ext.alloc ?_ _ | refine xS ?_ _ | refine xT ?_ (by assumption))))).mono ?_; rintro e w2 ⟨rfl, hE2⟩
    have x2 : Ext w1 w2 := (by repeat (with_reducible first | assumption | exact Ext.refl _ | refine Ext.drew ?_ | refine Ext.drewN ?_ _ | refine Ext.alloc ?_ _ | refine xS ?_ _ | refine xT ?_ (by assumption)))
    (replace F := hid (F.out.ext x2); clear tc c0 c1 f0 f1 l0 tl0; obtain ⟨tc, c0, c1, f0, f1, l0⟩ := F.out; have tl0 := cell_lt tc; simp only at tl0)
    go_wp2_with fail
    refine bodyPost_ret (v := .tuple #[.agg #[.int .i64 0, .int .i64 0], .int .i64 (boundE t c)]) ?_ rfl ?_
    ·simp [results, Try.results27, go_sem, *]
    ·exact ⟨by rw [e1.out, e2.out.1, e2.out.2], (by repeat (with_reducible first | assumption | exact Ext.refl _ | refine Ext.drew ?_ | refine Ext.drewN ?_ _ | refine Ext.alloc ?_ _ | refine xS ?_ _ | refine xT ?_ (by assumption)))⟩
   case pos =>
    have G2 := hid g2
    have hd2 : Hid (proofE t r c = if sureNE t r = boundNE t c ∧ sureDE t r = boundDE t c then 0 else 14) := hid (by rw [hd.out, if_neg (by simp [g]), if_neg (by simp [g2])])
    clear hd g g2
    obtain ⟨x, hx⟩ : ∃ x, sureNE t r = x := ⟨_, rfl⟩
    obtain ⟨y, hy⟩ : ∃ x, sureDE t r = x := ⟨_, rfl⟩
    obtain ⟨z, hz⟩ : ∃ x, boundNE t c = x := ⟨_, rfl⟩
    obtain ⟨u, hu⟩ : ∃ x, boundDE t c = x := ⟨_, rfl⟩
    rw [hx, hy, hz, hu] at heq hd2
    rw [hx, hy] at h1 hsu
    rw [hz, hu] at hbo
    replace hx := hid hx
    replace hy := hid hy
    replace hz := hid hz
    replace hu := hid hu
    by_cases g3 : x = z ∧ y = u
    case neg =>
     have e1 : Hid (proofE t r c = 14) := hid (by rw [hd2.out, if_neg g3])
     have e2 := hid (h0.out (by rw [e1.out]; decide))
     rw [decide_eq_false g3] at heq
     clear h0 h1 hd2
     go_enter Try.func27, Try.ntmps27
     go_wp2_with fail
     refine (hsu.out _ (hT'.out.ext (by repeat (with_reducible first | assumption | exact Ext.refl _ | refine Ext.drew ?_ | refine Ext.drewN ?_ _ | refine Ext.alloc ?_ _ | refine xS ?_ _ | refine xT ?_ (by assumption)))) (hI'.out.ext (by repeat (with_reducible first | assumption | exact Ext.refl _ | refine Ext.drew ?_ | refine Ext.drewN ?_ _ | refine Ext.alloc ?_ _ | refine xS ?_ _ | refine xT ?_ (by assumption))))).mono ?_; rintro e w1 ⟨rfl, hE⟩
     rw [G.out]
     (have F := hid ((fr0 w a t.length cap 24 30).ext hE); obtain ⟨tc, c0, c1, f0, f1, l0⟩ := F.out; have tl0 := cell_lt tc; simp only at tl0)
     go_wp2_with fail
     refine (hbo.out _ (hT'.out.ext (by repeat (with_reducible first | assumption | exact Ext.refl _ | refine Ext.drew ?_ | refine Ext.drewN ?_ _ | refine Ext.alloc ?_ _ | refine xS ?_ _ | refine xT ?_ (by assumption)))) (hJ'.out.ext (by repeat (with_reducible first | assumption | exact Ext.refl _ | refine Ext.drew ?_ | refine Ext.drewN ?_ _ | refine Ext.alloc ?_ _ | refine xS ?_ _ | refine xT ?_ (by assumption))))).mono ?_; rintro e w2 ⟨rfl, hE2⟩
     rw [G2.out]
     have x2 : Ext w1 w2 := (by repeat (with_reducible first | assumption | exact Ext.refl _ | refine Ext.drew ?_ | refine Ext.drewN ?_ _ | refine Ext.alloc ?_ _ | refine xS ?_ _ | refine xT ?_ (by assumption)))
     have d0 := hE2.cell (p := ⟨w1.heap.size, 0, none⟩) (v := .int .i64 x) (by simp [go_sem])
     have d1 := hE2.cell (p := ⟨w1.heap.size, 1, none⟩) (v := .int .i64 y) (by simp [go_sem])
     have d2 := cell_lt d0
     simp only at d2
     (replace F := hid (F.out.ext x2); clear tc c0 c1 f0 f1 l0 tl0; obtain ⟨tc, c0, c1, f0, f1, l0⟩ := F.out; have tl0 := cell_lt tc; simp only at tl0)
     go_wp2_with fail
     refine bodyPost_ret (v := .tuple #[.agg #[.int .i64 0, .int .i64 0], .int .i64 14]) ?_ rfl ?_
     ·simp [results, Try.results27, go_sem, *]
     ·exact ⟨by rw [e1.out, e2.out.1, e2.out.2], (by repeat (with_reducible first | assumption | exact Ext.refl _ | refine Ext.drew ?_ | refine Ext.drewN ?_ _ | refine Ext.alloc ?_ _ | refine xS ?_ _ | refine xT ?_ (by assumption)))⟩
    case pos =>
     have e1 : Hid (proofE t r c = 0) := hid (by rw [hd2.out, if_pos g3])
     have e2 := hid (h1.out e1.out)
     rw [decide_eq_true g3] at heq
     clear h0 h1 hd2 g3
     go_enter Try.func27, Try.ntmps27
     go_wp2_with fail
     refine (hsu.out _ (hT'.out.ext (by repeat (with_reducible first | assumption | exact Ext.refl _ | refine Ext.drew ?_ | refine Ext.drewN ?_ _ | refine Ext.alloc ?_ _ | refine xS ?_ _ | refine xT ?_ (by assumption)))) (hI'.out.ext (by repeat (with_reducible first | assumption | exact Ext.refl _ | refine Ext.drew ?_ | refine Ext.drewN ?_ _ | refine Ext.alloc ?_ _ | refine xS ?_ _ | refine xT ?_ (by assumption))))).mono ?_; rintro e w1 ⟨rfl, hE⟩
     rw [G.out]
     (have F := hid ((fr0 w a t.length cap 24 30).ext hE); obtain ⟨tc, c0, c1, f0, f1, l0⟩ := F.out; have tl0 := cell_lt tc; simp only at tl0)
     go_wp2_with fail
     refine (hbo.out _ (hT'.out.ext (by repeat (with_reducible first | assumption | exact Ext.refl _ | refine Ext.drew ?_ | refine Ext.drewN ?_ _ | refine Ext.alloc ?_ _ | refine xS ?_ _ | refine xT ?_ (by assumption)))) (hJ'.out.ext (by repeat (with_reducible first | assumption | exact Ext.refl _ | refine Ext.drew ?_ | refine Ext.drewN ?_ _ | refine Ext.alloc ?_ _ | refine xS ?_ _ | refine xT ?_ (by assumption))))).mono ?_; rintro e w2 ⟨rfl, hE2⟩
     rw [G2.out]
     have x2 : Ext w1 w2 := (by repeat (with_reducible first | assumption | exact Ext.refl _ | refine Ext.drew ?_ | refine Ext.drewN ?_ _ | refine Ext.alloc ?_ _ | refine xS ?_ _ | refine xT ?_ (by assumption)))
     have d0 := hE2.cell (p := ⟨w1.heap.size, 0, none⟩) (v := .int .i64 x) (by simp [go_sem])
     have d1 := hE2.cell (p := ⟨w1.heap.size, 1, none⟩) (v := .int .i64 y) (by simp [go_sem])
     have d2 := cell_lt d0
     simp only at d2
     (replace F := hid (F.out.ext x2); clear tc c0 c1 f0 f1 l0 tl0; obtain ⟨tc, c0, c1, f0, f1, l0⟩ := F.out; have tl0 := cell_lt tc; simp only at tl0)
     go_wp2_with fail
     refine bodyPost_ret (v := .tuple #[.agg #[.int .i64 x, .int .i64 y], .int .i64 0]) ?_ rfl ?_
     ·simp [results, Try.results27, go_sem, *]
     ·exact ⟨by rw [e1.out, e2.out.1, e2.out.2], (by repeat (with_reducible first | assumption | exact Ext.refl _ | refine Ext.drew ?_ | refine Ext.drewN ?_ _ | refine Ext.alloc ?_ _ | refine xS ?_ _ | refine xT ?_ (by assumption)))⟩
set_option maxHeartbeats 4000000 in
 theorem checkProofR_any (t : List (List Int)) (q : FitT t) (a : Option Addr) (cap : Nat) (r : List Int) (hqr : ∀ i, I64 (nth r i)) (hr : r.length ≤ 1000) (a2 : Option Addr) (c2 : Nat) (c : List Int) (hqc : ∀ i, I64 (nth c i)) (hc : c.length ≤ 1000) (a3 : Option Addr) (c3 : Nat) (w : World) (hT : Tab w a t) (hl : t.length ≤ 1000) (hw : ∀ i, (row t i).length ≤ 1000) (hI : Ints w a2 r) (hJ : Ints w a3 c) :
  Calls Try.prog 28 #[(.agg #[.slice a t.length cap]), .slice a2 r.length c2, .slice a3 c.length c3] w fun e w' => e = .returned (.tuple #[.agg #[.int .i64 (proofN t r c), .int .i64 (proofD t r c)], .int .i64 (proofE t r c)]) ∧ Ext w w' := by
  have hT' := hid hT
  have hI' := hid hI
  have hJ' := hid hJ
  have hd : Hid (proofE t r c = if sureE t r ≠ 0 then sureE t r else if boundE t c ≠ 0 then boundE t c else if sureNE t r = boundNE t c ∧ sureDE t r = boundDE t c then 0 else 14) := hid rfl
  have h0 : Hid (proofE t r c ≠ 0 → proofN t r c = 0 ∧ proofD t r c = 0) := hid fun h => by unfold proofN proofD; rw [if_neg h, if_neg h]; exact ⟨rfl, rfl⟩
  have h1 : Hid (proofE t r c = 0 → proofN t r c = sureNE t r ∧ proofD t r c = sureDE t r) := hid fun h => by unfold proofN proofD; rw [if_pos h, if_pos h]; exact ⟨rfl, rfl⟩
  have hsu := hid (fun W hW hW2 => sureR_any t q a cap r hqr hr a2 c2 W hW hl hw hW2)
  have hbo := hid (fun W hW hW2 => boundR_any t q a cap c hqc hc a3 c3 W hW hl hw hW2)
  clear hT hI hJ
  have heq := run_eqRatio (sureNE t r) (sureDE t r) (boundNE t c) (boundDE t c)
  by_cases g : sureE t r = 0
  case neg =>
   have e1 : Hid (proofE t r c = sureE t r) := hid (by rw [hd.out, if_pos g])
   have e2 := hid (h0.out (by rw [e1.out]; exact g))
   have g1 : (sureE t r != 0) = true := by simpa using g
   clear h0 h1 hd g heq
   go_enter Try.func28, Try.ntmps28
   go_wp2_with fail
   refine (hsu.out _ (hT'.out.ext (by repeat (with_reducible first | assumption | exact Ext.refl _ | refine Ext.drew ?_ | refine Ext.drewN ?_ _ | refine Ext.alloc ?_ _ | refine xS ?_ _ | refine xT ?_ (by assumption)))) (hI'.out.ext (by repeat (with_reducible first | assumption | exact Ext.refl _ | refine Ext.drew ?_ | refine Ext.drewN ?_ _ | refine Ext.alloc ?_ _ | refine xS ?_ _ | refine xT ?_ (by assumption))))).mono ?_; rintro e w1 ⟨rfl, hE⟩
   (have F := hid ((fr0 w a t.length cap 24 30).ext hE); obtain ⟨tc, c0, c1, f0, f1, l0⟩ := F.out; have tl0 := cell_lt tc; simp only at tl0)
   go_wp2_with fail
   refine bodyPost_ret (v := .tuple #[.agg #[.int .i64 0, .int .i64 0], .int .i64 (sureE t r)]) ?_ rfl ?_
   ·simp [results, Try.results28, go_sem, *]
   ·exact ⟨by rw [e1.out, e2.out.1, e2.out.2], (by repeat (with_reducible first | assumption | exact Ext.refl _ | refine Ext.drew ?_ | refine Ext.drewN ?_ _ | refine Ext.alloc ?_ _ | refine xS ?_ _ | refine xT ?_ (by assumption)))⟩
  case pos =>
   have G := hid g
   by_cases g2 : boundE t c = 0
   case neg =>
    have e1 : Hid (proofE t r c = boundE t c) := hid (by rw [hd.out, if_neg (by simp [g]), if_pos g2])
    have e2 := hid (h0.out (by rw [e1.out]; exact g2))
    have g1 : (boundE t c != 0) = true := by simpa using g2
    clear h0 h1 hd g g2 heq
    go_enter Try.func28, Try.ntmps28
    go_wp2_with fail
    refine (hsu.out _ (hT'.out.ext (by repeat (with_reducible first | assumption | exact Ext.refl _ | refine Ext.drew ?_ | refine Ext.drewN ?_ _ | refine Ext.alloc ?_ _ | refine xS ?_ _ | refine xT ?_ (by assumption)))) (hI'.out.ext (by repeat (with_reducible first | assumption | exact Ext.refl _ | refine Ext.drew ?_ | refine Ext.drewN ?_ _ | refine Ext.alloc ?_ _ | refine xS ?_ _ | refine xT ?_ (by assumption))))).mono ?_; rintro e w1 ⟨rfl, hE⟩
    rw [G.out]
    (have F := hid ((fr0 w a t.length cap 24 30).ext hE); obtain ⟨tc, c0, c1, f0, f1, l0⟩ := F.out; have tl0 := cell_lt tc; simp only at tl0)
    go_wp2_with fail
    refine (hbo.out _ (hT'.out.ext (by repeat (with_reducible first | assumption | exact Ext.refl _ | refine Ext.drew ?_ | refine Ext.drewN ?_ _ | refine Ext.alloc ?_ _ | refine xS ?_ _ | refine xT ?_ (by assumption)))) (hJ'.out.ext (by repeat (with_reducible first | assumption | exact Ext.refl _ | refine Ext.drew ?_ | refine Ext.drewN ?_ _ | refine Ext.alloc ?_ _ | refine xS ?_ _ | refine xT ?_ (by assumption))))).mono ?_; rintro e w2 ⟨rfl, hE2⟩
    have x2 : Ext w1 w2 := (by repeat (with_reducible first | assumption | exact Ext.refl _ | refine Ext.drew ?_ | refine Ext.drewN ?_ _ | refine Ext.alloc ?_ _ | refine xS ?_ _ | refine xT ?_ (by assumption)))
    (replace F := hid (F.out.ext x2); clear tc c0 c1 f0 f1 l0 tl0; obtain ⟨tc, c0, c1, f0, f1, l0⟩ := F.out; have tl0 := cell_lt tc; simp only at tl0)
    go_wp2_with fail
    refine bodyPost_ret (v := .tuple #[.agg #[.int .i64 0, .int .i64 0], .int .i64 (boundE t c)]) ?_ rfl ?_
    ·simp [results, Try.results28, go_sem, *]
    ·exact ⟨by rw [e1.out, e2.out.1, e2.out.2], (by repeat (with_reducible first | assumption | exact Ext.refl _ | refine Ext.drew ?_ | refine Ext.drewN ?_ _ | refine Ext.alloc ?_ _ | refine xS ?_ _ | refine xT ?_ (by assumption)))⟩
   case pos =>
    have G2 := hid g2
    have hd2 : Hid (proofE t r c = if sureNE t r = boundNE t c ∧ sureDE t r = boundDE t c then 0 else 14) := hid (by rw [hd.out, if_neg (by simp [g]), if_neg (by simp [g2])])
    clear hd g g2
    obtain ⟨x, hx⟩ : ∃ x, sureNE t r = x := ⟨_, rfl⟩
    obtain ⟨y, hy⟩ : ∃ x, sureDE t r = x := ⟨_, rfl⟩
    obtain ⟨z, hz⟩ : ∃ x, boundNE t c = x := ⟨_, rfl⟩
    obtain ⟨u, hu⟩ : ∃ x, boundDE t c = x := ⟨_, rfl⟩
    rw [hx, hy, hz, hu] at heq hd2
    rw [hx, hy] at h1 hsu
    rw [hz, hu] at hbo
    replace hx := hid hx
    replace hy := hid hy
    replace hz := hid hz
    replace hu := hid hu
    by_cases g3 : x = z ∧ y = u
    case neg =>
     have e1 : Hid (proofE t r c = 14) := hid (by rw [hd2.out, if_neg g3])
     have e2 := hid (h0.out (by rw [e1.out]; decide))
     rw [decide_eq_false g3] at heq
     clear h0 h1 hd2
     go_enter Try.func28, Try.ntmps28
     go_wp2_with fail
     refine (hsu.out _ (hT'.out.ext (by repeat (with_reducible first | assumption | exact Ext.refl _ | refine Ext.drew ?_ | refine Ext.drewN ?_ _ | refine Ext.alloc ?_ _ | refine xS ?_ _ | refine xT ?_ (by assumption)))) (hI'.out.ext (by repeat (with_reducible first | assumption | exact Ext.refl _ | refine Ext.drew ?_ | refine Ext.drewN ?_ _ | refine Ext.alloc ?_ _ | refine xS ?_ _ | refine xT ?_ (by assumption))))).mono ?_; rintro e w1 ⟨rfl, hE⟩
     rw [G.out]
     (have F := hid ((fr0 w a t.length cap 24 30).ext hE); obtain ⟨tc, c0, c1, f0, f1, l0⟩ := F.out; have tl0 := cell_lt tc; simp only at tl0)
     go_wp2_with fail
     refine (hbo.out _ (hT'.out.ext (by repeat (with_reducible first | assumption | exact Ext.refl _ | refine Ext.drew ?_ | refine Ext.drewN ?_ _ | refine Ext.alloc ?_ _ | refine xS ?_ _ | refine xT ?_ (by assumption)))) (hJ'.out.ext (by repeat (with_reducible first | assumption | exact Ext.refl _ | refine Ext.drew ?_ | refine Ext.drewN ?_ _ | refine Ext.alloc ?_ _ | refine xS ?_ _ | refine xT ?_ (by assumption))))).mono ?_; rintro e w2 ⟨rfl, hE2⟩
     rw [G2.out]
     have x2 : Ext w1 w2 := (by repeat (with_reducible first | assumption | exact Ext.refl _ | refine Ext.drew ?_ | refine Ext.drewN ?_ _ | refine Ext.alloc ?_ _ | refine xS ?_ _ | refine xT ?_ (by assumption)))
     have d0 := hE2.cell (p := ⟨w1.heap.size, 0, none⟩) (v := .int .i64 x) (by simp [go_sem])
     have d1 := hE2.cell (p := ⟨w1.heap.size, 1, none⟩) (v := .int .i64 y) (by simp [go_sem])
     have d2 := cell_lt d0
     simp only at d2
     (replace F := hid (F.out.ext x2); clear tc c0 c1 f0 f1 l0 tl0; obtain ⟨tc, c0, c1, f0, f1, l0⟩ := F.out; have tl0 := cell_lt tc; simp only at tl0)
     go_wp2_with fail
     refine bodyPost_ret (v := .tuple #[.agg #[.int .i64 0, .int .i64 0], .int .i64 14]) ?_ rfl ?_
     ·simp [results, Try.results28, go_sem, *]
     ·exact ⟨by rw [e1.out, e2.out.1, e2.out.2], (by repeat (with_reducible first | assumption | exact Ext.refl _ | refine Ext.drew ?_ | refine Ext.drewN ?_ _ | refine Ext.alloc ?_ _ | refine xS ?_ _ | refine xT ?_ (by assumption)))⟩
    case pos =>
     have e1 : Hid (proofE t r c = 0) := hid (by rw [hd2.out, if_pos g3])
     have e2 := hid (h1.out e1.out)
     rw [decide_eq_true g3] at heq
     clear h0 h1 hd2 g3
     go_enter Try.func28, Try.ntmps28
     go_wp2_with fail
     refine (hsu.out _ (hT'.out.ext (by repeat (with_reducible first | assumption | exact Ext.refl _ | refine Ext.drew ?_ | refine Ext.drewN ?_ _ | refine Ext.alloc ?_ _ | refine xS ?_ _ | refine xT ?_ (by assumption)))) (hI'.out.ext (by repeat (with_reducible first | assumption | exact Ext.refl _ | refine Ext.drew ?_ | refine Ext.drewN ?_ _ | refine Ext.alloc ?_ _ | refine xS ?_ _ | refine xT ?_ (by assumption))))).mono ?_; rintro e w1 ⟨rfl, hE⟩
     rw [G.out]
     (have F := hid ((fr0 w a t.length cap 24 30).ext hE); obtain ⟨tc, c0, c1, f0, f1, l0⟩ := F.out; have tl0 := cell_lt tc; simp only at tl0)
     go_wp2_with fail
     refine (hbo.out _ (hT'.out.ext (by repeat (with_reducible first | assumption | exact Ext.refl _ | refine Ext.drew ?_ | refine Ext.drewN ?_ _ | refine Ext.alloc ?_ _ | refine xS ?_ _ | refine xT ?_ (by assumption)))) (hJ'.out.ext (by repeat (with_reducible first | assumption | exact Ext.refl _ | refine Ext.drew ?_ | refine Ext.drewN ?_ _ | refine Ext.alloc ?_ _ | refine xS ?_ _ | refine xT ?_ (by assumption))))).mono ?_; rintro e w2 ⟨rfl, hE2⟩
     rw [G2.out]
     have x2 : Ext w1 w2 := (by repeat (with_reducible first | assumption | exact Ext.refl _ | refine Ext.drew ?_ | refine Ext.drewN ?_ _ | refine Ext.alloc ?_ _ | refine xS ?_ _ | refine xT ?_ (by assumption)))
     have d0 := hE2.cell (p := ⟨w1.heap.size, 0, none⟩) (v := .int .i64 x) (by simp [go_sem])
     have d1 := hE2.cell (p := ⟨w1.heap.size, 1, none⟩) (v := .int .i64 y) (by simp [go_sem])
     have d2 := cell_lt d0
     simp only at d2
     (replace F := hid (F.out.ext x2); clear tc c0 c1 f0 f1 l0 tl0; obtain ⟨tc, c0, c1, f0, f1, l0⟩ := F.out; have tl0 := cell_lt tc; simp only at tl0)
     go_wp2_with fail
     refine bodyPost_ret (v := .tuple #[.agg #[.int .i64 x, .int .i64 y], .int .i64 0]) ?_ rfl ?_
     ·simp [results, Try.results28, go_sem, *]
     ·exact ⟨by rw [e1.out, e2.out.1, e2.out.2], (by repeat (with_reducible first | assumption | exact Ext.refl _ | refine Ext.drew ?_ | refine Ext.drewN ?_ _ | refine Ext.alloc ?_ _ | refine xS ?_ _ | refine xT ?_ (by assumption)))⟩

end Go.Proofs.Ytommhgcgaclflaa
namespace Go.Proofs.Ytommhgcgaclflaa
set_option linter.unusedVariables false
set_option linter.unusedSimpArgs false
set_option linter.unusedSectionVars false
set_option linter.unnecessarySimpa false
open Go Go.RowKit Game
set_option maxRecDepth 100000

def leastR (t : List (List Int)) (i : Nat) : Int := mnTo (ent t i) (wid t)
theorem leastR_bd {t : List (List Int)} (v : VldT t) (i : Nat) : -100 ≤ leastR t i ∧ leastR t i ≤ 100 := by
 obtain ⟨k, _, e⟩ := mnTo_at (ent t i) (n := wid t) (by have := v.n1; omega)
 unfold leastR
 rw [← e]
 exact ⟨v.lo i k, v.hi i k⟩
theorem leastR_iff {t : List (List Int)} {i k : Nat} (hk : k < wid t) : ent t i k = leastR t i ↔ ∀ l, l < wid t → ent t i k ≤ ent t i l := by
 constructor
 ·intro e l hl
  rw [e]; exact mnTo_le hl
 ·intro h
  obtain ⟨l, hl, e⟩ := mnTo_at (ent t i) (n := wid t) (by omega)
  have := h l hl
  have := mnTo_le (f := ent t i) hk
  unfold leastR; omega
def PureB (t : List (List Int)) (i k : Nat) : Prop := (∀ j, j < t.length → ent t j k ≤ ent t i k) ∧ ∀ l, l < wid t → ent t i k ≤ ent t i l
theorem pureB_iff {t : List (List Int)} (v : VldT t) {i k : Nat} (hi : i < t.length) (hk : k < wid t) : PureB t i k ↔ ent t i k = leastR t i ∧ - ent t i k = leastR (turn t) k := by
 have hn := v.n1
 have hw : wid (turn t) = t.length := turn_wid (by omega)
 rw [leastR_iff hk, show - ent t i k = ent (turn t) k i from (turn_ent hk hi).symm, leastR_iff (by rw [hw]; exact hi)]
 unfold PureB
 constructor
 ·rintro ⟨h1, h2⟩
  refine ⟨h2, fun l hl => ?_⟩
  rw [hw] at hl
  rw [turn_ent hk hi, turn_ent hk hl]
  have := h1 l hl
  omega
 ·rintro ⟨h1, h2⟩
  refine ⟨fun j hj => ?_, h1⟩
  have := h2 j (by rw [hw]; exact hj)
  rw [turn_ent hk hi, turn_ent hk hj] at this
  omega
def PureR (t : List (List Int)) (i k e : Int) : Prop :=
 (chkT t ≠ 0 ∧ i = 0 ∧ k = 0 ∧ e = chkT t) ∨
 (chkT t = 0 ∧ e = 0 ∧ ∃ a b : Nat, i = a ∧ k = b ∧ a < t.length ∧ b < wid t ∧ PureB t a b ∧ (∀ c d, c < a → d < wid t → ¬ PureB t c d) ∧ ∀ d, d < b → ¬ PureB t a d) ∨
 (chkT t = 0 ∧ e = 19 ∧ i = 0 ∧ k = 0 ∧ ∀ c d, c < t.length → d < wid t → ¬ PureB t c d)
theorem PureR.uniq {t : List (List Int)} {i k e i' k' e' : Int} (h : PureR t i k e) (h' : PureR t i' k' e') : i = i' ∧ k = k' ∧ e = e' := by
 rcases h with ⟨g, rfl, rfl, rfl⟩ | ⟨g, rfl, a, b, rfl, rfl, ha, hb, hp, h1, h2⟩ | ⟨g, rfl, rfl, rfl, hn⟩
 ·rcases h' with ⟨_, rfl, rfl, rfl⟩ | ⟨g', _⟩ | ⟨g', _⟩
  ·exact ⟨rfl, rfl, rfl⟩
  ·exact absurd g' g
  ·exact absurd g' g
 ·rcases h' with ⟨g', _⟩ | ⟨_, rfl, a', b', rfl, rfl, ha', hb', hp', h1', h2'⟩ | ⟨_, _, _, _, hn⟩
  ·exact absurd g g'
  ·have e1 : a = a' := by
    rcases Nat.lt_trichotomy a a' with h | h | h
    ·exact absurd hp (h1' a b h hb)
    ·exact h
    ·exact absurd hp' (h1 a' b' h hb')
   subst e1
   have e2 : b = b' := by
    rcases Nat.lt_trichotomy b b' with h | h | h
    ·exact absurd hp (h2' b h)
    ·exact h
    ·exact absurd hp' (h2 b' h)
   subst e2
   exact ⟨rfl, rfl, rfl⟩
  ·exact absurd hp (hn a b ha hb)
 ·rcases h' with ⟨g', _⟩ | ⟨_, _, a', b', _, _, ha', hb', hp', _⟩ | ⟨_, rfl, rfl, rfl, _⟩
  ·exact absurd g g'
  ·exact absurd hp' (hn a' b' ha' hb')
  ·exact ⟨rfl, rfl, rfl⟩
def RetPure (t : List (List Int)) (w : World) (e : Ending) (w' : World) : Prop := ∃ i k er, e = .returned (.tuple #[.int .i64 i, .int .i64 k, .int .i64 er]) ∧ PureR t i k er ∧ Ext w w'

set_option maxHeartbeats 1000000 in
theorem least_any (t : List (List Int)) (v : VldT t) (i : Nat) (hi : i < t.length) (D0 : Nat) (w : World) (hD : Dsk w D0 t) :
 Calls Try.prog 75 #[.pointer (some ⟨D0, 0, none⟩), .int .i64 i] w fun e w' => e = .returned (.int .i64 (leastR t i)) ∧ Ext w w' := by
 have m1 := v.m1; have m4 := v.m4; have n1 := v.n1; have n4 := v.n4
 obtain ⟨a, cap, hc, hT⟩ := hD
 obtain ⟨b, off, B, O, C, rfl, hb, hcc⟩ := hT.full (by omega) v.eq (by omega)
 obtain ⟨p0, p1, _⟩ := hcc i hi
 have hl := hid (v.eq i hi)
 have hq := hid (vld_fit v i)
 have hdef : Hid (leastR t i = mnTo (nth (row t i)) (row t i).length) := hid (by rw [hl.out]; rfl)
 clear hcc hT
 go_enter Try.func75, Try.ntmps75
 go_wp2_with fail
 refine (min_any _ _ (row t i) _ hl.out.symm _ p1 (by rw [hl.out]; omega) (by rw [hl.out]; omega) hq.out).mono ?_; rintro e w1 ⟨rfl, rfl⟩
 rw [← hdef.out]
 go_wp2_with fail
 go_ret
 exact ⟨rfl, Ext.refl _⟩

set_option maxHeartbeats 4000000 in
theorem pure_any (t : List (List Int)) (q : FitT t) (a : Option Addr) (cap : Nat) (w : World) (hT : Tab w a t) (hl : t.length ≤ 1000) (hw : ∀ i, (row t i).length ≤ 1000) :
 Calls Try.prog 31 #[(.agg #[.slice a t.length cap])] w (RetPure t w) := by
 have hT' := hid hT
 have hw' := hid hw
 by_cases g : chkT t = 0
 case neg =>
  have g1 : (chkT t != 0) = true := by simpa using g
  have hop := hid (fun W hW => open_no t q g a cap W hW hl hw'.out)
  have H := hid g
  clear g hT hw
  go_enter Try.func31, Try.ntmps31
  go_wp2_with fail
  refine (hop.out _ (hT'.out.ext (by repeat (with_reducible first | assumption | exact Ext.refl _ | refine Ext.drew ?_ | refine Ext.drewN ?_ _ | refine Ext.alloc ?_ _ | refine xS ?_ _ | refine xT ?_ (by assumption))))).mono ?_; rintro e w1 ⟨rfl, hE⟩
  go_wp2_with fail
  go_ret3
  exact ⟨0, 0, chkT t, rfl, .inl ⟨H.out, rfl, rfl, rfl⟩, (by repeat (with_reducible first | assumption | exact Ext.refl _ | refine Ext.drew ?_ | refine Ext.drewN ?_ _ | refine Ext.alloc ?_ _ | refine xS ?_ _ | refine xT ?_ (by assumption)))⟩
 case pos =>
  have v := chkT_ok.1 g
  have H := hid g
  have m1 := v.m1; have m4 := v.m4; have n1 := v.n1; have n4 := v.n4
  obtain ⟨b, off, B, O, C, rfl, hb, hcc⟩ := hT.full (by omega) v.eq (by omega)
  have HC := hid hcc
  have hop := hid (fun W hW => open_yes t v (some ⟨b, off, none⟩) cap W hW)
  have hle := hid (fun i (hi : i < t.length) D0 W hW => least_any t v i hi D0 W hW)
  have hle2 := hid (fun i (hi : i < wid t) D0 W hW => least_any (turn t) (turn_vld v) i (by rw [turn_len]; exact hi) D0 W hW)
  have hiff := hid (fun i k hi hk => pureB_iff v (i := i) (k := k) hi hk)
  have hb1 := hid (fun i => leastR_bd v i)
  clear hcc hT g hw
  go_enter Try.func31, Try.ntmps31
  go_wp2_with fail
  refine (hop.out _ (hT'.out.ext (by repeat (with_reducible first | assumption | exact Ext.refl _ | refine Ext.drew ?_ | refine Ext.drewN ?_ _ | refine Ext.alloc ?_ _ | refine xS ?_ _ | refine xT ?_ (by assumption))))).mono ?_; rintro e w1 ⟨D, E, rfl, hD, hD2, hE⟩
  have x1 : Ext w w1 := (by repeat (with_reducible first | assumption | exact Ext.refl _ | refine Ext.drew ?_ | refine Ext.drewN ?_ _ | refine Ext.alloc ?_ _ | refine xS ?_ _ | refine xT ?_ (by assumption)))
  have tc := hE.cell (p := ⟨w.heap.size, 0, none⟩) (v := .slice (some ⟨b, off, none⟩) t.length cap) (by simp [go_sem])
  replace hD := hid hD
  replace hD2 := hid hD2
  go_wp2_with fail
  go_loopw [24] (fun i wr => ∃ i0 : Nat, i0 ≤ t.length ∧ i = .int .i64 i0 ∧ Hid (∀ c d, c < i0 → d < wid t → ¬ PureB t c d) ∧ Ext w1 wr) (fun i _ => (t.length - intOf i).toNat)
  case atStart => exact ⟨0, by omega, rfl, fun c d h => absurd h (by omega), Ext.refl _⟩
  case round =>
   obtain ⟨i, hi, rfl, hn, hx⟩ := hrel
   by_cases hil : i < t.length
   ·obtain ⟨p0, _, p1⟩ := HC.out i hil
    have xw := x1.trans hx
    have p0 := xw.cell p0
    have HX := hid hx
    clear xw hx
    go_wp2_with fail
    go_loopw [31] (fun k wr => ∃ k0 : Nat, k0 ≤ wid t ∧ k = .int .i64 k0 ∧ Hid (∀ d, d < k0 → ¬ PureB t i d) ∧ Ext w1 wr) (fun k _ => (wid t - intOf k).toNat)
    case atStart => exact ⟨0, by omega, rfl, fun d h => absurd h (by omega), HX.out⟩
    case round =>
     obtain ⟨k, hk, rfl, hd, hv⟩ := hrel
     by_cases hkl : k < wid t
     ·have xw := x1.trans hv
      have e1 := xw.cell (p1 k hkl)
      have hB := hid (hiff.out i k hil hkl)
      have bl := v.lo i k
      have bh := v.hi i k
      have HV := hid hv
      clear xw hv
      obtain ⟨x, hx⟩ : ∃ x, ent t i k = x := ⟨_, rfl⟩
      rw [hx] at e1 hB bl bh
      replace hx := hid hx
      have z1 := Go.IntWalk.i64_in (-x) (by omega)
      by_cases gA : x = leastR t i
      ·have gA1 : (x == leastR t i) = true := by simpa using gA
       by_cases gB : -x = leastR (turn t) k
       ·have hyes := hid (hB.out.2 ⟨gA, gB⟩)
        have gB1 : (-x == leastR (turn t) k) = true := by simpa using gB
        replace gA := hid gA
        replace gB := hid gB
        go_wp2_with fail
        refine (hle.out i hil D _ (hD.out.ext (by have := HV.out; exact (by repeat (with_reducible first | assumption | exact Ext.refl _ | refine Ext.drew ?_ | refine Ext.drewN ?_ _ | refine Ext.alloc ?_ _ | refine xS ?_ _ | refine xT ?_ (by assumption)))))).mono ?_; rintro e w2 ⟨rfl, hE2⟩
        rw [← gA.out]
        go_wp2_with fail
        refine (hle2.out k hkl E _ (hD2.out.ext (by have := HV.out; exact (by repeat (with_reducible first | assumption | exact Ext.refl _ | refine Ext.drew ?_ | refine Ext.drewN ?_ _ | refine Ext.alloc ?_ _ | refine xS ?_ _ | refine xT ?_ (by assumption)))))).mono ?_; rintro e w3 ⟨rfl, hE3⟩
        rw [← gB.out]
        go_wp2_with fail
        go_ret3
        exact ⟨i, k, 0, rfl, .inr (.inl ⟨H.out, rfl, i, k, rfl, rfl, hil, hkl, hyes.out, hn.out, hd.out⟩), by have := HV.out; exact (by repeat (with_reducible first | assumption | exact Ext.refl _ | refine Ext.drew ?_ | refine Ext.drewN ?_ _ | refine Ext.alloc ?_ _ | refine xS ?_ _ | refine xT ?_ (by assumption)))⟩
       ·have hno := hid (fun h => gB (hB.out.1 h).2)
        have gB1 : (-x == leastR (turn t) k) = false := by simpa using gB
        replace gA := hid gA
        replace gB := hid gB
        go_wp2_with fail
        refine (hle.out i hil D _ (hD.out.ext (by have := HV.out; exact (by repeat (with_reducible first | assumption | exact Ext.refl _ | refine Ext.drew ?_ | refine Ext.drewN ?_ _ | refine Ext.alloc ?_ _ | refine xS ?_ _ | refine xT ?_ (by assumption)))))).mono ?_; rintro e w2 ⟨rfl, hE2⟩
        rw [← gA.out]
        go_wp2_with fail
        refine (hle2.out k hkl E _ (hD2.out.ext (by have := HV.out; exact (by repeat (with_reducible first | assumption | exact Ext.refl _ | refine Ext.drew ?_ | refine Ext.drewN ?_ _ | refine Ext.alloc ?_ _ | refine xS ?_ _ | refine xT ?_ (by assumption)))))).mono ?_; rintro e w3 ⟨rfl, hE3⟩
        go_wp2_with fail
        go_roundw
        case rel => exact ⟨k + 1, by omega, by go_num, hid fun d hd' => by
         rcases Nat.lt_or_ge d k with h | h
         ·exact hd.out d h
         ·obtain rfl : d = k := by omega
          exact hno.out, by have := HV.out; exact (by repeat (with_reducible first | assumption | exact Ext.refl _ | refine Ext.drew ?_ | refine Ext.drewN ?_ _ | refine Ext.alloc ?_ _ | refine xS ?_ _ | refine xT ?_ (by assumption)))⟩
        case measure => simp [intOf]; omega
      ·have hno := hid (fun h => gA (hB.out.1 h).1)
       have gA1 : (x == leastR t i) = false := by simpa using gA
       replace gA := hid gA
       go_wp2_with fail
       refine (hle.out i hil D _ (hD.out.ext (by have := HV.out; exact (by repeat (with_reducible first | assumption | exact Ext.refl _ | refine Ext.drew ?_ | refine Ext.drewN ?_ _ | refine Ext.alloc ?_ _ | refine xS ?_ _ | refine xT ?_ (by assumption)))))).mono ?_; rintro e w2 ⟨rfl, hE2⟩
       go_wp2_with fail
       go_roundw
       case rel => exact ⟨k + 1, by omega, by go_num, hid fun d hd' => by
        rcases Nat.lt_or_ge d k with h | h
        ·exact hd.out d h
        ·obtain rfl : d = k := by omega
         exact hno.out, by have := HV.out; exact (by repeat (with_reducible first | assumption | exact Ext.refl _ | refine Ext.drew ?_ | refine Ext.drewN ?_ _ | refine Ext.alloc ?_ _ | refine xS ?_ _ | refine xT ?_ (by assumption)))⟩
       case measure => simp [intOf]; omega
     ·have HV := hid hv
      clear hv
      go_wp2_with fail
      go_roundw
      case rel => exact ⟨i + 1, by omega, by go_num, hid fun c d hc hd' => by
       rcases Nat.lt_or_ge c i with h | h
       ·exact hn.out c d h hd'
       ·obtain rfl : c = i := by omega
        exact hd.out d (by omega), HV.out⟩
      case measure => simp [intOf]; omega
   ·have HX := hid hx
    clear hx
    go_wp2_with fail
    go_ret3
    exact ⟨0, 0, 19, rfl, .inr (.inr ⟨H.out, rfl, rfl, rfl, fun c d hc hd' => hn.out c d (by omega) hd'⟩), by have := HX.out; exact (by repeat (with_reducible first | assumption | exact Ext.refl _ | refine Ext.drew ?_ | refine Ext.drewN ?_ _ | refine Ext.alloc ?_ _ | refine xS ?_ _ | refine xT ?_ (by assumption)))⟩

end Go.Proofs.Ytommhgcgaclflaa
namespace Go.Proofs.Ytommhgcgaclflaa
set_option linter.unusedVariables false
set_option linter.unusedSimpArgs false
set_option linter.unusedSectionVars false
set_option linter.unnecessarySimpa false
open Go Go.RowKit Game
set_option maxRecDepth 100000

def RetPB (t : List (List Int)) (i k : Nat) (w : World) (e : Ending) (w' : World) : Prop := ∃ b : Bool, e = .returned (.bool b) ∧ (b = true ↔ PureB t i k) ∧ Ext w w'

set_option maxHeartbeats 4000000 in
theorem isPure_any (t : List (List Int)) (v : VldT t) (a : Option Addr) (cap : Nat) (i k : Nat) (hi : i < t.length) (hk : k < wid t) (w : World) (hT : Tab w a t) :
 Calls Try.prog 46 #[(.agg #[.slice a t.length cap]), .int .i64 i, .int .i64 k] w (RetPB t i k w) := by
 have m1 := v.m1; have m4 := v.m4; have n1 := v.n1; have n4 := v.n4
 obtain ⟨b, off, B, O, C, rfl, hb, hcc⟩ := hT.full (by omega) v.eq (by omega)
 have HC := hid hcc
 obtain ⟨p0, _, p1⟩ := hcc i hi
 have pk := p1 k hk
 clear hcc hT
 obtain ⟨w0, hw0⟩ : ∃ w0, w0 = w.alloc (.cells #[.slice (some ⟨b, off, none⟩) t.length cap] 24) := ⟨_, rfl⟩
 have x0 : Ext w w0 := by rw [hw0]; exact (by repeat (with_reducible first | assumption | exact Ext.refl _ | refine Ext.drew ?_ | refine Ext.drewN ?_ _ | refine Ext.alloc ?_ _ | refine xS ?_ _ | refine xT ?_ (by assumption)))
 have tc : w0.cell? ⟨w.heap.size, 0, none⟩ = some (.slice (some ⟨b, off, none⟩) t.length cap) := by rw [hw0]; simp [go_sem]
 have e00 := (HC.out 0 (by omega)).1
 rw [Nat.add_zero] at e00
 have p0 := x0.cell p0
 have pk := x0.cell pk
 have e00 := x0.cell e00
 obtain ⟨x, hx⟩ : ∃ x, ent t i k = x := ⟨_, rfl⟩
 rw [hx] at pk
 have hxx := hid hx
 clear hx
 have TC := hid tc
 have P0 := hid p0
 have PK := hid pk
 have E00 := hid e00
 clear tc p0 pk e00
 go_enter Try.func46, Try.ntmps46
 go_wp2_with fail
 rw [← hw0]
 replace hw0 := hid hw0
 go_loopw [7] (fun j wr => ∃ j0 : Nat, j0 ≤ t.length ∧ j = .int .i64 j0 ∧ Hid (∀ c, c < j0 → ent t c k ≤ x) ∧ Ext w0 wr) (fun j _ => (t.length - intOf j).toNat)
 case atStart => exact ⟨0, by omega, rfl, fun c h => absurd h (by omega), Ext.refl _⟩
 case round =>
  obtain ⟨j, hj, rfl, hn, hv⟩ := hrel
  have tc := hv.cell TC.out
  have p0 := hv.cell P0.out
  have pk := hv.cell PK.out
  by_cases hjl : j < t.length
  ·obtain ⟨q0, _, q1⟩ := HC.out j hjl
   have q0 := hv.cell (x0.cell q0)
   have q1 := hv.cell (x0.cell (q1 k hk))
   have HV := hid hv
   clear hv
   obtain ⟨y, hy⟩ : ∃ y, ent t j k = y := ⟨_, rfl⟩
   rw [hy] at q1
   replace hy := hid hy
   by_cases hyx : x < y
   ·have hno : Hid (¬ PureB t i k) := hid fun h => by
     have := h.1 j hjl
     rw [hy.out, hxx.out] at this
     omega
    go_wp2_with fail
    go_quiet (fail)
    go_wp2_with fail
    go_ret
    exact ⟨false, rfl, ⟨fun h => (by cases h), fun h => absurd h hno.out⟩, by have := HV.out; exact (by repeat (with_reducible first | assumption | exact Ext.refl _ | refine Ext.drew ?_ | refine Ext.drewN ?_ _ | refine Ext.alloc ?_ _ | refine xS ?_ _ | refine xT ?_ (by assumption)))⟩
   ·go_wp2_with fail
    go_quiet (fail)
    go_wp2
    go_roundw
    case rel => exact ⟨j + 1, by omega, by go_num, hid fun c hc => by
     rcases Nat.lt_or_ge c j with h | h
     ·exact hn.out c h
     ·obtain rfl : c = j := by omega
      rw [hy.out]; omega, by have := HV.out; exact (by repeat (with_reducible first | assumption | exact Ext.refl _ | refine Ext.drew ?_ | refine Ext.drewN ?_ _ | refine Ext.alloc ?_ _ | refine xS ?_ _ | refine xT ?_ (by assumption)))⟩
    case measure => simp [intOf]; omega
  ·have HV := hid hv
   have hall := hid (fun c (hc : c < t.length) => hn.out c (by omega))
   clear hv p0 pk hn
   go_wp2_with fail
   clear hjl tc
   go_loopw [8] (fun j wr => ∃ j0 : Nat, j0 ≤ wid t ∧ j = .int .i64 j0 ∧ Hid (∀ c, c < j0 → x ≤ ent t i c) ∧ Ext w0 wr) (fun j _ => (wid t - intOf j).toNat)
   case atStart => exact ⟨0, by omega, rfl, fun c h => absurd h (by omega), HV.out⟩
   case round =>
    obtain ⟨l, hl, rfl, hn, hv⟩ := hrel
    have tc := hv.cell TC.out
    have p0 := hv.cell P0.out
    have pk := hv.cell PK.out
    have e00 := hv.cell E00.out
    by_cases hll : l < wid t
    ·have q1 := hv.cell (x0.cell (p1 l hll))
     have HV := hid hv
     clear hv
     obtain ⟨y, hy⟩ : ∃ y, ent t i l = y := ⟨_, rfl⟩
     rw [hy] at q1
     replace hy := hid hy
     by_cases hyx : y < x
     ·have hno : Hid (¬ PureB t i k) := hid fun h => by
       have := h.2 l hll
       rw [hy.out, hxx.out] at this
       omega
      go_wp2_with fail
      go_quiet (fail)
      go_wp2_with fail
      go_ret
      exact ⟨false, rfl, ⟨fun h => (by cases h), fun h => absurd h hno.out⟩, by have := HV.out; exact (by repeat (with_reducible first | assumption | exact Ext.refl _ | refine Ext.drew ?_ | refine Ext.drewN ?_ _ | refine Ext.alloc ?_ _ | refine xS ?_ _ | refine xT ?_ (by assumption)))⟩
     ·go_wp2_with fail
      go_quiet (fail)
      go_wp2
      go_roundw
      case rel => exact ⟨l + 1, by omega, by go_num, hid fun c hc => by
       rcases Nat.lt_or_ge c l with h | h
       ·exact hn.out c h
       ·obtain rfl : c = l := by omega
        rw [hy.out]; omega, by have := HV.out; exact (by repeat (with_reducible first | assumption | exact Ext.refl _ | refine Ext.drew ?_ | refine Ext.drewN ?_ _ | refine Ext.alloc ?_ _ | refine xS ?_ _ | refine xT ?_ (by assumption)))⟩
      case measure => simp [intOf]; omega
    ·have HV := hid hv
     have hyes : Hid (PureB t i k) := hid ⟨fun c hc => by rw [hxx.out]; exact hall.out c hc, fun c hc => by rw [hxx.out]; exact hn.out c (by omega)⟩
     clear hv
     go_wp2_with fail
     go_ret
     exact ⟨true, rfl, ⟨fun _ => hyes.out, fun _ => rfl⟩, by have := HV.out; exact (by repeat (with_reducible first | assumption | exact Ext.refl _ | refine Ext.drew ?_ | refine Ext.drewN ?_ _ | refine Ext.alloc ?_ _ | refine xS ?_ _ | refine xT ?_ (by assumption)))⟩

set_option maxHeartbeats 4000000 in
theorem pureR_any (t : List (List Int)) (q : FitT t) (a : Option Addr) (cap : Nat) (w : World) (hT : Tab w a t) (hl : t.length ≤ 1000) (hw : ∀ i, (row t i).length ≤ 1000) :
 Calls Try.prog 32 #[(.agg #[.slice a t.length cap])] w (RetPure t w) := by
 have hT' := hid hT
 have hw' := hid hw
 have hop := hid (fun W hW => checkTableR_any t q a cap W hW hl hw'.out)
 by_cases g : chkT t = 0
 case neg =>
  have g1 : (chkT t != 0) = true := by simpa using g
  have H := hid g
  clear g hT hw
  go_enter Try.func32, Try.ntmps32
  go_wp2_with fail
  refine (hop.out _ (hT'.out.ext (by repeat (with_reducible first | assumption | exact Ext.refl _ | refine Ext.drew ?_ | refine Ext.drewN ?_ _ | refine Ext.alloc ?_ _ | refine xS ?_ _ | refine xT ?_ (by assumption))))).mono ?_; rintro e w1 ⟨rfl, hE⟩
  have tc := hE.cell (p := ⟨w.heap.size, 0, none⟩) (v := .slice a t.length cap) (by simp [go_sem])
  go_wp2_with fail
  refine (hop.out _ (hT'.out.ext (by repeat (with_reducible first | assumption | exact Ext.refl _ | refine Ext.drew ?_ | refine Ext.drewN ?_ _ | refine Ext.alloc ?_ _ | refine xS ?_ _ | refine xT ?_ (by assumption))))).mono ?_; rintro e w2 ⟨rfl, hE2⟩
  go_wp2_with fail
  go_ret3
  exact ⟨0, 0, chkT t, rfl, .inl ⟨H.out, rfl, rfl, rfl⟩, (by repeat (with_reducible first | assumption | exact Ext.refl _ | refine Ext.drew ?_ | refine Ext.drewN ?_ _ | refine Ext.alloc ?_ _ | refine xS ?_ _ | refine xT ?_ (by assumption)))⟩
 case pos =>
  have v := chkT_ok.1 g
  have H := hid g
  have m1 := v.m1; have m4 := v.m4; have n1 := v.n1; have n4 := v.n4
  obtain ⟨b, off, B, O, C, rfl, hb, hcc⟩ := hT.full (by omega) v.eq (by omega)
  have e00 := (hcc 0 (by omega)).1
  rw [Nat.add_zero] at e00
  have E00 := hid e00
  have hip := hid (fun i k hi hk W hW => isPure_any t v (some ⟨b, off, none⟩) cap i k hi hk W hW)
  clear hcc hT g hw e00
  go_enter Try.func32, Try.ntmps32
  go_wp2_with fail
  refine (hop.out _ (hT'.out.ext (by repeat (with_reducible first | assumption | exact Ext.refl _ | refine Ext.drew ?_ | refine Ext.drewN ?_ _ | refine Ext.alloc ?_ _ | refine xS ?_ _ | refine xT ?_ (by assumption))))).mono ?_; rintro e w1 ⟨rfl, hE⟩
  rw [H.out]
  have x1 : Ext w w1 := (by repeat (with_reducible first | assumption | exact Ext.refl _ | refine Ext.drew ?_ | refine Ext.drewN ?_ _ | refine Ext.alloc ?_ _ | refine xS ?_ _ | refine xT ?_ (by assumption)))
  have TC := hid (hE.cell (p := ⟨w.heap.size, 0, none⟩) (v := .slice (some ⟨b, off, none⟩) t.length cap) (by simp [go_sem]))
  go_wp2_with fail
  go_loopw [5] (fun i wr => ∃ i0 : Nat, i0 ≤ t.length ∧ i = .int .i64 i0 ∧ Hid (∀ c d, c < i0 → d < wid t → ¬ PureB t c d) ∧ Ext w1 wr) (fun i _ => (t.length - intOf i).toNat)
  case atStart => exact ⟨0, by omega, rfl, fun c d h => absurd h (by omega), Ext.refl _⟩
  case round =>
   obtain ⟨i, hi, rfl, hn, hx⟩ := hrel
   have tc := hx.cell TC.out
   by_cases hil : i < t.length
   ·have HX := hid hx
    clear hx
    go_wp2_with fail
    go_loopw [6] (fun k wr => ∃ k0 : Nat, k0 ≤ wid t ∧ k = .int .i64 k0 ∧ Hid (∀ d, d < k0 → ¬ PureB t i d) ∧ Ext w1 wr) (fun k _ => (wid t - intOf k).toNat)
    case atStart => exact ⟨0, by omega, rfl, fun d h => absurd h (by omega), HX.out⟩
    case round =>
     obtain ⟨k, hk, rfl, hd, hv⟩ := hrel
     have tc := hv.cell TC.out
     have e00 := (x1.trans hv).cell E00.out
     by_cases hkl : k < wid t
     ·have HV := hid hv
      clear hv
      go_wp2_with fail
      refine (hip.out i k hil hkl _ (hT'.out.ext (by have := HV.out; exact (by repeat (with_reducible first | assumption | exact Ext.refl _ | refine Ext.drew ?_ | refine Ext.drewN ?_ _ | refine Ext.alloc ?_ _ | refine xS ?_ _ | refine xT ?_ (by assumption)))))).mono ?_; rintro e w2 ⟨bb, rfl, hbb, hE2⟩
      have hbb := hid hbb
      cases bb with
      | true =>
       go_wp2_with fail
       go_ret3
       exact ⟨i, k, 0, rfl, .inr (.inl ⟨H.out, rfl, i, k, rfl, rfl, hil, hkl, hbb.out.1 (by simp), hn.out, hd.out⟩), by have := HV.out; exact (by repeat (with_reducible first | assumption | exact Ext.refl _ | refine Ext.drew ?_ | refine Ext.drewN ?_ _ | refine Ext.alloc ?_ _ | refine xS ?_ _ | refine xT ?_ (by assumption)))⟩
      | false =>
       go_wp2_with fail
       go_roundw
       case rel => exact ⟨k + 1, by omega, by go_num, hid fun d hd' => by
        rcases Nat.lt_or_ge d k with h | h
        ·exact hd.out d h
        ·obtain rfl : d = k := by omega
         exact (fun hp => by have h5 := hbb.out.2 hp; simp at h5), by have := HV.out; exact (by repeat (with_reducible first | assumption | exact Ext.refl _ | refine Ext.drew ?_ | refine Ext.drewN ?_ _ | refine Ext.alloc ?_ _ | refine xS ?_ _ | refine xT ?_ (by assumption)))⟩
       case measure => simp [intOf]; omega
     ·have HV := hid hv
      clear hv
      go_wp2_with fail
      go_roundw
      case rel => exact ⟨i + 1, by omega, by go_num, hid fun c d hc hd' => by
       rcases Nat.lt_or_ge c i with h | h
       ·exact hn.out c d h hd'
       ·obtain rfl : c = i := by omega
        exact hd.out d (by omega), HV.out⟩
      case measure => simp [intOf]; omega
   ·have HX := hid hx
    clear hx
    go_wp2_with fail
    go_ret3
    exact ⟨0, 0, 19, rfl, .inr (.inr ⟨H.out, rfl, rfl, rfl, fun c d hc hd' => hn.out c d (by omega) hd'⟩), by have := HX.out; exact (by repeat (with_reducible first | assumption | exact Ext.refl _ | refine Ext.drew ?_ | refine Ext.drewN ?_ _ | refine Ext.alloc ?_ _ | refine xS ?_ _ | refine xT ?_ (by assumption)))⟩

end Go.Proofs.Ytommhgcgaclflaa
namespace Go.Proofs.Ytommhgcgaclflaa
set_option linter.unusedVariables false
set_option linter.unusedSimpArgs false
set_option linter.unusedSectionVars false
set_option linter.unnecessarySimpa false
open Go Go.RowKit Game
set_option maxRecDepth 100000

theorem elemInt : ElemI Try.prog 3 := elemI_mk (by kernel_rfl)
theorem app_int_full {P : Program} {w : World} {ops : Array Oper} {rest : List Oper} {o : Oper} {a : Act} {Q : Exit → Act → World → Prop} (hgd : o.guard = none) (s x : Operand) (t : TypeId)
 (ho : o.op = .call { callee := .builtin .append, args := #[s, x], argTypes := #[t, t] })
 (e : TypeId) (ht : P.underlying t = some (.slice e)) (he : ElemI P e) (l : List Int) (n : Nat) (hn : n = l.length) (y : Int) (ad : Option Addr) (hs : a.eval s = .slice ad n n) (b0 : Nat) (hx : a.eval x = .slice (some ⟨b0, 0, none⟩) 1 1)
 (hP : Ints w ad l) (hc : w.cell? ⟨b0, 0, none⟩ = some (.int .i64 y)) (hl : l.length ≤ 1099511627776)
 (h : ∀ cap g w', w.heap.size ≤ g → n + 1 ≤ cap → Ints w' (some ⟨g, 0, none⟩) (l ++ [y]) → Ext w w' →
  wpList P ops Q rest (a.put o.dst (.slice (some ⟨g, 0, none⟩) (n + 1) cap)) w') : wpList P ops Q (o :: rest) a w := by
 subst hn
 obtain ⟨i, hi, hz, hsz, hby⟩ := he
 refine wpList_plain hgd fun K hK => appFull_wp s x t ho e i (.int .i64 0) 1 8 ht hi hz hsz hby rfl ad l.length hs ?_ (l.map (Value.int .i64)) (by simp) ?_ _ 1 1 [.int .i64 y] hx rfl ?_ (by omega) (by unfold maxLen; omega) (by omega) fun cap w' ho' hE => ?_
 ·rcases Nat.eq_zero_or_pos l.length with h0 | h0
  ·exact .inl h0
  ·obtain ⟨b, off, hb, _⟩ := hP 0 h0
   exact .inr ⟨_, hb⟩
 ·intro j v hj
  simp only [List.getElem?_map, Option.map_eq_some_iff] at hj
  obtain ⟨z, hz, rfl⟩ := hj
  obtain ⟨hj, rfl⟩ := List.getElem?_eq_some_iff.1 hz
  obtain ⟨b, off, hb, h1⟩ := hP j hj
  refine ⟨_, hb, ?_⟩
  rw [nth_lt hj] at h1
  rw [← h1]
  unfold Addr.add
  split
  ·rename_i h0; subst h0; rfl
  ·rfl
 ·intro j u hj
  match j, hj with
  | 0, hj => simp at hj; subst hj; simpa [Addr.add] using hc
 ·have e1 : l.length + 1 = (l ++ [y]).length := by simp
  have e2 : l.map (Value.int .i64) ++ [Value.int .i64 y] = (l ++ [y]).map (Value.int .i64) := by simp
  rw [e1, e2] at ho'
  obtain ⟨a', c', hv, hI⟩ := OwnI.slice (show OwnI w' w.heap.size e _ (l ++ [y]) from ho')
  simp only [Value.slice.injEq] at hv
  have hcap : l.length + 1 ≤ cap := by
   rcases ho'.2 with ⟨e3, _⟩ | ⟨g, cap', cur, e3, _, _, hn, _⟩
   ·cases e3
   ·simp only [Value.slice.injEq] at e3
    rw [e3.2.2, e1]; exact hn
  exact hK _ _ (h cap w.heap.size w' (Nat.le_refl _) hcap (by rw [hv.1]; exact hI) hE)

def ansTo (f : Nat → Int) (mn : Int) : Nat → List Int
 | 0 => []
 | k + 1 => if f k = mn then ansTo f mn k ++ [(k : Int)] else ansTo f mn k
theorem ansTo_len (f : Nat → Int) (mn : Int) (k : Nat) : (ansTo f mn k).length ≤ k := by
 induction k with
 | zero => simp [ansTo]
 | succ k ih =>
  simp only [ansTo]
  split
  ·rw [List.length_append, List.length_singleton]; omega
  ·omega
def ansL (t : List (List Int)) (c : List Int) : List Int := ansTo (agn (turn t) c) (lst_ (turn t) c) t.length
def ansOf (t : List (List Int)) (c : List Int) : List Int := if boundE t c = 0 then ansL t c else []
def RetAns (t : List (List Int)) (c : List Int) (w : World) (e : Ending) (w' : World) : Prop :=
 ∃ a cap, e = .returned (.tuple #[.slice a (ansOf t c).length cap, .int .i64 (boundE t c)]) ∧ Ints w' a (ansOf t c) ∧ Ext w w'

set_option maxHeartbeats 4000000 in
theorem answers_any (t : List (List Int)) (q : FitT t) (a : Option Addr) (cap : Nat) (c : List Int) (hqc : ∀ i, I64 (nth c i)) (hc : c.length ≤ 1000) (a3 : Option Addr) (c3 : Nat) (w : World) (hT : Tab w a t) (hl : t.length ≤ 1000) (hw : ∀ i, (row t i).length ≤ 1000) (hJ : Ints w a3 c) :
 Calls Try.prog 33 #[(.agg #[.slice a t.length cap]), .slice a3 c.length c3] w (RetAns t c w) := by
 have hT' := hid hT
 have hJ' := hid hJ
 have hbo := hid (fun W hW hW2 => boundP_any t q a cap c hqc hc a3 c3 W hW hl hw hW2)
 by_cases g : boundE t c = 0
 case neg =>
  have g1 : (boundE t c != 0) = true := by simpa using g
  have H := hid (show ansOf t c = [] by unfold ansOf; rw [if_neg g])
  clear g hT hJ hw
  go_enter Try.func33, Try.ntmps33
  go_wp2_with fail
  refine (hbo.out _ (hT'.out.ext (by repeat (with_reducible first | assumption | exact Ext.refl _ | refine Ext.drew ?_ | refine Ext.drewN ?_ _ | refine Ext.alloc ?_ _ | refine xS ?_ _ | refine xT ?_ (by assumption)))) (hJ'.out.ext (by repeat (with_reducible first | assumption | exact Ext.refl _ | refine Ext.drew ?_ | refine Ext.drewN ?_ _ | refine Ext.alloc ?_ _ | refine xS ?_ _ | refine xT ?_ (by assumption))))).mono ?_; rintro e w1 ⟨rfl, hE⟩
  go_wp2_with fail
  go_ret2
  exact ⟨none, 0, by rw [H.out]; rfl, by rw [H.out]; exact Ints.nil _ _, (by repeat (with_reducible first | assumption | exact Ext.refl _ | refine Ext.drew ?_ | refine Ext.drewN ?_ _ | refine Ext.alloc ?_ _ | refine xS ?_ _ | refine xT ?_ (by assumption)))⟩
 case pos =>
  obtain ⟨v, vp⟩ := boundE_ok.1 g
  have H := hid (show ansOf t c = ansL t c by unfold ansOf; rw [if_pos g])
  have G := hid g
  have m1 := v.m1; have m4 := v.m4; have n1 := v.n1; have n4 := v.n4
  have hop := hid (fun W hW => open_yes t v a cap W hW)
  have hlen : c.length = (turn t).length := by rw [turn_len]; exact vp.len
  have hag := hid (fun D0 W hW hW2 => against_any (turn t) (turn_vld v) c (fun i => ⟨vp.nn i, vp.le i⟩) hlen D0 a3 c3 W hW hW2)
  have hbd := fun k => accF_bd (turn_vld v) (p := c) (fun i => ⟨vp.nn i, vp.le i⟩) k c.length
  have hwt : wid (turn t) = t.length := turn_wid (by omega)
  have hacc := fun k (hk : k < t.length) => accF_end (t := turn t) (p := c) (k := k) (by rw [hwt]; exact hk)
  have hc4 : c.length ≤ 4 := by rw [hlen, turn_len]; exact n4
  have hbd4 : ∀ k, -40000000000 ≤ accF (turn t) c c.length k ∧ accF (turn t) c c.length k ≤ 40000000000 := fun k => by
   have := hbd k; omega
  obtain ⟨f, hf⟩ : ∃ f : Nat → Int, f = accF (turn t) c c.length := ⟨_, rfl⟩
  rw [← hf] at hag hacc hbd4
  have hmn : mnTo f t.length = lst_ (turn t) c := by unfold lst_; rw [hwt]; exact mnTo_congr (by omega) hacc
  have hans : Hid (ansL t c = ansTo f (mnTo f t.length) t.length) := hid (by
   unfold ansL
   rw [hmn]
   have : ∀ k, k ≤ t.length → ansTo (agn (turn t) c) (lst_ (turn t) c) k = ansTo f (lst_ (turn t) c) k := by
    intro k
    induction k with
    | zero => intro _; rfl
    | succ k ih => intro hk; simp only [ansTo]; rw [ih (by omega), hacc k (by omega)]
   exact this _ (Nat.le_refl _))
  clear hbd hwt hacc hlen hmn hf hw hT hJ g
  have hls : ∀ k, k < t.length → nth ([f 0, f 1, f 2, f 3].take t.length) k = f k := fun k hk => by
   have : k = 0 ∨ k = 1 ∨ k = 2 ∨ k = 3 := by omega
   simp only [nth, List.getD_eq_getElem?_getD, List.getElem?_take, hk, if_true]
   rcases this with rfl | rfl | rfl | rfl <;> simp
  have hln : ([f 0, f 1, f 2, f 3].take t.length).length = t.length := by simp; omega
  have hlb : ∀ k, I64 (nth ([f 0, f 1, f 2, f 3].take t.length) k) := fun k => by
   by_cases hk : k < t.length
   ·rw [hls k hk]; have := hbd4 k; exact ⟨by omega, by omega⟩
   ·rw [nth_ge (by omega)]; exact ⟨by omega, by omega⟩
  rw [← mnTo_congr (f := nth ([f 0, f 1, f 2, f 3].take t.length)) (by omega) hls] at hans
  generalize hll : [f 0, f 1, f 2, f 3].take t.length = ll at *
  replace hll := hid hll
  replace hln := hid hln
  replace hlb := hid hlb
  replace hls := hid hls
  replace hbd4 := hid hbd4
  go_enter Try.func33, Try.ntmps33
  go_wp2_with fail
  refine (hbo.out _ (hT'.out.ext (by repeat (with_reducible first | assumption | exact Ext.refl _ | refine Ext.drew ?_ | refine Ext.drewN ?_ _ | refine Ext.alloc ?_ _ | refine xS ?_ _ | refine xT ?_ (by assumption)))) (hJ'.out.ext (by repeat (with_reducible first | assumption | exact Ext.refl _ | refine Ext.drew ?_ | refine Ext.drewN ?_ _ | refine Ext.alloc ?_ _ | refine xS ?_ _ | refine xT ?_ (by assumption))))).mono ?_; rintro e w1 ⟨rfl, hE⟩
  rw [G.out]
  have x1 : Ext w w1 := (by repeat (with_reducible first | assumption | exact Ext.refl _ | refine Ext.drew ?_ | refine Ext.drewN ?_ _ | refine Ext.alloc ?_ _ | refine xS ?_ _ | refine xT ?_ (by assumption)))
  have tc := hE.cell (p := ⟨w.heap.size, 0, none⟩) (v := .slice a t.length cap) (by simp [go_sem])
  have tl := cell_lt tc
  simp only at tl
  go_wp2_with fail
  refine (hop.out _ (hT'.out.ext (by repeat (with_reducible first | assumption | exact Ext.refl _ | refine Ext.drew ?_ | refine Ext.drewN ?_ _ | refine Ext.alloc ?_ _ | refine xS ?_ _ | refine xT ?_ (by assumption))))).mono ?_; rintro e w2 ⟨D, E, rfl, hD, hD2, hE2⟩
  clear hD
  have x2 : Ext w1 w2 := (by repeat (with_reducible first | assumption | exact Ext.refl _ | refine Ext.drew ?_ | refine Ext.drewN ?_ _ | refine Ext.alloc ?_ _ | refine xS ?_ _ | refine xT ?_ (by assumption)))
  have tc := x2.cell tc
  go_wp2_with fail
  refine (hag.out E _ hD2 (hJ'.out.ext (by repeat (with_reducible first | assumption | exact Ext.refl _ | refine Ext.drew ?_ | refine Ext.drewN ?_ _ | refine Ext.alloc ?_ _ | refine xS ?_ _ | refine xT ?_ (by assumption))))).mono ?_; rintro e w3 ⟨rfl, hE3⟩
  have tc := hE3.cell tc
  have tl := cell_lt tc
  simp only at tl
  have i1 : (0 : Int) ≤ (t.length : Int) := by omega
  have i2 : (t.length : Int) ≤ 4 := by omega
  have i3 : ¬ (t.length : Int) < 0 := by omega
  have i4 : ¬ (4 : Int) < (t.length : Int) := by omega
  have hcells : ∀ k, k < 4 → (w3.alloc (.cells #[.int .i64 (f 0), .int .i64 (f 1), .int .i64 (f 2), .int .i64 (f 3)] 85)).cell? ⟨w3.heap.size, k, none⟩ = some (.int .i64 (f k)) := fun k hk => by
   have : k = 0 ∨ k = 1 ∨ k = 2 ∨ k = 3 := by omega
   rcases this with rfl | rfl | rfl | rfl <;> simp [go_sem]
  have hIll : Hid (Ints (w3.alloc (.cells #[.int .i64 (f 0), .int .i64 (f 1), .int .i64 (f 2), .int .i64 (f 3)] 85)) (some ⟨w3.heap.size, 0, none⟩) ll) := hid (by
   intro k hk
   refine ⟨_, _, rfl, ?_⟩
   rw [hln.out] at hk
   rw [Nat.zero_add, hcells k (by omega), hls.out k hk])
  replace hcells := hid hcells
  go_wp2_with fail
  refine (min_any (some ⟨w3.heap.size, 0, none⟩) _ ll _ hln.out.symm _ hIll.out (by rw [hln.out]; omega) (by rw [hln.out]; omega) hlb.out).mono ?_; rintro e w4 ⟨rfl, rfl⟩
  rw [hln.out]
  obtain ⟨mn, hmn⟩ : ∃ mn, mnTo (nth ll) t.length = mn := ⟨_, rfl⟩
  rw [hmn] at hans ⊢
  replace hmn := hid hmn
  obtain ⟨w5, hw5⟩ : ∃ w5, w5 = w3.alloc (.cells #[.int .i64 (f 0), .int .i64 (f 1), .int .i64 (f 2), .int .i64 (f 3)] 85) := ⟨_, rfl⟩
  have tc5 : w5.cell? ⟨w.heap.size, 0, none⟩ = some (.slice a t.length cap) := by rw [hw5]; exact (show Ext w3 _ from (by repeat (with_reducible first | assumption | exact Ext.refl _ | refine Ext.drew ?_ | refine Ext.drewN ?_ _ | refine Ext.alloc ?_ _ | refine xS ?_ _ | refine xT ?_ (by assumption)))).cell tc
  have x5 : Ext w w5 := by rw [hw5]; exact (by repeat (with_reducible first | assumption | exact Ext.refl _ | refine Ext.drew ?_ | refine Ext.drewN ?_ _ | refine Ext.alloc ?_ _ | refine xS ?_ _ | refine xT ?_ (by assumption)))
  have hcells5 : Hid (∀ k, k < 4 → w5.cell? ⟨w3.heap.size, k, none⟩ = some (.int .i64 (f k))) := hid (by rw [hw5]; exact hcells.out)
  rw [← hw5]
  replace hw5 := hid hw5
  clear tc tl hcells hIll
  go_wp2_with fail
  go_loopw [13, 41] (fun s i wr => ∃ (k : Nat) (aa : Option Addr) (cc : Nat), k ≤ t.length ∧ i = .int .i64 k ∧ s = .slice aa (ansTo f mn k).length cc ∧ (ansTo f mn k).length ≤ cc ∧ Ints wr aa (ansTo f mn k) ∧ Ext w5 wr) (fun _ i _ => (t.length - intOf i).toNat)
  case atStart => exact ⟨0, none, 0, by omega, rfl, rfl, Nat.le_refl _, Ints.nil _ _, Ext.refl _⟩
  case round =>
   obtain ⟨k, aa, cc, hk, rfl, rfl, hcc, hI, hv⟩ := hrel
   by_cases hkl : k < t.length
   ·have e1 := hv.cell (hcells5.out k (by omega))
    have hlk := ansTo_len f mn k
    by_cases hy : f k = mn
    ·have hst := hid (show ansTo f mn (k + 1) = ansTo f mn k ++ [(k : Int)] by simp [ansTo, hy])
     rw [hy] at e1
     have he1 : (mn == mn) = true := by simp
     have hlen2 := hid (show (ansTo f mn (k + 1)).length = (ansTo f mn k).length + 1 by rw [hst.out]; simp)
     generalize ansTo f mn k = l at *
     have j1 : (0 : Int) ≤ (l.length : Int) := by omega
     have j2 : (l.length : Int) ≤ (cc : Int) := by omega
     replace hy := hid hy
     have HV := hid hv
     clear hv
     go_wp2_with (at_builtin; refine app_int_full rfl _ _ _ rfl 3 Try.underlying42 elemInt l l.length rfl (k : Int) aa rfl _ rfl (hI.ext (by repeat (with_reducible first | assumption | exact Ext.refl _ | refine Ext.drew ?_ | refine Ext.drewN ?_ _ | refine Ext.alloc ?_ _ | refine xS ?_ _ | refine xT ?_ (by assumption)))) ?c1 ?c2 ?_; (case c1 => simp [go_sem]); (case c2 => omega); intro cp9 g9 w9 hg9 hcp9 own9 ext9)
     go_roundw
     case rel => exact ⟨k + 1, some ⟨g9, 0, none⟩, cp9, by omega, by go_num, by rw [hlen2.out], by rw [hlen2.out]; exact hcp9, by rw [hst.out]; exact own9, by have := HV.out; exact (by repeat (with_reducible first | assumption | exact Ext.refl _ | refine Ext.drew ?_ | refine Ext.drewN ?_ _ | refine Ext.alloc ?_ _ | refine xS ?_ _ | refine xT ?_ (by assumption)))⟩
     case measure => simp [intOf]; omega
    ·have hst := hid (show ansTo f mn (k + 1) = ansTo f mn k by simp [ansTo, hy])
     have he1 : (f k == mn) = false := by simpa using hy
     go_wp2_with fail
     go_roundw
     case rel => exact ⟨k + 1, aa, cc, by omega, by go_num, by rw [hst.out], by rw [hst.out]; exact hcc, by rw [hst.out]; exact hI, (by repeat (with_reducible first | assumption | exact Ext.refl _ | refine Ext.drew ?_ | refine Ext.drewN ?_ _ | refine Ext.alloc ?_ _ | refine xS ?_ _ | refine xT ?_ (by assumption)))⟩
     case measure => simp [intOf]; omega
   ·obtain rfl : k = t.length := by omega
    have HV := hid hv
    have hfin := hid (show Ints wr aa (ansOf t c) by rw [H.out, hans.out]; exact hI)
    have hlen := hid (show (ansOf t c).length = (ansTo f mn t.length).length by rw [H.out, hans.out])
    clear hv hI
    go_wp2_with fail
    go_ret2
    exact ⟨aa, cc, by rw [hlen.out, G.out]; rfl, hfin.out, by have := HV.out; exact (by repeat (with_reducible first | assumption | exact Ext.refl _ | refine Ext.drew ?_ | refine Ext.drewN ?_ _ | refine Ext.alloc ?_ _ | refine xS ?_ _ | refine xT ?_ (by assumption)))⟩

end Go.Proofs.Ytommhgcgaclflaa
namespace Go.Proofs.Ytommhgcgaclflaa
set_option linter.unusedVariables false
set_option linter.unusedSimpArgs false
set_option linter.unusedSectionVars false
set_option linter.unnecessarySimpa false
open Go Go.RowKit Game
set_option maxRecDepth 100000

set_option maxHeartbeats 4000000 in
theorem answersR_any (t : List (List Int)) (q : FitT t) (a : Option Addr) (cap : Nat) (c : List Int) (hqc : ∀ i, I64 (nth c i)) (hc : c.length ≤ 1000) (a3 : Option Addr) (c3 : Nat) (w : World) (hT : Tab w a t) (hl : t.length ≤ 1000) (hw : ∀ i, (row t i).length ≤ 1000) (hJ : Ints w a3 c) :
 Calls Try.prog 34 #[(.agg #[.slice a t.length cap]), .slice a3 c.length c3] w (RetAns t c w) := by
 have hT' := hid hT
 have hJ' := hid hJ
 have hbo := hid (fun W hW hW2 => boundR_any t q a cap c hqc hc a3 c3 W hW hl hw hW2)
 by_cases g : boundE t c = 0
 case neg =>
  have g1 : (boundE t c != 0) = true := by simpa using g
  have H := hid (show ansOf t c = [] by unfold ansOf; rw [if_neg g])
  clear g hT hJ hw
  go_enter Try.func34, Try.ntmps34
  go_wp2_with fail
  refine (hbo.out _ (hT'.out.ext (by repeat (with_reducible first | assumption | exact Ext.refl _ | refine Ext.drew ?_ | refine Ext.drewN ?_ _ | refine Ext.alloc ?_ _ | refine xS ?_ _ | refine xT ?_ (by assumption)))) (hJ'.out.ext (by repeat (with_reducible first | assumption | exact Ext.refl _ | refine Ext.drew ?_ | refine Ext.drewN ?_ _ | refine Ext.alloc ?_ _ | refine xS ?_ _ | refine xT ?_ (by assumption))))).mono ?_; rintro e w1 ⟨rfl, hE⟩
  go_wp2_with fail
  go_ret2
  exact ⟨none, 0, by rw [H.out]; rfl, by rw [H.out]; exact Ints.nil _ _, (by repeat (with_reducible first | assumption | exact Ext.refl _ | refine Ext.drew ?_ | refine Ext.drewN ?_ _ | refine Ext.alloc ?_ _ | refine xS ?_ _ | refine xT ?_ (by assumption)))⟩
 case pos =>
  obtain ⟨v, vp⟩ := boundE_ok.1 g
  have H := hid (show ansOf t c = ansL t c by unfold ansOf; rw [if_pos g])
  have G := hid g
  have m1 := v.m1; have m4 := v.m4; have n1 := v.n1; have n4 := v.n4
  have htu := hid (fun W hW => turnedR_any t v a cap W hW)
  have hlen : c.length = (turn t).length := by rw [turn_len]; exact vp.len
  have hag := hid (fun aa cc W hW hW2 => againstR_any (turn t) (turn_vld v) c (fun i => ⟨vp.nn i, vp.le i⟩) hlen aa cc a3 c3 W hW hW2)
  have hwt : wid (turn t) = t.length := turn_wid (by omega)
  have hll : (agL (turn t) c).length = t.length := by unfold agL; rw [mkL_len, hwt]
  have hnt := fun k (hk : k < t.length) => agL_nth (t := turn t) (p := c) (k := k) (by rw [hwt]; exact hk)
  have hmn := lst_agL (t := turn t) (by rw [hwt]; omega) c
  have hans : Hid (ansL t c = ansTo (nth (agL (turn t) c)) (mnTo (nth (agL (turn t) c)) (agL (turn t) c).length) t.length) := hid (by
   unfold ansL
   rw [hmn]
   have : ∀ k, k ≤ t.length → ansTo (agn (turn t) c) (lst_ (turn t) c) k = ansTo (nth (agL (turn t) c)) (lst_ (turn t) c) k := by
    intro k
    induction k with
    | zero => intro _; rfl
    | succ k ih => intro hk; simp only [ansTo]; rw [ih (by omega), hnt k (by omega)]
   exact this _ (Nat.le_refl _))
  clear hwt hlen hnt hmn hw hT hJ g
  generalize agL (turn t) c = l at *
  have hl0 : 0 < l.length := by omega
  have hl4 : l.length ≤ 4 := by omega
  rw [← hll] at hans
  replace hll := hid hll
  go_enter Try.func34, Try.ntmps34
  go_wp2_with fail
  refine (hbo.out _ (hT'.out.ext (by repeat (with_reducible first | assumption | exact Ext.refl _ | refine Ext.drew ?_ | refine Ext.drewN ?_ _ | refine Ext.alloc ?_ _ | refine xS ?_ _ | refine xT ?_ (by assumption)))) (hJ'.out.ext (by repeat (with_reducible first | assumption | exact Ext.refl _ | refine Ext.drew ?_ | refine Ext.drewN ?_ _ | refine Ext.alloc ?_ _ | refine xS ?_ _ | refine xT ?_ (by assumption))))).mono ?_; rintro e w1 ⟨rfl, hE⟩
  rw [G.out]
  have x1 : Ext w w1 := (by repeat (with_reducible first | assumption | exact Ext.refl _ | refine Ext.drew ?_ | refine Ext.drewN ?_ _ | refine Ext.alloc ?_ _ | refine xS ?_ _ | refine xT ?_ (by assumption)))
  have tc := hE.cell (p := ⟨w.heap.size, 0, none⟩) (v := .slice a t.length cap) (by simp [go_sem])
  have tl := cell_lt tc
  simp only at tl
  go_wp2_with fail
  refine (htu.out _ (hT'.out.ext (by repeat (with_reducible first | assumption | exact Ext.refl _ | refine Ext.drew ?_ | refine Ext.drewN ?_ _ | refine Ext.alloc ?_ _ | refine xS ?_ _ | refine xT ?_ (by assumption))))).mono ?_; rintro e w2 ⟨aa, cc, rfl, hTT, hE2⟩
  go_wp2_with fail
  refine (hag.out aa cc _ hTT (hJ'.out.ext (by repeat (with_reducible first | assumption | exact Ext.refl _ | refine Ext.drew ?_ | refine Ext.drewN ?_ _ | refine Ext.alloc ?_ _ | refine xS ?_ _ | refine xT ?_ (by assumption))))).mono ?_; rintro e w3 ⟨al, cl, rfl, hIl, hE3⟩
  have x3 : Ext w w3 := (by repeat (with_reducible first | assumption | exact Ext.refl _ | refine Ext.drew ?_ | refine Ext.drewN ?_ _ | refine Ext.alloc ?_ _ | refine xS ?_ _ | refine xT ?_ (by assumption)))
  obtain ⟨bl, ol, rfl, hbl, hlc⟩ := hIl.at hl0
  have q0 := hlc 0 hl0
  rw [Nat.add_zero] at q0
  have HL := hid hlc
  clear hlc hIl tc tl
  go_wp2_with fail
  go_loop [9, 10] (fun m i => ∃ k : Nat, k ≤ l.length ∧ i = .int .i64 k ∧ m = .int .i64 (mnTo (nth l) k)) (fun _ i => (l.length - intOf i).toNat)
  case atStart => exact ⟨0, by omega, rfl, rfl⟩
  case round =>
   obtain ⟨k, hk, rfl, rfl⟩ := hrel
   by_cases hlt : k < l.length
   ·have z := HL.out k hlt
    have hst : Hid (mnTo (nth l) (k + 1) = min (mnTo (nth l) k) (nth l k)) := hid rfl
    generalize mnTo (nth l) k = m at *
    generalize nth l k = x at *
    go_wp2_with fail
    go_round
    case rel => exact ⟨k + 1, by omega, by go_num, by rw [hst.out, ← minIf]⟩
    case measure => simp [intOf]; omega
   ·obtain rfl : k = l.length := by omega
    obtain ⟨mn, hmn⟩ : ∃ mn, mnTo (nth l) l.length = mn := ⟨_, rfl⟩
    rw [hmn] at hans ⊢
    replace hmn := hid hmn
    go_wp2_with fail
    clear hlt
    go_loopw [11, 12] (fun s i wr => ∃ k : Nat, k ≤ l.length ∧ i = .int .i64 k ∧ OwnI wr w3.heap.size 3 s (ansTo (nth l) mn k) ∧ Ext w3 wr) (fun _ i _ => (l.length - intOf i).toNat)
    case atStart => exact ⟨0, by omega, rfl, OwnI.nil _ _ _, Ext.refl _⟩
    case round =>
     obtain ⟨k, hk, rfl, ho, hv⟩ := hrel
     by_cases hkl : k < l.length
     ·have e1 := hv.cell (HL.out k hkl)
      have hlk := ansTo_len (nth l) mn k
      have hV := hid hv
      by_cases hy : nth l k = mn
      ·have hst := hid (show ansTo (nth l) mn (k + 1) = ansTo (nth l) mn k ++ [(k : Int)] by simp [ansTo, hy])
       rw [hy] at e1
       have he1 : (mn == mn) = true := by simp
       obtain ⟨s0, hs0⟩ : ∃ s0, ansTo (nth l) mn k = s0 := ⟨_, rfl⟩
       rw [hs0] at ho hst hlk
       replace hs0 := hid hs0
       replace hy := hid hy
       have hsz := Ext.size hv
       clear hv
       go_wp2_with (at_builtin; refine app_int rfl _ _ _ rfl 3 Try.underlying42 elemInt w3.heap.size s0 (k : Int) _ rfl _ rfl (ho.ext (by repeat (with_reducible first | assumption | exact Ext.refl _ | refine Ext.drew ?_ | refine Ext.drewN ?_ _ | refine Ext.alloc ?_ _ | refine xS ?_ _ | refine xT ?_ (by assumption)))) ?c1 ?c2 ?c3 ?_; (case c1 => simp [go_sem]); (case c2 => omega); (case c3 => simp; omega); intro b9 cp9 w9 own9 ext9 hb9 g9)
       go_roundw
       case rel => exact ⟨k + 1, by omega, by go_num, by rw [hst.out]; have h := own9; simp only [List.length_append, List.length_singleton] at h; exact h, ext9 w3 (by have := hV.out; exact (by repeat (with_reducible first | assumption | exact Ext.refl _ | refine Ext.drew ?_ | refine Ext.drewN ?_ _ | refine Ext.alloc ?_ _ | refine xS ?_ _ | refine xT ?_ (by assumption)))) (Nat.le_refl _)⟩
       case measure => simp [intOf]; omega
      ·have hst := hid (show ansTo (nth l) mn (k + 1) = ansTo (nth l) mn k by simp [ansTo, hy])
       have he1 : (nth l k == mn) = false := by simpa using hy
       go_wp2_with fail
       go_roundw
       case rel => exact ⟨k + 1, by omega, by go_num, by rw [hst.out]; exact ho, (by repeat (with_reducible first | assumption | exact Ext.refl _ | refine Ext.drew ?_ | refine Ext.drewN ?_ _ | refine Ext.alloc ?_ _ | refine xS ?_ _ | refine xT ?_ (by assumption)))⟩
       case measure => simp [intOf]; omega
     ·obtain rfl : k = l.length := by omega
      have HV := hid hv
      obtain ⟨aa, cc, rfl, hI⟩ := ho.slice
      have hfin := hid (show Ints wr aa (ansOf t c) by rw [H.out, hans.out]; exact hI)
      have hlen := hid (show (ansOf t c).length = (ansTo (nth l) mn l.length).length by rw [H.out, hans.out])
      clear hv hI ho
      go_wp2_with fail
      go_ret2
      exact ⟨aa, cc, by rw [hlen.out, G.out]; rfl, hfin.out, by have := HV.out; exact (by repeat (with_reducible first | assumption | exact Ext.refl _ | refine Ext.drew ?_ | refine Ext.drewN ?_ _ | refine Ext.alloc ?_ _ | refine xS ?_ _ | refine xT ?_ (by assumption)))⟩

end Go.Proofs.Ytommhgcgaclflaa
namespace Go.Proofs.Ytommhgcgaclflaa
set_option linter.unusedVariables false
set_option linter.unusedSimpArgs false
set_option linter.unusedSectionVars false
set_option linter.unnecessarySimpa false
open Go Go.RowKit Game
set_option maxRecDepth 100000

def bitsTo (b : Nat) : Nat → List Int
 | 0 => []
 | k + 1 => if b.testBit k then bitsTo b k ++ [(k : Int)] else bitsTo b k
theorem bitsTo_len (b k : Nat) : (bitsTo b k).length ≤ k := by
 induction k with
 | zero => simp [bitsTo]
 | succ k ih =>
  simp only [bitsTo]
  split
  ·rw [List.length_append, List.length_singleton]; omega
  ·omega

theorem and_one : ∀ x : Nat, x < 16 → bits BinOp.and IntKind.i64 (x : Int) 1 = ((x % 2 : Nat) : Int) := by decide +kernel
theorem shr_nat (b k : Nat) : (b : Int) / 2 ^ k = ((b / 2 ^ k : Nat) : Int) := by
 rw [Int.natCast_ediv, Int.natCast_pow]; rfl
theorem testBit_mod (b k : Nat) : b.testBit k = decide (b / 2 ^ k % 2 = 1) := Nat.testBit_eq_decide_div_mod_eq
theorem bitsTo_lst : ∀ b, b < 16 → bitsTo b 4 = (lst b).map Int.ofNat := by decide +kernel
theorem bitsTo_end : ∀ b, b < 16 → ∀ k, k ≤ 4 → b / 2 ^ k = 0 → bitsTo b k = bitsTo b 4 := by decide +kernel
theorem div_pos_lt : ∀ b, b < 16 → ∀ k, k ≤ 4 → 0 < b / 2 ^ k → k < 4 := by decide +kernel

set_option maxHeartbeats 1000000 in
theorem listedR_any (b n : Nat) (hb : b < 16) (hn : n ≤ 4) (w : World) :
 Calls Try.prog 50 #[.int .i64 b, .int .i64 n] w (RetI (bitsTo b n) w) := by
 go_enter Try.func50, Try.ntmps50
 go_wp2_with fail
 go_loopw [5, 6] (fun s i wr => ∃ k : Nat, k ≤ n ∧ i = .int .i64 k ∧ OwnI wr w.heap.size 3 s (bitsTo b k) ∧ Ext w wr) (fun _ i _ => (n - intOf i).toNat)
 case atStart => exact ⟨0, by omega, rfl, OwnI.nil _ _ _, Ext.refl _⟩
 case round =>
  obtain ⟨k, hk, rfl, ho, hv⟩ := hrel
  by_cases hkl : k < n
  ·have hx := shr_nat b k
   have hx16 : b / 2 ^ k < 16 := Nat.lt_of_le_of_lt (Nat.div_le_self _ _) hb
   have hy := and_one _ hx16
   have ht := hid (testBit_mod b k)
   have hlk := bitsTo_len b k
   have hsz := Ext.size hv
   obtain ⟨x, hxx⟩ : ∃ x, b / 2 ^ k = x := ⟨_, rfl⟩
   rw [hxx] at hx hy hx16 ht
   by_cases h1 : x % 2 = 1
   ·have hst := hid (show bitsTo b (k + 1) = bitsTo b k ++ [(k : Int)] by simp only [bitsTo]; rw [ht.out, if_pos (by simpa using h1)])
    rw [h1] at hy
    replace h1 := hid h1
    obtain ⟨s0, hs0⟩ : ∃ s0, bitsTo b k = s0 := ⟨_, rfl⟩
    rw [hs0] at ho hst hlk
    replace hs0 := hid hs0
    replace hxx := hid hxx
    have hV := hid hv
    clear hv
    go_wp2_with (at_builtin; refine app_int rfl _ _ _ rfl 3 Try.underlying42 elemInt w.heap.size s0 (k : Int) _ rfl _ rfl (ho.ext (by repeat (with_reducible first | assumption | exact Ext.refl _ | refine Ext.drew ?_ | refine Ext.drewN ?_ _ | refine Ext.alloc ?_ _ | refine xS ?_ _ | refine xT ?_ (by assumption)))) ?c1 ?c2 ?c3 ?_; (case c1 => simp [go_sem]); (case c2 => omega); (case c3 => simp; omega); intro b9 cp9 w9 own9 ext9 hb9 g9)
    go_roundw
    case rel => exact ⟨k + 1, by omega, by go_num, by rw [hst.out]; have h := own9; simp only [List.length_append, List.length_singleton] at h; exact h, ext9 w (by have := hV.out; exact (by repeat (with_reducible first | assumption | exact Ext.refl _ | refine Ext.drew ?_ | refine Ext.drewN ?_ _ | refine Ext.alloc ?_ _ | refine xS ?_ _ | refine xT ?_ (by assumption)))) (Nat.le_refl _)⟩
    case measure => simp [intOf]; omega
   ·have hst := hid (show bitsTo b (k + 1) = bitsTo b k by simp only [bitsTo]; rw [ht.out, if_neg (by simpa using h1)])
    have h0 : x % 2 = 0 := by omega
    rw [h0] at hy
    replace h0 := hid h0
    replace h1 := hid h1
    replace hxx := hid hxx
    go_wp2_with fail
    go_roundw
    case rel => exact ⟨k + 1, by omega, by go_num, by rw [hst.out]; exact ho, (by repeat (with_reducible first | assumption | exact Ext.refl _ | refine Ext.drew ?_ | refine Ext.drewN ?_ _ | refine Ext.alloc ?_ _ | refine xS ?_ _ | refine xT ?_ (by assumption)))⟩
    case measure => simp [intOf]; omega
  ·obtain rfl : k = n := by omega
   obtain ⟨aa, cc, rfl, hI⟩ := ho.slice
   go_wp2_with fail
   go_ret
   exact ⟨aa, cc, rfl, hI, (by repeat (with_reducible first | assumption | exact Ext.refl _ | refine Ext.drew ?_ | refine Ext.drewN ?_ _ | refine Ext.alloc ?_ _ | refine xS ?_ _ | refine xT ?_ (by assumption)))⟩

set_option maxHeartbeats 1000000 in
theorem listed_own (b : Nat) (hb : b < 16) (w : World) :
 Calls Try.prog 102 #[.int .i64 b] w fun e w' => ∃ a cap, e = .returned (.slice a (bitsTo b 4).length cap) ∧ OwnI w' w.heap.size 3 (.slice a (bitsTo b 4).length cap) (bitsTo b 4) ∧ Ext w w' := by
 go_enter Try.func102, Try.ntmps102
 go_wp2_with fail
 go_loopw [3, 4] (fun s i wr => ∃ k : Nat, k ≤ 4 ∧ i = .int .i64 k ∧ OwnI wr w.heap.size 3 s (bitsTo b k) ∧ Ext w wr) (fun _ i _ => (4 - intOf i).toNat)
 case atStart => exact ⟨0, by omega, rfl, OwnI.nil _ _ _, Ext.refl _⟩
 case round =>
  obtain ⟨k, hk, rfl, ho, hv⟩ := hrel
  have hkk := hid (div_pos_lt b hb k hk)
  have hke := hid (bitsTo_end b hb k hk)
  have hx := shr_nat b k
  have hx16 : b / 2 ^ k < 16 := Nat.lt_of_le_of_lt (Nat.div_le_self _ _) hb
  have hy := and_one _ hx16
  have ht := hid (testBit_mod b k)
  have hlk := bitsTo_len b k
  have hsz := Ext.size hv
  obtain ⟨x, hxx⟩ : ∃ x, b / 2 ^ k = x := ⟨_, rfl⟩
  rw [hxx] at hx hy hx16 ht
  rw [hxx] at hkk hke
  by_cases hx0 : 0 < x
  ·have hkl : k < 4 := hkk.out hx0
   by_cases h1 : x % 2 = 1
   ·have hst := hid (show bitsTo b (k + 1) = bitsTo b k ++ [(k : Int)] by simp only [bitsTo]; rw [ht.out, if_pos (by simpa using h1)])
    rw [h1] at hy
    replace h1 := hid h1
    obtain ⟨s0, hs0⟩ : ∃ s0, bitsTo b k = s0 := ⟨_, rfl⟩
    rw [hs0] at ho hst hlk
    replace hs0 := hid hs0
    replace hxx := hid hxx
    have hV := hid hv
    clear hv
    go_wp2_with (at_builtin; refine app_int rfl _ _ _ rfl 3 Try.underlying42 elemInt w.heap.size s0 (k : Int) _ rfl _ rfl (ho.ext (by repeat (with_reducible first | assumption | exact Ext.refl _ | refine Ext.drew ?_ | refine Ext.drewN ?_ _ | refine Ext.alloc ?_ _ | refine xS ?_ _ | refine xT ?_ (by assumption)))) ?c1 ?c2 ?c3 ?_; (case c1 => simp [go_sem]); (case c2 => omega); (case c3 => simp; omega); intro b9 cp9 w9 own9 ext9 hb9 g9)
    go_roundw
    case rel => exact ⟨k + 1, by omega, by go_num, by rw [hst.out]; have h := own9; simp only [List.length_append, List.length_singleton] at h; exact h, ext9 w (by have := hV.out; exact (by repeat (with_reducible first | assumption | exact Ext.refl _ | refine Ext.drew ?_ | refine Ext.drewN ?_ _ | refine Ext.alloc ?_ _ | refine xS ?_ _ | refine xT ?_ (by assumption)))) (Nat.le_refl _)⟩
    case measure => simp [intOf]; omega
   ·have hst := hid (show bitsTo b (k + 1) = bitsTo b k by simp only [bitsTo]; rw [ht.out, if_neg (by simpa using h1)])
    have h0 : x % 2 = 0 := by omega
    rw [h0] at hy
    replace h0 := hid h0
    replace h1 := hid h1
    replace hxx := hid hxx
    go_wp2_with fail
    go_roundw
    case rel => exact ⟨k + 1, by omega, by go_num, by rw [hst.out]; exact ho, (by repeat (with_reducible first | assumption | exact Ext.refl _ | refine Ext.drew ?_ | refine Ext.drewN ?_ _ | refine Ext.alloc ?_ _ | refine xS ?_ _ | refine xT ?_ (by assumption)))⟩
    case measure => simp [intOf]; omega
  ·have hx00 : x = 0 := by omega
   rw [hke.out hx00] at ho
   obtain ⟨aa, cc, rfl, hI⟩ := ho.slice
   have hoo := hid ho
   replace hx00 := hid hx00
   replace hxx := hid hxx
   clear hy
   go_wp2_with fail
   go_ret
   exact ⟨aa, cc, by first | rfl | simp, hoo.out.ext (by repeat (with_reducible first | assumption | exact Ext.refl _ | refine Ext.drew ?_ | refine Ext.drewN ?_ _ | refine Ext.alloc ?_ _ | refine xS ?_ _ | refine xT ?_ (by assumption))), (by repeat (with_reducible first | assumption | exact Ext.refl _ | refine Ext.drew ?_ | refine Ext.drewN ?_ _ | refine Ext.alloc ?_ _ | refine xS ?_ _ | refine xT ?_ (by assumption)))⟩
theorem listed_any (b : Nat) (hb : b < 16) (w : World) :
 Calls Try.prog 102 #[.int .i64 b] w (RetI (bitsTo b 4) w) :=
 (listed_own b hb w).mono fun _ _ ⟨a, c, e, h, x⟩ => ⟨a, c, e, (by obtain ⟨a', c', e', hI⟩ := h.slice; cases e'; exact hI), x⟩

theorem all_bits : ∀ m, m ≤ 4 → (2 ^ m - 1 : Nat) < 16 := by decide
theorem shl_one : ∀ m : Nat, m ≤ 4 → wrap64 ((2 : Int) ^ m) = ((2 ^ m : Nat) : Int) := by decide +kernel
theorem shl_all : ∀ m : Nat, m ≤ 4 → wrap64 (((2 ^ m : Nat) : Int) - 1) = ((2 ^ m - 1 : Nat) : Int) := by decide +kernel
set_option maxHeartbeats 1000000 in
theorem all_any (m : Nat) (hm : m ≤ 4) (w : World) :
 Calls Try.prog 81 #[.int .i64 m] w (RetI (bitsTo (2 ^ m - 1) 4) w) := by
 have h1 := hid (listed_any (2 ^ m - 1) (all_bits m hm))
 have h2 := shl_one m hm
 have h3 := shl_all m hm
 obtain ⟨y, hy⟩ : ∃ y, (2 ^ m - 1 : Nat) = y := ⟨_, rfl⟩
 obtain ⟨z, hz⟩ : ∃ z, (2 ^ m : Nat) = z := ⟨_, rfl⟩
 rw [hy] at h1 h3 ⊢
 rw [hz] at h2 h3
 replace hy := hid hy
 replace hz := hid hz
 go_enter Try.func81, Try.ntmps81
 go_wp2_with fail
 refine (h1.out _).mono ?_; rintro e w1 ⟨aa, cc, rfl, hI, hE⟩
 go_wp2_with fail
 go_ret
 exact ⟨aa, cc, rfl, hI, (by repeat (with_reducible first | assumption | exact Ext.refl _ | refine Ext.drew ?_ | refine Ext.drewN ?_ _ | refine Ext.alloc ?_ _ | refine xS ?_ _ | refine xT ?_ (by assumption)))⟩

end Go.Proofs.Ytommhgcgaclflaa
