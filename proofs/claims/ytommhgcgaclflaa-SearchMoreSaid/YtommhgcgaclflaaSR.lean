/- The determinant of the definitions. -/
import Derived.Test.YtommhgcgaclflaaZB7
import Derived.Test.YtommhgcgaclflaaZB15
import Derived.Test.YtommhgcgaclflaaZB6
import Derived.Deep.Upon
namespace Go.Proofs.Ytommhgcgaclflaa
set_option linter.unusedVariables false
set_option linter.unusedSimpArgs false
set_option linter.unusedSectionVars false
set_option linter.unnecessarySimpa false
open Go Go.RowKit Game
set_option maxRecDepth 100000

theorem appNone_wp {P : Program} {w : World} {o : Oper} {a : Act} {K : Act → World → Prop} {Q : Exit → Act → World → Prop} (s x : Operand) (t : TypeId)
 (ho : o.op = .call { callee := .builtin .append, args := #[s, x], argTypes := #[t, t] })
 (e : TypeId) (ht : P.underlying t = some (.slice e)) (he : ElemI P e) (ad0 : Option Addr) (n c0 : Nat) (hs : a.eval s = .slice ad0 n c0) (hn : n ≤ c0) (ad : Option Addr) (c : Nat) (hx : a.eval x = .slice ad 0 c)
 (h : K (a.put o.dst (.slice ad0 n c0)) w) : o.wp P a w K Q := by
 obtain ⟨i, hi, hz, hsz, hby⟩ := he
 have hr : (Builtin.append_ #[t, t] o.type #[.slice ad0 n c0, .slice ad 0 c]).run P w = .ok (.slice ad0 n c0) w := by
  refine run_append_nothing w t t o.type e i ht hi ad0 n c0 hn _ ⟨.inl ⟨e, ht⟩, fun _ => rfl, ?_, ?_, by simp, by simp⟩
  ·cases ad <;> simp [Builtin.firstCells, loadCells, loadCellsFrom]
  ·cases ad <;> simp [Builtin.firstCells, loadCells, loadCellsFrom]
 unfold Oper.wp execOp
 simp only [ho, resolve, invoke, builtin, Sem.run_bind, Sem.run_pure, Result.andThen_ok, List.map_toArray, List.map_cons, List.map_nil, hs, hx, hr]
 exact h

theorem appK_wp {P : Program} {w : World} {o : Oper} {a : Act} {K : Act → World → Prop} {Q : Exit → Act → World → Prop} (s x : Operand) (t : TypeId)
 (ho : o.op = .call { callee := .builtin .append, args := #[s, x], argTypes := #[t, t] })
 (e : TypeId) (ht : P.underlying t = some (.slice e)) (he : ElemI P e) (base : Nat) (l k : List Int) (v : Value) (hs : a.eval s = v) (ad : Option Addr) (n c : Nat) (hx : a.eval x = .slice ad n c) (hn : n = k.length)
 (hown : OwnI w base e v l) (hc : Ints w ad k) (hl : l.length + k.length ≤ 1099511627776) (hbase : base ≤ w.heap.size)
 (h : ∀ a' cap w', OwnI w' base e (.slice a' (l.length + k.length) cap) (l ++ k) → (∀ w0, Ext w0 w → w0.heap.size ≤ base → Ext w0 w') →
  K (a.put o.dst (.slice a' (l.length + k.length) cap)) w') : o.wp P a w K Q := by
 subst hn
 cases k with
 | nil =>
  obtain ⟨a', cap, rfl, _⟩ := hown.slice
  have hc2 := hown.cap
  refine appNone_wp s x t ho e ht he a' l.length cap hs hc2.2 ad c hx ?_
  exact h a' cap w (by rw [List.append_nil]; exact hown) (fun w0 k0 _ => k0)
 | cons y k =>
  refine appI_wp s x t ho e ht he base l (y :: k) v hs ad c hx hown hc (by simp) hl hbase fun b cap w' h1 h2 _ => ?_
  rw [List.length_append] at h1 ⊢
  exact h _ cap w' h1 h2
theorem Ints.take {w : World} {a : Option Addr} {l : List Int} (h : Ints w a l) (k : Nat) : Ints w a (l.take k) := by
 intro i hi
 have hi2 : i < l.length ∧ i < k := by simp at hi; omega
 obtain ⟨b, off, e, hc⟩ := h i hi2.1
 refine ⟨b, off, e, ?_⟩
 rw [hc]
 simp [nth, List.getElem?_take, hi2.2]
theorem Ints.drop {w : World} {b off : Nat} {l : List Int} (h : Ints w (some ⟨b, off, none⟩) l) (k : Nat) : Ints w (some ⟨b, off + k, none⟩) (l.drop k) := by
 intro i hi
 have hi2 : k + i < l.length := by simp at hi; omega
 obtain ⟨b', off', e, hc⟩ := h (k + i) hi2
 cases e
 refine ⟨b, off + k, rfl, ?_⟩
 rw [Nat.add_assoc, hc]
 simp [nth, List.getElem?_drop]
def detTo (n : Nat) (t : List (List Int)) (k : Nat) : Int := sm k fun k => sgn k * ent t 0 k * detF n (cutTo t k n)

set_option maxHeartbeats 8000000 in
theorem determinant_any (n : Nat) : n ≤ 3 → ∀ (t : List (List Int)) (h : Sq n t) (a : Option Addr) (m cap : Nat) (hm : m = n) (w : World), Tab w a t →
 Calls Try.prog 117 #[.slice a m cap] w fun e w' => e = .returned (.int .i64 (detF n t)) ∧ Ext w w' := by
 induction n with
 | zero =>
  intro _ t h a m cap hm w hT
  subst hm
  go_enter Try.func117, Try.ntmps117
  go_wp2_with fail
  go_ret
  exact ⟨rfl, Ext.refl _⟩
 | succ n ih =>
  intro hn t h a m cap hm w hT
  subst hm
  have ih := hid (ih (by omega))
  have hbd := hid (fun k (hk : k < n + 1) => det_part h (det_bd n) hk)
  have hB : detB n ≤ 80000 ∧ 0 ≤ detB n := by
   have : n = 0 ∨ n = 1 ∨ n = 2 := by omega
   rcases this with rfl | rfl | rfl <;> simp [detB]
  have hfin : Hid (detF (n + 1) t = detTo n t (n + 1)) := hid rfl
  obtain ⟨b, off, B, O, C, rfl, hb, hcc⟩ := hT.fullC (by have := h.m; omega) (fun i hi => h.n i (by rw [← h.m]; exact hi)) (by omega)
  have HC := hid (fun i (hi : i < n + 1) => hcc i (by rw [h.m]; exact hi))
  have hsq := hid h
  clear hcc hT
  obtain ⟨N, hN⟩ : ∃ N, n + 1 = N := ⟨_, rfl⟩
  rw [hN] at HC hfin hbd hsq ⊢
  have hN1 : 1 ≤ N := by omega
  have hN3 : N ≤ 3 := by omega
  have e00 := (HC.out 0 (by omega)).1
  rw [Nat.add_zero] at e00
  have E00 := hid e00
  replace hN := hid hN
  have hN0 : 0 < N := by omega
  have hN00 : (0 : Int) < (N : Int) := by omega
  have hNe : ((N : Int) == 0) = false := by rw [beq_eq_false_iff_ne]; omega
  have hNf : ¬ (N : Int) = 0 := by omega
  clear e00 hn
  go_enter Try.func117, Try.ntmps117
  go_wp2_with fail
  go_loopw [3, 4, 5] (fun s sg i wr => ∃ k : Nat, k ≤ N ∧ i = .int .i64 k ∧ s = .int .i64 (detTo n t k) ∧ sg = .int .i64 (sgn k) ∧ Ext w wr) (fun _ _ i _ => (N - intOf i).toNat)
  case atStart => exact ⟨0, by omega, rfl, rfl, rfl, Ext.refl _⟩
  case round =>
   obtain ⟨k, hk, rfl, rfl, rfl, hw⟩ := hrel
   by_cases hkl : k < N
   ·have HW := hid hw
    obtain ⟨w1, rfl⟩ : ∃ w1 : World, w1 = wr := ⟨_, rfl⟩
    clear hw
    go_wp2_with fail
    go_loopw [6, 7] (fun r i wr => ∃ j : Nat, j ≤ n ∧ i = .int .i64 ((j : Int) + 1) ∧ Hid (OwnT wr w1.heap.size w1.heap.size 25 r (cutTo t k j)) ∧ Ext w1 wr) (fun _ i _ => (N - intOf i).toNat)
    case atStart => exact ⟨0, by omega, rfl, hid (OwnT.nil _ _ _ _), Ext.refl _⟩
    case round =>
     obtain ⟨j, hj, rfl, ho, hx⟩ := hrel
     by_cases hjl : j < n
     ·have hjN : j + 1 < N := by have := hN.out; omega
      obtain ⟨p0, p1, _, pcap⟩ := HC.out (j + 1) hjN
      have xw := HW.out.trans hx
      have p0 := xw.cell p0
      have p1 := hid (p1.ext xw)
      have hrl := hid (hsq.out.n (j + 1) hjN)
      have hst := hid (show cutTo t k (j + 1) = cutTo t k j ++ [cutR (row t (j + 1)) k] from rfl)
      have hct := hid (cutTo_len t k j)
      have hcut : Hid (cutR (row t (j + 1)) k = (row t (j + 1)).take k ++ (row t (j + 1)).drop (k + 1)) := hid rfl
      have hcl := hid (cutR_len (r := row t (j + 1)) (k := k) (n := n) (by rw [hrl.out, hN.out]) (by have := hN.out; omega))
      obtain ⟨r, hr⟩ : ∃ r, row t (j + 1) = r := ⟨_, rfl⟩
      rw [hr] at p1 hrl hst hcut hcl
      replace hr := hid hr
      have hsz := Ext.size hx
      have q1 : (j : Int) + 1 < (N : Int) := by omega
      have q2 : (0 : Int) ≤ (j : Int) + 1 := by omega
      have q3 : ((j : Int) + 1).toNat = j + 1 := by omega
      have q4 : (k : Int) ≤ (N : Int) := by omega
      have q5 : (k : Int) + 1 ≤ (N : Int) := by omega
      have q6 : (0 : Int) ≤ (k : Int) := by omega
      have q8 : (k : Int) ≤ (C (j + 1) : Int) := by omega
      have q9 : (N : Int) ≤ (C (j + 1) : Int) := by omega
      have qa : (0 : Int) ≤ (k : Int) + 1 := by omega
      have qb : ((k : Int) + 1).toNat = k + 1 := by omega
      have q7 := Go.IntWalk.i64_in ((k : Int) + 1) (by omega)
      obtain ⟨w2, rfl⟩ : ∃ w2 : World, w2 = wr := ⟨_, rfl⟩
      have HX := hid hx
      have o0 := HW.out.cell (HC.out (j + 1) hjN).1
      have hk1 : k ≤ r.length := by rw [hrl.out]; omega
      have l1 : Hid ((r.take k).length = k) := hid (by simp; omega)
      have l2 : Hid ((r.drop (k + 1)).length = N - (k + 1)) := hid (by simp [hrl.out])
      have l3 : Hid (k + (N - (k + 1)) = n) := hid (by have := hN.out; omega)
      go_wp2_with fail
      refine wp_region_held_drew (S := fun w' => w'.cell? ⟨b, off + (j + 1), none⟩ = some (.slice (some ⟨B (j + 1), O (j + 1), none⟩) N (C (j + 1))) ∧ Ext w1 w') (by kernel_rfl) ⟨(show Ext w1 w2.drew from (by repeat (with_reducible first | assumption | exact Ext.refl _ | refine Ext.drew ?_ | refine Ext.drewN ?_ _ | refine Ext.alloc ?_ _ | refine xS ?_ _ | refine xT ?_ (by assumption)))).cell o0, (by repeat (with_reducible first | assumption | exact Ext.refl _ | refine Ext.drew ?_ | refine Ext.drewN ?_ _ | refine Ext.alloc ?_ _ | refine xS ?_ _ | refine xT ?_ (by assumption)))⟩ fun hHeld => ?_
      refine tkA (i := 0) (v := ?_) rfl (fun _ _ _ h => h) (Or.inl ⟨by rfl, ?yl⟩) (by assumption) ?_
      case yl => (intro w hSw; (try dsimp only at hSw); (try obtain ⟨hSw, hSx⟩ := hSw); go_simp); with_reducible rfl
      try simp only [Act.put, List.setIfInBounds_toArray, List.set_cons_zero, List.set_cons_succ]
      refine tkA (i := 2) (v := ?_) rfl (fun _ _ _ h => h) (Or.inl ⟨by rfl, ?yl⟩) (by assumption) ?_
      case yl => (intro w hSw; (try dsimp only at hSw); (try obtain ⟨hSw, hSx⟩ := hSw); go_simp); with_reducible rfl
      try simp only [Act.put, List.setIfInBounds_toArray, List.set_cons_zero, List.set_cons_succ]
      refine tkA (i := 3) (v := ?_) rfl (fun _ _ _ h => h) (Or.inl ⟨by rfl, ?yl⟩) (by assumption) ?_
      case yl => (intro w hSw; (try dsimp only at hSw); (try obtain ⟨hSw, hSx⟩ := hSw); go_simp); with_reducible rfl
      try simp only [Act.put, List.setIfInBounds_toArray, List.set_cons_zero, List.set_cons_succ]
      refine tkA (i := 4) (v := ?_) rfl (fun _ _ _ h => h) (Or.inl ⟨by rfl, ?yl⟩) (by assumption) ?_
      case yl => (intro w hSw; (try dsimp only at hSw); (try obtain ⟨hSw, hSx⟩ := hSw); go_simp); with_reducible rfl
      try simp only [Act.put, List.setIfInBounds_toArray, List.set_cons_zero, List.set_cons_succ]
      refine tkA (i := 5) (v := ?_) rfl (fun _ _ _ h => h) (Or.inl ⟨by rfl, ?yl⟩) (by assumption) ?_
      case yl => (intro w hSw; (try dsimp only at hSw); (try obtain ⟨hSw, hSx⟩ := hSw); go_simp); with_reducible rfl
      try simp only [Act.put, List.setIfInBounds_toArray, List.set_cons_zero, List.set_cons_succ]
      refine tkA (i := 6) (v := ?_) rfl (fun _ _ _ h => h) (Or.inl ⟨by rfl, ?yl⟩) (by assumption) ?_
      case yl => (intro w hSw; (try dsimp only at hSw); (try obtain ⟨hSw, hSx⟩ := hSw); go_simp); with_reducible rfl
      try simp only [Act.put, List.setIfInBounds_toArray, List.set_cons_zero, List.set_cons_succ]
      refine tkA (i := 7) (v := ?_) rfl (fun _ _ _ h => h) (Or.inl ⟨by rfl, ?yl⟩) (by assumption) ?_
      case yl => (intro w hSw; (try dsimp only at hSw); (try obtain ⟨hSw, hSx⟩ := hSw); go_simp); with_reducible rfl
      try simp only [Act.put, List.setIfInBounds_toArray, List.set_cons_zero, List.set_cons_succ]
      refine tkA (i := 9) (v := ?_) rfl (fun _ _ _ h => h) (Or.inl ⟨by rfl, ?yl⟩) (by assumption) ?_
      case yl => (intro w hSw; (try dsimp only at hSw); (try obtain ⟨hSw, hSx⟩ := hSw); go_simp); with_reducible rfl
      try simp only [Act.put, List.setIfInBounds_toArray, List.set_cons_zero, List.set_cons_succ]
      refine tkA (i := 10) (v := ?_) rfl (fun _ _ _ h => h) (Or.inl ⟨by rfl, ?yl⟩) (by assumption) ?_
      case yl => (intro w hSw; (try dsimp only at hSw); (try obtain ⟨hSw, hSx⟩ := hSw); go_simp); with_reducible rfl
      try simp only [Act.put, List.setIfInBounds_toArray, List.set_cons_zero, List.set_cons_succ]
      refine tkA (i := 11) (v := ?_) rfl (fun _ _ _ h => h) (Or.inl ⟨by rfl, ?yl⟩) (by assumption) ?_
      case yl => (intro w hSw; (try dsimp only at hSw); (try obtain ⟨hSw, hSx⟩ := hSw); go_simp); with_reducible rfl
      try simp only [Act.put, List.setIfInBounds_toArray, List.set_cons_zero, List.set_cons_succ]
      refine tkA (i := 12) (v := ?_) rfl (fun _ _ _ h => h) (Or.inl ⟨by rfl, ?yl⟩) (by assumption) ?_
      case yl => (intro w hSw; (try dsimp only at hSw); (try obtain ⟨hSw, hSx⟩ := hSw); go_simp); with_reducible rfl
      try simp only [Act.put, List.setIfInBounds_toArray, List.set_cons_zero, List.set_cons_succ]
      refine tkA (i := 13) (v := ?_) rfl (fun _ _ _ h => h) (Or.inl ⟨by rfl, ?yl⟩) (by assumption) ?_
      case yl => (intro w hSw; (try dsimp only at hSw); (try obtain ⟨hSw, hSx⟩ := hSw); go_simp); with_reducible rfl
      try simp only [Act.put, List.setIfInBounds_toArray, List.set_cons_zero, List.set_cons_succ]
      refine tkA (i := 14) (v := ?_) rfl (fun _ _ _ h => h) (Or.inl ⟨by rfl, ?yl⟩) (by assumption) ?_
      case yl => (intro w hSw; (try dsimp only at hSw); (try obtain ⟨hSw, hSx⟩ := hSw); go_simp); with_reducible rfl
      try simp only [Act.put, List.setIfInBounds_toArray, List.set_cons_zero, List.set_cons_succ]
      refine tkA (i := 15) (v := ?_) rfl (fun _ _ _ h => h) (Or.inl ⟨by rfl, ?yl⟩) (by assumption) ?_
      case yl => (intro w hSw; (try dsimp only at hSw); (try obtain ⟨hSw, hSx⟩ := hSw); go_simp); with_reducible rfl
      try simp only [Act.put, List.setIfInBounds_toArray, List.set_cons_zero, List.set_cons_succ]
      refine wpAnyH_ready (rs := [1]) (by kernel_rfl) (by simp) ?_
      refine AllReadyH.cons (o := _) rfl (fun K hK => ?_) AllReadyH.nil
      go_simp
      refine hK.out _ _ ⟨(show Ext w1 _ from (by repeat (with_reducible first | assumption | exact Ext.refl _ | refine Ext.drew ?_ | refine Ext.drewN ?_ _ | refine Ext.alloc ?_ _ | refine xS ?_ _ | refine xT ?_ (by assumption)))).cell o0, (by repeat (with_reducible first | assumption | exact Ext.refl _ | refine Ext.drew ?_ | refine Ext.drewN ?_ _ | refine Ext.alloc ?_ _ | refine xS ?_ _ | refine xT ?_ (by assumption)))⟩ (fun hHeld => ?_)
      clear hK K
      refine wpAnyH_ready (rs := [8]) (by kernel_rfl) (by simp) ?_
      refine AllReadyH.cons (o := _) rfl (fun K hK => ?_) AllReadyH.nil
      rw [if_pos (by rfl)]
      refine appK_wp _ _ _ rfl 2 Try.underlying25 elemI64 w2.heap.size [] (r.take k) _ rfl _ _ _ rfl l1.out.symm ?ca ?cb ?cc ?cd ?_
      case ca => exact OwnI.ext (OwnI.made w2 (Nat.le_refl _) 2) (by repeat (with_reducible first | assumption | exact Ext.refl _ | refine Ext.drew ?_ | refine Ext.drewN ?_ _ | refine Ext.alloc ?_ _ | refine xS ?_ _ | refine xT ?_ (by assumption)))
      case cb => exact (p1.out.ext (by repeat (with_reducible first | assumption | exact Ext.refl _ | refine Ext.drew ?_ | refine Ext.drewN ?_ _ | refine Ext.alloc ?_ _ | refine xS ?_ _ | refine xT ?_ (by assumption)))).take k
      case cc => rw [l1.out]; simp; omega
      case cd => exact Ext.size (w := w2) (by repeat (with_reducible first | assumption | exact Ext.refl _ | refine Ext.drew ?_ | refine Ext.drewN ?_ _ | refine Ext.alloc ?_ _ | refine xS ?_ _ | refine xT ?_ (by assumption)))
      intro a3 cp3 w3 ho3 hx3
      have hE3 := hx3 w2 (by repeat (with_reducible first | assumption | exact Ext.refl _ | refine Ext.drew ?_ | refine Ext.drewN ?_ _ | refine Ext.alloc ?_ _ | refine xS ?_ _ | refine xT ?_ (by assumption))) (Nat.le_refl _)
      clear hx3
      rw [l1.out] at ho3 ⊢
      simp only [List.length_nil, Nat.zero_add, List.nil_append] at ho3 ⊢
      refine hK.out _ _ ⟨(show Ext w1 _ from (by repeat (with_reducible first | assumption | exact Ext.refl _ | refine Ext.drew ?_ | refine Ext.drewN ?_ _ | refine Ext.alloc ?_ _ | refine xS ?_ _ | refine xT ?_ (by assumption)))).cell o0, (by repeat (with_reducible first | assumption | exact Ext.refl _ | refine Ext.drew ?_ | refine Ext.drewN ?_ _ | refine Ext.alloc ?_ _ | refine xS ?_ _ | refine xT ?_ (by assumption)))⟩ (fun hHeld => ?_)
      clear hK K
      try simp only [Act.put, List.setIfInBounds_toArray, List.set_cons_zero, List.set_cons_succ]
      refine wpAnyH_ready (rs := [16]) (by kernel_rfl) (by simp) ?_
      refine AllReadyH.cons (o := _) rfl (fun K hK => ?_) AllReadyH.nil
      rw [if_pos (by rfl)]
      refine appK_wp _ _ _ rfl 2 Try.underlying25 elemI64 w2.heap.size (r.take k) (r.drop (k + 1)) _ rfl _ _ _ rfl l2.out.symm ho3 ?ci ?cj ?ck ?_
      case ci =>
       have hd := (p1.out.ext (show Ext w2 w3 from (by repeat (with_reducible first | assumption | exact Ext.refl _ | refine Ext.drew ?_ | refine Ext.drewN ?_ _ | refine Ext.alloc ?_ _ | refine xS ?_ _ | refine xT ?_ (by assumption))))).drop (k + 1)
       by_cases hz : C (j + 1) = k + 1
       ·rw [List.eq_nil_of_length_eq_zero (l := r.drop (k + 1)) (by rw [l2.out]; omega)]; exact Ints.nil _ _
       ·rw [if_neg hz]; exact hd
      case cj => rw [l1.out, l2.out]; omega
      case ck => exact Ext.size (w := w2) (by repeat (with_reducible first | assumption | exact Ext.refl _ | refine Ext.drew ?_ | refine Ext.drewN ?_ _ | refine Ext.alloc ?_ _ | refine xS ?_ _ | refine xT ?_ (by assumption)))
      intro a4 cp4 w4 ho4 hx4
      have hE4 := hx4 w2 (by repeat (with_reducible first | assumption | exact Ext.refl _ | refine Ext.drew ?_ | refine Ext.drewN ?_ _ | refine Ext.alloc ?_ _ | refine xS ?_ _ | refine xT ?_ (by assumption))) (Nat.le_refl _)
      clear hx4 ho3
      rw [l1.out, l2.out, l3.out, ← hcut.out] at ho4
      rw [l1.out, l2.out, l3.out]
      refine hK.out _ _ ⟨(show Ext w1 _ from (by repeat (with_reducible first | assumption | exact Ext.refl _ | refine Ext.drew ?_ | refine Ext.drewN ?_ _ | refine Ext.alloc ?_ _ | refine xS ?_ _ | refine xT ?_ (by assumption)))).cell o0, (by repeat (with_reducible first | assumption | exact Ext.refl _ | refine Ext.drew ?_ | refine Ext.drewN ?_ _ | refine Ext.alloc ?_ _ | refine xS ?_ _ | refine xT ?_ (by assumption)))⟩ (fun hHeld => ?_)
      clear hK K
      try simp only [Act.put, List.setIfInBounds_toArray, List.set_cons_zero, List.set_cons_succ]
      refine wpAnyH_ready (rs := [17]) (by kernel_rfl) (by simp) ?_
      refine AllReadyH.cons (o := _) rfl (fun K hK => ?_) AllReadyH.nil
      go_simp
      refine hK.out _ _ ⟨(show Ext w1 _ from (by repeat (with_reducible first | assumption | exact Ext.refl _ | refine Ext.drew ?_ | refine Ext.drewN ?_ _ | refine Ext.alloc ?_ _ | refine xS ?_ _ | refine xT ?_ (by assumption)))).cell o0, (by repeat (with_reducible first | assumption | exact Ext.refl _ | refine Ext.drew ?_ | refine Ext.drewN ?_ _ | refine Ext.alloc ?_ _ | refine xS ?_ _ | refine xT ?_ (by assumption)))⟩ (fun hHeld => ?_)
      clear hK K
      refine wpAnyH_ready (rs := [18]) (by kernel_rfl) (by simp) ?_
      refine AllReadyH.cons (o := _) rfl (fun K hK => ?_) AllReadyH.nil
      rw [if_pos (by rfl)]
      have hcap4 := ho4.cap
      have hII := (ho4.slice)
      have hbk := ho4.block
      refine appT_wp _ _ _ rfl 25 Try.underlying22 elemRow w1.heap.size w1.heap.size (cutTo t k j) u6 rfl _ rfl (ho.out.ext (by repeat (with_reducible first | assumption | exact Ext.refl _ | refine Ext.drew ?_ | refine Ext.drewN ?_ _ | refine Ext.alloc ?_ _ | refine xS ?_ _ | refine xT ?_ (by assumption)))) (cutR r k) a4 n cp4 hcl.out.symm ?da ?db hcap4.2 ?dc ?dd ?de ?_
      case da => simp [go_sem]
      case db =>
       obtain ⟨a', c', e', hI'⟩ := hII
       simp only [Value.slice.injEq] at e'
       rw [e'.1]; exact hI'.ext (by repeat (with_reducible first | assumption | exact Ext.refl _ | refine Ext.drew ?_ | refine Ext.drewN ?_ _ | refine Ext.alloc ?_ _ | refine xS ?_ _ | refine xT ?_ (by assumption)))
      case dc =>
       intro bb oo h0 e
       subst e
       have z1 := (hbk bb (by simp [Value.ownBlock])).1
       exact ⟨fun he => by have := (ho.out.block bb he).2; omega, by omega⟩
      case dd => rw [hct.out]; omega
      case de => exact Nat.le_trans hsz (Ext.size (w := w2) (by repeat (with_reducible first | assumption | exact Ext.refl _ | refine Ext.drew ?_ | refine Ext.drewN ?_ _ | refine Ext.alloc ?_ _ | refine xS ?_ _ | refine xT ?_ (by assumption))))
      intro b9 cp9 w9 own9 g9 at9 hb9
      have hE9 : Ext w1 w9 := Ext.grown (by repeat (with_reducible first | assumption | exact Ext.refl _ | refine Ext.drew ?_ | refine Ext.drewN ?_ _ | refine Ext.alloc ?_ _ | refine xS ?_ _ | refine xT ?_ (by assumption))) g9 (fun g hg => (ho.out.block g hg).1)
      refine hK.out _ _ ⟨hE9.cell o0, hE9⟩ (fun hHeld => ?_)
      clear hK K
      try simp only [Act.put, List.setIfInBounds_toArray, List.set_cons_zero, List.set_cons_succ]
      refine tkA (i := 19) (v := ?_) rfl (fun _ _ _ h => h) (Or.inl ⟨by rfl, ?yl⟩) (by assumption) ?_
      case yl => (intro w hSw; (try dsimp only at hSw); (try obtain ⟨hSw, hSx⟩ := hSw); go_simp); with_reducible rfl
      try simp only [Act.put, List.setIfInBounds_toArray, List.set_cons_zero, List.set_cons_succ]
      refine wpAnyH_done (by kernel_rfl) ?_ _
      simp only [sxA, sxB, sxC, Act.put, sxD, sxE, sxF]
      have hfin9 := hid (And.intro own9 hE9)
      clear hcap4 at9 g9 hbk hII hHeld ho4 own9 hE9
      go_wp2_with fail
      all_goals
       go_roundw
       case rel => exact ⟨j + 1, by omega, by go_num, hid (by rw [hst.out]; exact hfin9.out.1), hfin9.out.2⟩
       case measure => simp [intOf]; omega
     ·obtain rfl : j = n := by omega
      have hrest := ho.out.slice
      obtain ⟨ra, rc, rfl, hTR⟩ := hrest
      have hcl := cutTo_len t k j
      rw [hcl]
      have hsq2 := hid (show Sq j (cutTo t k j) from (by have h9 := hsq.out; rw [← hN.out] at h9; exact h9.cut (by have := hN.out; omega)))
      have hpb := hbd.out k hkl
      have hpart := hid (show detTo j t (k + 1) = detTo j t k + sgn k * ent t 0 k * detF j (cutTo t k j) from rfl)
      have hdb := hid (det_bd j _ hsq2.out)
      have hps := sm_abs (n := k) (f := fun k => sgn k * ent t 0 k * detF j (cutTo t k j)) (B := 200 * detB j) fun i hi => hbd.out i (by omega)
      rw [show (sm k fun k => sgn k * ent t 0 k * detF j (cutTo t k j)) = detTo j t k from rfl] at hps
      have hsg := sgn_bd k
      have hss := hid (sgn_step k)
      have xw := HW.out.trans hx
      obtain ⟨p0, _, p1, _⟩ := HC.out 0 (by omega)
      have p0 := xw.cell p0
      have p1 := xw.cell (p1 k hkl)
      rw [Nat.add_zero] at p0
      have hb0 := hsq.out.b 0 k
      clear hdb
      have hib := hid (fun W hW => ih.out (cutTo t k j) hsq2.out ra j rc rfl W hW)
      have hTR := hid hTR
      clear ho hcl hpb
      have qz : ¬ ((j : Int) + 1 < (N : Int)) := by have := hN.out; omega
      have hp2 := hbd.out k hkl
      have hIX := hid hx
      clear xw hx
      obtain ⟨x, hx0⟩ : ∃ x, ent t 0 k = x := ⟨_, rfl⟩
      obtain ⟨d, hd0⟩ : ∃ d, detF j (cutTo t k j) = d := ⟨_, rfl⟩
      obtain ⟨s, hs0⟩ : ∃ s, sgn k = s := ⟨_, rfl⟩
      obtain ⟨y, hy0⟩ : ∃ y, detTo j t k = y := ⟨_, rfl⟩
      obtain ⟨Q, hQ0⟩ : ∃ Q, 200 * detB j = Q := ⟨_, rfl⟩
      have hQ : Q ≤ 16000000 ∧ 0 ≤ Q := by omega
      have hkQ : (k : Int) * Q ≤ 3 * 16000000 := Int.le_trans (Int.mul_le_mul_of_nonneg_right (show (k : Int) ≤ 3 by omega) hQ.2) (by omega)
      rw [hx0] at p1 hb0 hp2 hpart
      rw [hd0] at hp2 hpart hib
      rw [hs0] at hsg hss hp2 hpart ⊢
      rw [hy0] at hps hpart ⊢
      rw [hQ0] at hp2 hps
      have e1 : s * x = x ∨ s * x = -x := by rcases hsg with rfl | rfl <;> omega
      have e2 : -200 ≤ s * x ∧ s * x ≤ 200 := by omega
      have z1 := Go.IntWalk.i64_in (s * x) (by omega)
      have z2 := Go.IntWalk.i64_in (s * x * d) (by omega)
      have z3 := Go.IntWalk.i64_in (y + s * x * d) (by omega)
      have z4 := Go.IntWalk.i64_in (-s) (by omega)
      replace e1 := hid e1
      replace hsg := hid hsg
      clear hB hQ hkQ hps hp2
      go_wp2_with fail
      refine wp_region_held_drew (S := fun w' => w'.cell? ⟨b, off, none⟩ = some (.slice (some ⟨B 0, O 0, none⟩) N (C 0)) ∧ w'.cell? ⟨B 0, O 0 + k, none⟩ = some (.int .i64 x)) (by kernel_rfl) ⟨(show Ext wr wr.drew from (by repeat (with_reducible first | assumption | exact Ext.refl _ | refine Ext.drew ?_ | refine Ext.drewN ?_ _ | refine Ext.alloc ?_ _ | refine xS ?_ _ | refine xT ?_ (by assumption)))).cell p0, (show Ext wr wr.drew from (by repeat (with_reducible first | assumption | exact Ext.refl _ | refine Ext.drew ?_ | refine Ext.drewN ?_ _ | refine Ext.alloc ?_ _ | refine xS ?_ _ | refine xT ?_ (by assumption)))).cell p1⟩ fun hHeld => ?_
      refine tkA (i := 0) (v := ?_) rfl (fun _ _ _ h => h) (Or.inl ⟨by rfl, ?yl⟩) (by assumption) ?_
      case yl => (intro w hSw; (try dsimp only at hSw); (try obtain ⟨hSw, hSx⟩ := hSw); go_simp); with_reducible rfl
      try simp only [Act.put, List.setIfInBounds_toArray, List.set_cons_zero, List.set_cons_succ]
      refine tkA (i := 1) (v := ?_) rfl (fun _ _ _ h => h) (Or.inl ⟨by rfl, ?yl⟩) (by assumption) ?_
      case yl => (intro w hSw; (try dsimp only at hSw); (try obtain ⟨hSw, hSx⟩ := hSw); go_simp); with_reducible rfl
      try simp only [Act.put, List.setIfInBounds_toArray, List.set_cons_zero, List.set_cons_succ]
      refine tkA (i := 2) (v := ?_) rfl (fun _ _ _ h => h) (Or.inl ⟨by rfl, ?yl⟩) (by assumption) ?_
      case yl => (intro w hSw; (try dsimp only at hSw); (try obtain ⟨hSw, hSx⟩ := hSw); go_simp); with_reducible rfl
      try simp only [Act.put, List.setIfInBounds_toArray, List.set_cons_zero, List.set_cons_succ]
      refine tkA (i := 3) (v := ?_) rfl (fun _ _ _ h => h) (Or.inl ⟨by rfl, ?yl⟩) (by assumption) ?_
      case yl => (intro w hSw; (try dsimp only at hSw); (try obtain ⟨hSw, hSx⟩ := hSw); go_simp); with_reducible rfl
      try simp only [Act.put, List.setIfInBounds_toArray, List.set_cons_zero, List.set_cons_succ]
      refine tkA (i := 4) (v := ?_) rfl (fun _ _ _ h => h) (Or.inl ⟨by rfl, ?yl⟩) (by assumption) ?_
      case yl => (intro w hSw; (try dsimp only at hSw); (try obtain ⟨hSw, hSx⟩ := hSw); go_simp); with_reducible rfl
      try simp only [Act.put, List.setIfInBounds_toArray, List.set_cons_zero, List.set_cons_succ]
      refine tkA (i := 5) (v := ?_) rfl (fun _ _ _ h => h) (Or.inl ⟨by rfl, ?yl⟩) (by assumption) ?_
      case yl => (intro w hSw; (try dsimp only at hSw); (try obtain ⟨hSw, hSx⟩ := hSw); go_simp); with_reducible rfl
      try simp only [Act.put, List.setIfInBounds_toArray, List.set_cons_zero, List.set_cons_succ]
      refine tkA (i := 6) (v := ?_) rfl (fun _ _ _ h => h) (Or.inl ⟨by rfl, ?yl⟩) (by assumption) ?_
      case yl => (intro w hSw; (try dsimp only at hSw); (try obtain ⟨hSw, hSx⟩ := hSw); go_simp); with_reducible rfl
      try simp only [Act.put, List.setIfInBounds_toArray, List.set_cons_zero, List.set_cons_succ]
      refine tkA (i := 7) (v := ?_) rfl (fun _ _ _ h => h) (Or.inl ⟨by rfl, ?yl⟩) (by assumption) ?_
      case yl => (intro w hSw; (try dsimp only at hSw); (try obtain ⟨hSw, hSx⟩ := hSw); go_simp); with_reducible rfl
      try simp only [Act.put, List.setIfInBounds_toArray, List.set_cons_zero, List.set_cons_succ]
      refine tkA (i := 8) (v := ?_) rfl (fun _ _ _ h => h) (Or.inl ⟨by rfl, ?yl⟩) (by assumption) ?_
      case yl => (intro w hSw; (try dsimp only at hSw); (try obtain ⟨hSw, hSx⟩ := hSw); go_simp); with_reducible rfl
      try simp only [Act.put, List.setIfInBounds_toArray, List.set_cons_zero, List.set_cons_succ]
      refine tkA (i := 9) (v := ?_) rfl (fun _ _ _ h => h) (Or.inl ⟨by rfl, ?yl⟩) (by assumption) ?_
      case yl => (intro w hSw; (try dsimp only at hSw); (try obtain ⟨hSw, hSx⟩ := hSw); go_simp); with_reducible rfl
      try simp only [Act.put, List.setIfInBounds_toArray, List.set_cons_zero, List.set_cons_succ]
      refine wpAnyH_ready (rs := [10]) (by kernel_rfl) (by simp) ?_
      refine AllReadyH.cons (o := _) rfl (fun K hK => ?_) AllReadyH.nil
      go_simp
      refine (hib.out _ (hTR.out.ext (by repeat (with_reducible first | assumption | exact Ext.refl _ | refine Ext.drew ?_ | refine Ext.drewN ?_ _ | refine Ext.alloc ?_ _ | refine xS ?_ _ | refine xT ?_ (by assumption))))).mono ?_; rintro e w5 ⟨rfl, hE5⟩
      have x5 : Ext wr w5 := (by repeat (with_reducible first | assumption | exact Ext.refl _ | refine Ext.drew ?_ | refine Ext.drewN ?_ _ | refine Ext.alloc ?_ _ | refine xS ?_ _ | refine xT ?_ (by assumption)))
      refine hK.out _ _ ⟨x5.cell p0, x5.cell p1⟩ (fun hHeld => ?_)
      clear hK K
      try simp only [Act.put, List.setIfInBounds_toArray, List.set_cons_zero, List.set_cons_succ]
      refine tkA (i := 11) (v := ?_) rfl (fun _ _ _ h => h) (Or.inl ⟨by rfl, ?yl⟩) (by assumption) ?_
      case yl => (intro w hSw; (try dsimp only at hSw); (try obtain ⟨hSw, hSx⟩ := hSw); go_simp); with_reducible rfl
      try simp only [Act.put, List.setIfInBounds_toArray, List.set_cons_zero, List.set_cons_succ]
      refine tkA (i := 12) (v := ?_) rfl (fun _ _ _ h => h) (Or.inl ⟨by rfl, ?yl⟩) (by assumption) ?_
      case yl => (intro w hSw; (try dsimp only at hSw); (try obtain ⟨hSw, hSx⟩ := hSw); go_simp); with_reducible rfl
      try simp only [Act.put, List.setIfInBounds_toArray, List.set_cons_zero, List.set_cons_succ]
      refine tkA (i := 13) (v := ?_) rfl (fun _ _ _ h => h) (Or.inl ⟨by rfl, ?yl⟩) (by assumption) ?_
      case yl => (intro w hSw; (try dsimp only at hSw); (try obtain ⟨hSw, hSx⟩ := hSw); go_simp); with_reducible rfl
      try simp only [Act.put, List.setIfInBounds_toArray, List.set_cons_zero, List.set_cons_succ]
      refine wpAnyH_done (by kernel_rfl) ?_ _
      simp only [sxA, sxB, sxC, Act.put, sxD, sxE, sxF]
      clear hHeld
      have hfin5 := hid (show Ext w w5 from (by have := HW.out; have := hIX.out; exact (by repeat (with_reducible first | assumption | exact Ext.refl _ | refine Ext.drew ?_ | refine Ext.drewN ?_ _ | refine Ext.alloc ?_ _ | refine xS ?_ _ | refine xT ?_ (by assumption)))))
      clear x5 hE5
      go_wp2_with fail
      all_goals
       go_roundw
       case rel => exact ⟨k + 1, by omega, by go_num, by rw [hpart.out], by rw [hss.out], hfin5.out⟩
       case measure => simp [intOf]; omega
   ·obtain rfl : k = N := by omega
    go_wp2_with fail
    go_ret
    exact ⟨ret_int hfin.out.symm, (by repeat (with_reducible first | assumption | exact Ext.refl _ | refine Ext.drew ?_ | refine Ext.drewN ?_ _ | refine Ext.alloc ?_ _ | refine xS ?_ _ | refine xT ?_ (by assumption)))⟩

end Go.Proofs.Ytommhgcgaclflaa
