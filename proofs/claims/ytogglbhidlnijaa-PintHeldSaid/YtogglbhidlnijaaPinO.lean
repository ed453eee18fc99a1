/- The program's Span. -/
import Derived.Test.YtogglbhidlnijaaPinN
import Derived.Test.YtogglbhidlnijaaRefJ
namespace Go.Proofs.Ytogglbhidlnijaa
set_option linter.unusedVariables false
set_option linter.unusedSimpArgs false
set_option linter.unusedSectionVars false
set_option linter.unnecessarySimpa false
open Go Go.RowKit
set_option maxRecDepth 100000

theorem minTo_perm {l k : List Int} (h : l.Perm k) (h0 : 0 < l.length) : minTo l l.length = minTo k k.length := by
  have hk : 0 < k.length := by rw [← h.length_eq]; exact h0
  obtain ⟨i, hi, e1⟩ := minTo_at h0 (Nat.le_refl _)
  obtain ⟨j, hj, e2⟩ := minTo_at hk (Nat.le_refl _)
  obtain ⟨i', hi', f1⟩ := mem_nth (h.mem_iff.1 (nth_mem hi))
  obtain ⟨j', hj', f2⟩ := mem_nth (h.mem_iff.2 (nth_mem hj))
  have := minTo_le (l := k) hi'
  have := minTo_le (l := l) hj'
  omega
theorem maxTo_perm {l k : List Int} (h : l.Perm k) (h0 : 0 < l.length) : maxTo l l.length = maxTo k k.length := by
  have hk : 0 < k.length := by rw [← h.length_eq]; exact h0
  obtain ⟨i, hi, e1⟩ := maxTo_at h0 (Nat.le_refl _)
  obtain ⟨j, hj, e2⟩ := maxTo_at hk (Nat.le_refl _)
  obtain ⟨i', hi', f1⟩ := mem_nth (h.mem_iff.1 (nth_mem hi))
  obtain ⟨j', hj', f2⟩ := mem_nth (h.mem_iff.2 (nth_mem hj))
  have := maxTo_ge (l := k) hi'
  have := maxTo_ge (l := l) hj'
  omega


set_option maxHeartbeats 1000000 in
  theorem min_any (a : Option Addr) (cap : Nat) (l : List Int) (w : World) (hI : Ints w a l) (h0 : 0 < l.length) (hl : l.length ≤ 1099511627776) (hq : ∀ i, I64 (nth l i)) :
    Calls Try.prog 85 #[.slice a l.length cap] w fun e w' => e = .returned (.int .i64 (minTo l l.length)) ∧ w = w' := by
   obtain ⟨b, off, rfl, hb, hc⟩ := hI.at h0
   have z := hc 0 h0
   rw [Nat.add_zero] at z
   have h1 : minTo l 1 = nth l 0 := by simp [minTo]
   replace h1 := hid h1
   replace hc := hid hc
   have n1 : ¬ ((l.length : Int) < 1) := by omega
   go_enter Try.func85, Try.ntmps85
   go_wp2_with fail
   go_loop [3, 4] (fun m i => ∃ k : Nat, 1 ≤ k ∧ k ≤ l.length ∧ i = .int .i64 k ∧ m = .int .i64 (minTo l k)) (fun _ i => (l.length - intOf i).toNat)
   case atStart => exact ⟨1, by omega, by omega, rfl, by rw [h1.out]⟩
   case round =>
    obtain ⟨k, hk1, hk, rfl, rfl⟩ := hrel
    by_cases hlt : k < l.length
    · have z := hc.out k hlt
      have hs : Hid (minTo l (k + 1) = min (minTo l k) (nth l k)) := hid rfl
      generalize minTo l k = m at *
      generalize nth l k = x at *
      go_wp2_with fail
      go_round
      case rel => exact ⟨k + 1, by omega, by omega, by go_num, by rw [hs.out, ← minIf]⟩
      case measure => simp [intOf]; omega
    · obtain rfl : k = l.length := by omega
      go_wp2_with fail
      go_ret
      exact ⟨rfl, rfl⟩

set_option maxHeartbeats 1000000 in
  theorem max_any (a : Option Addr) (cap : Nat) (l : List Int) (w : World) (hI : Ints w a l) (h0 : 0 < l.length) (hl : l.length ≤ 1099511627776) (hq : ∀ i, I64 (nth l i)) :
    Calls Try.prog 86 #[.slice a l.length cap] w fun e w' => e = .returned (.int .i64 (maxTo l l.length)) ∧ w = w' := by
   obtain ⟨b, off, rfl, hb, hc⟩ := hI.at h0
   have z := hc 0 h0
   rw [Nat.add_zero] at z
   have h1 : maxTo l 1 = nth l 0 := by simp [maxTo]
   replace h1 := hid h1
   replace hc := hid hc
   have n1 : ¬ ((l.length : Int) < 1) := by omega
   go_enter Try.func86, Try.ntmps86
   go_wp2_with fail
   go_loop [3, 4] (fun m i => ∃ k : Nat, 1 ≤ k ∧ k ≤ l.length ∧ i = .int .i64 k ∧ m = .int .i64 (maxTo l k)) (fun _ i => (l.length - intOf i).toNat)
   case atStart => exact ⟨1, by omega, by omega, rfl, by rw [h1.out]⟩
   case round =>
    obtain ⟨k, hk1, hk, rfl, rfl⟩ := hrel
    by_cases hlt : k < l.length
    · have z := hc.out k hlt
      have hs : Hid (maxTo l (k + 1) = max (maxTo l k) (nth l k)) := hid rfl
      generalize maxTo l k = m at *
      generalize nth l k = x at *
      go_wp2_with fail
      go_round
      case rel => exact ⟨k + 1, by omega, by omega, by go_num, by rw [hs.out, ← maxIf]⟩
      case measure => simp [intOf]; omega
    · obtain rfl : k = l.length := by omega
      go_wp2_with fail
      go_ret
      exact ⟨rfl, rfl⟩

theorem heldAll_perm {d : Dent} (v : VldD d) (t : Int) : ((heldAll d t).map Prod.snd).Perm (held d t) := by
  have h := (allT_perm (okL_of v)).map fun x => holds (meas d x) t
  unfold heldAll held
  rw [List.map_map]
  exact h

set_option maxHeartbeats 2000000 in
theorem span_any (d : Dent) (q : FitD d) (a : Option Addr) (cap : Nat) (t : Int) (w : World) (hP : Prs w a d.rs) (hl : d.rs.length ≤ 1000) (ht : I64 t) :
    Calls Try.prog 40 #[(.agg #[.int .i64 d.L, .int .i64 d.R, .slice a d.rs.length cap]), .int .i64 t] w fun e w' => e = .returned (.tuple #[.agg #[.int .i64 (spanLoOf d t), .int .i64 (spanHiOf d t)], .int .i64 (dtd d t)]) ∧ Ext w w' := by
  have hB := (Ext.refl w).alloc (.cells #[.int .i64 d.L, .int .i64 d.R, .slice a d.rs.length cap] 50)
  have HT := fun W hW => truths_any d q a none cap 0 t [] W hW hl ht (Prs.nil W none) (by simp) (fun i => by simp [pa, I64]) (fun i => by simp [pb, I64])
  replace HT := hid HT
  have HP := hid hP
  clear hP
  by_cases g : dtd d t = 0
  · have k := dtd_ok.1 g
    have hpm := heldAll_perm k.v t
    obtain ⟨p0, p1, p2⟩ := held_ok k
    have H1 := hid (show spanLoOf d t = minTo (held d t) (held d t).length by unfold spanLoOf; rw [if_pos g]; rfl)
    have H2 := hid (show spanHiOf d t = maxTo (held d t) (held d t).length by unfold spanHiOf; rw [if_pos g]; rfl)
    have hLn : (heldAll d t).length = (held d t).length := by rw [← hpm.length_eq, List.length_map]
    replace hpm := hid hpm
    replace p2 := hid p2
    replace hLn := hid hLn
    replace g := hid g
    go_enter Try.func40, Try.ntmps40
    go_wp2_with fail
    refine (HT.out _ (HP.out.ext (by repeat (with_reducible first | assumption | exact Ext.refl _ | refine Ext.drew ?_ | refine Ext.drewN ?_ _ | refine Ext.alloc ?_ _ | (refine Ext.setCell ?_ ?sz _; case sz => (first | (simp; done) | (simp; omega))) | refine Ext.trans ?_ (by assumption))))).mono ?_; rintro e w1 ⟨hE, ⟨h1, rfl⟩ | ⟨h1, b, hb, rfl, hT⟩⟩
    · rw [errT_none] at h1; exact absurd g.out h1
    clear h1
    have s1 := hE.size
    simp at s1
    have hbl := hT.lt
    have s0 := hE.cell (p := ⟨w.heap.size + 1, 0, none⟩) (v := .int .i64 0) (by simp [go_sem])
    have s2 := hE.cell (p := ⟨w.heap.size + 1, 1, none⟩) (v := .int .i64 0) (by simp [go_sem])
    have f0 : w1.frozen? ⟨w.heap.size + 1, 0, none⟩ = false := (hE.frozen (by simp)).trans (by simp [go_sem])
    have f1 : w1.frozen? ⟨w.heap.size + 1, 1, none⟩ = false := (hE.frozen (by simp)).trans (by simp [go_sem])
    have x1 : Ext w w1 := (by repeat (with_reducible first | assumption | exact Ext.refl _ | refine Ext.drew ?_ | refine Ext.drewN ?_ _ | refine Ext.alloc ?_ _ | (refine Ext.setCell ?_ ?sz _; case sz => (first | (simp; done) | (simp; omega))) | refine Ext.trans ?_ (by assumption)))
    replace x1 := hid x1
    replace hT := hid hT
    generalize hLL : heldAll d t = L at *
    go_wp2_with (at_range; refine rangeT rfl _ rfl rfl hT.out ?_; intro w0 hR0 hg0 hs0)
    go_frame
    have x0 : Ext w1 w0 := (Ext.refl w1).grown hg0 (fun _ e => by cases e)
    have hbr : b < w1.heap.size := hbl
    replace hR0 := hid hR0
    clear hE hB hg0
    go_loopw [8] (fun v wr => ∃ dn td : List (List Int × Int), Hid ((dn ++ td).Perm L) ∧ Hid (RT wr b w1.heap.size d.rs.length (allT d.rs).length L td) ∧ Hid (OwnI wr (w1.heap.size + 1) 2 v (dn.map Prod.snd)) ∧ Hid (Ext w1 wr) ∧ w1.heap.size + 1 ≤ wr.heap.size) (fun _ wr => wr.rangeLeft b w1.heap.size)
    case atStart => exact ⟨[], L, hid (by simp), hR0, hid (OwnI.nil _ _ _), hid x0, by omega⟩
    case round =>
      obtain ⟨dn, td, hp, hR, hO, hX, hz⟩ := hrel
      have hdl : dn.length ≤ 14641 := by have := hp.out.length_eq; simp at this; have := hLn.out; omega
      go_wp2_with (at_next; refine nextT rfl _ rfl rfl hR.out ?_ ?_)
      · intro htd
        have htd := htd.out
        subst htd
        have hvp : (dn.map Prod.snd).Perm (held d t) := by
          have h := (hp.out.map Prod.snd)
          rw [List.append_nil] at h
          exact h.trans hpm.out
        have hv0 : 0 < (dn.map Prod.snd).length := by rw [hvp.length_eq]; exact p0
        have hvq : ∀ i, I64 (nth (dn.map Prod.snd) i) := fun i => by
          rcases Nat.lt_or_ge i (dn.map Prod.snd).length with h | h
          · obtain ⟨j, hj, e⟩ := mem_nth (hvp.mem_iff.1 (nth_mem h))
            rw [← e]; have := p2.out j hj; exact ⟨by omega, by omega⟩
          · simp [nth, List.getElem?_eq_none h, I64]
        have m1 := hid (minTo_perm hvp hv0)
        have m2 := hid (maxTo_perm hvp hv0)
        obtain ⟨a9, c9, rfl, hI9⟩ := hO.out.slice
        have hvl : (dn.map Prod.snd).length ≤ 1099511627776 := by simp; omega
        replace hvq := hid hvq
        replace hI9 := hid hI9
        have s0 := hX.out.cell s0
        have s2 := hX.out.cell s2
        have f0 := (hX.out.frozen (p := ⟨w.heap.size + 1, 0, none⟩) (by simp; omega)).trans f0
        have f1 := (hX.out.frozen (p := ⟨w.heap.size + 1, 1, none⟩) (by simp; omega)).trans f1
        clear hvp hpm
        generalize dn.map Prod.snd = vals at *
        go_wp2_with fail
        refine (min_any a9 c9 vals _ hI9.out hv0 hvl hvq.out).mono ?_; rintro e w3 ⟨rfl, rfl⟩
        go_wp2_with fail
        refine (max_any a9 c9 vals _ hI9.out hv0 hvl hvq.out).mono ?_; rintro e w3 ⟨rfl, rfl⟩
        go_wp2_with fail
        refine bodyPost_ret (v := .tuple #[.agg #[.int .i64 (minTo vals vals.length), .int .i64 (maxTo vals vals.length)], .int .i64 0]) ?_ rfl ?_
        · simp [results, Try.results40, go_sem, *]
        · have e1 := x1.out
          have e2 := hX.out
          exact ⟨by rw [H1.out, H2.out, g.out, m1.out, m2.out], ((e1.trans e2).setCell (by simp) _).setCell (by simp) _⟩
      · intro y z td2 w2 hcm
        have hen := hcm.run
        unfold kv
        unfold kv at hen
        have hz2 : w1.heap.size + 1 ≤ w2.heap.size := by have := hcm.size; omega
        have ho2 : OwnI w2 (w1.heap.size + 1) 2 u8 (dn.map Prod.snd) := World.ownsRow.kept hO.out hcm.grown (by
          cases hob : u8.ownBlock with
          | none => exact .inl rfl
          | some kk => exact .inr (fun e => by have := (hO.out.block kk hob).1; cases e; omega))
        have hp2 : Hid ((dn ++ [(y, z)] ++ td2).Perm L) := by
          refine hid (List.Perm.trans ?_ hp.out)
          rw [List.append_assoc]
          exact hcm.perm.symm.append_left dn
        have hls := hid hcm.less
        have hX2 : Ext w1 w2 := hX.out.grown hcm.grown (fun r e => by cases e; exact Nat.le_refl _)
        have hR2 := hid hcm.rt
        have hrn := hcm.rt.ne
        replace ho2 := hid ho2
        replace hX2 := hid hX2
        clear hcm
        go_wp2_with (at_builtin; refine app_int rfl _ _ _ rfl 2 Try.underlying22 elemI64 (w1.heap.size + 1) (dn.map Prod.snd) z _ rfl _ rfl (ho2.out.ext ((Ext.refl w2).alloc _)) ?c1 ?c2 ?c3 ?_; (case c1 => simp [go_sem]); (case c2 => simp; omega); (case c3 => simp; omega); intro b9 cp9 w9 own9 ext9 hb9 g9)
        have own9' : OwnI w9 (w1.heap.size + 1) 2 (.slice (some ⟨b9, 0, none⟩) ((dn ++ [(y, z)]).map Prod.snd).length cp9) ((dn ++ [(y, z)]).map Prod.snd) := by
          have e : (dn ++ [(y, z)]).map Prod.snd = dn.map Prod.snd ++ [z] := by simp
          rw [e]; exact own9
        have hrne : some b ≠ u8.ownBlock := fun e => by have := (ho2.out.block b e.symm).1; omega
        have hrne2 : some w1.heap.size ≠ u8.ownBlock := fun e => by have := (ho2.out.block _ e.symm).1; omega
        have x2a : Ext w2 (w2.alloc (.cells #[.int .i64 z] 2)) := (Ext.refl w2).alloc _
        have hR9 := ((hR2.out.ext x2a).kept g9 hrne hrne2)
        have hls9 : w9.rangeLeft b w1.heap.size = w2.rangeLeft b w1.heap.size := by
          obtain ⟨_, _, _, D, left, cnt, o1, _⟩ := hR2.out
          rw [o1.left_eq, ((o1.kept x2a.grows (by simp) (by simp)).kept g9 hrne hrne2).left_eq]
        have hX9 := ext9 w1 (hX2.out.trans x2a) (by omega)
        have hz9 := g9.size
        try simp at hz9
        replace own9' := hid own9'
        replace hR9 := hid hR9
        replace hls9 := hid hls9
        replace hX9 := hid hX9
        clear ext9 own9 g9 hrne hrne2 x2a
        go_roundw
        case rel => exact ⟨dn ++ [(y, z)], td2, hp2, hR9, hid (by have := own9'.out; simpa using this), hX9, by omega⟩
        case measure => have h1 := hls.out; have h2 := hls9.out; omega
  · have H1 := hid (show spanLoOf d t = 0 by unfold spanLoOf; rw [if_neg g])
    have H2 := hid (show spanHiOf d t = 0 by unfold spanHiOf; rw [if_neg g])
    have he := errT_none d t
    have g0 : (dtd d t != 0) = true := by simp [g]
    replace he := hid he
    replace g := hid g
    go_enter Try.func40, Try.ntmps40
    go_wp2_with fail
    refine (HT.out _ (HP.out.ext (by repeat (with_reducible first | assumption | exact Ext.refl _ | refine Ext.drew ?_ | refine Ext.drewN ?_ _ | refine Ext.alloc ?_ _ | (refine Ext.setCell ?_ ?sz _; case sz => (first | (simp; done) | (simp; omega))) | refine Ext.trans ?_ (by assumption))))).mono ?_; rintro e w1 ⟨hE, ⟨h1, rfl⟩ | ⟨h1, _⟩⟩
    case inr => rw [he.out] at h1; exact absurd h1 g.out
    rw [he.out]
    clear h1
    have s0 := hE.cell (p := ⟨w.heap.size + 1, 0, none⟩) (v := .int .i64 0) (by simp [go_sem])
    have s2 := hE.cell (p := ⟨w.heap.size + 1, 1, none⟩) (v := .int .i64 0) (by simp [go_sem])
    have f0 : w1.frozen? ⟨w.heap.size + 1, 0, none⟩ = false := (hE.frozen (by simp)).trans (by simp [go_sem])
    have f1 : w1.frozen? ⟨w.heap.size + 1, 1, none⟩ = false := (hE.frozen (by simp)).trans (by simp [go_sem])
    have s1 := hE.size
    simp at s1
    go_wp2_with fail
    refine bodyPost_ret (v := .tuple #[.agg #[.int .i64 0, .int .i64 0], .int .i64 (dtd d t)]) ?_ rfl ?_
    · simp [results, Try.results40, go_sem, *]
    · exact ⟨by rw [H1.out, H2.out], (by repeat (with_reducible first | assumption | exact Ext.refl _ | refine Ext.drew ?_ | refine Ext.drewN ?_ _ | refine Ext.alloc ?_ _ | (refine Ext.setCell ?_ ?sz _; case sz => (first | (simp; done) | (simp; omega))) | refine Ext.trans ?_ (by assumption)))⟩

end Go.Proofs.Ytogglbhidlnijaa
