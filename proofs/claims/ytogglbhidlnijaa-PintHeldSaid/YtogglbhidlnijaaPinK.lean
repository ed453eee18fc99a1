/- The program's bottoms: what it yields. -/
import Derived.Test.YtogglbhidlnijaaOdo
import Derived.Test.YtogglbhidlnijaaPinJ
import Derived.Test.YtogglbhidlnijaaRange
import Derived.RangeFuncNested
import Derived.RangeFuncBound
import Derived.RangeFuncCalls
import Derived.RangeFuncLeaves
import Derived.Shelf.Abstract
import Derived.Shelf.RegionOpen
import Derived.OwnWalkIn
import Derived.TacticsInMore
import Derived.LoopNIn
import Derived.LoopIn
import Derived.Sort.LoopGhostIn
import Derived.Sort.QuietIn
namespace Go.Proofs.Ytogglbhidlnijaa
set_option linter.unusedVariables false
set_option linter.unusedSimpArgs false
set_option linter.unusedSectionVars false
set_option linter.unnecessarySimpa false
open Go Go.RowKit
set_option maxRecDepth 100000
attribute [local go_sem] Oper.semAt_some

/-- Block B is a row of four integers. -/
structure C4 (w : World) (B : Nat) (x : List Int) : Prop where
  c : ∀ j, j < 4 → w.cell? ⟨B, j, none⟩ = some (.int .i64 (nth x j))
  f : ∀ j, j < 4 → w.frozen? ⟨B, j, none⟩ = false
theorem frozen_kept {w w' : World} {p : Addr} {v : Value} (h : KeepC w w') (hc : w.cell? p = some v) : w'.frozen? p = w.frozen? p := by
  unfold World.cell? at hc
  cases e : w.heap[p.block]? with
  | none => simp [e] at hc
  | some o =>
    cases o with
    | cells a b c =>
      have := h.same _ _ e rfl
      simp [World.frozen?, e, this]
    | _ => simp [e] at hc
theorem KeepC.cell {w w' : World} {p : Addr} {v : Value} (h : KeepC w w') (hc : w.cell? p = some v) : w'.cell? p = some v := by
  have hc' := hc
  unfold World.cell? at hc
  cases e : w.heap[p.block]? with
  | none => simp [e] at hc
  | some o =>
    cases o with
    | cells a b c =>
      have := h.same _ _ e rfl
      rw [← hc']
      simp [World.cell?, e, this]
    | _ => simp [e] at hc
theorem C4.keep {w w' : World} {B : Nat} {x : List Int} (h : C4 w B x) (k : KeepC w w') : C4 w' B x :=
  ⟨fun j hj => k.cell (h.c j hj), fun j hj => (frozen_kept k (h.c j hj)).trans (h.f j hj)⟩
theorem C4.lt {w : World} {B : Nat} {x : List Int} (h : C4 w B x) : B < w.heap.size := cell_lt (h.c 0 (by omega))
theorem C4.set {w : World} {B : Nat} {x z : List Int} {i : Nat} {v : Int} (h : C4 w B x) (hi : i < 4) (hz : ∀ j, j < 4 → nth z j = if j = i then v else nth x j) : C4 (w.setCell ⟨B, i, none⟩ (.int .i64 v)) B z := by
  refine ⟨fun j hj => ?_, fun j hj => by rw [World.frozen?_setCell]; exact h.f j hj⟩
  rw [hz j hj]
  by_cases e : j = i
  · subst e
    rw [if_pos rfl]
    exact World.cell?_setCell_same' _ _ _ (by rw [h.c j hj]; rfl)
  · rw [if_neg e, ← h.c j hj]
    refine World.cell?_setCell_other _ _ _ _ ?_
    simp [e]

/-- What the iterator reads: the measure in its box, and its ranges, in blocks below N. -/
structure DF (w : World) (N Bd : Nat) (d : Dent) (b off cap : Nat) : Prop where
  c : w.cell? ⟨Bd, 2, none⟩ = some (.slice (some ⟨b, off, none⟩) d.rs.length cap)
  p : ∀ i, i < d.rs.length → w.cell? ⟨b, off + i * 2, none⟩ = some (.int .i64 (pa d.rs i)) ∧ w.cell? ⟨b, off + i * 2 + 1, none⟩ = some (.int .i64 (pb d.rs i))
  h1 : Bd < N
  h2 : b < N
  h3 : N ≤ w.heap.size
theorem DF.keep {w w' : World} {N Bd : Nat} {d : Dent} {b off cap : Nat} (h : DF w N Bd d b off cap) (k : KeepC w w') : DF w' N Bd d b off cap :=
  ⟨k.cell h.c, fun i hi => ⟨k.cell (h.p i hi).1, k.cell (h.p i hi).2⟩, h.h1, h.h2, Nat.le_trans h.h3 k.size⟩
theorem DF.grown {w w' : World} {N Bd : Nat} {d : Dent} {b off cap : Nat} (h : DF w N Bd d b off cap) {row : Option Nat} (g : w.grownBy w' row) (hr : ∀ r, row = some r → N ≤ r) : DF w' N Bd d b off cap := by
  have k1 : some Bd ≠ row := fun e => by have := hr _ e.symm; have := h.h1; omega
  have k2 : some b ≠ row := fun e => by have := hr _ e.symm; have := h.h2; omega
  exact ⟨g.cell h.c k1, fun i hi => ⟨g.cell (h.p i hi).1 k2, g.cell (h.p i hi).2 k2⟩, h.h1, h.h2, Nat.le_trans h.h3 g.size⟩

/-- A truth of the ranges. -/
abbrev Tr (d : Dent) := { x : List Int // IsT d.rs x }
def encT {d : Dent} (x : Tr d) : Array Value := #[kv x.1]

theorem grown_set (w : World) (p : Addr) (v : Value) : w.grownBy (w.setCell p v) (some p.block) :=
  ⟨rfl, rfl, rfl, by show w.heap.size ≤ (w.heap.modify _ _).size; rw [Array.size_modify]; exact Nat.le_refl _, fun k _ hk => Below.heap_setCell w p v k (fun e => hk (by rw [e]))⟩
theorem grown_drewN (w : World) (n : Nat) : w.grownBy (w.drewN n) none := ⟨rfl, rfl, rfl, Nat.le_refl _, fun _ _ _ => rfl⟩

/-- The iterator's own state: its row, and what it reads; and the caller's word. -/
structure IT (J : World → Prop) (w : World) (N B Bd : Nat) (d : Dent) (b off cap : Nat) (x : List Int) : Prop where
  c : C4 w B x
  d : DF w N Bd d b off cap
  j : J w
  n : N ≤ B
theorem IT.alloc {J : World → Prop} {w : World} {N B Bd : Nat} {d : Dent} {b off cap : Nat} {x : List Int} (h : IT J w N B Bd d b off cap x) (hJ : Stays N (fun _ : Unit => J)) (o : Obj) : IT J (w.alloc o) N B Bd d b off cap x :=
  ⟨h.c.keep (KeepC.of_ext ((Ext.refl w).alloc o)), h.d.grown (World.grownBy_alloc w o none) (fun _ e => by cases e), hJ () _ _ none h.j (World.grownBy_alloc w o none) (fun _ e => by cases e), h.n⟩
theorem IT.drewN {J : World → Prop} {w : World} {N B Bd : Nat} {d : Dent} {b off cap : Nat} {x : List Int} (h : IT J w N B Bd d b off cap x) (hJ : Stays N (fun _ : Unit => J)) (n : Nat) : IT J (w.drewN n) N B Bd d b off cap x :=
  ⟨h.c.keep (KeepC.of_ext ((Ext.refl w).drewN n)), h.d.grown (grown_drewN w n) (fun _ e => by cases e), hJ () _ _ none h.j (grown_drewN w n) (fun _ e => by cases e), h.n⟩
theorem IT.set {J : World → Prop} {w : World} {N B Bd : Nat} {d : Dent} {b off cap : Nat} {x z : List Int} {i : Nat} {v : Int} (h : IT J w N B Bd d b off cap x) (hJ : Stays N (fun _ : Unit => J)) (hi : i < 4) (hz : ∀ j, j < 4 → nth z j = if j = i then v else nth x j) :
    IT J (w.setCell ⟨B, i, none⟩ (.int .i64 v)) N B Bd d b off cap z :=
  ⟨h.c.set hi hz, h.d.grown (grown_set w _ _) (fun _ e => by cases e; exact h.n), hJ () _ _ _ h.j (grown_set w _ _) (fun _ e => by cases e; exact h.n), h.n⟩
theorem take_nth (l : List Int) (k j : Nat) : nth (l.take k) j = if j < k then nth l j else 0 := by
  simp only [nth, List.getD_eq_getElem?_getD, List.getElem?_take]
  split <;> rfl
theorem lows_nth (rs : List (Int × Int)) (j : Nat) : nth (lows rs) j = pa rs j := by
  simp only [nth, lows, pa, List.getD_eq_getElem?_getD, List.getElem?_map]
  cases rs[j]? <;> rfl

set_option maxHeartbeats 4000000 in
theorem bottoms1_yields (d : Dent) (v : VldD d) (n : Nat) (Bd b off cap : Nat) (w : World) (hd : DF w w.heap.size Bd d b off cap) :
    Yields Fence.wide n Try.prog 104 #[.pointer (some ⟨Bd, 0, none⟩)] (encT (d := d)) (fun pre x => (pre ++ [x]).map (·.1) <+: allT d.rs) (fun xs => xs.map (·.1) = allT d.rs) (fun pre => pre.map (·.1) <+: allT d.rs) w := by
  intro l J Jx W hW hJ hY h0
  have n1 := v.n1
  have n4 := v.n4
  have ok := okL_of v
  have hdW : DF W W.heap.size Bd d b off cap := by
    have h := hd.grown (Ext.grows hW) (fun _ e => by cases e)
    exact ⟨h.c, h.p, Nat.lt_of_lt_of_le h.h1 hW.size, Nat.lt_of_lt_of_le h.h2 hW.size, Nat.le_refl _⟩
  have hJu : ∀ pre, Stays W.heap.size (fun _ : Unit => J pre) := fun pre s A C row h hg hr => hJ pre A C row h hg hr
  have hst : IT (J []) (W.alloc (.cells #[.int .i64 0, .int .i64 0, .int .i64 0, .int .i64 0] 115)) W.heap.size W.heap.size Bd d b off cap ((lows d.rs).take 0) := by
    refine ⟨⟨fun j hj => ?_, fun j hj => ?_⟩, hdW.grown (World.grownBy_alloc W _ none) (fun _ e => by cases e), hJ.alloc _ h0, Nat.le_refl _⟩
    · match j, hj with
      | 0, _ => simp [go_sem, nth]
      | 1, _ => simp [go_sem, nth]
      | 2, _ => simp [go_sem, nth]
      | 3, _ => simp [go_sem, nth]
    · simp [go_sem]
  have hst := hid hst
  have c2 := hdW.c
  have b1 := hdW.h1
  have hD := hid hdW
  have HJ := hid hJ
  have HY := hid hY
  have HJu := hid hJu
  clear hdW hJ hY hJu h0 hd
  refine callsIn_of_wp Try.func104 rfl trivial ?_ rfl
  simp only [Try.ntmps104, List.size_toArray, List.length_cons, List.length_nil, Nat.reduceAdd, Nat.reduceSub, Array.replicate_succ, Array.replicate_zero, List.push_toArray, List.append_toArray, List.nil_append, List.cons_append]
  gi_wp2
  gi_loopw [10] (fun i wr => ∃ k : Nat, k ≤ d.rs.length ∧ i = .int .i64 k ∧ Hid (IT (J []) wr W.heap.size W.heap.size Bd d b off cap ((lows d.rs).take k))) (fun i _ => (d.rs.length - intOf i).toNat)
  case atStart => exact ⟨0, by omega, rfl, hst⟩
  case round =>
    obtain ⟨k, hk, rfl, hit⟩ := hrel
    have hlt3 := hit.out.c.lt
    by_cases hlt : k < d.rs.length
    · obtain ⟨e0, e1⟩ := hit.out.d.p k hlt
      have k4 : k < 4 := by omega
      have i4 : (k : Int) < 4 := by omega
      have f0 := hit.out.c.c k k4
      have f1 := hit.out.c.f k k4
      have b2 := hit.out.d.h2
      have hnx : ∀ j, j < 4 → nth ((lows d.rs).take (k + 1)) j = if j = k then pa d.rs k else nth ((lows d.rs).take k) j := fun j _ => by
        rw [take_nth, take_nth, lows_nth]
        by_cases e : j = k
        · subst e; rw [if_pos (by omega), if_pos rfl]
        · rw [if_neg e]
          by_cases g : j < k
          · rw [if_pos (by omega), if_pos g]
          · rw [if_neg (by omega), if_neg g]
      replace hnx := hid hnx
      generalize hpp : nth (List.take k (lows d.rs)) k = q0 at *
      generalize hp1 : pa d.rs k = lo at *
      generalize hp2 : pb d.rs k = hi at *
      replace hpp := hid hpp
      replace hp1 := hid hp1
      replace hp2 := hid hp2
      gi_wp2
      go_roundw
      case rel =>
        refine ⟨k + 1, by omega, by go_num, ?_⟩
        exact hid ((hit.out.set (HJu.out []) k4 hnx.out).alloc (HJu.out []) _)
      case measure => simp [intOf]; omega
    · have e : k = d.rs.length := by omega
      subst e
      have hfull : (lows d.rs).take d.rs.length = lows d.rs := List.take_of_length_le (by simp [lows])
      rw [hfull] at hit
      gi_wp2
      gi_loopg [6] ((allT d.rs).length) (fun g s6 wr => ∃ (pre : List (Tr d)) (x : Tr d), (aft d.rs x.1).length = g ∧ pre.map (·.1) ++ aft d.rs x.1 = allT d.rs ∧ Hid (IT (J pre) wr W.heap.size W.heap.size Bd d b off cap x.1))
      case atStart => exact ⟨[], ⟨lows d.rs, lows_isT ok⟩, rfl, rfl, hit⟩
      case round =>
        obtain ⟨pre, x, hg, hsplit, hit⟩ := hrel
        have q0 := hit.out.c.c 0 (by omega)
        have q1 := hit.out.c.c 1 (by omega)
        have q2 := hit.out.c.c 2 (by omega)
        have q3 := hit.out.c.c 3 (by omega)
        have hlt3 := hit.out.c.lt
        obtain ⟨fn, tmps, assign, body, hy, hR⟩ := HY.out pre x wr (by obtain ⟨T, hT⟩ : ∃ T, aft d.rs x.1 = x.1 :: T := ⟨_, aft_step ok x.2⟩; rw [← hsplit, hT, List.map_append]; exact ⟨T, by simp⟩) hit.out.j
        simp only [encT, kv] at hy
        have hxl := hid (isT_fit v x.2)
        have hsp := hid (aft_step ok x.2)
        have hsplit := hid hsplit
        have hg := hid hg
        have hN : Hid (∀ y, nxt d.rs x.1 = some y → IsT d.rs y) := fun y hy => nxt_isT ok x.2 hy
        gi_wp2
        refine ⟨fun h => (by cases h), hR.mono ?_⟩
        rintro e W3 (⟨rfl, hJ3, hk3⟩ | ⟨rfl, hJx3⟩)
        · have hit3 : Hid (IT (J (pre ++ [x])) W3 W.heap.size W.heap.size Bd d b off cap x.1) := ⟨hit.out.c.keep hk3, hit.out.d.keep hk3, hJ3, Nat.le_refl _⟩
          have hlt4 := hit3.out.c.lt
          clear q0 q1 q2 q3 hlt3 hk3 hJ3 hy hR hit
          gi_wp2
          gi_loopw [6] (fun s6 wr => ∃ i : Nat, i ≤ d.rs.length ∧ s6 = .int .i64 i ∧ Hid (∀ j, j < i → nth x.1 j = pb d.rs j) ∧ Hid (IT (J (pre ++ [x])) wr W.heap.size W.heap.size Bd d b off cap (zs d.rs x.1 i))) (fun s6 _ => (d.rs.length - intOf s6).toNat)
          case atStart => exact ⟨0, by omega, rfl, fun j hj => absurd hj (by omega), hit3⟩
          case round =>
            obtain ⟨i, hi, rfl, hbf, hit⟩ := hrel
            have hlt4 := hit.out.c.lt
            have c2 := hit.out.d.c
            have b1 := Nat.lt_of_lt_of_le hit.out.d.h1 hit.out.d.h3
            by_cases hlt : i < d.rs.length
            · obtain ⟨e0, e1⟩ := hit.out.d.p i hlt
              have k4 : i < 4 := by omega
              have i4 : (i : Int) < 4 := by omega
              have i0 : (0 : Int) ≤ (i : Int) := by omega
              have f0 := hit.out.c.c i k4
              have f1 := hit.out.c.f i k4
              rw [zs_nth d.rs x.1 i i (by have := hxl.out.1; omega), if_neg (by omega)] at f0
              have hbd := hxl.out.2.2 i
              have hd1 : decide ((i : Int) < (d.rs.length : Int)) = true := by simpa using hlt
              have hset := hid (fun j (_ : j < 4) => show nth (zs d.rs x.1 (i + 1)) j = if j = i then pa d.rs i else nth (zs d.rs x.1 i) j by
                simp only [zs, nth_set, zs_len]
                by_cases e : i = j
                · subst e; rw [if_pos ⟨rfl, by have := hxl.out.1; omega⟩, if_pos rfl]
                · rw [if_neg (fun h => e h.1), if_neg (fun h => e h.symm)])
              have hset2 := hid (fun j (_ : j < 4) => show nth ((zs d.rs x.1 i).set i (nth x.1 i + 1)) j = if j = i then nth x.1 i + 1 else nth (zs d.rs x.1 i) j by
                simp only [nth_set, zs_len]
                by_cases e : i = j
                · subst e; rw [if_pos ⟨rfl, by have := hxl.out.1; omega⟩, if_pos rfl]
                · rw [if_neg (fun h => e h.1), if_neg (fun h => e h.symm)])
              have hnx := hid (fun hne => nxt_some (rs := d.rs) (x := x.1) (i := i) hxl.out.1 hlt hbf.out hne)
              by_cases heq : nth x.1 i = pb d.rs i
              · have hb2 : Hid (∀ j, j < i + 1 → nth x.1 j = pb d.rs j) := fun j hj => by
                  rcases Nat.lt_or_ge j i with h' | h'
                  · exact hbf.out j h'
                  · obtain rfl : j = i := by omega
                    exact heq
                have hdq : (nth x.1 i == pb d.rs i) = true := by simpa using heq
                replace heq := hid heq
                generalize nth x.1 i = xi at *
                generalize pa d.rs i = lo at *
                generalize pb d.rs i = hi at *
                gi_wp2
                refine wpIn_wide.2 ?_
                go_quiet (fail)
                gi_wp2
                refine ⟨⟨i + 1, by omega, by go_num, hb2, hid ((hit.out.drewN (HJu.out _) nq).set (HJu.out _) k4 hset.out)⟩, by simp [intOf]; omega⟩
              · have hdq : (nth x.1 i == pb d.rs i) = false := by simpa using heq
                have hdn : ((i : Int) == (d.rs.length : Int)) = false := by rw [beq_eq_false_iff_ne]; omega
                have hny := hid (hnx.out heq)
                replace heq := hid heq
                generalize nth x.1 i = xi at *
                generalize pb d.rs i = hi at *
                gi_wp2
                refine wpIn_wide.2 ?_
                go_quiet (fail)
                gi_wp2
                gi_roundg ((aft d.rs ((zs d.rs x.1 i).set i (xi + 1))).length)
                case measure => rw [← hg.out, hsp.out, hny.out]; simp
                case rel =>
                  refine ⟨pre ++ [x], ⟨(zs d.rs x.1 i).set i (xi + 1), hN.out _ hny.out⟩, rfl, ?_, hid ((hit.out.drewN (HJu.out _) _).set (HJu.out _) k4 hset2.out)⟩
                  have hcomb : aft d.rs x.1 = x.1 :: aft d.rs ((zs d.rs x.1 i).set i (xi + 1)) := by rw [hsp.out, hny.out]
                  rw [← hsplit.out, hcomb, List.map_append]
                  simp
            · have e : i = d.rs.length := by omega
              have hdn : ((i : Int) == (d.rs.length : Int)) = true := by rw [beq_iff_eq]; omega
              have hd1 : decide ((i : Int) < (d.rs.length : Int)) = false := by simpa using hlt
              have hno := hid (nxt_none (rs := d.rs) (x := x.1) hxl.out.1 (fun j hj => hbf.out j (by omega)))
              replace e := hid e
              gi_wp2
              refine wpIn_wide.2 ?_
              go_quiet (fail)
              gi_wp2
              refine bodyPost_ret (results_none rfl _ _ _) rfl ?_
              refine ⟨⟨_, rfl⟩, .inl ⟨pre ++ [x], ?_, (hit.out.drewN (HJu.out _) _).j⟩⟩
              rw [← hsplit.out, hsp.out, hno.out, List.map_append]
              simp
        · gi_wp2
          refine bodyPost_ret (results_none rfl _ _ _) rfl ?_
          refine ⟨⟨_, rfl⟩, .inr ⟨pre ++ [x], ?_, hJx3⟩⟩
          obtain ⟨T, hT⟩ : ∃ T, aft d.rs x.1 = x.1 :: T := ⟨_, hsp.out⟩
          rw [← hsplit.out, hT, List.map_append]
          exact ⟨T, by simp⟩

end Go.Proofs.Ytogglbhidlnijaa
