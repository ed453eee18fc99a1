/- Texts of one proof, laid together: Pq. -/
import Derived.Test.YtpnfhcnnodolbaaZY10
import Derived.Test.YtpnfhcnnodolbaaZY14
import Derived.Test.YtpnfhcnnodolbaaZY18
import Derived.Deep.DeepCutAuto
set_option linter.unusedVariables false
set_option linter.unusedSimpArgs false
set_option linter.unusedSectionVars false
set_option linter.unnecessarySimpa false
set_option maxRecDepth 100000
namespace Go.Proofs.Ytpnfhcnnodolbaa
open Go Go.RowKit Game
theorem RT.perm {w : World} {b r n c : Nat} {l k todo : List (List Int × Int)} (h : RT w b r n c l todo) (p : l.Perm k) : RT w b r n c k todo :=
 let ⟨kk, s, nd, D, left, cnt, o, d, h1, h2⟩ := h
 ⟨kk.perm p, fun q hq => p.mem_iff.1 (s q hq), nd, D, left, cnt, o, d.perm p, h1, h2⟩
theorem RT.uniq {w : World} {b r n c : Nat} {l todo : List (List Int × Int)} (h : RT w b r n c l todo) : (todo.map Prod.fst).Nodup := let ⟨_, _, nd, _⟩ := h; nd
theorem RT.kl {w : World} {b r n c : Nat} {l todo : List (List Int × Int)} (h : RT w b r n c l todo) : KL n l := h.1
theorem RT.sub {w : World} {b r n c : Nat} {l todo : List (List Int × Int)} (h : RT w b r n c l todo) : ∀ p ∈ todo, p ∈ l := h.2.1
theorem strike_perm {l rest : List (List Int × Int)} {p : List Int × Int} (h : (l.map Prod.fst).Nodup) (hp : l.Perm (p :: rest)) : (l.filter fun q => q.1 ≠ p.1).Perm rest :=
 List.Perm.cons_inv ((todo_split (n := 0) h (hp.mem_iff.2 (by simp))).symm.trans hp)
def putP (l : List (List Int × Int)) (x : List Int) : List (List Int × Int) := if x ∈ l.map Prod.fst then l else l ++ [(x, (l.length : Int))]
def Num (l : List (List Int × Int)) : Prop := ∀ (i : Nat) (p : List Int × Int), l[i]? = some p → p.2 = (i : Int)
theorem Num.put {l : List (List Int × Int)} (h : Num l) (x : List Int) : Num (putP l x) := by
 unfold putP
 split
 ·exact h
 ·intro i p hp
  rcases Nat.lt_or_ge i l.length with g | g
  ·rw [List.getElem?_append_left g] at hp; exact h i p hp
  ·rw [List.getElem?_append_right g] at hp
   have : i - l.length = 0 := by
    rcases Nat.eq_zero_or_pos (i - l.length) with e | e
    ·exact e
    ·rw [List.getElem?_eq_none (by simp; omega)] at hp; cases hp
   rw [this] at hp
   simp at hp
   subst hp
   dsimp only
   omega
theorem putP_mem {l : List (List Int × Int)} {x y : List Int} : y ∈ (putP l x).map Prod.fst ↔ y ∈ l.map Prod.fst ∨ y = x := by
 unfold putP
 split
 ·constructor
  ·exact .inl
  ·rintro (h | rfl)
   ·exact h
   ·assumption
 ·simp only [List.map_append, List.mem_append, List.map_cons, List.map_nil, List.mem_singleton]
theorem putP_len (l : List (List Int × Int)) (x : List Int) : (putP l x).length ≤ l.length + 1 := by
 unfold putP
 split
 ·omega
 ·simp
set_option maxHeartbeats 2000000 in
theorem putM_any (b c : Nat) (l : List (List Int × Int)) (x : List Int) (hx : T4 4 x) (hl : l.length ≤ 100000) (hc : c < 1000000) (w : World) (hT : TM w b 4 c l) :
 Calls Try.prog 100 #[.map (some b), kv x] w fun e w' => (∃ v, e = .returned v) ∧ TM w' b 4 (c + 1) (putP l x) ∧ w.grownBy w' (some b) := by
 have hbl := hT.lt
 have hcs : ∀ w', TM w' b 4 c l → TM w' b 4 (c + 1) l := fun w' h => by
  obtain ⟨k, D, ⟨es, clock, hb, F, hn, hD⟩, d⟩ := h
  exact ⟨k, D, ⟨es, clock, hb, F, Nat.le_succ_of_le hn, hD⟩, d⟩
 replace hcs := hid hcs
 have hTa := hT.ext ((Ext.refl w).alloc (.cells #[.int .i64 (nth x 0), .int .i64 (nth x 1), .int .i64 (nth x 2), .int .i64 (nth x 3)] 45))
 obtain ⟨z, hlk⟩ := hTa.lookOk hx
 have hln := lenT hTa 3
 have hTa' := hid hTa
 by_cases hm : x ∈ l.map Prod.fst
 ·have hp : Hid (putP l x = l) := hid (if_pos hm)
  rw [decide_eq_true hm] at hlk
  unfold kv at hlk ⊢
  replace hm := hid hm
  clear hTa hT
  generalize nth x 0 = x0 at *
  generalize nth x 1 = x1 at *
  generalize nth x 2 = x2 at *
  generalize nth x 3 = x3 at *
  go_enter Try.func100, Try.ntmps100
  go_wp2_with fail
  refine bodyPost_end (results_none rfl _ _ _) rfl ?_
  exact ⟨⟨_, rfl⟩, by rw [hp.out]; exact hcs.out _ hTa'.out, (show Ext w _ from exE).grows.but _⟩
 ·have hp : Hid (putP l x = l ++ [(x, (l.length : Int))]) := hid (if_neg hm)
  rw [decide_eq_false hm] at hlk
  have hkv : kv x = .agg #[.int .i64 (nth x 0), .int .i64 (nth x 1), .int .i64 (nth x 2), .int .i64 (nth x 3)] := rfl
  rw [hkv] at hlk ⊢
  have hkv := hid hkv
  have hm := hid hm
  have hx := hid hx
  clear hTa hT
  obtain ⟨x0, e0⟩ : ∃ z, nth x 0 = z := ⟨_, rfl⟩
  obtain ⟨x1, e1⟩ : ∃ z, nth x 1 = z := ⟨_, rfl⟩
  obtain ⟨x2, e2⟩ : ∃ z, nth x 2 = z := ⟨_, rfl⟩
  obtain ⟨x3, e3⟩ : ∃ z, nth x 3 = z := ⟨_, rfl⟩
  rw [e0, e1, e2, e3] at hlk hln hTa' hkv ⊢
  clear e0 e1 e2 e3
  go_enter Try.func100, Try.ntmps100
  go_wp2_with (at_mapUpdate; refine putT rfl _ _ _ rfl rfl hTa'.out hc x (l.length : Int) hx.out (by unfold I64; omega) hm.out hkv.out.symm rfl ?_; intro w3 hT3 hg3)
  refine bodyPost_end (results_none rfl _ _ _) rfl ?_
  exact ⟨⟨_, rfl⟩, by rw [hp.out]; exact hT3, ((show Ext w _ from exE).grows.but (some b)).andThen hg3 (fun j e => .inr e)⟩
def gdP (l : List Met) (s : Bool) (x : List Int) : Bool := decide (0 ≤ nth x 2) && (decide (0 ≤ nth x 3) && hld l s (nth x 0) (nth x 1) (nth x 2) (nth x 3))
def BdK (x : List Int) : Prop := (0 ≤ nth x 0 ∧ nth x 0 ≤ 1073741824) ∧ Pn (nth x 1) (nth x 2) (nth x 3)
def KeepP (l : List Met) (s : Bool) (b c : Nat) (L : List (List Int × Int)) (w : World) (e : Ending) (w' : World) : Prop :=
 e = .returned (.map (some b)) ∧ w.grownBy w' (some b) ∧ ∃ k, TM w' b 4 c k ∧ k.Perm (L.filter fun p => gdP l s p.1)
set_option maxHeartbeats 4000000 in
theorem keep_any (l : List Met) (v : VldM l) (uu cc : Int) (s : Bool) (D : Nat) (b c : Nat) (L : List (List Int × Int)) (hL : ∀ p ∈ L, BdK p.1) (wB w : World) (hxB : Ext wB w) (hbB : wB.heap.size ≤ b) (hP : Pot wB D l uu cc s) (hT : TM w b 4 c L) :
 Calls Try.prog 102 #[(.pointer (some ⟨D, 0, none⟩)), .map (some b)] w (KeepP l s b c L w) := by
 have hbl := hT.lt
 replace hT := hid hT
 have hP := hid hP
 have hV := hid v
 have hL := hid hL
 have hxB := hid hxB
 have hDl : D < w.heap.size := Nat.lt_of_lt_of_le hP.out.lt hxB.out.size
 clear v
 go_enter Try.func102, Try.ntmps102
 go_wp2_with (at_range; refine rangeT rfl _ rfl rfl hT.out ?_; intro w0 hR0 hg0 hs0)
 go_frame
 replace hR0 := hid hR0
 go_loopw [] (fun wr => ∃ dn td : List (List Int × Int), Hid ((dn ++ td).Perm L) ∧ Hid (RT wr b w.heap.size 4 c (dn.filter (fun p => gdP l s p.1) ++ td) td) ∧ Hid (w.grownBy wr (some b))) (fun wr => wr.rangeLeft b w.heap.size)
 case atStart => exact ⟨[], L, hid (by simp), hR0, hid (hg0.but _)⟩
 case round =>
  obtain ⟨dn, td, hp, hR, hg⟩ := hrel
  go_wp2_with (at_next; refine nextT rfl _ rfl rfl hR.out ?_ ?_)
  ·intro htd
   have htd := htd.out
   subst htd
   go_wp2_with fail
   go_ret
   refine ⟨rfl, hg.out, _, hR.out.tm, ?_⟩
   have := (hp.out.filter fun p => gdP l s p.1)
   simpa using this
  ·intro u z td2 w1 hcm
   have hen := hcm.run
   have hv := hcm.val
   have hkd := hL.out (u, z) (hp.out.mem_iff.1 (List.mem_append.2 (.inr hcm.ino)))
   unfold kv
   unfold kv at hen
   have hsz := hcm.size
   replace hcm := hid hcm
   have hlt := hR.out.lt
   have hsz2 : b < w1.heap.size := by omega
   replace hsz := hid hsz
   have hxb1 : Ext wB w1 := Ext.grown hxB.out (hg.out.andThen hcm.out.grown (fun j e => by cases e; exact .inl (Nat.le_refl _))) (fun j e => by cases e; exact hbB)
   by_cases g2 : nth u 2 < 0
   ·have hgd := hid (show gdP l s (u, z).1 = false from by unfold gdP; rw [decide_eq_false (show ¬ 0 ≤ nth u 2 by omega)]; rfl)
    go_wp2_with (at_delete
                 have x12 : Ext w1 (w1.alloc (.cells #[.int .i64 (nth u 0), .int .i64 (nth u 1), .int .i64 (nth u 2), .int .i64 (nth u 3)] 45)) := exE
                 generalize (w1.alloc (.cells #[.int .i64 (nth u 0), .int .i64 (nth u 1), .int .i64 (nth u 2), .int .i64 (nth u 3)] 45)) = w2 at x12 ⊢
                 have hpm := hcm.out.perm
                 have hR2 := hid (hcm.out.rt.ext x12)
                 have hg2 : w.grownBy w2 (some b) := (hg.out.andThen hcm.out.grown (fun j e => by cases e; exact .inl (Nat.le_refl _))).andThen x12.grows (fun j e => by cases e)
                 replace hg2 := hid hg2
                 have hls := hcm.out.less
                 have hsame : w2.rangeLeft b w.heap.size = w1.rangeLeft b w.heap.size := by
                  obtain ⟨_, _, _, D, left, cnt, o1, _⟩ := hcm.out.rt
                  rw [o1.left_eq, (o1.kept x12.grows (by simp) (by simp)).left_eq]
                 have hdt : Hid ((dn ++ [(u, z)] ++ td2).Perm L) := by
                  refine hid (List.Perm.trans ?_ hp.out)
                  rw [List.append_assoc]
                  exact hpm.symm.append_left dn
                 have hin := hid hcm.out.inl
                 have hfr : Hid (td2.filter (fun q => q.1 ≠ u) = td2) := by
                  refine hid (List.filter_eq_self.2 fun q hq => ?_)
                  have hnd := (hpm.map Prod.fst).nodup_iff.1 hR.out.uniq
                  rw [List.map_cons, List.nodup_cons] at hnd
                  simp only [ne_eq, decide_not, Bool.not_eq_eq_eq_not, Bool.not_true, decide_eq_false_iff_not]
                  intro e
                  exact hnd.1 (List.mem_map.2 ⟨q, hq, e⟩)
                 replace hpm := hid hpm
                 replace hls := hid hls
                 replace hsame := hid hsame
                 refine dropT rfl _ _ rfl rfl hR2.out u z hin.out rfl ?_
                 intro w3 hdr)
    try go_frame
    go_roundw
    case rel =>
     refine ⟨dn ++ [(u, z)], td2, hdt, hid ?_, hid (hg2.out.andThen hdr.grown (fun j e => .inr e))⟩
     have hr3 := hdr.rt
     rw [hfr.out] at hr3
     refine hr3.perm ?_
     refine strike_perm hR2.out.kl.nd (p := (u, z)) ?_
     rw [List.filter_append, List.filter_cons_of_neg (by rw [hgd.out]; decide), List.filter_nil, List.append_nil]
     exact (hpm.out.append_left _).trans List.perm_middle
    case measure => have h1 := hls.out; have h2 := hsame.out; have h3 := hdr.le; omega
   by_cases g3 : nth u 3 < 0
   ·have hgd := hid (show gdP l s (u, z).1 = false from by unfold gdP; rw [decide_eq_false (show ¬ 0 ≤ nth u 3 by omega)]; simp)
    go_wp2_with (at_delete
                 have x12 : Ext w1 (w1.alloc (.cells #[.int .i64 (nth u 0), .int .i64 (nth u 1), .int .i64 (nth u 2), .int .i64 (nth u 3)] 45)) := exE
                 generalize (w1.alloc (.cells #[.int .i64 (nth u 0), .int .i64 (nth u 1), .int .i64 (nth u 2), .int .i64 (nth u 3)] 45)) = w2 at x12 ⊢
                 have hpm := hcm.out.perm
                 have hR2 := hid (hcm.out.rt.ext x12)
                 have hg2 : w.grownBy w2 (some b) := (hg.out.andThen hcm.out.grown (fun j e => by cases e; exact .inl (Nat.le_refl _))).andThen x12.grows (fun j e => by cases e)
                 replace hg2 := hid hg2
                 have hls := hcm.out.less
                 have hsame : w2.rangeLeft b w.heap.size = w1.rangeLeft b w.heap.size := by
                  obtain ⟨_, _, _, D, left, cnt, o1, _⟩ := hcm.out.rt
                  rw [o1.left_eq, (o1.kept x12.grows (by simp) (by simp)).left_eq]
                 have hdt : Hid ((dn ++ [(u, z)] ++ td2).Perm L) := by
                  refine hid (List.Perm.trans ?_ hp.out)
                  rw [List.append_assoc]
                  exact hpm.symm.append_left dn
                 have hin := hid hcm.out.inl
                 have hfr : Hid (td2.filter (fun q => q.1 ≠ u) = td2) := by
                  refine hid (List.filter_eq_self.2 fun q hq => ?_)
                  have hnd := (hpm.map Prod.fst).nodup_iff.1 hR.out.uniq
                  rw [List.map_cons, List.nodup_cons] at hnd
                  simp only [ne_eq, decide_not, Bool.not_eq_eq_eq_not, Bool.not_true, decide_eq_false_iff_not]
                  intro e
                  exact hnd.1 (List.mem_map.2 ⟨q, hq, e⟩)
                 replace hpm := hid hpm
                 replace hls := hid hls
                 replace hsame := hid hsame
                 refine dropT rfl _ _ rfl rfl hR2.out u z hin.out rfl ?_
                 intro w3 hdr)
    try go_frame
    go_roundw
    case rel =>
     refine ⟨dn ++ [(u, z)], td2, hdt, hid ?_, hid (hg2.out.andThen hdr.grown (fun j e => .inr e))⟩
     have hr3 := hdr.rt
     rw [hfr.out] at hr3
     refine hr3.perm ?_
     refine strike_perm hR2.out.kl.nd (p := (u, z)) ?_
     rw [List.filter_append, List.filter_cons_of_neg (by rw [hgd.out]; decide), List.filter_nil, List.append_nil]
     exact (hpm.out.append_left _).trans List.perm_middle
    case measure => have h1 := hls.out; have h2 := hsame.out; have h3 := hdr.le; omega
   have hpf : isPf (nth u 1) (nth u 2) (nth u 3) = true := isPf_iff.2 ⟨hkd.2.1, ⟨by omega, hkd.2.2.1.2⟩, by omega, hkd.2.2.2.2⟩
   cases hho : hld l s (nth u 0) (nth u 1) (nth u 2) (nth u 3) with
   | false =>
    have hgd := hid (show gdP l s (u, z).1 = false from by unfold gdP; rw [show hld l s (nth (u, z).1 0) (nth (u, z).1 1) (nth (u, z).1 2) (nth (u, z).1 3) = false from hho]; simp)
    have hhc := hid (holds_any l hV.out uu cc s D _ _ _ _ hkd.1 hpf (w1.alloc (.cells #[.int .i64 (nth u 0), .int .i64 (nth u 1), .int .i64 (nth u 2), .int .i64 (nth u 3)] 45)) (hP.out.ext exE))
    go_wp2_with fail
    refine hhc.out.mono ?_; rintro e w2 ⟨rfl, hE⟩
    rw [hho]
    clear hhc hho
    have x12 : Ext w1 w2 := exE
    have q0 := hE.cell (p := ⟨w1.heap.size, 0, none⟩) (v := .int .i64 (nth u 0)) (by simp [go_sem])
    have q1 := hE.cell (p := ⟨w1.heap.size, 1, none⟩) (v := .int .i64 (nth u 1)) (by simp [go_sem])
    have q2 := hE.cell (p := ⟨w1.heap.size, 2, none⟩) (v := .int .i64 (nth u 2)) (by simp [go_sem])
    have q3 := hE.cell (p := ⟨w1.heap.size, 3, none⟩) (v := .int .i64 (nth u 3)) (by simp [go_sem])
    have hpm := hcm.out.perm
    have hR2 := hid (hcm.out.rt.ext x12)
    have hg2 : w.grownBy w2 (some b) := (hg.out.andThen hcm.out.grown (fun j e => by cases e; exact .inl (Nat.le_refl _))).andThen x12.grows (fun j e => by cases e)
    replace hg2 := hid hg2
    have hls := hcm.out.less
    have hsame : w2.rangeLeft b w.heap.size = w1.rangeLeft b w.heap.size := by
     obtain ⟨_, _, _, D, left, cnt, o1, _⟩ := hcm.out.rt
     rw [o1.left_eq, (o1.kept x12.grows (by simp) (by simp)).left_eq]
    have hdt : Hid ((dn ++ [(u, z)] ++ td2).Perm L) := by
     refine hid (List.Perm.trans ?_ hp.out)
     rw [List.append_assoc]
     exact hpm.symm.append_left dn
    have hin := hid hcm.out.inl
    have hfr : Hid (td2.filter (fun q => q.1 ≠ u) = td2) := by
     refine hid (List.filter_eq_self.2 fun q hq => ?_)
     have hnd := (hpm.map Prod.fst).nodup_iff.1 hR.out.uniq
     rw [List.map_cons, List.nodup_cons] at hnd
     simp only [ne_eq, decide_not, Bool.not_eq_eq_eq_not, Bool.not_true, decide_eq_false_iff_not]
     intro e
     exact hnd.1 (List.mem_map.2 ⟨q, hq, e⟩)
    replace hpm := hid hpm
    replace hls := hid hls
    replace hsame := hid hsame
    go_wp2_with (at_delete; refine dropT rfl _ _ rfl rfl hR2.out u z hin.out rfl ?_; intro w3 hdr)
    try go_frame
    go_roundw
    case rel =>
     refine ⟨dn ++ [(u, z)], td2, hdt, hid ?_, hid (hg2.out.andThen hdr.grown (fun j e => .inr e))⟩
     have hr3 := hdr.rt
     rw [hfr.out] at hr3
     refine hr3.perm ?_
     refine strike_perm hR2.out.kl.nd (p := (u, z)) ?_
     rw [List.filter_append, List.filter_cons_of_neg (by rw [hgd.out]; decide), List.filter_nil, List.append_nil]
     exact (hpm.out.append_left _).trans List.perm_middle
    case measure => have h1 := hls.out; have h2 := hsame.out; have h3 := hdr.le; omega
   | true =>
    have hgd := hid (show gdP l s (u, z).1 = true from by unfold gdP; rw [show hld l s (nth (u, z).1 0) (nth (u, z).1 1) (nth (u, z).1 2) (nth (u, z).1 3) = true from hho, decide_eq_true (show 0 ≤ nth (u, z).1 2 from Int.not_lt.1 g2), decide_eq_true (show 0 ≤ nth (u, z).1 3 from Int.not_lt.1 g3)]; rfl)
    have hhc := hid (holds_any l hV.out uu cc s D _ _ _ _ hkd.1 hpf (w1.alloc (.cells #[.int .i64 (nth u 0), .int .i64 (nth u 1), .int .i64 (nth u 2), .int .i64 (nth u 3)] 45)) (hP.out.ext exE))
    go_wp2_with fail
    refine hhc.out.mono ?_; rintro e w2 ⟨rfl, hE⟩
    rw [hho]
    clear hhc hho
    have x12 : Ext w1 w2 := exE
    have hpm := hcm.out.perm
    have hR2 := hid (hcm.out.rt.ext x12)
    have hg2 : w.grownBy w2 (some b) := (hg.out.andThen hcm.out.grown (fun j e => by cases e; exact .inl (Nat.le_refl _))).andThen x12.grows (fun j e => by cases e)
    replace hg2 := hid hg2
    have hls := hcm.out.less
    have hsame : w2.rangeLeft b w.heap.size = w1.rangeLeft b w.heap.size := by
     obtain ⟨_, _, _, D, left, cnt, o1, _⟩ := hcm.out.rt
     rw [o1.left_eq, (o1.kept x12.grows (by simp) (by simp)).left_eq]
    have hdt : Hid ((dn ++ [(u, z)] ++ td2).Perm L) := by
     refine hid (List.Perm.trans ?_ hp.out)
     rw [List.append_assoc]
     exact hpm.symm.append_left dn
    have hin := hid hcm.out.inl
    have hfr : Hid (td2.filter (fun q => q.1 ≠ u) = td2) := by
     refine hid (List.filter_eq_self.2 fun q hq => ?_)
     have hnd := (hpm.map Prod.fst).nodup_iff.1 hR.out.uniq
     rw [List.map_cons, List.nodup_cons] at hnd
     simp only [ne_eq, decide_not, Bool.not_eq_eq_eq_not, Bool.not_true, decide_eq_false_iff_not]
     intro e
     exact hnd.1 (List.mem_map.2 ⟨q, hq, e⟩)
    replace hpm := hid hpm
    replace hls := hid hls
    replace hsame := hid hsame
    go_wp2_with fail
    go_roundw
    case rel =>
     refine ⟨dn ++ [(u, z)], td2, hdt, hid (hR2.out.perm ?_), hg2⟩
     rw [List.filter_append, List.filter_cons_of_pos (by simpa using hgd.out), List.append_assoc]
     exact hpm.out.append_left _
    case measure => have h1 := hls.out; have h2 := hsame.out; omega
end Go.Proofs.Ytpnfhcnnodolbaa
