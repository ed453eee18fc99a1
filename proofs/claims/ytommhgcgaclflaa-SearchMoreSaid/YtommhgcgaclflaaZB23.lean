/- Texts of one proof, laid together: TE, TF, TG. -/
import Derived.Test.YtommhgcgaclflaaZB7
import Derived.Test.YtommhgcgaclflaaTD
import Derived.Laws.CopyOwn
import Derived.Test.YtommhgcgaclflaaOrd
import Derived.Test.YtommhgcgaclflaaZB15
namespace Go.Proofs.Ytommhgcgaclflaa
set_option linter.unusedVariables false
set_option linter.unusedSimpArgs false
set_option linter.unusedSectionVars false
set_option linter.unnecessarySimpa false
open Go Go.RowKit Game
set_option maxRecDepth 100000

theorem copyI_wp {P : Program} {w : World} {ops : Array Oper} {rest : List Oper} {o : Oper} {a : Act} {Q : Exit → Act → World → Prop} (hgd : o.guard = none) (d s : Operand) (t : TypeId)
 (ho : o.op = .call { callee := .builtin .copy, args := #[d, s], argTypes := #[t, t] }) (e : TypeId) (ht : P.underlying t = some (.slice e)) (he : ElemI P e) (base g n c : Nat) (l k : List Int)
 (hd : a.eval d = .slice (some ⟨g, 0, none⟩) n c) (ad : Option Addr) (m c2 : Nat) (hs : a.eval s = .slice ad m c2) (hn : n = l.length) (hm : m = k.length) (hlk : k.length = l.length) (h0 : 0 < k.length)
 (hown : OwnI w base e (.slice (some ⟨g, 0, none⟩) n c) l) (hI : Ints w ad k)
 (h : ∀ w', Ints w' (some ⟨g, 0, none⟩) k → w.grownBy w' (some g) → wpList P ops Q rest (a.put o.dst (goInt k.length)) w') : wpList P ops Q (o :: rest) a w := by
 obtain ⟨i, hi, hz, hsz, hby⟩ := he
 obtain ⟨b0, off0, rfl, _, hcell⟩ := hI.at h0
 subst hn
 subst hm
 obtain ⟨h1, h2 | ⟨g', cap', cur, hv, hb, hg, hnc, hcm, hcs, htk⟩⟩ := hown
 ·simp at h2
 ·simp only [Value.slice.injEq, Option.some.injEq, Addr.mk.injEq, and_true, true_and] at hv
  obtain ⟨rfl, rfl⟩ := hv
  have hcs2 : cur.size = c := by simpa using hcs
  have hkl : (k.map (Value.int .i64)).length = k.length := by simp
  have hh := h (w.setRow g (cur.toList.take 0 ++ ((k.map (Value.int .i64)) ++ cur.toList.drop (0 + (k.map (Value.int .i64)).length))).toArray) ?_ ?_
  ·rw [← hkl] at hh
   refine wpList_copy_own hgd d s t t ho e ht (by rw [hi]; simp [hsz]) g 0 l.length c ⟨b0, off0, none⟩ k.length c2 hd hs cur e hg (k.map (Value.int .i64)) (by rw [hkl, hlk]; exact (Nat.min_self _).symm) ?_ (by rw [hkl, hlk, Nat.zero_add, hcs2]; exact hnc) ?_ hh
   ·intro j u hj
    simp only [List.getElem?_map, Option.map_eq_some_iff] at hj
    obtain ⟨z, hz, rfl⟩ := hj
    obtain ⟨hj, rfl⟩ := List.getElem?_eq_some_iff.1 hz
    have := hcell j hj
    rw [nth_lt hj] at this
    unfold Addr.add
    split
    ·rename_i h0; subst h0; exact this
    ·exact this
   ·intro u hu
    simp at hu
    obtain ⟨z, _, rfl⟩ := hu
    rfl
  ·refine ints_row (setRow_heap w g cur _ e (0, 0) hg) fun i hi => ?_
   simp only [List.getElem?_toArray, List.take_zero, List.nil_append]
   rw [List.getElem?_append_left (by simpa using hi)]
   simp only [List.getElem?_map, nth, List.getD_eq_getElem?_getD]
   rw [List.getElem?_eq_getElem hi]; rfl
  ·exact ⟨rfl, rfl, rfl, by simp, fun k _ hk => setRow_other w g k _ (fun e => hk (by rw [e]))⟩

def valNE (t : List (List Int)) : Int := if chkT t = 0 then (val t).1 else 0
def valDE (t : List (List Int)) : Int := if chkT t = 0 then (val t).2 else 0
def rowsL (t : List (List Int)) : List Int := if chkT t = 0 then bestL t else []
def colsL (t : List (List Int)) : List Int := if chkT t = 0 then bestL (turn t) else []
def usedR (t : List (List Int)) : List Int := if chkT t = 0 then bitsTo (usedB t) 4 else []
def usedC (t : List (List Int)) : List Int := if chkT t = 0 then bitsTo (usedB (turn t)) 4 else []
def RetL1 (l : List Int) (er : Int) (w : World) (e : Ending) (w' : World) : Prop := ∃ a c, e = .returned (.tuple #[.slice a l.length c, .int .i64 er]) ∧ Ints w' a l ∧ Ext w w'
def RetL2 (l k : List Int) (er : Int) (w : World) (e : Ending) (w' : World) : Prop := ∃ a1 c1 a2 c2, e = .returned (.tuple #[.slice a1 l.length c1, .slice a2 k.length c2, .int .i64 er]) ∧ Ints w' a1 l ∧ Ints w' a2 k ∧ Ext w w'

theorem turn_best_bd {t : List (List Int)} (v : VldT t) : -9000000000000000000 ≤ (val t).1 ∧ (val t).1 ≤ 9000000000000000000 := by
 obtain ⟨a, b, e⟩ := bestX_spec v
 have := planL_su_bd v a b
 rw [← e]
 unfold suP
 dsimp only
 omega

set_option maxHeartbeats 2000000 in
theorem valueP_any (t : List (List Int)) (q : FitT t) (a : Option Addr) (cap : Nat) (w : World) (hT : Tab w a t) (hl : t.length ≤ 1000) (hw : ∀ i, (row t i).length ≤ 1000) :
 Calls Try.prog 25 #[(.agg #[.slice a t.length cap])] w fun e w' => e = .returned (.tuple #[.agg #[.int .i64 (valNE t), .int .i64 (valDE t)], .int .i64 (chkT t)]) ∧ Ext w w' := by
 have hT' := hid hT
 have hw' := hid hw
 have hl' := hid hl
 clear hT hw hl
 by_cases g : chkT t = 0
 case neg =>
  have e2 : Hid (valNE t = 0 ∧ valDE t = 0) := hid (by unfold valNE valDE; rw [if_neg g, if_neg g]; exact ⟨rfl, rfl⟩)
  have g1 : (chkT t != 0) = true := by simpa using g
  have hop := hid (fun W hW => open_no t q g a cap W hW hl'.out hw'.out)
  clear g
  go_enter Try.func25, Try.ntmps25
  go_wp2_with fail
  refine (hop.out _ (hT'.out.ext (by repeat (with_reducible first | assumption | exact Ext.refl _ | refine Ext.drew ?_ | refine Ext.drewN ?_ _ | refine Ext.alloc ?_ _ | refine xS ?_ _ | refine xT ?_ (by assumption))))).mono ?_; rintro e w1 ⟨rfl, hE⟩
  (have F := hid ((fr0 w a t.length cap 24 30).ext hE); obtain ⟨tc, c0, c1, f0, f1, l0⟩ := F.out)
  go_wp2_with fail
  refine bodyPost_ret (v := .tuple #[.agg #[.int .i64 0, .int .i64 0], .int .i64 (chkT t)]) ?_ rfl ?_
  ·simp [results, Try.results25, go_sem, *]
  ·exact ⟨by rw [e2.out.1, e2.out.2], (by repeat (with_reducible first | assumption | exact Ext.refl _ | refine Ext.drew ?_ | refine Ext.drewN ?_ _ | refine Ext.alloc ?_ _ | refine xS ?_ _ | refine xT ?_ (by assumption)))⟩
 case pos =>
  have v := chkT_ok.1 g
  have v2 := turn_vld v
  have hp := bestL_vld v2
  have hop := hid (fun W hW => open_yes t v a cap W hW)
  have hbe := hid (fun D W h => best_any (turn t) v2 D W h)
  have hsu := hid (fun D a2 c2 W hW hI => sure_any (turn t) v2 (bestL (turn t)) (fun i => ⟨hp.nn i, hp.le i⟩) hp.ps hp.len D a2 c2 W hW hI)
  have he := bestL_su v2
  have e1 : sureN (turn t) (bestL (turn t)) = -(val t).1 ∧ sureD (turn t) (bestL (turn t)) = (val t).2 := by
   have h := he
   rw [val_turn v] at h
   exact ⟨congrArg Prod.fst h, congrArg Prod.snd h⟩
  rw [e1.1, e1.2] at hsu
  have hbd := turn_best_bd v
  have e2 : Hid (valNE t = (val t).1 ∧ valDE t = (val t).2) := hid (by unfold valNE valDE; rw [if_pos g, if_pos g]; exact ⟨rfl, rfl⟩)
  obtain ⟨N, hN⟩ : ∃ N, (val t).1 = N := ⟨_, rfl⟩
  obtain ⟨De, hDe⟩ : ∃ N, (val t).2 = N := ⟨_, rfl⟩
  rw [hN] at hsu hbd e2
  rw [hDe] at hsu e2
  replace hN := hid hN
  replace hDe := hid hDe
  have hopp := hid (opposite_any (-N) De (by omega))
  replace g := hid g
  clear he e1 hp v v2
  rw [g.out]
  go_enter Try.func25, Try.ntmps25
  go_wp2_with fail
  refine (hop.out _ (hT'.out.ext (by repeat (with_reducible first | assumption | exact Ext.refl _ | refine Ext.drew ?_ | refine Ext.drewN ?_ _ | refine Ext.alloc ?_ _ | refine xS ?_ _ | refine xT ?_ (by assumption))))).mono ?_; rintro e w1 ⟨D, E, rfl, hD, hD2, hE⟩
  (have F := hid ((fr0 w a t.length cap 24 30).ext hE); obtain ⟨tc, c0, c1, f0, f1, l0⟩ := F.out)
  replace hD2 := hid hD2
  clear hD
  have hE1 := hid hE
  clear hE
  go_wp2_with fail
  refine (hbe.out E _ (hD2.out.ext (by repeat (with_reducible first | assumption | exact Ext.refl _ | refine Ext.drew ?_ | refine Ext.drewN ?_ _ | refine Ext.alloc ?_ _ | refine xS ?_ _ | refine xT ?_ (by assumption))))).mono ?_; rintro e w2 ⟨gb, rfl, _, hI, hE2⟩
  (replace F := hid (F.out.ext hE2); clear tc c0 c1 f0 f1 l0; obtain ⟨tc, c0, c1, f0, f1, l0⟩ := F.out)
  have hI := hid hI
  go_wp2_with fail
  refine (hsu.out E _ _ _ (hD2.out.ext (by repeat (with_reducible first | assumption | exact Ext.refl _ | refine Ext.drew ?_ | refine Ext.drewN ?_ _ | refine Ext.alloc ?_ _ | refine xS ?_ _ | refine xT ?_ (by assumption)))) (hI.out.ext (by repeat (with_reducible first | assumption | exact Ext.refl _ | refine Ext.drew ?_ | refine Ext.drewN ?_ _ | refine Ext.alloc ?_ _ | refine xS ?_ _ | refine xT ?_ (by assumption))))).mono ?_; rintro e w3 ⟨rfl, hE3⟩
  (replace F := hid (F.out.ext hE3); clear tc c0 c1 f0 f1 l0; obtain ⟨tc, c0, c1, f0, f1, l0⟩ := F.out)
  go_wp2_with fail
  refine (hopp.out _).mono ?_; rintro e w4 ⟨rfl, hE4⟩
  rw [Int.neg_neg]
  (replace F := hid (F.out.ext hE4); clear tc c0 c1 f0 f1 l0; obtain ⟨tc, c0, c1, f0, f1, l0⟩ := F.out)
  go_wp2_with fail
  refine bodyPost_ret (v := .tuple #[.agg #[.int .i64 N, .int .i64 De], .int .i64 0]) ?_ rfl ?_
  ·simp [results, Try.results25, go_sem, *]
  ·exact ⟨by rw [e2.out.1, e2.out.2], by have := hE1.out; exact (by repeat (with_reducible first | assumption | exact Ext.refl _ | refine Ext.drew ?_ | refine Ext.drewN ?_ _ | refine Ext.alloc ?_ _ | refine xS ?_ _ | refine xT ?_ (by assumption)))⟩

set_option maxHeartbeats 2000000 in
theorem columns_any (t : List (List Int)) (q : FitT t) (a : Option Addr) (cap : Nat) (w : World) (hT : Tab w a t) (hl : t.length ≤ 1000) (hw : ∀ i, (row t i).length ≤ 1000) :
 Calls Try.prog 30 #[(.agg #[.slice a t.length cap])] w (RetL1 (colsL t) (chkT t) w) := by
 have hT' := hid hT
 have hw' := hid hw
 have hl' := hid hl
 clear hT hw hl
 by_cases g : chkT t = 0
 case neg =>
  have e2 : Hid (colsL t = []) := hid (by unfold colsL; rw [if_neg g])
  have g1 : (chkT t != 0) = true := by simpa using g
  have hop := hid (fun W hW => open_no t q g a cap W hW hl'.out hw'.out)
  clear g
  go_enter Try.func30, Try.ntmps30
  go_wp2_with fail
  refine (hop.out _ (hT'.out.ext (by repeat (with_reducible first | assumption | exact Ext.refl _ | refine Ext.drew ?_ | refine Ext.drewN ?_ _ | refine Ext.alloc ?_ _ | refine xS ?_ _ | refine xT ?_ (by assumption))))).mono ?_; rintro e w1 ⟨rfl, hE⟩
  go_wp2_with fail
  go_ret2
  exact ⟨none, 0, by rw [e2.out]; rfl, by rw [e2.out]; exact Ints.nil _ _, (by repeat (with_reducible first | assumption | exact Ext.refl _ | refine Ext.drew ?_ | refine Ext.drewN ?_ _ | refine Ext.alloc ?_ _ | refine xS ?_ _ | refine xT ?_ (by assumption)))⟩
 case pos =>
  have v := chkT_ok.1 g
  have v2 := turn_vld v
  have hop := hid (fun W hW => open_yes t v a cap W hW)
  have hbe := hid (fun D W h => best_any (turn t) v2 D W h)
  have e2 : Hid (colsL t = bestL (turn t)) := hid (by unfold colsL; rw [if_pos g])
  replace g := hid g
  clear v v2
  go_enter Try.func30, Try.ntmps30
  go_wp2_with fail
  refine (hop.out _ (hT'.out.ext (by repeat (with_reducible first | assumption | exact Ext.refl _ | refine Ext.drew ?_ | refine Ext.drewN ?_ _ | refine Ext.alloc ?_ _ | refine xS ?_ _ | refine xT ?_ (by assumption))))).mono ?_; rintro e w1 ⟨D, E, rfl, hD, hD2, hE⟩
  replace hD2 := hid hD2
  clear hD
  go_wp2_with fail
  refine (hbe.out E _ (hD2.out.ext (by repeat (with_reducible first | assumption | exact Ext.refl _ | refine Ext.drew ?_ | refine Ext.drewN ?_ _ | refine Ext.alloc ?_ _ | refine xS ?_ _ | refine xT ?_ (by assumption))))).mono ?_; rintro e w2 ⟨gb, rfl, _, hI, hE2⟩
  have hI := hid hI
  go_wp2_with fail
  go_ret2
  exact ⟨_, _, by rw [e2.out, g.out]; rfl, by rw [e2.out]; exact hI.out.ext (by repeat (with_reducible first | assumption | exact Ext.refl _ | refine Ext.drew ?_ | refine Ext.drewN ?_ _ | refine Ext.alloc ?_ _ | refine xS ?_ _ | refine xT ?_ (by assumption))), (by repeat (with_reducible first | assumption | exact Ext.refl _ | refine Ext.drew ?_ | refine Ext.drewN ?_ _ | refine Ext.alloc ?_ _ | refine xS ?_ _ | refine xT ?_ (by assumption)))⟩

set_option maxHeartbeats 2000000 in
theorem rows_any (t : List (List Int)) (q : FitT t) (a : Option Addr) (cap : Nat) (w : World) (hT : Tab w a t) (hl : t.length ≤ 1000) (hw : ∀ i, (row t i).length ≤ 1000) :
 Calls Try.prog 29 #[(.agg #[.slice a t.length cap])] w (RetL1 (rowsL t) (chkT t) w) := by
 have hT' := hid hT
 have hw' := hid hw
 have hl' := hid hl
 clear hT hw hl
 by_cases g : chkT t = 0
 case neg =>
  have e2 : Hid (rowsL t = []) := hid (by unfold rowsL; rw [if_neg g])
  have g1 : (chkT t != 0) = true := by simpa using g
  have hop := hid (fun W hW => open_no t q g a cap W hW hl'.out hw'.out)
  clear g
  go_enter Try.func29, Try.ntmps29
  go_wp2_with fail
  refine (hop.out _ (hT'.out.ext (by repeat (with_reducible first | assumption | exact Ext.refl _ | refine Ext.drew ?_ | refine Ext.drewN ?_ _ | refine Ext.alloc ?_ _ | refine xS ?_ _ | refine xT ?_ (by assumption))))).mono ?_; rintro e w1 ⟨rfl, hE⟩
  go_wp2_with fail
  go_ret2
  exact ⟨none, 0, by rw [e2.out]; rfl, by rw [e2.out]; exact Ints.nil _ _, (by repeat (with_reducible first | assumption | exact Ext.refl _ | refine Ext.drew ?_ | refine Ext.drewN ?_ _ | refine Ext.alloc ?_ _ | refine xS ?_ _ | refine xT ?_ (by assumption)))⟩
 case pos =>
  have v := chkT_ok.1 g
  have hop := hid (fun W hW => open_yes t v a cap W hW)
  have hbe := hid (fun D W h => best_any t v D W h)
  have e2 : Hid (rowsL t = bestL t) := hid (by unfold rowsL; rw [if_pos g])
  have hpl : (bestL t).length = t.length := (bestL_vld v).len
  have h04 := v.m1
  have h44 := v.m4
  obtain ⟨n, hn⟩ : ∃ n, (bestL t).length = n := ⟨_, rfl⟩
  have hn4 : n ≤ 4 := by omega
  have hn1 : 0 < n := by omega
  have hnn := hid hn
  replace g := hid g
  clear v hpl
  go_enter Try.func29, Try.ntmps29
  go_wp2_with fail
  refine (hop.out _ (hT'.out.ext (by repeat (with_reducible first | assumption | exact Ext.refl _ | refine Ext.drew ?_ | refine Ext.drewN ?_ _ | refine Ext.alloc ?_ _ | refine xS ?_ _ | refine xT ?_ (by assumption))))).mono ?_; rintro e w1 ⟨D, E, rfl, hD, hD2, hE⟩
  replace hD := hid hD
  have hE1 := hid hE
  clear hD2 hE
  go_wp2_with fail
  refine (hbe.out D _ (hD.out.ext (by repeat (with_reducible first | assumption | exact Ext.refl _ | refine Ext.drew ?_ | refine Ext.drewN ?_ _ | refine Ext.alloc ?_ _ | refine xS ?_ _ | refine xT ?_ (by assumption))))).mono ?_; rintro e w2 ⟨gb, rfl, hgb, hI, hE2⟩
  rw [hnn.out]
  have hI := hid hI
  have x2 := hid (show Ext w w2 from by have := hE1.out; exact (by repeat (with_reducible first | assumption | exact Ext.refl _ | refine Ext.drew ?_ | refine Ext.drewN ?_ _ | refine Ext.alloc ?_ _ | refine xS ?_ _ | refine xT ?_ (by assumption))))
  clear hE2 hgb hn
  have hin0 : (0 : Int) ≤ (n : Int) := by omega
  have hcl1 : n = (List.replicate n (0 : Int)).length := by simp
  have hcl2 : (bestL t).length = (List.replicate n (0 : Int)).length := by rw [hnn.out]; simp
  have hcl3 : 0 < (bestL t).length := by rw [hnn.out]; omega
  replace hcl1 := hid hcl1
  replace hcl2 := hid hcl2
  replace hcl3 := hid hcl3
  go_wp2_with (first | (at_make; refine make_ints rfl _ _ 25 rfl 2 Try.underlying25 elemI64 n rfl rfl (by omega) ?_; intro w5 ho5 hx5; have ho5 := hid ho5; have hx5' := hid hx5; have hI5 := hid (hI.out.ext hx5'.out); clear hx5) | (with_reducible refine copyI_wp (o := ⟨some 25, _, _, _, _, _⟩) rfl (.tmp 23) (.tmp 24) 25 rfl 2 Try.underlying25 elemI64 w2.heap.size w2.heap.size n n (List.replicate n 0) (bestL t) ?h1 (some ⟨gb, 0, none⟩) n n ?h2 hcl1.out hnn.out.symm hcl2.out hcl3.out ho5.out hI5.out ?_))
  case h1 => rfl
  case h2 => rfl
  intro w6 hI6 hg6
  go_wp2_with fail
  go_ret2
  exact ⟨some ⟨w2.heap.size, 0, none⟩, n, by rw [e2.out, hnn.out, g.out]; rfl, by rw [e2.out]; exact hI6, Ext.grown (x2.out.trans hx5'.out) hg6 (fun j e => by cases e; exact x2.out.size)⟩

set_option maxHeartbeats 2000000 in
theorem usedP_any (t : List (List Int)) (q : FitT t) (a : Option Addr) (cap : Nat) (w : World) (hT : Tab w a t) (hl : t.length ≤ 1000) (hw : ∀ i, (row t i).length ≤ 1000) :
 Calls Try.prog 36 #[(.agg #[.slice a t.length cap])] w (RetL2 (usedR t) (usedC t) (chkT t) w) := by
 have hT' := hid hT
 have hw' := hid hw
 have hl' := hid hl
 clear hT hw hl
 by_cases g : chkT t = 0
 case neg =>
  have e2 : Hid (usedR t = [] ∧ usedC t = []) := hid (by unfold usedR usedC; rw [if_neg g, if_neg g]; exact ⟨rfl, rfl⟩)
  have g1 : (chkT t != 0) = true := by simpa using g
  have hop := hid (fun W hW => open_no t q g a cap W hW hl'.out hw'.out)
  clear g
  go_enter Try.func36, Try.ntmps36
  go_wp2_with fail
  refine (hop.out _ (hT'.out.ext (by repeat (with_reducible first | assumption | exact Ext.refl _ | refine Ext.drew ?_ | refine Ext.drewN ?_ _ | refine Ext.alloc ?_ _ | refine xS ?_ _ | refine xT ?_ (by assumption))))).mono ?_; rintro e w1 ⟨rfl, hE⟩
  go_wp2_with fail
  go_ret3
  exact ⟨none, 0, none, 0, by rw [e2.out.1, e2.out.2]; rfl, by rw [e2.out.1]; exact Ints.nil _ _, by rw [e2.out.2]; exact Ints.nil _ _, (by repeat (with_reducible first | assumption | exact Ext.refl _ | refine Ext.drew ?_ | refine Ext.drewN ?_ _ | refine Ext.alloc ?_ _ | refine xS ?_ _ | refine xT ?_ (by assumption)))⟩
 case pos =>
  have v := chkT_ok.1 g
  have v2 := turn_vld v
  have hop := hid (fun W hW => open_yes t v a cap W hW)
  have hu1 := hid (fun D W h => used_any t v D W h)
  have hu2 := hid (fun D W h => used_any (turn t) v2 D W h)
  have e2 : Hid (usedR t = bitsTo (usedB t) 4 ∧ usedC t = bitsTo (usedB (turn t)) 4) := hid (by unfold usedR usedC; rw [if_pos g, if_pos g]; exact ⟨rfl, rfl⟩)
  replace g := hid g
  clear v v2
  go_enter Try.func36, Try.ntmps36
  go_wp2_with fail
  refine (hop.out _ (hT'.out.ext (by repeat (with_reducible first | assumption | exact Ext.refl _ | refine Ext.drew ?_ | refine Ext.drewN ?_ _ | refine Ext.alloc ?_ _ | refine xS ?_ _ | refine xT ?_ (by assumption))))).mono ?_; rintro e w1 ⟨D, E, rfl, hD, hD2, hE⟩
  replace hD := hid hD
  replace hD2 := hid hD2
  go_wp2_with fail
  refine (hu1.out D _ (hD.out.ext (by repeat (with_reducible first | assumption | exact Ext.refl _ | refine Ext.drew ?_ | refine Ext.drewN ?_ _ | refine Ext.alloc ?_ _ | refine xS ?_ _ | refine xT ?_ (by assumption))))).mono ?_; rintro e w2 ⟨a1, c1, rfl, hI, hE2⟩
  have hI := hid hI
  have x2 := hid (show Ext w w2 from (by repeat (with_reducible first | assumption | exact Ext.refl _ | refine Ext.drew ?_ | refine Ext.drewN ?_ _ | refine Ext.alloc ?_ _ | refine xS ?_ _ | refine xT ?_ (by assumption))))
  have x12 := hid hE2
  clear hE hE2
  go_wp2_with fail
  refine (hu2.out E _ (hD2.out.ext (by have := x12.out; exact (by repeat (with_reducible first | assumption | exact Ext.refl _ | refine Ext.drew ?_ | refine Ext.drewN ?_ _ | refine Ext.alloc ?_ _ | refine xS ?_ _ | refine xT ?_ (by assumption)))))).mono ?_; rintro e w3 ⟨a2, c2, rfl, hJ, hE3⟩
  have hJ := hid hJ
  go_wp2_with fail
  go_ret3
  exact ⟨a1, c1, a2, c2, by rw [e2.out.1, e2.out.2, g.out]; rfl, by rw [e2.out.1]; exact hI.out.ext (by repeat (with_reducible first | assumption | exact Ext.refl _ | refine Ext.drew ?_ | refine Ext.drewN ?_ _ | refine Ext.alloc ?_ _ | refine xS ?_ _ | refine xT ?_ (by assumption))), by rw [e2.out.2]; exact hJ.out.ext (by repeat (with_reducible first | assumption | exact Ext.refl _ | refine Ext.drew ?_ | refine Ext.drewN ?_ _ | refine Ext.alloc ?_ _ | refine xS ?_ _ | refine xT ?_ (by assumption))), by have := x2.out; exact (by repeat (with_reducible first | assumption | exact Ext.refl _ | refine Ext.drew ?_ | refine Ext.drewN ?_ _ | refine Ext.alloc ?_ _ | refine xS ?_ _ | refine xT ?_ (by assumption)))⟩

end Go.Proofs.Ytommhgcgaclflaa
namespace Go.Proofs.Ytommhgcgaclflaa
set_option linter.unusedVariables false
set_option linter.unusedSimpArgs false
set_option linter.unusedSectionVars false
set_option linter.unnecessarySimpa false
open Go Go.RowKit Game
set_option maxRecDepth 100000

theorem appV_wp {P : Program} {w : World} {o : Oper} {a : Act} {K : Act → World → Prop} {Q : Exit → Act → World → Prop} (s x : Operand) (ty : TypeId)
 (ho : o.op = .call { callee := .builtin .append, args := #[s, x], argTypes := #[ty, ty] })
 (e : TypeId) (ht : P.underlying ty = some (.slice e)) (he : ElemS P e) (base : Nat) (vs : List Value) (v : Value) (hs : a.eval s = v) (b0 : Nat) (hx : a.eval x = .slice (some ⟨b0, 0, none⟩) 1 1)
 (hown : OwnV w base e v vs) (u : Value) (hc : w.cell? ⟨b0, 0, none⟩ = some u) (h1 : u.oneCell' = true) (hl : vs.length ≤ 1000) (hbase : base ≤ w.heap.size)
 (h : ∀ b cap w', OwnV w' base e (.slice (some ⟨b, 0, none⟩) (vs.length + 1) cap) (vs ++ [u]) → w.grownBy w' v.ownBlock → base ≤ b →
  K (a.put o.dst (.slice (some ⟨b, 0, none⟩) (vs.length + 1) cap)) w') : o.wp P a w K Q := by
 obtain ⟨i, hi, hz, hsz, hby⟩ := he
 obtain ⟨v', w', hr1, hown', hg, hn, hat⟩ := run_append_own_at (P := P) w base ty o.type e i (.slice none 0 0) 1 24 ht hi hz hsz hby rfl (by decide) v vs.length _ hown ⟨b0, 0, none⟩ 1 1 [u] rfl (by
  intro j z hj
  match j, hj with
  | 0, hj => simp at hj; subst hj; simpa [Addr.add] using hc) (by
  intro z hz
  simp at hz; subst hz; exact h1) (by unfold maxLen; omega) (by omega) hbase
 have hne : ¬ v' = .slice none 0 0 := fun e => by have := (hn.1 e).2; simp at this
 rcases hown'.2 with ⟨e1, _⟩ | ⟨g, cap, cur, rfl, hb, rr⟩
 ·exact absurd e1 hne
 ·have e1 : vs.length + 1 = (vs ++ [u]).length := by simp
  have ho2 : OwnV w' base e (.slice (some ⟨g, 0, none⟩) (vs.length + 1) cap) (vs ++ [u]) := by unfold OwnV; rw [← e1]; exact hown'
  unfold Oper.wp execOp
  simp only [ho, resolve, invoke, builtin, Sem.run_bind, Sem.run_pure, Result.andThen_ok, List.map_toArray, List.map_cons, List.map_nil, hs, hx, hr1]
  exact h g cap w' ho2 hg hb
theorem ownV_put {w : World} {base : Nat} {e : TypeId} {v : Value} {vs : List Value} (h : OwnV w base e v vs) {p : Addr} (hb : p.block < base) (u : Value) : OwnV (w.setCell p u) base e v vs :=
 h.put (fun e => by have := (h.block _ e).1; omega) u

def rvs (b off cap n : Nat) (k : Nat) : List Value := (List.range k).map fun i => .slice (some ⟨b, off + n * i, none⟩) n (cap - n * i)
theorem rvs_len (b off cap n k : Nat) : (rvs b off cap n k).length = k := by simp [rvs]
theorem rvs_snoc (b off cap n k : Nat) : rvs b off cap n (k + 1) = rvs b off cap n k ++ [.slice (some ⟨b, off + n * k, none⟩) n (cap - n * k)] := by
 unfold rvs; rw [List.range_succ, List.map_append]; rfl

set_option maxHeartbeats 4000000 in
 theorem table2_any (b off cap : Nat) (hcap : 4 ≤ cap) (w : World) (hb : b < w.heap.size) :
  Calls Try.prog 88 #[.int .i64 2, .slice (some ⟨b, off, none⟩) 4 cap] w fun e w' => ∃ g c, e = .returned (.agg #[.slice (some ⟨g, 0, none⟩) 2 c]) ∧ (∀ i, i < 2 → w'.cell? ⟨g, i, none⟩ = some (.slice (some ⟨b, off + 2 * i, none⟩) 2 (cap - 2 * i))) ∧ Ext w w' := by
  obtain ⟨w0, hw0⟩ : ∃ w0, w0 = (w.alloc (.cells #[.slice none 0 0] 24)).alloc (.cells #[.slice none 0 0] 24) := ⟨_, rfl⟩
  have x0 : Ext w w0 := by rw [hw0]; exact (by repeat (with_reducible first | assumption | exact Ext.refl _ | refine Ext.drew ?_ | refine Ext.drewN ?_ _ | refine Ext.alloc ?_ _ | refine xS ?_ _ | refine xT ?_ (by assumption)))
  have z0 : w0.heap.size = w.heap.size + 2 := by rw [hw0]; simp
  have r0 : w0.cell? ⟨w.heap.size, 0, none⟩ = some (.slice none 0 0) := by rw [hw0]; simp [go_sem]
  have r1 : w0.cell? ⟨w.heap.size + 1, 0, none⟩ = some (.slice none 0 0) := by rw [hw0]; simp [go_sem]
  have f0 : w0.frozen? ⟨w.heap.size, 0, none⟩ = false := by rw [hw0]; simp [go_sem]
  have f1 : w0.frozen? ⟨w.heap.size + 1, 0, none⟩ = false := by rw [hw0]; simp [go_sem]
  replace x0 := hid x0
  replace z0 := hid z0
  have hcap' := hid hcap
  go_enter Try.func88, Try.ntmps88
  go_wp2_with fail
  rw [← hw0]
  clear hw0
  go_loopw [6] (fun i wr => ∃ (k : Nat) (v : Value), k ≤ 2 ∧ i = .int .i64 (2 * (k : Int)) ∧ wr.cell? ⟨w.heap.size + 1, 0, none⟩ = some v ∧ wr.frozen? ⟨w.heap.size + 1, 0, none⟩ = false ∧ wr.cell? ⟨w.heap.size, 0, none⟩ = some (.slice none 0 0) ∧ wr.frozen? ⟨w.heap.size, 0, none⟩ = false ∧ Hid (OwnV wr (w.heap.size + 2) 25 v (rvs b off cap 2 k)) ∧ Hid (Ext w wr)) (fun i _ => (4 - intOf i).toNat)
  case atStart => exact ⟨0, _, by omega, by simp, r1, f1, r0, f0, hid (World.ownsRow_nil w0 _ _ 1), x0⟩
  case round =>
   obtain ⟨k, v, hk, rfl, c1, g1, c0, g0, ho, hx⟩ := hrel
   have l1 := cell_lt c1
   have l0 := cell_lt c0
   dsimp only at l1 l0
   by_cases hkN : k < 2
   ·have hsn := hid (rvs_snoc b off cap 2 k)
    have hln := hid (rvs_len b off cap 2 k)
    have q1 : (2 * (k : Int)) + 2 ≤ 4 := by omega
    have q2 : (0 : Int) ≤ 2 * (k : Int) := by omega
    have q3 : 2 * (k : Int) ≤ 2 * (k : Int) + 2 := by omega
    have q4 : 2 * (k : Int) + 2 ≤ (cap : Int) := by omega
    have q5 := Go.IntWalk.i64_in (2 * (k : Int) + 2) (by omega)
    have q6 : (2 * (k : Int)).toNat = 2 * k := by omega
    have q7 : (2 * (k : Int) + 2).toNat = 2 * k + 2 := by omega
    have q8 : (2 * (k : Int) + 2 - 2 * (k : Int)).toNat = 2 := by omega
    have q9 : ¬ cap = 2 * k := by omega
    have q10 : ¬ cap ≤ 2 * k := by omega
    have q11 : 2 * k + 2 - 2 * k = 2 := by omega
    have q12 : 2 * k < cap := by omega
    go_wp2_with fail
    refine wp_region_told (Told 9 9 (fun w' => w'.cell? ⟨w.heap.size + 1, 0, none⟩ = some v) (fun _ => True) (fun _ => True)) (by kernel_rfl) (Told.all (by exact c1) trivial trivial) fun hTold => ?_
    (refine wpAnyT_take (i := 0) (oi := _) (v := ?_) rfl (by kernel_rfl) (by kernel_rfl) (by kernel_rfl) (by kernel_rfl) (fun _ _ _ h => h) (Told.c) (Told.ind (by decide) (by decide)) (Or.inl ⟨by rfl, ?yl⟩) (by assumption) (fun hHeld => ?_); (case yl => ((intro w hSw; (try dsimp only at hSw); go_simp); with_reducible rfl)); (try clear hTold); rename _ => hTold; (try simp only [Act.put, List.setIfInBounds_toArray, List.set_cons_zero, List.set_cons_succ]))
    (refine wpAnyT_take (i := 1) (oi := _) (v := ?_) rfl (by kernel_rfl) (by kernel_rfl) (by kernel_rfl) (by kernel_rfl) (fun _ _ _ h => h) (Told.a (f := 11) (by kernel_rfl)) (Told.ind (by decide) (by decide)) (Or.inl ⟨by rfl, ?yl⟩) (by assumption) (fun hHeld => ?_); (case yl => ((intro w hSw; (try dsimp only at hSw); go_simp); with_reducible rfl)); (try clear hTold); rename _ => hTold; (try simp only [Act.put, List.setIfInBounds_toArray, List.set_cons_zero, List.set_cons_succ]))
    (refine wpAnyT_take (i := 2) (oi := _) (v := ?_) rfl (by kernel_rfl) (by kernel_rfl) (by kernel_rfl) (by kernel_rfl) (fun _ _ _ h => h) (Told.c) (Told.ind (by decide) (by decide)) (Or.inl ⟨by rfl, ?yl⟩) (by assumption) (fun hHeld => ?_); (case yl => ((intro w hSw; (try dsimp only at hSw); go_simp); with_reducible rfl)); (try clear hTold); rename _ => hTold; (try simp only [Act.put, List.setIfInBounds_toArray, List.set_cons_zero, List.set_cons_succ]))
    (refine wpAnyT_take (i := 3) (oi := _) (v := ?_) rfl (by kernel_rfl) (by kernel_rfl) (by kernel_rfl) (by kernel_rfl) (fun _ _ _ h => h) (Told.c) (Told.ind (by decide) (by decide)) (Or.inl ⟨by rfl, ?yl⟩) (by assumption) (fun hHeld => ?_); (case yl => ((intro w hSw; (try dsimp only at hSw); go_simp); with_reducible rfl)); (try clear hTold); rename _ => hTold; (try simp only [Act.put, List.setIfInBounds_toArray, List.set_cons_zero, List.set_cons_succ]))
    (refine wpAnyT_take (i := 4) (oi := _) (v := ?_) rfl (by kernel_rfl) (by kernel_rfl) (by kernel_rfl) (by kernel_rfl) (fun _ _ _ h => h) (Told.c) (Told.ind (by decide) (by decide)) (Or.inl ⟨by rfl, ?yl⟩) (by assumption) (fun hHeld => ?_); (case yl => ((intro w hSw; (try dsimp only at hSw); go_simp); with_reducible rfl)); (try clear hTold); rename _ => hTold; (try simp only [Act.put, List.setIfInBounds_toArray, List.set_cons_zero, List.set_cons_succ]))
    (refine wpAnyT_take (i := 5) (oi := _) (v := ?_) rfl (by kernel_rfl) (by kernel_rfl) (by kernel_rfl) (by kernel_rfl) (fun _ _ _ h => h) (Told.c) (Told.ind (by decide) (by decide)) (Or.inl ⟨by rfl, ?yl⟩) (by assumption) (fun hHeld => ?_); (case yl => ((intro w hSw; (try dsimp only at hSw); go_simp); with_reducible rfl)); (try clear hTold); rename _ => hTold; (try simp only [Act.put, List.setIfInBounds_toArray, List.set_cons_zero, List.set_cons_succ]))
    (refine wpAnyT_take (i := 6) (oi := _) (v := ?_) rfl (by kernel_rfl) (by kernel_rfl) (by kernel_rfl) (by kernel_rfl) (fun _ _ _ h => h) (Told.c) (Told.ind (by decide) (by decide)) (Or.inl ⟨by rfl, ?yl⟩) (by assumption) (fun hHeld => ?_); (case yl => ((intro w hSw; (try dsimp only at hSw); go_simp); with_reducible rfl)); (try clear hTold); rename _ => hTold; (try simp only [Act.put, List.setIfInBounds_toArray, List.set_cons_zero, List.set_cons_succ]))
    (refine wpAnyT_take (i := 7) (oi := _) (v := ?_) rfl (by kernel_rfl) (by kernel_rfl) (by kernel_rfl) (by kernel_rfl) (fun _ _ _ h => h) (Told.c) (Told.ind (by decide) (by decide)) (Or.inl ⟨by rfl, ?yl⟩) (by assumption) (fun hHeld => ?_); (case yl => ((intro w hSw; (try dsimp only at hSw); go_simp); with_reducible rfl)); (try clear hTold); rename _ => hTold; (try simp only [Act.put, List.setIfInBounds_toArray, List.set_cons_zero, List.set_cons_succ]))
    refine wpAnyT_one (i := 8) (o := _) (by kernel_rfl) rfl (fun K hK => ?_)
    go_simp
    refine hK.out _ _ (Told.all (Ext.cell (w := wr) (by repeat (with_reducible first | assumption | exact Ext.refl _ | refine Ext.drew ?_ | refine Ext.drewN ?_ _ | refine Ext.alloc ?_ _ | refine xS ?_ _ | refine xT ?_ (by assumption))) c1) trivial trivial) (fun hTold => ?_)
    clear hK K
    refine wpAnyT_one (i := 9) (o := _) (by kernel_rfl) rfl (fun K hK => ?_)
    rw [if_pos (by rfl)]
    refine appV_wp _ _ _ rfl 25 Try.underlying22 elemRowS (w.heap.size + 2) (rvs b off cap 2 k) v rfl wr.heap.size rfl (ho.out.ext (by repeat (with_reducible first | assumption | exact Ext.refl _ | refine Ext.drew ?_ | refine Ext.drewN ?_ _ | refine Ext.alloc ?_ _ | refine xS ?_ _ | refine xT ?_ (by assumption)))) (.slice (some ⟨b, off + 2 * k, none⟩) 2 (cap - 2 * k)) (by simp [go_sem]) rfl (by rw [hln.out]; omega) (by simp; omega) ?_
    intro b9 cp9 w9 ho9 hg9 hb9
    have hne : ∀ q, q < w.heap.size + 2 → some q ≠ v.ownBlock := fun q hq e => by have := (ho.out.block _ e.symm).1; omega
    have xa : Ext wr (wr.alloc (.cells #[.slice (some ⟨b, off + 2 * k, none⟩) 2 (cap - 2 * k)] 25)).drew := (by repeat (with_reducible first | assumption | exact Ext.refl _ | refine Ext.drew ?_ | refine Ext.drewN ?_ _ | refine Ext.alloc ?_ _ | refine xS ?_ _ | refine xT ?_ (by assumption)))
    have d1 := hg9.cell (xa.cell c1) (hne (w.heap.size + 1) (by omega))
    have d0 := hg9.cell (xa.cell c0) (hne w.heap.size (by omega))
    have e1 : w9.frozen? ⟨w.heap.size + 1, 0, none⟩ = false := (grownBy_frozen hg9 (cell_lt (xa.cell c1)) (hne (w.heap.size + 1) (by omega))).trans ((xa.frozen l1).trans g1)
    have e0 : w9.frozen? ⟨w.heap.size, 0, none⟩ = false := (grownBy_frozen hg9 (cell_lt (xa.cell c0)) (hne w.heap.size (by omega))).trans ((xa.frozen l0).trans g0)
    have hE9 := hid (Ext.grown (hx.out.trans xa) hg9 (fun q e => by have := (ho.out.block _ e).1; omega))
    have ho9 := hid ho9
    have z9 := cell_lt d1
    dsimp only at z9
    refine hK.out _ _ (Told.past (by kernel_rfl) (by kernel_rfl) trivial) (fun hTold => ?_)
    clear hK K hg9 xa c1 c0 g1 g0 hne
    try simp only [sxA, sxB, sxC, Act.put, sxD, sxE, sxF]
    refine wpAnyT_one (i := 10) (o := _) (by kernel_rfl) rfl (fun K hK => ?_)
    go_simp
    refine hK.out _ _ (Told.past (by kernel_rfl) (by kernel_rfl) trivial) (fun hTold => ?_)
    clear hK K
    refine wpAnyT_one (i := 11) (o := _) (by kernel_rfl) rfl (fun K hK => ?_)
    go_simp
    refine hK.out _ _ (Told.past (by kernel_rfl) (by kernel_rfl) trivial) (fun hTold => ?_)
    clear hK K
    refine wpAnyT_done (by kernel_rfl) ?_ _
    clear hTold
    go_wp2_with fail
    go_roundw
    case rel =>
     refine ⟨k + 1, .slice (some ⟨b9, 0, none⟩) ((rvs b off cap 2 k).length + 1) cp9, by omega, by first | rfl | (congr 1; omega), cell_put_eq d1, by rw [World.frozen?_setCell]; exact e1, ?_, by rw [World.frozen?_setCell]; exact e0, hid ?_, hid (Ext.setCell hE9.out (by simp) _)⟩
     ·rw [World.cell?_setCell_other _ _ _ _ (by simp)]; exact d0
     ·rw [hsn.out]; exact ownV_put ho9.out (by dsimp only; omega) _
    case measure => simp [intOf]; omega
   ·obtain rfl : k = 2 := by omega
    have hc := ho.out.cells
    rcases hc with ⟨_, h⟩ | ⟨g, c, rfl, hg1, hg2, _, hcc⟩
    ·have := congrArg List.length h
     rw [rvs_len] at this
     cases this
    ·rw [rvs_len] at c1
     have hrow : Hid (∀ i, i < 2 → wr.cell? ⟨g, i, none⟩ = some (.slice (some ⟨b, off + 2 * i, none⟩) 2 (cap - 2 * i))) := hid fun i hi => (hcc i _ (by unfold rvs; simp [hi])).1
     replace ho := hid hg1
     clear hcc
     go_wp2_with fail
     refine bodyPost_ret (v := .agg #[.slice (some ⟨g, 0, none⟩) 2 c]) ?_ rfl ?_
     ·simp [results, Try.results88, go_sem, *]
     ·refine ⟨g, c, rfl, fun i hi => ?_, Ext.setCell hx.out (by simp) _⟩
      rw [World.cell?_setCell_other _ _ _ _ (by simp <;> omega)]
      exact hrow.out i hi
set_option maxHeartbeats 4000000 in
 theorem table3_any (b off cap : Nat) (hcap : 9 ≤ cap) (w : World) (hb : b < w.heap.size) :
  Calls Try.prog 88 #[.int .i64 3, .slice (some ⟨b, off, none⟩) 9 cap] w fun e w' => ∃ g c, e = .returned (.agg #[.slice (some ⟨g, 0, none⟩) 3 c]) ∧ (∀ i, i < 3 → w'.cell? ⟨g, i, none⟩ = some (.slice (some ⟨b, off + 3 * i, none⟩) 3 (cap - 3 * i))) ∧ Ext w w' := by
  obtain ⟨w0, hw0⟩ : ∃ w0, w0 = (w.alloc (.cells #[.slice none 0 0] 24)).alloc (.cells #[.slice none 0 0] 24) := ⟨_, rfl⟩
  have x0 : Ext w w0 := by rw [hw0]; exact (by repeat (with_reducible first | assumption | exact Ext.refl _ | refine Ext.drew ?_ | refine Ext.drewN ?_ _ | refine Ext.alloc ?_ _ | refine xS ?_ _ | refine xT ?_ (by assumption)))
  have z0 : w0.heap.size = w.heap.size + 2 := by rw [hw0]; simp
  have r0 : w0.cell? ⟨w.heap.size, 0, none⟩ = some (.slice none 0 0) := by rw [hw0]; simp [go_sem]
  have r1 : w0.cell? ⟨w.heap.size + 1, 0, none⟩ = some (.slice none 0 0) := by rw [hw0]; simp [go_sem]
  have f0 : w0.frozen? ⟨w.heap.size, 0, none⟩ = false := by rw [hw0]; simp [go_sem]
  have f1 : w0.frozen? ⟨w.heap.size + 1, 0, none⟩ = false := by rw [hw0]; simp [go_sem]
  replace x0 := hid x0
  replace z0 := hid z0
  have hcap' := hid hcap
  go_enter Try.func88, Try.ntmps88
  go_wp2_with fail
  rw [← hw0]
  clear hw0
  go_loopw [6] (fun i wr => ∃ (k : Nat) (v : Value), k ≤ 3 ∧ i = .int .i64 (3 * (k : Int)) ∧ wr.cell? ⟨w.heap.size + 1, 0, none⟩ = some v ∧ wr.frozen? ⟨w.heap.size + 1, 0, none⟩ = false ∧ wr.cell? ⟨w.heap.size, 0, none⟩ = some (.slice none 0 0) ∧ wr.frozen? ⟨w.heap.size, 0, none⟩ = false ∧ Hid (OwnV wr (w.heap.size + 2) 25 v (rvs b off cap 3 k)) ∧ Hid (Ext w wr)) (fun i _ => (9 - intOf i).toNat)
  case atStart => exact ⟨0, _, by omega, by simp, r1, f1, r0, f0, hid (World.ownsRow_nil w0 _ _ 1), x0⟩
  case round =>
   obtain ⟨k, v, hk, rfl, c1, g1, c0, g0, ho, hx⟩ := hrel
   have l1 := cell_lt c1
   have l0 := cell_lt c0
   dsimp only at l1 l0
   by_cases hkN : k < 3
   ·have hsn := hid (rvs_snoc b off cap 3 k)
    have hln := hid (rvs_len b off cap 3 k)
    have q1 : (3 * (k : Int)) + 3 ≤ 9 := by omega
    have q2 : (0 : Int) ≤ 3 * (k : Int) := by omega
    have q3 : 3 * (k : Int) ≤ 3 * (k : Int) + 3 := by omega
    have q4 : 3 * (k : Int) + 3 ≤ (cap : Int) := by omega
    have q5 := Go.IntWalk.i64_in (3 * (k : Int) + 3) (by omega)
    have q6 : (3 * (k : Int)).toNat = 3 * k := by omega
    have q7 : (3 * (k : Int) + 3).toNat = 3 * k + 3 := by omega
    have q8 : (3 * (k : Int) + 3 - 3 * (k : Int)).toNat = 3 := by omega
    have q9 : ¬ cap = 3 * k := by omega
    have q10 : ¬ cap ≤ 3 * k := by omega
    have q11 : 3 * k + 3 - 3 * k = 3 := by omega
    have q12 : 3 * k < cap := by omega
    go_wp2_with fail
    refine wp_region_told (Told 9 9 (fun w' => w'.cell? ⟨w.heap.size + 1, 0, none⟩ = some v) (fun _ => True) (fun _ => True)) (by kernel_rfl) (Told.all (by exact c1) trivial trivial) fun hTold => ?_
    (refine wpAnyT_take (i := 0) (oi := _) (v := ?_) rfl (by kernel_rfl) (by kernel_rfl) (by kernel_rfl) (by kernel_rfl) (fun _ _ _ h => h) (Told.c) (Told.ind (by decide) (by decide)) (Or.inl ⟨by rfl, ?yl⟩) (by assumption) (fun hHeld => ?_); (case yl => ((intro w hSw; (try dsimp only at hSw); go_simp); with_reducible rfl)); (try clear hTold); rename _ => hTold; (try simp only [Act.put, List.setIfInBounds_toArray, List.set_cons_zero, List.set_cons_succ]))
    (refine wpAnyT_take (i := 1) (oi := _) (v := ?_) rfl (by kernel_rfl) (by kernel_rfl) (by kernel_rfl) (by kernel_rfl) (fun _ _ _ h => h) (Told.a (f := 11) (by kernel_rfl)) (Told.ind (by decide) (by decide)) (Or.inl ⟨by rfl, ?yl⟩) (by assumption) (fun hHeld => ?_); (case yl => ((intro w hSw; (try dsimp only at hSw); go_simp); with_reducible rfl)); (try clear hTold); rename _ => hTold; (try simp only [Act.put, List.setIfInBounds_toArray, List.set_cons_zero, List.set_cons_succ]))
    (refine wpAnyT_take (i := 2) (oi := _) (v := ?_) rfl (by kernel_rfl) (by kernel_rfl) (by kernel_rfl) (by kernel_rfl) (fun _ _ _ h => h) (Told.c) (Told.ind (by decide) (by decide)) (Or.inl ⟨by rfl, ?yl⟩) (by assumption) (fun hHeld => ?_); (case yl => ((intro w hSw; (try dsimp only at hSw); go_simp); with_reducible rfl)); (try clear hTold); rename _ => hTold; (try simp only [Act.put, List.setIfInBounds_toArray, List.set_cons_zero, List.set_cons_succ]))
    (refine wpAnyT_take (i := 3) (oi := _) (v := ?_) rfl (by kernel_rfl) (by kernel_rfl) (by kernel_rfl) (by kernel_rfl) (fun _ _ _ h => h) (Told.c) (Told.ind (by decide) (by decide)) (Or.inl ⟨by rfl, ?yl⟩) (by assumption) (fun hHeld => ?_); (case yl => ((intro w hSw; (try dsimp only at hSw); go_simp); with_reducible rfl)); (try clear hTold); rename _ => hTold; (try simp only [Act.put, List.setIfInBounds_toArray, List.set_cons_zero, List.set_cons_succ]))
    (refine wpAnyT_take (i := 4) (oi := _) (v := ?_) rfl (by kernel_rfl) (by kernel_rfl) (by kernel_rfl) (by kernel_rfl) (fun _ _ _ h => h) (Told.c) (Told.ind (by decide) (by decide)) (Or.inl ⟨by rfl, ?yl⟩) (by assumption) (fun hHeld => ?_); (case yl => ((intro w hSw; (try dsimp only at hSw); go_simp); with_reducible rfl)); (try clear hTold); rename _ => hTold; (try simp only [Act.put, List.setIfInBounds_toArray, List.set_cons_zero, List.set_cons_succ]))
    (refine wpAnyT_take (i := 5) (oi := _) (v := ?_) rfl (by kernel_rfl) (by kernel_rfl) (by kernel_rfl) (by kernel_rfl) (fun _ _ _ h => h) (Told.c) (Told.ind (by decide) (by decide)) (Or.inl ⟨by rfl, ?yl⟩) (by assumption) (fun hHeld => ?_); (case yl => ((intro w hSw; (try dsimp only at hSw); go_simp); with_reducible rfl)); (try clear hTold); rename _ => hTold; (try simp only [Act.put, List.setIfInBounds_toArray, List.set_cons_zero, List.set_cons_succ]))
    (refine wpAnyT_take (i := 6) (oi := _) (v := ?_) rfl (by kernel_rfl) (by kernel_rfl) (by kernel_rfl) (by kernel_rfl) (fun _ _ _ h => h) (Told.c) (Told.ind (by decide) (by decide)) (Or.inl ⟨by rfl, ?yl⟩) (by assumption) (fun hHeld => ?_); (case yl => ((intro w hSw; (try dsimp only at hSw); go_simp); with_reducible rfl)); (try clear hTold); rename _ => hTold; (try simp only [Act.put, List.setIfInBounds_toArray, List.set_cons_zero, List.set_cons_succ]))
    (refine wpAnyT_take (i := 7) (oi := _) (v := ?_) rfl (by kernel_rfl) (by kernel_rfl) (by kernel_rfl) (by kernel_rfl) (fun _ _ _ h => h) (Told.c) (Told.ind (by decide) (by decide)) (Or.inl ⟨by rfl, ?yl⟩) (by assumption) (fun hHeld => ?_); (case yl => ((intro w hSw; (try dsimp only at hSw); go_simp); with_reducible rfl)); (try clear hTold); rename _ => hTold; (try simp only [Act.put, List.setIfInBounds_toArray, List.set_cons_zero, List.set_cons_succ]))
    refine wpAnyT_one (i := 8) (o := _) (by kernel_rfl) rfl (fun K hK => ?_)
    go_simp
    refine hK.out _ _ (Told.all (Ext.cell (w := wr) (by repeat (with_reducible first | assumption | exact Ext.refl _ | refine Ext.drew ?_ | refine Ext.drewN ?_ _ | refine Ext.alloc ?_ _ | refine xS ?_ _ | refine xT ?_ (by assumption))) c1) trivial trivial) (fun hTold => ?_)
    clear hK K
    refine wpAnyT_one (i := 9) (o := _) (by kernel_rfl) rfl (fun K hK => ?_)
    rw [if_pos (by rfl)]
    refine appV_wp _ _ _ rfl 25 Try.underlying22 elemRowS (w.heap.size + 2) (rvs b off cap 3 k) v rfl wr.heap.size rfl (ho.out.ext (by repeat (with_reducible first | assumption | exact Ext.refl _ | refine Ext.drew ?_ | refine Ext.drewN ?_ _ | refine Ext.alloc ?_ _ | refine xS ?_ _ | refine xT ?_ (by assumption)))) (.slice (some ⟨b, off + 3 * k, none⟩) 3 (cap - 3 * k)) (by simp [go_sem]) rfl (by rw [hln.out]; omega) (by simp; omega) ?_
    intro b9 cp9 w9 ho9 hg9 hb9
    have hne : ∀ q, q < w.heap.size + 2 → some q ≠ v.ownBlock := fun q hq e => by have := (ho.out.block _ e.symm).1; omega
    have xa : Ext wr (wr.alloc (.cells #[.slice (some ⟨b, off + 3 * k, none⟩) 3 (cap - 3 * k)] 25)).drew := (by repeat (with_reducible first | assumption | exact Ext.refl _ | refine Ext.drew ?_ | refine Ext.drewN ?_ _ | refine Ext.alloc ?_ _ | refine xS ?_ _ | refine xT ?_ (by assumption)))
    have d1 := hg9.cell (xa.cell c1) (hne (w.heap.size + 1) (by omega))
    have d0 := hg9.cell (xa.cell c0) (hne w.heap.size (by omega))
    have e1 : w9.frozen? ⟨w.heap.size + 1, 0, none⟩ = false := (grownBy_frozen hg9 (cell_lt (xa.cell c1)) (hne (w.heap.size + 1) (by omega))).trans ((xa.frozen l1).trans g1)
    have e0 : w9.frozen? ⟨w.heap.size, 0, none⟩ = false := (grownBy_frozen hg9 (cell_lt (xa.cell c0)) (hne w.heap.size (by omega))).trans ((xa.frozen l0).trans g0)
    have hE9 := hid (Ext.grown (hx.out.trans xa) hg9 (fun q e => by have := (ho.out.block _ e).1; omega))
    have ho9 := hid ho9
    have z9 := cell_lt d1
    dsimp only at z9
    refine hK.out _ _ (Told.past (by kernel_rfl) (by kernel_rfl) trivial) (fun hTold => ?_)
    clear hK K hg9 xa c1 c0 g1 g0 hne
    try simp only [sxA, sxB, sxC, Act.put, sxD, sxE, sxF]
    refine wpAnyT_one (i := 10) (o := _) (by kernel_rfl) rfl (fun K hK => ?_)
    go_simp
    refine hK.out _ _ (Told.past (by kernel_rfl) (by kernel_rfl) trivial) (fun hTold => ?_)
    clear hK K
    refine wpAnyT_one (i := 11) (o := _) (by kernel_rfl) rfl (fun K hK => ?_)
    go_simp
    refine hK.out _ _ (Told.past (by kernel_rfl) (by kernel_rfl) trivial) (fun hTold => ?_)
    clear hK K
    refine wpAnyT_done (by kernel_rfl) ?_ _
    clear hTold
    go_wp2_with fail
    go_roundw
    case rel =>
     refine ⟨k + 1, .slice (some ⟨b9, 0, none⟩) ((rvs b off cap 3 k).length + 1) cp9, by omega, by first | rfl | (congr 1; omega), cell_put_eq d1, by rw [World.frozen?_setCell]; exact e1, ?_, by rw [World.frozen?_setCell]; exact e0, hid ?_, hid (Ext.setCell hE9.out (by simp) _)⟩
     ·rw [World.cell?_setCell_other _ _ _ _ (by simp)]; exact d0
     ·rw [hsn.out]; exact ownV_put ho9.out (by dsimp only; omega) _
    case measure => simp [intOf]; omega
   ·obtain rfl : k = 3 := by omega
    have hc := ho.out.cells
    rcases hc with ⟨_, h⟩ | ⟨g, c, rfl, hg1, hg2, _, hcc⟩
    ·have := congrArg List.length h
     rw [rvs_len] at this
     cases this
    ·rw [rvs_len] at c1
     have hrow : Hid (∀ i, i < 3 → wr.cell? ⟨g, i, none⟩ = some (.slice (some ⟨b, off + 3 * i, none⟩) 3 (cap - 3 * i))) := hid fun i hi => (hcc i _ (by unfold rvs; simp [hi])).1
     replace ho := hid hg1
     clear hcc
     go_wp2_with fail
     refine bodyPost_ret (v := .agg #[.slice (some ⟨g, 0, none⟩) 3 c]) ?_ rfl ?_
     ·simp [results, Try.results88, go_sem, *]
     ·refine ⟨g, c, rfl, fun i hi => ?_, Ext.setCell hx.out (by simp) _⟩
      rw [World.cell?_setCell_other _ _ _ _ (by simp <;> omega)]
      exact hrow.out i hi

def mxA : List (List Int) := [[3, -1], [-2, 4]]
def mxB : List (List Int) := [[1, 2], [0, 3]]
def mxC : List (List Int) := [[0, 1, -1], [-1, 0, 1], [1, -1, 0]]
theorem ints_at {w : World} {b off : Nat} {l : List Int} (h : ∀ i, i < l.length → w.cell? ⟨b, off + i, none⟩ = some (.int .i64 (nth l i))) : Ints w (some ⟨b, off, none⟩) l := fun i hi => ⟨b, off, rfl, h i hi⟩
theorem tab2 {w : World} {g b : Nat} {x y z u : Int} {c : Nat} (h0 : w.cell? ⟨g, 0, none⟩ = some (.slice (some ⟨b, 0, none⟩) 2 c)) (h1 : w.cell? ⟨g, 1, none⟩ = some (.slice (some ⟨b, 2, none⟩) 2 (c - 2))) (hc : 4 ≤ c)
 (k0 : w.cell? ⟨b, 0, none⟩ = some (.int .i64 x)) (k1 : w.cell? ⟨b, 1, none⟩ = some (.int .i64 y)) (k2 : w.cell? ⟨b, 2, none⟩ = some (.int .i64 z)) (k3 : w.cell? ⟨b, 3, none⟩ = some (.int .i64 u)) : Tab w (some ⟨g, 0, none⟩) [[x, y], [z, u]] := by
 intro i hi
 match i, (show i < 2 by simpa using hi) with
 | 0, _ => exact ⟨g, 0, _, _, rfl, h0, ints_at fun i hi => (by
  match i, (show i < 2 by simpa [row] using hi) with
  | 0, _ => exact k0
  | 1, _ => exact k1), by simp [row]; omega⟩
 | 1, _ => exact ⟨g, 0, _, _, rfl, h1, ints_at fun i hi => (by
  match i, (show i < 2 by simpa [row] using hi) with
  | 0, _ => exact k2
  | 1, _ => exact k3), by simp [row]; omega⟩
theorem tab3 {w : World} {g b : Nat} {a0 a1 a2 b0 b1 b2 c0 c1 c2 : Int} {c : Nat} (h0 : w.cell? ⟨g, 0, none⟩ = some (.slice (some ⟨b, 0, none⟩) 3 c)) (h1 : w.cell? ⟨g, 1, none⟩ = some (.slice (some ⟨b, 3, none⟩) 3 (c - 3))) (h2 : w.cell? ⟨g, 2, none⟩ = some (.slice (some ⟨b, 6, none⟩) 3 (c - 6))) (hc : 9 ≤ c)
 (k : ∀ i, i < 9 → w.cell? ⟨b, i, none⟩ = some (.int .i64 (nth [a0, a1, a2, b0, b1, b2, c0, c1, c2] i))) : Tab w (some ⟨g, 0, none⟩) [[a0, a1, a2], [b0, b1, b2], [c0, c1, c2]] := by
 intro i hi
 match i, (show i < 3 by simpa using hi) with
 | 0, _ => exact ⟨g, 0, _, _, rfl, h0, ints_at fun i hi => (by
  match i, (show i < 3 by simpa [row] using hi) with
  | 0, _ => exact k 0 (by omega)
  | 1, _ => exact k 1 (by omega)
  | 2, _ => exact k 2 (by omega)), by simp [row]; omega⟩
 | 1, _ => exact ⟨g, 0, _, _, rfl, h1, ints_at fun i hi => (by
  match i, (show i < 3 by simpa [row] using hi) with
  | 0, _ => exact k 3 (by omega)
  | 1, _ => exact k 4 (by omega)
  | 2, _ => exact k 5 (by omega)), by simp [row]; omega⟩
 | 2, _ => exact ⟨g, 0, _, _, rfl, h2, ints_at fun i hi => (by
  match i, (show i < 3 by simpa [row] using hi) with
  | 0, _ => exact k 6 (by omega)
  | 1, _ => exact k 7 (by omega)
  | 2, _ => exact k 8 (by omega)), by simp [row]; omega⟩

set_option maxHeartbeats 1000000 in
 theorem mixed_any (w : World) : Calls Try.prog 57 #[] w fun e w' => ∃ g c, e = .returned (.agg #[.slice (some ⟨g, 0, none⟩) 2 c]) ∧ Tab w' (some ⟨g, 0, none⟩) mxA ∧ Ext w w' := by
  go_enter Try.func57, Try.ntmps57
  go_wp2_with fail
  refine (table2_any (w.heap.size + 1) 0 4 (by omega) _ (by simp)).mono ?_; rintro e w1 ⟨g, c, rfl, hr, hE⟩
  have c0 := hE.cell (p := ⟨w.heap.size, 0, none⟩) (v := .slice none 0 0) (by simp [go_sem])
  have f0 : w1.frozen? ⟨w.heap.size, 0, none⟩ = false := (hE.frozen (by simp; omega)).trans (by simp [go_sem])
  have k0 := hE.cell (p := ⟨w.heap.size + 1, 0, none⟩) (v := .int .i64 (3)) (by simp [go_sem])
  have k1 := hE.cell (p := ⟨w.heap.size + 1, 1, none⟩) (v := .int .i64 (-1)) (by simp [go_sem])
  have k2 := hE.cell (p := ⟨w.heap.size + 1, 2, none⟩) (v := .int .i64 (-2)) (by simp [go_sem])
  have k3 := hE.cell (p := ⟨w.heap.size + 1, 3, none⟩) (v := .int .i64 (4)) (by simp [go_sem])
  have hgw : g ≠ w.heap.size := fun e => by
   have := hr 0 (by omega)
   rw [e, c0] at this; cases this
  have x1 := hid (show Ext w w1 from (by repeat (with_reducible first | assumption | exact Ext.refl _ | refine Ext.drew ?_ | refine Ext.drewN ?_ _ | refine Ext.alloc ?_ _ | refine xS ?_ _ | refine xT ?_ (by assumption))))
  have K := hid (And.intro k0 (And.intro k1 (And.intro k2 k3)))
  have R0 := hid (hr 0 (by omega))
  have R1 := hid (hr 1 (by omega))
  have hgw := hid hgw
  have z1 := cell_lt c0
  dsimp only at z1
  clear k0 k1 k2 k3 hr hE
  go_wp2_with fail
  refine bodyPost_ret (v := .agg #[.slice (some ⟨g, 0, none⟩) 2 c]) ?_ rfl ?_
  ·simp [results, Try.results57, go_sem, *]
  ·have hput : ∀ q o u v, q ≠ w.heap.size → w1.cell? ⟨q, o, none⟩ = some u → (w1.setCell ⟨w.heap.size, 0, none⟩ v).cell? ⟨q, o, none⟩ = some u := fun q o u v hq h => by
    rw [World.cell?_setCell_other _ _ _ _ (by first | (simp; done) | (simp; intro h1; exact absurd h1 hq))]; exact h
   refine ⟨g, c, rfl, tab2 (hput _ _ _ _ hgw.out R0.out) (hput _ _ _ _ hgw.out R1.out) (by omega) (hput _ _ _ _ (by omega) K.out.1) (hput _ _ _ _ (by omega) K.out.2.1) (hput _ _ _ _ (by omega) K.out.2.2.1) (hput _ _ _ _ (by omega) K.out.2.2.2), Ext.setCell x1.out (by simp) _⟩

set_option maxHeartbeats 1000000 in
 theorem pure_anyT (w : World) : Calls Try.prog 58 #[] w fun e w' => ∃ g c, e = .returned (.agg #[.slice (some ⟨g, 0, none⟩) 2 c]) ∧ Tab w' (some ⟨g, 0, none⟩) mxB ∧ Ext w w' := by
  go_enter Try.func58, Try.ntmps58
  go_wp2_with fail
  refine (table2_any (w.heap.size + 1) 0 4 (by omega) _ (by simp)).mono ?_; rintro e w1 ⟨g, c, rfl, hr, hE⟩
  have c0 := hE.cell (p := ⟨w.heap.size, 0, none⟩) (v := .slice none 0 0) (by simp [go_sem])
  have f0 : w1.frozen? ⟨w.heap.size, 0, none⟩ = false := (hE.frozen (by simp; omega)).trans (by simp [go_sem])
  have k0 := hE.cell (p := ⟨w.heap.size + 1, 0, none⟩) (v := .int .i64 (1)) (by simp [go_sem])
  have k1 := hE.cell (p := ⟨w.heap.size + 1, 1, none⟩) (v := .int .i64 (2)) (by simp [go_sem])
  have k2 := hE.cell (p := ⟨w.heap.size + 1, 2, none⟩) (v := .int .i64 (0)) (by simp [go_sem])
  have k3 := hE.cell (p := ⟨w.heap.size + 1, 3, none⟩) (v := .int .i64 (3)) (by simp [go_sem])
  have hgw : g ≠ w.heap.size := fun e => by
   have := hr 0 (by omega)
   rw [e, c0] at this; cases this
  have x1 := hid (show Ext w w1 from (by repeat (with_reducible first | assumption | exact Ext.refl _ | refine Ext.drew ?_ | refine Ext.drewN ?_ _ | refine Ext.alloc ?_ _ | refine xS ?_ _ | refine xT ?_ (by assumption))))
  have K := hid (And.intro k0 (And.intro k1 (And.intro k2 k3)))
  have R0 := hid (hr 0 (by omega))
  have R1 := hid (hr 1 (by omega))
  have hgw := hid hgw
  have z1 := cell_lt c0
  dsimp only at z1
  clear k0 k1 k2 k3 hr hE
  go_wp2_with fail
  refine bodyPost_ret (v := .agg #[.slice (some ⟨g, 0, none⟩) 2 c]) ?_ rfl ?_
  ·simp [results, Try.results58, go_sem, *]
  ·have hput : ∀ q o u v, q ≠ w.heap.size → w1.cell? ⟨q, o, none⟩ = some u → (w1.setCell ⟨w.heap.size, 0, none⟩ v).cell? ⟨q, o, none⟩ = some u := fun q o u v hq h => by
    rw [World.cell?_setCell_other _ _ _ _ (by first | (simp; done) | (simp; intro h1; exact absurd h1 hq))]; exact h
   refine ⟨g, c, rfl, tab2 (hput _ _ _ _ hgw.out R0.out) (hput _ _ _ _ hgw.out R1.out) (by omega) (hput _ _ _ _ (by omega) K.out.1) (hput _ _ _ _ (by omega) K.out.2.1) (hput _ _ _ _ (by omega) K.out.2.2.1) (hput _ _ _ _ (by omega) K.out.2.2.2), Ext.setCell x1.out (by simp) _⟩
set_option maxHeartbeats 1000000 in
theorem round_anyT (w : World) : Calls Try.prog 59 #[] w fun e w' => ∃ g c, e = .returned (.agg #[.slice (some ⟨g, 0, none⟩) 3 c]) ∧ Tab w' (some ⟨g, 0, none⟩) mxC ∧ Ext w w' := by
 go_enter Try.func59, Try.ntmps59
 go_wp2_with fail
 refine (table3_any (w.heap.size + 1) 0 9 (by omega) _ (by simp)).mono ?_; rintro e w1 ⟨g, c, rfl, hr, hE⟩
 have c0 := hE.cell (p := ⟨w.heap.size, 0, none⟩) (v := .slice none 0 0) (by simp [go_sem])
 have f0 : w1.frozen? ⟨w.heap.size, 0, none⟩ = false := (hE.frozen (by simp; omega)).trans (by simp [go_sem])
 have K : Hid (∀ i, i < 9 → w1.cell? ⟨w.heap.size + 1, i, none⟩ = some (.int .i64 (nth [0, 1, -1, -1, 0, 1, 1, -1, 0] i))) := hid fun i hi => by
  refine hE.cell ?_
  match i, hi with
  | 0, _ => simp [go_sem, nth]
  | 1, _ => simp [go_sem, nth]
  | 2, _ => simp [go_sem, nth]
  | 3, _ => simp [go_sem, nth]
  | 4, _ => simp [go_sem, nth]
  | 5, _ => simp [go_sem, nth]
  | 6, _ => simp [go_sem, nth]
  | 7, _ => simp [go_sem, nth]
  | 8, _ => simp [go_sem, nth]
 have hgw : g ≠ w.heap.size := fun e => by
  have := hr 0 (by omega)
  rw [e, c0] at this; cases this
 have x1 := hid (show Ext w w1 from (by repeat (with_reducible first | assumption | exact Ext.refl _ | refine Ext.drew ?_ | refine Ext.drewN ?_ _ | refine Ext.alloc ?_ _ | refine xS ?_ _ | refine xT ?_ (by assumption))))
 have R0 := hid (hr 0 (by omega))
 have R1 := hid (hr 1 (by omega))
 have R2 := hid (hr 2 (by omega))
 have hgw := hid hgw
 have z1 := cell_lt c0
 dsimp only at z1
 clear hr hE
 go_wp2_with fail
 refine bodyPost_ret (v := .agg #[.slice (some ⟨g, 0, none⟩) 3 c]) ?_ rfl ?_
 ·simp [results, Try.results59, go_sem, *]
 ·have hput : ∀ q o u v, q ≠ w.heap.size → w1.cell? ⟨q, o, none⟩ = some u → (w1.setCell ⟨w.heap.size, 0, none⟩ v).cell? ⟨q, o, none⟩ = some u := fun q o u v hq h => by
   rw [World.cell?_setCell_other _ _ _ _ (by first | (simp; done) | (simp; intro h1; exact absurd h1 hq))]; exact h
  exact ⟨g, c, rfl, tab3 (hput _ _ _ _ hgw.out R0.out) (hput _ _ _ _ hgw.out R1.out) (hput _ _ _ _ hgw.out R2.out) (by omega) (fun i hi => hput _ _ _ _ (by omega) (K.out i hi)), Ext.setCell x1.out (by simp) _⟩

end Go.Proofs.Ytommhgcgaclflaa
namespace Go.Proofs.Ytommhgcgaclflaa
set_option linter.unusedVariables false
set_option linter.unusedSimpArgs false
set_option linter.unusedSectionVars false
set_option linter.unnecessarySimpa false
open Go Go.RowKit Game
set_option maxRecDepth 100000

theorem vldA : VldT mxA := chkT_ok.1 (by decide +kernel)
theorem vldB : VldT mxB := chkT_ok.1 (by decide +kernel)
theorem vldC : VldT mxC := chkT_ok.1 (by decide +kernel)
theorem fit1 (x : Int) (h : I64 x) (i : Nat) : I64 (nth [x] i) := i64_one h i
theorem fit2 (x y : Int) (h : I64 x) (k : I64 y) (i : Nat) : I64 (nth [x, y] i) := i64_two h k i

theorem S1 (a p : Option Addr) (c c2 : Nat) (w : World) (h : Tab w a mxA) (hI : Ints w p [3, 2]) : Calls Try.prog 19 #[.agg #[.slice a 2 c], .slice p 2 c2] w (fun e w' => e = .returned (.tuple #[.agg #[.int .i64 (1), .int .i64 (1)], .int .i64 (0)]) ∧ Ext w w') := by
 have h := sureP_any mxA (vld_fit vldA) a c [3, 2] (fit2 _ _ (⟨by decide, by decide⟩) (⟨by decide, by decide⟩)) (by simp) p c2 w h (by decide) (hw_of vldA) hI
 rw [show sureNE mxA [3, 2] = 1 from by decide +kernel, show sureDE mxA [3, 2] = 1 from by decide +kernel, show sureE mxA [3, 2] = 0 from by decide +kernel] at h
 exact h
theorem S2 (a p : Option Addr) (c c2 : Nat) (w : World) (h : Tab w a mxA) (hI : Ints w p [0, 0]) : Calls Try.prog 19 #[.agg #[.slice a 2 c], .slice p 2 c2] w (fun e w' => e = .returned (.tuple #[.agg #[.int .i64 (0), .int .i64 (0)], .int .i64 (2)]) ∧ Ext w w') := by
 have h := sureP_any mxA (vld_fit vldA) a c [0, 0] (fit2 _ _ (⟨by decide, by decide⟩) (⟨by decide, by decide⟩)) (by simp) p c2 w h (by decide) (hw_of vldA) hI
 rw [show sureNE mxA [0, 0] = 0 from by decide +kernel, show sureDE mxA [0, 0] = 0 from by decide +kernel, show sureE mxA [0, 0] = 2 from by decide +kernel] at h
 exact h
theorem S3 (a p : Option Addr) (c c2 : Nat) (w : World) (h : Tab w a mxA) (hI : Ints w p [1]) : Calls Try.prog 19 #[.agg #[.slice a 2 c], .slice p 1 c2] w (fun e w' => e = .returned (.tuple #[.agg #[.int .i64 (0), .int .i64 (0)], .int .i64 (15)]) ∧ Ext w w') := by
 have h := sureP_any mxA (vld_fit vldA) a c [1] (fit1 _ (⟨by decide, by decide⟩)) (by simp) p c2 w h (by decide) (hw_of vldA) hI
 rw [show sureNE mxA [1] = 0 from by decide +kernel, show sureDE mxA [1] = 0 from by decide +kernel, show sureE mxA [1] = 15 from by decide +kernel] at h
 exact h
theorem S4 (a p : Option Addr) (c c2 : Nat) (w : World) (h : Tab w a mxA) (hI : Ints w p [0, 1]) : Calls Try.prog 21 #[.agg #[.slice a 2 c], .slice p 2 c2] w (fun e w' => e = .returned (.tuple #[.agg #[.int .i64 (4), .int .i64 (1)], .int .i64 (0)]) ∧ Ext w w') := by
 have h := boundP_any mxA (vld_fit vldA) a c [0, 1] (fit2 _ _ (⟨by decide, by decide⟩) (⟨by decide, by decide⟩)) (by simp) p c2 w h (by decide) (hw_of vldA) hI
 rw [show boundNE mxA [0, 1] = 4 from by decide +kernel, show boundDE mxA [0, 1] = 1 from by decide +kernel, show boundE mxA [0, 1] = 0 from by decide +kernel] at h
 exact h
theorem S5 (a : Option Addr) (c : Nat) (w : World) (h : Tab w a mxA) : Calls Try.prog 25 #[.agg #[.slice a 2 c]] w (fun e w' => e = .returned (.tuple #[.agg #[.int .i64 (1), .int .i64 (1)], .int .i64 (0)]) ∧ Ext w w') := by
 have h := valueP_any mxA (vld_fit vldA) a c w h (by decide) (hw_of vldA)
 rw [show valNE mxA = 1 from by decide +kernel, show valDE mxA = 1 from by decide +kernel, show chkT mxA = 0 from by decide +kernel] at h
 exact h
theorem S6 (a : Option Addr) (c : Nat) (w : World) (h : Tab w a mxC) : Calls Try.prog 25 #[.agg #[.slice a 3 c]] w (fun e w' => e = .returned (.tuple #[.agg #[.int .i64 (0), .int .i64 (1)], .int .i64 (0)]) ∧ Ext w w') := by
 have h := valueP_any mxC (vld_fit vldC) a c w h (by decide) (hw_of vldC)
 rw [show valNE mxC = 0 from by decide +kernel, show valDE mxC = 1 from by decide +kernel, show chkT mxC = 0 from by decide +kernel] at h
 exact h
theorem S7 (a : Option Addr) (c : Nat) (w : World) (h : Tab w a mxA) : Calls Try.prog 29 #[.agg #[.slice a 2 c]] w (RetL1 [6, 4] 0 w) := by
 have h := rows_any mxA (vld_fit vldA) a c w h (by decide) (hw_of vldA)
 rw [show rowsL mxA = [6, 4] from by decide +kernel, show chkT mxA = 0 from by decide +kernel] at h
 exact h
theorem S8 (a : Option Addr) (c : Nat) (w : World) (h : Tab w a mxA) : Calls Try.prog 30 #[.agg #[.slice a 2 c]] w (RetL1 [5, 5] 0 w) := by
 have h := columns_any mxA (vld_fit vldA) a c w h (by decide) (hw_of vldA)
 rw [show colsL mxA = [5, 5] from by decide +kernel, show chkT mxA = 0 from by decide +kernel] at h
 exact h
theorem S9 (a p q : Option Addr) (c c2 c3 : Nat) (w : World) (h : Tab w a mxA) (hI : Ints w p [3, 2]) (hJ : Ints w q [1, 1]) : Calls Try.prog 27 #[.agg #[.slice a 2 c], .slice p 2 c2, .slice q 2 c3] w (fun e w' => e = .returned (.tuple #[.agg #[.int .i64 (1), .int .i64 (1)], .int .i64 (0)]) ∧ Ext w w') := by
 have h := checkProof_any mxA (vld_fit vldA) a c [3, 2] (fit2 _ _ (⟨by decide, by decide⟩) (⟨by decide, by decide⟩)) (by simp) p c2 [1, 1] (fit2 _ _ (⟨by decide, by decide⟩) (⟨by decide, by decide⟩)) (by simp) q c3 w h (by decide) (hw_of vldA) hI hJ
 rw [show proofN mxA [3, 2] [1, 1] = 1 from by decide +kernel, show proofD mxA [3, 2] [1, 1] = 1 from by decide +kernel, show proofE mxA [3, 2] [1, 1] = 0 from by decide +kernel] at h
 exact h
theorem S10 (a p q : Option Addr) (c c2 c3 : Nat) (w : World) (h : Tab w a mxA) (hI : Ints w p [1, 1]) (hJ : Ints w q [1, 1]) : Calls Try.prog 27 #[.agg #[.slice a 2 c], .slice p 2 c2, .slice q 2 c3] w (fun e w' => e = .returned (.tuple #[.agg #[.int .i64 (0), .int .i64 (0)], .int .i64 (14)]) ∧ Ext w w') := by
 have h := checkProof_any mxA (vld_fit vldA) a c [1, 1] (fit2 _ _ (⟨by decide, by decide⟩) (⟨by decide, by decide⟩)) (by simp) p c2 [1, 1] (fit2 _ _ (⟨by decide, by decide⟩) (⟨by decide, by decide⟩)) (by simp) q c3 w h (by decide) (hw_of vldA) hI hJ
 rw [show proofN mxA [1, 1] [1, 1] = 0 from by decide +kernel, show proofD mxA [1, 1] [1, 1] = 0 from by decide +kernel, show proofE mxA [1, 1] [1, 1] = 14 from by decide +kernel] at h
 exact h
theorem S20 (a p q : Option Addr) (c c2 c3 : Nat) (w : World) (h : Tab w a mxA) (hI : Ints w p [6, 4]) (hJ : Ints w q [5, 5]) : Calls Try.prog 28 #[.agg #[.slice a 2 c], .slice p 2 c2, .slice q 2 c3] w (fun e w' => e = .returned (.tuple #[.agg #[.int .i64 (1), .int .i64 (1)], .int .i64 (0)]) ∧ Ext w w') := by
 have h := checkProofR_any mxA (vld_fit vldA) a c [6, 4] (fit2 _ _ (⟨by decide, by decide⟩) (⟨by decide, by decide⟩)) (by simp) p c2 [5, 5] (fit2 _ _ (⟨by decide, by decide⟩) (⟨by decide, by decide⟩)) (by simp) q c3 w h (by decide) (hw_of vldA) hI hJ
 rw [show proofN mxA [6, 4] [5, 5] = 1 from by decide +kernel, show proofD mxA [6, 4] [5, 5] = 1 from by decide +kernel, show proofE mxA [6, 4] [5, 5] = 0 from by decide +kernel] at h
 exact h
theorem noPureA : ∀ c, c < 2 → ∀ d, d < 2 → ¬ PureB mxA c d := by unfold PureB; decide +kernel
theorem S11 (a : Option Addr) (c : Nat) (w : World) (h : Tab w a mxA) : Calls Try.prog 31 #[.agg #[.slice a 2 c]] w fun e w' => e = .returned (.tuple #[.int .i64 0, .int .i64 0, .int .i64 19]) ∧ Ext w w' := by
 refine (pure_any mxA (vld_fit vldA) a c w h (by decide) (hw_of vldA)).mono ?_
 rintro e w1 ⟨i, k, er, rfl, hp, hE⟩
 have hq : PureR mxA 0 0 19 := .inr (.inr ⟨by decide +kernel, rfl, rfl, rfl, fun c d hc hd => noPureA c hc d hd⟩)
 obtain ⟨rfl, rfl, rfl⟩ := hp.uniq hq
 exact ⟨rfl, hE⟩
theorem pureB0 : PureB mxB 0 0 := by unfold PureB; decide +kernel
theorem S12 (a : Option Addr) (c : Nat) (w : World) (h : Tab w a mxB) : Calls Try.prog 31 #[.agg #[.slice a 2 c]] w fun e w' => e = .returned (.tuple #[.int .i64 0, .int .i64 0, .int .i64 0]) ∧ Ext w w' := by
 refine (pure_any mxB (vld_fit vldB) a c w h (by decide) (hw_of vldB)).mono ?_
 rintro e w1 ⟨i, k, er, rfl, hp, hE⟩
 have hq : PureR mxB 0 0 0 := .inr (.inl ⟨by decide +kernel, rfl, 0, 0, rfl, rfl, by decide, by decide, pureB0, fun c d hc => by omega, fun d hd => by omega⟩)
 obtain ⟨rfl, rfl, rfl⟩ := hp.uniq hq
 exact ⟨rfl, hE⟩
theorem S13 (a p : Option Addr) (c c2 : Nat) (w : World) (h : Tab w a mxA) (hI : Ints w p [1, 1]) : Calls Try.prog 33 #[.agg #[.slice a 2 c], .slice p 2 c2] w (RetL1 [0, 1] 0 w) := by
 have h := answers_any mxA (vld_fit vldA) a c [1, 1] (fit2 _ _ (⟨by decide, by decide⟩) (⟨by decide, by decide⟩)) (by simp) p c2 w h (by decide) (hw_of vldA) hI
 unfold RetAns at h
 rw [show ansOf mxA [1, 1] = [0, 1] from by decide +kernel, show boundE mxA [1, 1] = 0 from by decide +kernel] at h
 exact h
theorem S14 (a p : Option Addr) (c c2 : Nat) (w : World) (h : Tab w a mxA) (hI : Ints w p [3, 1]) : Calls Try.prog 33 #[.agg #[.slice a 2 c], .slice p 2 c2] w (RetL1 [0] 0 w) := by
 have h := answers_any mxA (vld_fit vldA) a c [3, 1] (fit2 _ _ (⟨by decide, by decide⟩) (⟨by decide, by decide⟩)) (by simp) p c2 w h (by decide) (hw_of vldA) hI
 unfold RetAns at h
 rw [show ansOf mxA [3, 1] = [0] from by decide +kernel, show boundE mxA [3, 1] = 0 from by decide +kernel] at h
 exact h
theorem S15 (a : Option Addr) (c : Nat) (w : World) (h : Tab w a mxB) : Calls Try.prog 36 #[.agg #[.slice a 2 c]] w (RetL2 [0] [0] 0 w) := by
 have h := usedP_any mxB (vld_fit vldB) a c w h (by decide) (hw_of vldB)
 rw [show usedR mxB = [0] from by decide +kernel, show usedC mxB = [0] from by decide +kernel, show chkT mxB = 0 from by decide +kernel] at h
 exact h
theorem S16 (a : Option Addr) (c : Nat) (w : World) (h : Tab w a mxB) : Calls Try.prog 38 #[.agg #[.slice a 2 c]] w (RetL2 [0] [0] 0 w) := by
 have h := left_any mxB (vld_fit vldB) a c w h (by decide) (hw_of vldB)
 unfold RetLeft at h
 rw [show leftR mxB = [0] from by decide +kernel, show leftC mxB = [0] from by decide +kernel, show chkT mxB = 0 from by decide +kernel] at h
 exact h
theorem intsY1 (a b : Option Addr) (c1 c2 : Nat) (x : Int) (w : World) (hI : Ints w a [x]) (hJ : Ints w b [x]) :
 Calls Try.prog 35 #[.slice a 1 c1, .slice b 1 c2] w fun e w' => e = .returned (.bool true) ∧ Ext w w' := by
 have h := ints_any [x] [x] (by simp) (by simp) a b c1 c2 w hI hJ
 rw [decide_eq_true rfl] at h
 exact h
theorem intsY2 (a b : Option Addr) (c1 c2 : Nat) (x y : Int) (w : World) (hI : Ints w a [x, y]) (hJ : Ints w b [x, y]) :
 Calls Try.prog 35 #[.slice a 2 c1, .slice b 2 c2] w fun e w' => e = .returned (.bool true) ∧ Ext w w' := by
 have h := ints_any [x, y] [x, y] (by simp) (by simp) a b c1 c2 w hI hJ
 rw [decide_eq_true rfl] at h
 exact h
theorem intsY3 (a b : Option Addr) (c1 c2 : Nat) (x y z : Int) (w : World) (hI : Ints w a [x, y, z]) (hJ : Ints w b [x, y, z]) :
 Calls Try.prog 35 #[.slice a 3 c1, .slice b 3 c2] w fun e w' => e = .returned (.bool true) ∧ Ext w w' := by
 have h := ints_any [x, y, z] [x, y, z] (by simp) (by simp) a b c1 c2 w hI hJ
 rw [decide_eq_true rfl] at h
 exact h
theorem lit3 {w : World} {x y z : Int} {t : TypeId} {n : Nat} (h : n = w.heap.size) : Ints (w.alloc (.cells #[.int .i64 x, .int .i64 y, .int .i64 z] t)) (some ⟨n, 0, none⟩) [x, y, z] := by
 subst h
 intro i hi
 refine ⟨_, _, rfl, ?_⟩
 match i, (show i < 3 by simpa using hi) with
 | 0, _ => simp [go_sem, nth]
 | 1, _ => simp [go_sem, nth]
 | 2, _ => simp [go_sem, nth]

end Go.Proofs.Ytommhgcgaclflaa
