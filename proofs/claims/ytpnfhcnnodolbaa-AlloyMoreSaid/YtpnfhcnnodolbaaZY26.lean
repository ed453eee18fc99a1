/- Texts of one proof, laid together: Pj, Pk, Pl, Pm, Pn. -/
import Derived.Test.YtpnfhcnnodolbaaZY10
import Derived.Test.YtpnfhcnnodolbaaZY25
import Derived.Test.YtpnfhcnnodolbaaZY22
import Derived.Test.YtpnfhcnnodolbaaZY21
import Derived.Test.YtpnfhcnnodolbaaZY13
import Derived.Test.YtpnfhcnnodolbaaZY3
import Derived.Test.YtpnfhcnnodolbaaZY18
import Derived.Test.YtpnfhcnnodolbaaZY19
set_option linter.unusedVariables false
set_option linter.unusedSimpArgs false
set_option linter.unusedSectionVars false
set_option linter.unnecessarySimpa false
set_option maxRecDepth 100000
namespace Go.Proofs.Ytpnfhcnnodolbaa
open Go Go.RowKit Game
def mixP (N : Nat) (t : List Nat) (x : List Int) : Nat → List Int
 | 0 => List.replicate N 0
 | k + 1 => (mixP N t x k).set (t.getD k 0) (nth x k)
def edgT (G : List Int → Bool) (N : Nat) (t : List Nat) (X : List (List Int)) : Nat → List (List Int)
 | 0 => []
 | k + 1 => if G (mixP N t (row X k) t.length) = true then edgT G N t X k ++ [mixP N t (row X k) t.length] else edgT G N t X k
def edC (G : List Int → Bool) (N : Nat) (PT : List Nat → List (List Int)) (cs : List (List Nat)) : List (List Int) := cs.flatMap fun t => edgT G N t (PT t) (PT t).length
def edP (l : List Met) (u c : Int) (s : Bool) : List (List Int) := edC (goodG l u c s) l.length (ptL (ovr l u c s)) (chsL l.length (2 ^ l.length))
theorem edC_snoc (G : List Int → Bool) (N : Nat) (PT : List Nat → List (List Int)) (cs : List (List Nat)) (t : List Nat) : edC G N PT (cs ++ [t]) = edC G N PT cs ++ edgT G N t (PT t) (PT t).length := by simp [edC]
theorem edC_pre (G : List Int → Bool) (N : Nat) (PT : List Nat → List (List Int)) {cs ds : List (List Nat)} (h : cs <+: ds) : edC G N PT cs <+: edC G N PT ds := by
 obtain ⟨es, rfl⟩ := h
 unfold edC
 rw [List.flatMap_append]
 exact List.prefix_append _ _
theorem edgT_pre (G : List Int → Bool) (N : Nat) (t : List Nat) (X : List (List Int)) {k : Nat} : ∀ q, k ≤ q → edgT G N t X k <+: edgT G N t X q
 | 0, h => by rw [show k = 0 by omega]; exact List.prefix_refl _
 | q + 1, h => by
  by_cases e : k = q + 1
  ·rw [e]; exact List.prefix_refl _
  ·have := edgT_pre G N t X (k := k) q (by omega)
   simp only [edgT]
   split
   ·exact this.trans (List.prefix_append _ _)
   ·exact this
theorem mixP_len (N : Nat) (t : List Nat) (x : List Int) : ∀ k, (mixP N t x k).length = N
 | 0 => by simp [mixP]
 | k + 1 => by simp only [mixP]; rw [List.length_set]; exact mixP_len N t x k
theorem mixP_prt (N : Nat) (t : List Nat) (x : List Int) (hx : Prt x) : ∀ k, Prt (mixP N t x k)
 | 0 => fun j => by
  unfold mixP nth
  rw [List.getD_eq_getElem?_getD, List.getElem?_replicate]
  split <;> simp
 | k + 1 => fun j => by
  simp only [mixP]
  rw [nth_set_]
  split
  ·exact hx k
  ·exact mixP_prt N t x hx k j
theorem chsL_mem {n : Nat} : ∀ {k : Nat} {t : List Nat}, t ∈ chsL n k → ∃ r, 1 ≤ r ∧ r < k ∧ t = bitL n r ∧ t.length ≤ 3
 | 0, t, h => by simp [chsL] at h
 | k + 1, t, h => by
  simp only [chsL] at h
  split at h
  ·cases h
  ·split at h
   ·rcases List.mem_append.1 h with h1 | h1
    ·obtain ⟨r, a, b, c, d⟩ := chsL_mem h1; exact ⟨r, a, by omega, c, d⟩
    ·rw [List.mem_singleton] at h1; subst h1; exact ⟨k, by omega, by omega, rfl, by assumption⟩
   ·obtain ⟨r, a, b, c, d⟩ := chsL_mem h; exact ⟨r, a, by omega, c, d⟩
theorem bitL_pos {n r : Nat} (h1 : 1 ≤ r) (h2 : r < 2 ^ n) : 1 ≤ (bitL n r).length := by
 obtain ⟨i, hi⟩ := Nat.exists_testBit_of_ne_zero (x := r) (by omega)
 have hin : i < n := by
  rcases Nat.lt_or_ge i n with g | g
  ·exact g
  ·have := Nat.testBit_lt_two_pow (Nat.lt_of_lt_of_le h2 (Nat.pow_le_pow_right (by omega) g))
   rw [hi] at this; cases this
 have hm : i ∈ bitL n r := List.mem_filter.2 ⟨List.mem_range.2 hin, hi⟩
 exact List.length_pos_of_mem hm
theorem chsL_ok {n : Nat} {t : List Nat} (h : t ∈ chsL n (2 ^ n)) : (∀ i, i < t.length → t.getD i 0 < n) ∧ 1 ≤ t.length ∧ t.length ≤ 3 := by
 obtain ⟨r, h1, h2, rfl, h3⟩ := chsL_mem h
 refine ⟨fun i hi => ?_, bitL_pos h1 h2, h3⟩
 refine bitL_lt (r := r) _ ?_
 simp [List.getD_eq_getElem?_getD, List.getElem?_eq_getElem hi, List.getElem_mem]
theorem ptL_row {ov : Nat → Nat → Int} (ho : ∀ i k, -1000 ≤ ov i k ∧ ov i k ≤ 1000) {t : List Nat} (h1 : 1 ≤ t.length) {k : Nat} (hk : k < (ptL ov t).length) : (row (ptL ov t) k).length = t.length ∧ Prt (row (ptL ov t) k) := by
 unfold ptL at hk ⊢
 have hk2 : k < (kptL t.length (cndY ov t) (cndN t)).length := by simpa using hk
 obtain ⟨j, hj⟩ : ∃ j, (kptL t.length (cndY ov t) (cndN t)).getD k 0 = j := ⟨_, rfl⟩
 have hm : j ∈ kptL t.length (cndY ov t) (cndN t) := by
  rw [← hj]
  simp [List.getD_eq_getElem?_getD, List.getElem?_eq_getElem hk2, List.getElem_mem]
 have hrow : row ((kptL t.length (cndY ov t) (cndN t)).map fun j => mkL t.length (nrmY t.length (cndY ov t j))) k = mkL t.length (nrmY t.length (cndY ov t j)) := by
  rw [← hj]
  simp [row, List.getD_eq_getElem?_getD, List.getElem?_eq_getElem hk2]
 rw [hrow]
 refine ⟨mkL_len _ _, fun i => ?_⟩
 have hkeep := (List.mem_filter.1 hm).2
 unfold keepY at hkeep
 simp only [Bool.not_eq_true', Bool.or_eq_false_iff, decide_eq_false_iff_not] at hkeep
 rcases Nat.lt_or_ge i t.length with g | g
 ·rw [mkL_nth _ g]
  have h2 := mnTo_le (f := nrmY t.length (cndY ov t j)) g
  have h3 := nrmY_bd (m := t.length) (fun k => cndY_bd ho t j k) i
  omega
 ·rw [nth_mkL_out g]; omega
structure Mx where
 g : Nat
 l : List Int
def encM (N : Nat) (x : Mx) : Array Value := #[.slice (some ⟨x.g, 0, none⟩) N N]
def lsM (xs : List Mx) : List (List Int) := xs.map fun x => x.l
theorem lsM_snoc (xs : List Mx) (x : Mx) : lsM (xs ++ [x]) = lsM xs ++ [x.l] := by simp [lsM]
structure EF (lo B0 B1 D : Nat) (a : Option Addr) (cap : Nat) (l : List Met) (u c : Int) (s : Bool) (w : World) : Prop where
 b0 : w.cell? ⟨B0, 0, none⟩ = some (.pointer (some ⟨D, 0, none⟩))
 b1 : w.cell? ⟨B1, 0, none⟩ = some (.func (.func 67) #[(.pointer (some ⟨D, 0, none⟩))] #[])
 d : w.cell? ⟨D, 0, none⟩ = some (.slice a l.length cap)
 p : Pot w D l u c s
 le : lo ≤ w.heap.size
structure GM (lo N : Nat) (L : List (List Int)) (pre : List Mx) (Z : Nat → Prop) (x : Mx) (W : World) : Prop where
 pre : lsM (pre ++ [x]) <+: L
 own : OwnI W 0 2 (.slice (some ⟨x.g, 0, none⟩) N N) x.l
 len : x.l.length = N
 new : lo ≤ x.g ∧ ¬ Z x.g
structure Rnd (Bo : Nat) (Wb w5 wr : World) (l0 Yb Bx D : Nat) (xa : Option Addr) (xl : List Nat) (Z Z2 : Nat → Prop) : Prop where
 y : wr.cell? ⟨Yb, 0, none⟩ = some (.func (.yield l0) #[] #[])
 x : wr.cell? ⟨Bx, 0, none⟩ = some (.pointer (some ⟨D, 0, none⟩))
 yz : ¬ Z2 Yb
 xz : ¬ Z2 Bx
 i : Ints wr xa (asI xl)
 iz : ∀ b off, xa = some ⟨b, off, none⟩ → ¬ Z2 b
 s : ∀ k p v, Wb.heap.size ≤ k → w5.cell? ⟨k, p, none⟩ = some v → wr.cell? ⟨k, p, none⟩ = some v
 sz : ∀ k, Wb.heap.size ≤ k → k < w5.heap.size → ¬ Z2 k
 k : KZ Bo Z Z2 Wb wr
 le : w5.heap.size ≤ wr.heap.size
theorem Rnd.ext {Bo : Nat} {Wb w5 wr wr' : World} {l0 Yb Bx D : Nat} {xa : Option Addr} {xl : List Nat} {Z Z2 : Nat → Prop} (h : Rnd Bo Wb w5 wr l0 Yb Bx D xa xl Z Z2) (x : Ext wr wr') : Rnd Bo Wb w5 wr' l0 Yb Bx D xa xl Z Z2 :=
 ⟨x.cell h.y, x.cell h.x, h.yz, h.xz, h.i.ext x, h.iz, fun k p v a b => x.cell (h.s k p v a b), h.sz, h.k.trans (.of_ext x), Nat.le_trans h.le x.size⟩
theorem ints_lt {w : World} {a : Option Addr} {l : List Int} (h : Ints w a l) {b off : Nat} (hl : 0 < l.length) (e : a = some ⟨b, off, none⟩) : b < w.heap.size := by
 obtain ⟨b', off', e', hb, _⟩ := h.at hl
 rw [e] at e'; cases e'; exact hb
theorem Rnd.yield {Bo : Nat} {Wb w5 wr wr' : World} {l0 Yb Bx D : Nat} {xa : Option Addr} {xl : List Nat} {Z Z2 Z3 : Nat → Prop} (h : Rnd Bo Wb w5 wr l0 Yb Bx D xa xl Z Z2) (k : KZ Bo Z2 Z3 wr wr') (hy : Bo ≤ Yb) (hx : Bo ≤ Bx) (hb : Bo ≤ Wb.heap.size) (hi : ∀ b off, xa = some ⟨b, off, none⟩ → Bo ≤ b) (hl : 0 < xl.length) : Rnd Bo Wb w5 wr' l0 Yb Bx D xa xl Z Z3 := by
 have no : ∀ b, b < wr.heap.size → ¬ Z2 b → ¬ Z3 b := fun b hb hz h3 => by
  rcases k.z b h3 with h1 | h1
  ·exact hz h1
  ·omega
 refine ⟨k.cell hy h.yz h.y, k.cell hx h.xz h.x, no _ (cell_lt h.y) h.yz, no _ (cell_lt h.x) h.xz, k.ints h.i (fun b off e => ⟨hi b off e, h.iz b off e⟩), fun b off e => no b ?_ (h.iz b off e), fun q p v a b => ?_, fun q a b => no q (Nat.lt_of_lt_of_le b h.le) (h.sz q a b), h.k.trans k, Nat.le_trans h.le k.size⟩
 ·exact ints_lt h.i (by simp [asI]; exact hl) e
 ·exact k.cell (Nat.le_trans hb a) (h.sz q a (cell_lt b)) (h.s q p v a b)
theorem edges_any (D : Nat) (w : World) :
 Calls Try.prog 80 #[(.pointer (some ⟨D, 0, none⟩))] w fun e w' => e = .returned (.func (.func 103) #[] #[.pointer (some ⟨w.heap.size, 0, none⟩), .pointer (some ⟨w.heap.size + 1, 0, none⟩)]) ∧ w'.cell? ⟨w.heap.size, 0, none⟩ = some (.pointer (some ⟨D, 0, none⟩)) ∧ w'.cell? ⟨w.heap.size + 1, 0, none⟩ = some (.func (.func 67) #[(.pointer (some ⟨D, 0, none⟩))] #[]) ∧ Ext w w' := by
 go_enter Try.func80, Try.ntmps80
 go_wp2_with fail
 go_ret
 exact ⟨rfl, by simp [go_sem], by simp [go_sem], exE⟩
attribute [local go_sem] Oper.semAt_some
theorem make_in {P : Program} {L nn : Nat} {w : World} {ops : Array Oper} {rest : List Oper} {o : Oper} {a : Act} {Q : Exit → Act → World → Prop} (hgd : o.guard = none) (l c : Operand) (t : TypeId) (hop : o.op = Op.makeSlice t l c)
 (e : TypeId) (ht : P.underlying t = some (.slice e)) (he : ElemI P e) (n : Nat) (hl : a.eval l = .int .i64 (n : Int)) (hc : a.eval c = .int .i64 (n : Int)) (hn : n ≤ 1099511627776)
 (h : ∀ w', OwnI w' w.heap.size e (.slice (some ⟨w.heap.size, 0, none⟩) n n) (List.replicate n 0) → Ext w w' → w.heap.size < w'.heap.size → wpListIn (Fence.wide.inRound L) nn P ops Q rest (a.put o.dst (.slice (some ⟨w.heap.size, 0, none⟩) n n)) w') : wpListIn (Fence.wide.inRound L) nn P ops Q (o :: rest) a w :=
 wpListIn_plain hgd fun K hK => op_round (by unfold noDefer; rw [hop]) (makeK l c t hop e ht he n hl hc hn fun w' h1 h2 h3 => hK _ _ (h w' h1 h2 h3))
theorem keeps_two {B B' : Nat} {A C D : World} (h : KeepsFrom B A C) (k : KeepsFrom B C D) (hb : B ≤ B') : KeepsFrom B' A D :=
 ⟨Nat.le_trans h.size k.size, fun j o hj ho hc => k.same j o (Nat.le_trans hb hj) (h.same j o (Nat.le_trans hb hj) ho hc) hc⟩
structure EI (J : List Mx → (Nat → Prop) → World → Prop) (G : List Int → Bool) (N : Nat) (PT : List Nat → List (List Int)) (l0 Yb Bx D : Nat) (pre : List Ch) (Z : Nat → Prop) (W : World) : Prop where
 m : ∃ pre2, lsM pre2 = edC G N PT (lsC pre) ∧ J pre2 Z W
 y : W.cell? ⟨Yb, 0, none⟩ = some (.func (.yield l0) #[] #[])
 x : W.cell? ⟨Bx, 0, none⟩ = some (.pointer (some ⟨D, 0, none⟩))
 yz : ¬ Z Yb
 xz : ¬ Z Bx
def EX9 (Jx : List Mx → World → Prop) (L : List (List Int)) (c : Code) (pre : List Ch) (W : World) : Prop := c = .ret ∧ ∃ pre2, lsM pre2 <+: L ∧ Jx pre2 W
theorem TabB.at {w : World} {lo : Nat} {a : Option Addr} {X : List (List Int)} (h : TabB w lo a X) (h0 : 0 < X.length) {m : Nat} (hm : ∀ k, k < X.length → (row X k).length = m) :
 ∃ g o, a = some ⟨g, o, none⟩ ∧ lo ≤ g ∧ ∀ k, k < X.length → ∃ b q c, lo ≤ b ∧ w.cell? ⟨g, o + k, none⟩ = some (.slice (some ⟨b, q, none⟩) m c) ∧ ∀ r, r < m → w.cell? ⟨b, q + r, none⟩ = some (.int .i64 (nth (row X k) r)) := by
 obtain ⟨g, o, _, _, _, ha, hg, _⟩ := h 0 h0
 refine ⟨g, o, ha, hg, fun k hk => ?_⟩
 obtain ⟨g', o', b, q, c, ha', _, h1, h2, h3⟩ := h k hk
 rw [ha] at ha'
 cases ha'
 rw [hm k hk] at h2
 refine ⟨b, q, c, h1, h2, fun r hr => ?_⟩
 obtain ⟨b', q', e', hc⟩ := h3 r (by rw [hm k hk]; exact hr)
 cases e'
 exact hc
set_option maxHeartbeats 2000000 in
theorem edges1_yields (l : List Met) (v : VldM l) (u c : Int) (hu : 0 ≤ u ∧ u ≤ 1000) (hc : 0 ≤ c ∧ c ≤ 1000) (s : Bool) (lo B0 B1 D : Nat) (a : Option Addr) (cap nn : Nat) :
 YieldsZ Fence.wide nn Try.prog 103 #[.pointer (some ⟨B0, 0, none⟩), .pointer (some ⟨B1, 0, none⟩)] (encM l.length) (GM lo l.length (edP l u c s)) (fun xs => lsM xs = edP l u c s) (fun pre => lsM pre <+: edP l u c s) (EF lo B0 B1 D a cap l u c s) := by
 intro l0 J Jx W hJ hJx hN hZ hY h0
 have n1 := v.n1; have n6 := v.n6
 have HJ := hid hJ
 have HJx := hid hJx
 have HN := hid hN
 have HZ := hid hZ
 have HY := hid hY
 have H0 := hid h0
 have HV := hid v
 have hB0 := (hN _ _ _ h0).b0
 clear hJ hJx hN hZ hY h0 v
 refine (callsIn_wide (n := nn)).2 ((callsIn_wide (n := 9)).1 ?_)
 refine callsIn_of_wp_marks Try.func103 rfl trivial ?_ rfl
 simp only [Try.ntmps103, List.size_toArray, List.length_cons, List.length_nil, Nat.reduceAdd, Nat.reduceSub, Array.replicate_succ, Array.replicate_zero, List.push_toArray, List.append_toArray, List.nil_append, List.cons_append]
 have hBl := cell_lt hB0
 dsimp only at hBl
 gi_wp2_with fail
 refine ⟨trivial, ?_⟩; refine (callsIn_wide.2 (choices_any D _)).mono ?_; rintro e w4 ⟨rfl, hw4⟩
 obtain ⟨Yb, hYb⟩ : ∃ y, W.heap.size = y := ⟨_, rfl⟩
 have f1 : w4.cell? ⟨W.heap.size, 0, none⟩ = some (.func (.yield l0) #[] #[]) := by rw [hw4]; simp [go_sem]
 have f2 : w4.cell? ⟨W.heap.size + 1, 0, none⟩ = some (.pointer (some ⟨D, 0, none⟩)) := by rw [hw4]; simp [go_sem]
 have z4 : w4.heap.size = W.heap.size + 2 := by rw [hw4]; simp
 have x4 : Ext W w4 := by rw [hw4]; exact exE
 have h4 := hid (HJ.out.ext H0.out x4)
 have hst : EI J (goodG l u c s) l.length (ptL (ovr l u c s)) l0 W.heap.size (W.heap.size + 1) D [] (fun _ => False) w4 := ⟨⟨[], rfl, h4.out⟩, f1, f2, id, id⟩
 replace hst := hid hst
 replace hw4 := hid hw4
 replace z4 := hid z4
 clear f1 f2 hYb Yb
 gi_wp2_with fail
 refine range_yieldsZ (F := Fence.wide) (n := 9) rfl (by omega) (gf := 111) (lb := #[.pointer (some ⟨W.heap.size + 1, 0, none⟩)]) rfl trivial (enters_of Try.func111 (by kernel_rfl) rfl)
  (choices1_yields l.length 8 n1 n6 W.heap.size (W.heap.size + 1) D a cap) (fun _ => rfl)
  (EI J (goodG l u c s) l.length (ptL (ovr l u c s)) l0 W.heap.size (W.heap.size + 1) D) (EX9 Jx (edP l u c s)) ?st ?nd ?zz ?stx hst.out ?round ?done ?stop
 case st =>
  rintro pre Z A C ⟨⟨pre2, hp, hj⟩, hy, hx, hyz, hxz⟩ k
  exact ⟨⟨pre2, hp, HJ.out _ _ _ _ hj (k.le (by have := z4.out; omega))⟩, k.cell hy, k.cell hx, hyz, hxz⟩
 case nd =>
  rintro pre Z A ⟨⟨pre2, hp, hj⟩, hy, hx, hyz, hxz⟩
  exact ⟨hx, (HN.out _ _ _ hj).d, Nat.le_of_lt (cell_lt hy)⟩
 case zz =>
  rintro pre Z A ⟨⟨pre2, hp, hj⟩, _⟩
  exact HZ.out _ _ _ hj
 case stx =>
  rintro cc pre A C ⟨h1, pre2, h2, h3⟩ k
  exact ⟨h1, pre2, h2, HJx.out _ _ _ h3 (k.le (by have := z4.out; omega))⟩
 case round =>
  rintro l2 pre Z ⟨xa, xc, t⟩ Wr ⟨hpre, hint, hnew⟩ ⟨⟨pre2, hp2, hj⟩, hy, hx, hyz, hxz⟩ hl2 ⟨rr, hLp⟩ hsz
  subst hl2
  simp only [encC]
  gi_wp2
  refine ⟨KZ.refl _ _ _, fun o => ?_⟩
  obtain ⟨Wb, hWb⟩ : ∃ Wb, Wb = Wr.putObj (w4.heap.size + 1) o := ⟨_, rfl⟩
  have kn : KN W.heap.size Wr Wb := by rw [hWb]; exact KN.put _ (by have := z4.out; omega) (fun o ho => by rw [hLp] at ho; cases ho; rfl)
  have hjb := hid (HJ.out _ _ _ _ hj kn)
  have zb : Wb.heap.size = Wr.heap.size := by rw [hWb]; simp
  have hok := chsL_ok (t := t) (hpre.subset (by simp [lsC]))
  have ef := HN.out _ _ _ hjb.out
  have hzb := HZ.out _ _ _ hjb.out
  have hintb := hid (kn.ints hint)
  obtain ⟨xb, xo, rfl, _, _⟩ := hintb.out.at (by simp [asI]; omega)
  have hyb := kn.cell hy
  have hxb := kn.cell hx
  have hbo := hid (show W.heap.size ≤ Wb.heap.size by have := z4.out; omega)
  have hpc := hid (fun W2 hx2 => parts_any l HV.out u c hu hc s D t hok.1 hok.2.1 hok.2.2 (some ⟨xb, xo, none⟩) xc W2 (ef.p.ext hx2) (hintb.out.ext hx2))
  have b0 := ef.b0
  have hl0 := cell_lt b0
  have l4 := hid (show w4.heap.size ≤ Wb.heap.size by have := z4.out; omega)
  rw [← hWb]
  clear hWb kn hint hj hy hx zb ef hsz hLp
  gi_wp2_with fail
  refine ⟨trivial, ?_⟩; refine (callsIn_wide.2 (hpc.out _ exE)).mono ?_; rintro e w5 ⟨a3, cp3, rfl, hT, hE5⟩
  have hprow := fun k hk => ptL_row (ov := ovr l u c s) (fun i k => ovr_bd HV.out hu hc s i k) (t := t) hok.2.1 (k := k) hk
  have hPn : (ptL (ovr l u c s) t).length ≤ 2 := by
   unfold ptL
   rw [List.length_map]
   exact Nat.le_trans (kptL_le _ _ _) (by unfold cndN; split <;> omega)
  have hsn : Hid (edC (goodG l u c s) l.length (ptL (ovr l u c s)) (lsC (pre ++ [⟨some ⟨xb, xo, none⟩, xc, t⟩])) = edC (goodG l u c s) l.length (ptL (ovr l u c s)) (lsC pre) ++ edgT (goodG l u c s) l.length t (ptL (ovr l u c s) t) (ptL (ovr l u c s) t).length) := hid (by rw [lsC_snoc]; exact edC_snoc _ _ _ _ _)
  have hpr2 : Hid (edC (goodG l u c s) l.length (ptL (ovr l u c s)) (lsC pre) ++ edgT (goodG l u c s) l.length t (ptL (ovr l u c s) t) (ptL (ovr l u c s) t).length <+: edP l u c s) := hid (by rw [← hsn.out]; exact edC_pre _ _ _ hpre)
  have hgs := hid (fun k => (show edgT (goodG l u c s) l.length t (ptL (ovr l u c s) t) (k + 1) = if goodG l u c s (mixP l.length t (row (ptL (ovr l u c s) t) k) t.length) = true then edgT (goodG l u c s) l.length t (ptL (ovr l u c s) t) k ++ [mixP l.length t (row (ptL (ovr l u c s) t) k) t.length] else edgT (goodG l u c s) l.length t (ptL (ovr l u c s) t) k from rfl))
  have hgp := hid (fun k q hk => edgT_pre (goodG l u c s) l.length t (ptL (ovr l u c s) t) (k := k) q hk)
  have hg0 : Hid (edgT (goodG l u c s) l.length t (ptL (ovr l u c s) t) 0 = []) := hid rfl
  have hgd := hid (fun x hx hl W2 a2 c2 hP2 hI2 => good_any l HV.out u c hu hc s x hx hl D a2 c2 W2 hP2 hI2)
  have hgg : Hid (∀ x, goodG l u c s x = true → goodG l u c s x = true) := hid fun _ h => h
  have hrd : Rnd W.heap.size Wb w5 w5 l0 W.heap.size (W.heap.size + 1) D (some ⟨xb, xo, none⟩) t Z Z := ⟨hE5.cell hyb, hE5.cell hxb, hyz, hxz, hintb.out.ext hE5, fun b off e => (hnew b off e).2, fun _ _ _ _ h => h, fun k hk _ hz => by have := hzb k hz; omega, .of_ext hE5, Nat.le_refl _⟩
  have hj5 := hid (HJ.out.ext hjb.out hE5)
  obtain ⟨EP, hEP⟩ : ∃ E, edP l u c s = E := ⟨_, rfl⟩
  obtain ⟨ED, hED⟩ : ∃ E, edC (goodG l u c s) l.length (ptL (ovr l u c s)) (lsC pre) = E := ⟨_, rfl⟩
  obtain ⟨X, hX⟩ : ∃ X, ptL (ovr l u c s) t = X := ⟨_, rfl⟩
  rw [hED] at hp2 hsn hpr2
  rw [hEP] at hpr2
  rw [hX] at hT hprow hPn hsn hpr2 hgs hgp hg0
  rw [hX]
  obtain ⟨GT, hGT⟩ : ∃ G, edgT (goodG l u c s) l.length t X = G := ⟨_, rfl⟩
  rw [hGT] at hsn hpr2 hgs hgp hg0
  have hdone : Hid (∀ pre3 Z3 W3, lsM pre3 = ED ++ GT X.length → J pre3 Z3 W3 → Rnd W.heap.size Wb w5 W3 l0 W.heap.size (W.heap.size + 1) D (some ⟨xb, xo, none⟩) t Z Z3 → ∃ Z', KZ w4.heap.size Z Z' Wb W3 ∧ EI J (goodG l u c s) l.length (ptL (ovr l u c s)) l0 W.heap.size (W.heap.size + 1) D (pre ++ [⟨some ⟨xb, xo, none⟩, xc, t⟩]) Z' W3) := hid fun pre3 Z3 W3 h1 h2 h3 => ⟨Z3, h3.k.le (by have := z4.out; omega), ⟨⟨pre3, by rw [hsn.out]; exact h1, h2⟩, h3.y, h3.x, h3.yz, h3.xz⟩⟩
  have hp0 : Hid (lsM pre2 = ED ++ GT 0) := hid (by rw [hg0.out, List.append_nil]; exact hp2)
  clear hsn hg0 hp2 hpc hyb hxb hintb hzb hpre
  obtain ⟨P, hPe⟩ : ∃ P, X.length = P := ⟨_, rfl⟩
  have hRow := hid (fun k (hk : k < X.length) => (hprow k hk).1)
  have hRow2 := hid (fun k (hk : k < X.length) => (hprow k hk).2)
  have hT := hid hT
  rw [hPe] at hRow hRow2 hPn hpr2 hdone
  rw [hPe]
  clear hprow
  rcases Nat.eq_zero_or_pos P with hP0 | hP0
  ·subst hP0
   gi_wp2_with fail
   gi_loopw [17] (fun i wr => i = .int .i64 0 ∧ Hid (Ext w5 wr)) (fun i _ => 0)
   case atStart => exact ⟨rfl, hid (Ext.refl _)⟩
   case round =>
    obtain ⟨rfl, hx⟩ := hrel
    gi_wp2_with fail
    exact hdone.out _ _ _ hp0.out (HJ.out.ext hj5.out hx.out) (hrd.ext hx.out)
  ·obtain ⟨gb, go, rfl, hgb, hRT⟩ := hT.out.at (by omega) (m := t.length) (fun k hk => hRow.out k (by omega))
   have hRT := hid hRT
   rw [hPe] at hRT
   replace hPe := hid hPe
   have hrd := hid hrd
   have hEF := hid (fun pre Z W1 (h : J pre Z W1) => HN.out pre Z W1 h)
   obtain ⟨m, hm⟩ : ∃ m, t.length = m := ⟨_, rfl⟩
   have hm3 := hok.2.2
   have hm1 := hok.2.1
   rw [hm] at hRT hm1 hm3 hRow hgs
   have htl := hid hok.1
   rw [hm] at htl
   rw [hm]
   gi_wp2_with fail
   gi_loopw [17] (fun i wr => ∃ (k : Nat) (pre2 : List Mx) (Z2 : Nat → Prop), k ≤ P ∧ i = .int .i64 k ∧ Hid (lsM pre2 = ED ++ GT k) ∧ Hid (J pre2 Z2 wr) ∧ Hid (Rnd W.heap.size Wb w5 wr l0 W.heap.size (W.heap.size + 1) D (some ⟨xb, xo, none⟩) t Z Z2)) (fun i _ => (P - intOf i).toNat)
   case atStart => exact ⟨0, pre2, Z, by omega, rfl, hp0, hj5, hrd⟩
   case round =>
    obtain ⟨k, pre3, Z3, hk, rfl, hp3, hj3, hr3⟩ := hrel
    by_cases hkl : k < P
    ·obtain ⟨wo, rfl⟩ : ∃ wo : World, wo = wr := ⟨_, rfl⟩
     obtain ⟨bi, oi, ci, q1, q2, q3⟩ := hRT.out k hkl
     have hef := hEF.out _ _ _ hj3.out
     have b0 := hef.b0
     have b1 := hef.b1
     have dd := hef.d
     have hpot := hid hef.p
     have hloo := hid hef.le
     have c1 := hr3.out.s gb (go + k) _ hgb q2
     have hrc := hid (fun r hr => hr3.out.s bi (oi + r) _ q1 (q3 r hr))
     have hxc : Hid (∀ r, r < m → wo.cell? ⟨xb, xo + r, none⟩ = some (.int .i64 (t.getD r 0 : Nat))) := hid fun r hr => by
      obtain ⟨b', o', e', h9⟩ := hr3.out.i r (by simp [asI]; omega)
      cases e'
      rw [h9]
      have hlt : r < t.length := by omega
      simp [asI, nth, List.getD_eq_getElem?_getD, List.getElem?_map, List.getElem?_eq_getElem hlt]
     have hy3 := hr3.out.y
     have hms : Hid (∀ q, mixP l.length t (row X k) (q + 1) = (mixP l.length t (row X k) q).set (t.getD q 0) (nth (row X k) q)) := hid fun q => rfl
     have hml := hid (fun q => mixP_len l.length t (row X k) q)
     have hmp := hid (mixP_prt l.length t (row X k) (hRow2.out k hkl) m)
     have hm0 : Hid (mixP l.length t (row X k) 0 = List.replicate l.length 0) := hid rfl
     have hgk := hid (hgs.out k)
     obtain ⟨MX, hMX⟩ : ∃ M, mixP l.length t (row X k) = M := ⟨_, rfl⟩
     rw [hMX] at hms hml hmp hm0 hgk
     obtain ⟨rw', hrw⟩ : ∃ r, row X k = r := ⟨_, rfl⟩
     rw [hrw] at hms hrc
     have hkI : (k : Int) < (P : Int) := by omega
     have tk := Go.IntWalk.i64_in ((k : Int) + 1) (by omega)
     have l0_ := cell_lt b0
     have l1_ := cell_lt b1
     have l2_ := cell_lt dd
     have l3_ := cell_lt c1
     have l4_ := cell_lt hy3
     dsimp only at l0_ l1_ l2_ l3_ l4_
     clear hMX hrw q2 q3 hef
     gi_wp2_with (first | (gi_at_make; refine make_in rfl _ _ 25 rfl 2 Try.underlying25 elemI64 l.length rfl rfl (by omega) ?_; intro w6 ho6 hE6 hl6))
     have ho6 := hid ho6
     have hE6 := hid hE6
     clear hl6
     gi_loopw [30] (fun i wv => ∃ q : Nat, q ≤ m ∧ i = .int .i64 q ∧ Hid (OwnI wv wo.heap.size 2 (.slice (some ⟨wo.heap.size, 0, none⟩) l.length l.length) (MX q)) ∧ Hid (Ext wo wv)) (fun i _ => (m - intOf i).toNat)
     case atStart => exact ⟨0, by omega, rfl, hid (by rw [hm0.out]; exact ho6.out), hE6⟩
     case round =>
      obtain ⟨q, hq, rfl, ho, hx⟩ := hrel
      by_cases hqm : q < m
      ·have e0 := hx.out.cell (hxc.out q hqm)
       have e1 := hx.out.cell (hrc.out q hqm)
       have hti := htl.out q hqm
       have hst := hid (hms.out q)
       have hlq := hid (hml.out q)
       obtain ⟨ti, hti'⟩ : ∃ z, t.getD q 0 = z := ⟨_, rfl⟩
       obtain ⟨y, hy'⟩ : ∃ z, nth rw' q = z := ⟨_, rfl⟩
       rw [hti'] at e0 hti hst
       rw [hy'] at e1 hst
       have hf := ho.out.facts (j := ti) (by rw [hlq.out]; exact hti)
       have f0 := hf.1
       have f1 := hf.2.1
       have hBW := hf.2.2.2
       obtain ⟨v0, hv0⟩ : ∃ z, nth (MX q) ti = z := ⟨_, rfl⟩
       rw [hv0] at f0
       have tq := Go.IntWalk.i64_in ((q : Int) + 1) (by omega)
       have hqI : (q : Int) < (m : Int) := by omega
       have htI : (ti : Int) < (l.length : Int) := by omega
       have l5_ := cell_lt e0
       have l6_ := cell_lt e1
       have hso : Hid (OwnI (World.setCell wr ⟨wo.heap.size, ti, none⟩ (.int .i64 y)) wo.heap.size 2 (.slice (some ⟨wo.heap.size, 0, none⟩) l.length l.length) (MX (q + 1))) := hid (by
        have h9 := ho.out
        have h8 : (MX q).length = l.length := hlq.out
        rw [← h8] at h9
        have := OwnI.set (cap := (MX q).length) h9 (i := ti) y
        rw [hst.out]
        rw [List.length_set, h8] at this
        exact this)
       clear hti' hy' hv0 hf
       gi_wp2_with fail
       go_roundw
       case rel => exact ⟨q + 1, by omega, by go_num, hso, hid (Ext.setCell hx.out (by simp) _)⟩
       case measure => simp [intOf]; omega
      ·have hqm' : q = m := by omega
       rw [hqm'] at ho
       rw [hqm']
       clear hqm' hqm hq
       have hmm : ¬ (m : Int) < (m : Int) := by omega
       have b1' := hx.out.cell b1
       have y' := hx.out.cell hy3
       have l1' := cell_lt b1'
       have l4' := cell_lt y'
       dsimp only at l1' l4'
       have hlm := hid (hml.out m)
       have hgc := hid (fun W2 hW2 => by have := hgd.out (MX m) hmp.out hlm.out W2 (some ⟨wo.heap.size, 0, none⟩) l.length ((hpot.out.ext hx.out).ext hW2) (OwnI.ints (ho.out.ext hW2)); rw [hlm.out] at this; exact this)
       obtain ⟨mix, hmix⟩ : ∃ z, MX m = z := ⟨_, rfl⟩
       rw [hmix] at hgc hlm ho hgk
       clear hmix
       gi_wp2_with fail
       refine ⟨trivial, ?_⟩; refine (callsIn_wide.2 (hgc.out _ exE)).mono ?_; rintro e w7 ⟨rfl, hE7⟩
       have x7 := hid (show Ext wo w7 from hx.out.trans exE)
       have ho7 := hid (ho.out.ext (show Ext wr w7 from exE))
       have hj7 := hid (HJ.out.ext hj3.out x7.out)
       have hr7 := hid (hr3.out.ext x7.out)
       have y7 := hr7.out.y
       clear hE7
       cases hgt : goodG l u c s mix with
       | false =>
        have hp7 : Hid (lsM pre3 = ED ++ GT (k + 1)) := hid (by rw [hgk.out, hgt, if_neg (by decide)]; exact hp3.out)
        gi_wp2_with fail
        refine ⟨fun f h => (by cases h), ?_⟩
        gi_wp2
        go_roundw
        case rel => exact ⟨k + 1, _, _, by omega, by go_num, hp7, hj7, hr7⟩
        case measure => simp [intOf]; omega
       | true =>
        have hp7 : Hid (lsM (pre3 ++ [(⟨wo.heap.size, mix⟩ : Mx)]) = ED ++ GT (k + 1)) := hid (by rw [lsM_snoc, hgk.out, hgt, if_pos rfl, hp3.out, List.append_assoc])
        have hpre7 := hid (show lsM (pre3 ++ [(⟨wo.heap.size, mix⟩ : Mx)]) <+: EP by rw [hp7.out]; exact ((List.prefix_append_right_inj _).2 (hgp.out (k + 1) P hkl)).trans hpr2.out)
        obtain ⟨fn, tmps, assign, body, hyl, hR⟩ := HY.out pre3 Z3 ⟨wo.heap.size, mix⟩ w7 ⟨by rw [hEP]; exact hpre7.out, ho7.out.mono (Nat.zero_le _), hlm.out, hloo.out, fun hz => Nat.lt_irrefl _ (HZ.out _ _ _ hj3.out _ hz)⟩ hj7.out (Nat.le_trans (Nat.le_trans hbo.out hr3.out.k.size) x7.out.size)
        simp only [encM] at hyl
        have hR := hid hR
        gi_wp2
        refine (roundIn_any hR.out).mono ?_
        rintro e W3 (⟨rfl, Z4, hJ4, hK4⟩ | ⟨rfl, hJx4, hK4⟩)
        ·have hJ4 := hid hJ4
         have hr4 := hid (hr7.out.yield hK4 (Nat.le_refl _) (by omega) hbo.out (fun b off e => (hnew b off e).1) (by omega))
         clear hyl hK4
         gi_wp2
         go_roundw
         case rel => exact ⟨k + 1, _, _, by omega, by go_num, hp7, hJ4, hr4⟩
         case measure => simp [intOf]; omega
        ·have hfin := hid (show KeepsFrom w4.heap.size Wb W3 ∧ EX9 Jx (edP l u c s) .ret (pre ++ [⟨some ⟨xb, xo, none⟩, xc, t⟩]) W3 from ⟨keeps_two (hr7.out.k.keeps) hK4 (by have := z4.out; omega), rfl, _, by rw [hEP]; exact hpre7.out, hJx4⟩)
         clear hyl hK4
         gi_wp2
         exact hfin.out
    ·have hkP : k = P := by omega
     have hPP : ¬ (P : Int) < (P : Int) := by omega
     rw [hkP] at hp3
     rw [hkP]
     clear hkP hkl hk
     gi_wp2_with fail
     exact hdone.out _ _ _ hp3.out hj3.out hr3.out
 case done =>
  rintro L xs Z Wd hD hS ⟨⟨pre2, hp2, hj⟩, _⟩ hsz hK
  subst hD
  have hKK := hid hK
  have hjf := hid (HJ.out _ _ _ _ hj (KN.put (.deferred none) (show W.heap.size ≤ w4.heap.size by have := z4.out; omega) (fun o ho => by rw [hK] at ho; cases ho; rfl)))
  have hp3 := hid (show lsM pre2 = edP l u c s by rw [hp2]; unfold edP; rw [show lsC xs = chsL l.length (2 ^ l.length) from hS])
  have hwz := hid (show W.heap.size ≤ Wd.heap.size by have := z4.out; omega)
  clear hj hK hsz hp2
  gi_wp2
  refine ⟨by simp, .inl ⟨_, _, rfl, run_takeDeferred hKK.out, ?_⟩⟩
  exact ⟨.tuple #[], by simp [results, Try.results103, go_sem], ⟨_, rfl⟩, .inl ⟨pre2, Z, hp3.out, hjf.out, by have := hwz.out; simp; omega⟩⟩
 case stop =>
  rintro L cc pre Wd hD hSp ⟨rfl, pre2, h1, h2⟩ hK
  subst hD
  have hKK := hid hK
  have hjf := hid (HJx.out _ _ _ h2 (KN.put (.deferred none) (show W.heap.size ≤ w4.heap.size by have := z4.out; omega) (fun o ho => by rw [hK] at ho; cases ho; rfl)))
  have h1 := hid h1
  clear h2 hK
  gi_wp2
  refine ⟨by simp, .inl ⟨_, _, rfl, run_takeDeferred hKK.out, ?_⟩⟩
  exact ⟨.tuple #[], by simp [results, Try.results103, go_sem], ⟨_, rfl⟩, .inr ⟨pre2, h1.out, hjf.out⟩⟩
end Go.Proofs.Ytpnfhcnnodolbaa
namespace Go.Proofs.Ytpnfhcnnodolbaa
open Go Go.RowKit Game
attribute [local go_sem] Oper.semAt_some
theorem appG_in {P : Program} {L nn : Nat} {w : World} {ops : Array Oper} {rest : List Oper} {o : Oper} {a : Act} {Q : Exit → Act → World → Prop} (hgd : o.guard = none) (s x : Operand) (t : TypeId)
 (ho : o.op = .call { callee := .builtin .append, args := #[s, x], argTypes := #[t, t] })
 (e : TypeId) (k bytes : Nat) (ht : P.underlying t = some (.slice e)) (he : ElemG P e k bytes) (hk : 0 < k) (base : Nat) (f : Nat → Nat → Value) (n : Nat) (v : Value) (hs : a.eval s = v)
 (b0 o0 m c : Nat) (h : Nat → Nat → Value) (hx : a.eval x = .slice (some ⟨b0, o0, none⟩) m c) (hown : OwnG w base e k v f n) (hel : ∀ i, i < m → ∀ r, r < k → w.cell? ⟨b0, o0 + i * k + r, none⟩ = some (h i r)) (hm : 0 < m)
 (h1 : ∀ i r, i < m → r < k → (h i r).oneCell' = true) (hl : n + m ≤ 1000000000) (hby2 : bytes ≤ 1000) (hbase : base ≤ w.heap.size)
 (g : Nat → Nat → Value) (g1 : ∀ i r, i < n → r < k → g i r = f i r) (g2 : ∀ i r, i < m → r < k → g (n + i) r = h i r)
 (hK : ∀ b cap w', OwnG w' base e k (.slice (some ⟨b, 0, none⟩) (n + m) cap) g (n + m) → w.grownBy w' v.ownBlock → (v.ownBlock = some b ∨ b = w.heap.size) → base ≤ b → (∀ w0, Ext w0 w → w0.heap.size ≤ base → Ext w0 w') →
  wpListIn (Fence.wide.inRound L) nn P ops Q rest (a.put o.dst (.slice (some ⟨b, 0, none⟩) (n + m) cap)) w') : wpListIn (Fence.wide.inRound L) nn P ops Q (o :: rest) a w :=
 wpListIn_plain hgd fun K hK2 => op_round (by unfold noDefer; rw [ho]) (appG_wp s x t ho e k bytes ht he hk base f n v hs b0 o0 m c h hx hown hel hm h1 hl hby2 hbase g g1 g2 fun b cap w' a1 a2 a3 a4 a5 => hK2 _ _ (hK b cap w' a1 a2 a3 a4 a5))
theorem OwnG.capM {W : World} {base : Nat} {e : TypeId} {k : Nat} {a : Option Addr} {m cap : Nat} {f : Nat → Nat → Value} {n : Nat} (h : OwnG W base e k (.slice a m cap) f n) : cap ≤ 9223372036854775807 := by
 obtain ⟨_, ⟨e1, _⟩ | ⟨b, cap', cur, e1, _, hb, _, hm, _⟩⟩ := h
 ·cases e1; omega
 ·cases e1; unfold maxLen at hm; omega
def RetTC (t : List (List Int)) (w : World) (e : Ending) (w' : World) : Prop := ∃ a cap, e = .returned (.slice a t.length cap) ∧ (t.length ≤ cap ∧ cap ≤ 9223372036854775807) ∧ Tab w' a t ∧ Ext w w'
def hdM (N : Nat) (xs : List Mx) (i : Nat) : Value := .slice (some ⟨(xs.getD i ⟨0, []⟩).g, 0, none⟩) N N
theorem getM_left {xs : List Mx} {x : Mx} {i : Nat} (h : i < xs.length) : (xs ++ [x]).getD i ⟨0, []⟩ = xs.getD i ⟨0, []⟩ := by simp [List.getD_eq_getElem?_getD, List.getElem?_append_left h]
theorem getM_last {xs : List Mx} {x : Mx} : (xs ++ [x]).getD xs.length ⟨0, []⟩ = x := by simp [List.getD_eq_getElem?_getD]
theorem apart_types {W : World} {base base' : Nat} {e e' : TypeId} {v v' : Value} {l : List Int} {k : Nat} {f : Nat → Nat → Value} {n : Nat} (h : OwnI W base e v l) (h' : OwnG W base' e' k v' f n) (hne : e ≠ e') {g : Nat} (hg : v.ownBlock = some g) : v'.ownBlock ≠ some g := by
 intro hg'
 obtain ⟨_, ⟨rfl, _⟩ | ⟨b, cap, cur, rfl, _, hb, _⟩⟩ := h
 ·cases hg
 ·obtain ⟨_, ⟨rfl, _⟩ | ⟨b', cap', cur', rfl, _, hb', _⟩⟩ := h'
  ·cases hg'
  ·simp only [Value.ownBlock, Option.some.injEq] at hg hg'
   subst hg
   rw [hg', hb] at hb'
   cases hb'
   exact hne rfl
theorem OwnG.isC {W : World} {base : Nat} {e : TypeId} {k : Nat} {v : Value} {f : Nat → Nat → Value} {n : Nat} (h : OwnG W base e k v f n) {r : Nat} (hr : v.ownBlock = some r) : ∀ o, W.heap[r]? = some o → o.isCells = true := by
 obtain ⟨_, ⟨rfl, _⟩ | ⟨b, cap, cur, rfl, _, hb, _⟩⟩ := h
 ·cases hr
 ·simp only [Value.ownBlock, Option.some.injEq] at hr
  subst hr
  intro o ho
  rw [hb] at ho
  cases ho
  rfl
structure AI (w : World) (N : Nat) (pre : List Mx) (Z : Nat → Prop) (W : World) : Prop where
 x : Ext w W
 m : ∃ v, W.cell? ⟨w.heap.size, 0, none⟩ = some v ∧ OwnG W (w.heap.size + 3) 25 1 v (fun i _ => hdM N pre i) pre.length ∧ ∀ k, Z k ↔ v.ownBlock = some k
 f : W.frozen? ⟨w.heap.size, 0, none⟩ = false
 r : ∀ i, i < pre.length → OwnI W 0 2 (hdM N pre i) (pre.getD i ⟨0, []⟩).l ∧ (pre.getD i ⟨0, []⟩).l.length = N ∧ w.heap.size < (pre.getD i ⟨0, []⟩).g
theorem AI.kn {w W W' : World} {N : Nat} {pre : List Mx} {Z : Nat → Prop} {B : Nat} (h : AI w N pre Z W) (k : KN B W W') (hb : w.heap.size ≤ B) : AI w N pre Z W' := by
 obtain ⟨v, h1, h2, h3⟩ := h.m
 exact ⟨k.ext h.x hb, ⟨v, k.cell h1, k.owns h2, h3⟩, (k.frozen h1).trans h.f, fun i hi => ⟨k.owns (h.r i hi).1, (h.r i hi).2⟩⟩
theorem EF.ext {lo B0 B1 D : Nat} {a : Option Addr} {cap : Nat} {l : List Met} {u c : Int} {s : Bool} {w w' : World} (h : EF lo B0 B1 D a cap l u c s w) (x : Ext w w') : EF lo B0 B1 D a cap l u c s w' :=
 ⟨x.cell h.b0, x.cell h.b1, x.cell h.d, h.p.ext x, Nat.le_trans h.le x.size⟩
set_option maxHeartbeats 2000000 in
theorem appendSeq_any (l : List Met) (v : VldM l) (u c : Int) (hu : 0 ≤ u ∧ u ≤ 1000) (hc : 0 ≤ c ∧ c ≤ 1000) (s : Bool) (B0 B1 D : Nat) (a : Option Addr) (cap : Nat) (hlen : (edP l u c s).length ≤ 1000000) (w : World) (hE : EF 0 B0 B1 D a cap l u c s w) :
 Calls Try.prog 107 #[.slice none 0 0, (.func (.func 103) #[] #[.pointer (some ⟨B0, 0, none⟩), .pointer (some ⟨B1, 0, none⟩)])] w (RetTC (edP l u c s) w) := by
 have HE := hid hE
 have n1 := v.n1
 clear hE
 refine (callsIn_wide (n := 9)).1 ?_
 refine callsIn_of_wp_marks Try.func107 rfl trivial ?_ rfl
 simp only [Try.ntmps107, List.size_toArray, List.length_cons, List.length_nil, Nat.reduceAdd, Nat.reduceSub, Array.replicate_succ, Array.replicate_zero, List.push_toArray, List.append_toArray, List.nil_append, List.cons_append]
 gi_wp2_with fail
 obtain ⟨w1, hw1⟩ : ∃ w1, w1 = w.alloc (.cells #[.slice none 0 0] 97) := ⟨_, rfl⟩
 rw [← hw1]
 have hst : AI w l.length [] (fun _ => False) w1 := by
  rw [hw1]
  exact ⟨exE, ⟨.slice none 0 0, by simp [go_sem], OwnG.nil _ _ _ _ _, fun k => ⟨fun h => h.elim, fun h => by simp [Value.ownBlock] at h⟩⟩, by simp [go_sem], fun i hi => by simp at hi⟩
 have z1 : w1.heap.size = w.heap.size + 1 := by rw [hw1]; simp
 replace z1 := hid z1
 clear hw1
 refine range_yieldsZ (F := Fence.wide) (n := 9) rfl (by omega) (gf := 103) (lb := #[.pointer (some ⟨B0, 0, none⟩), .pointer (some ⟨B1, 0, none⟩)]) rfl trivial (enters_of Try.func103 (by kernel_rfl) rfl)
  (edges1_yields l v u c hu hc s (w.heap.size + 1) B0 B1 D a cap 8) (fun _ => rfl) (AI w l.length) (fun _ _ _ => False) ?st ?nd ?zz (fun _ _ _ _ h _ => h) hst ?round ?done (fun _ _ _ _ _ _ h _ => h.elim)
 case st => exact fun pre Z A C h k => h.kn k (by have := z1.out; omega)
 case nd =>
  intro pre Z A h
  have h1 := HE.out.ext h.x
  obtain ⟨tv, hv, _⟩ := h.m
  exact ⟨h1.b0, h1.b1, h1.d, h1.p, cell_lt hv⟩
 case zz =>
  rintro pre Z A h k hz
  obtain ⟨v, _, h2, h3⟩ := h.m
  exact (h2.block k ((h3 k).1 hz)).2
 case round =>
  rintro l2 pre Z ⟨g, ml⟩ Wr ⟨hpre, hown, hml, hlo, hnz⟩ hI hl2 ⟨rr, hLp⟩ hsz
  subst hl2
  simp only [encM]
  gi_wp2
  refine ⟨KZ.refl _ _ _, fun o => ?_⟩
  obtain ⟨Wb, hWb⟩ : ∃ Wb, Wb = Wr.putObj (w1.heap.size + 1) o := ⟨_, rfl⟩
  have kn : KN w1.heap.size Wr Wb := by rw [hWb]; exact KN.put _ (by omega) (fun o ho => by rw [hLp] at ho; cases ho; rfl)
  have hib := hid (hI.kn kn (by have := z1.out; omega))
  have hownb := hid (show OwnI Wb 0 2 (.slice (some ⟨g, 0, none⟩) l.length l.length) ml from kn.owns hown)
  have hplen : pre.length < 1000000 := by
   have h1 := hpre.length_le
   simp [lsM] at h1
   omega
  have zb : Wb.heap.size = Wr.heap.size := by rw [hWb]; simp
  have hzz := hid (show w.heap.size + 3 ≤ Wb.heap.size by have := z1.out; omega)
  rw [← hWb]
  clear hWb kn hown hI hpre hsz hLp zb
  obtain ⟨tv, hv, hov, hZ⟩ := hib.out.m
  have hf := hib.out.f
  have l0 := cell_lt hv
  dsimp only at l0
  have hov := hid hov
  have hvk : Hid (∀ A C, Ext Wb A → A.grownBy C tv.ownBlock → C.cell? ⟨w.heap.size, 0, none⟩ = some tv ∧ C.frozen? ⟨w.heap.size, 0, none⟩ = false) := hid fun A C h g => by
   have hne : some w.heap.size ≠ tv.ownBlock := fun e => by have := (hov.out.block _ e.symm).1; omega
   have h1 := h.cell hv
   exact ⟨g.cell h1 hne, (grownBy_frozen g (cell_lt h1) hne).trans ((h.frozen (cell_lt hv)).trans hf)⟩
  gi_wp2_with (first | (gi_at_builtin; (refine appG_in rfl _ _ _ rfl 25 1 24 Try.underlying97 elemSl (by decide) (w.heap.size + 3) (fun i _ => hdM l.length pre i) pre.length tv rfl Wb.heap.size 0 1 1 (fun _ _ => .slice (some ⟨g, 0, none⟩) l.length l.length) rfl (hov.out.ext exE) (el1 rfl) (by decide) (fun _ _ _ _ => rfl) (by omega) (by decide) (by have := hzz.out; simp; omega) (fun i _ => hdM l.length (pre ++ [(⟨g, ml⟩ : Mx)]) i) (fun i r hi _ => by unfold hdM; rw [getM_left hi]) (fun i r hi _ => by rw [show i = 0 by omega, Nat.add_zero]; unfold hdM; rw [getM_last]) ?_); intro b6 cp6 w6 ho6 hg6 at6 hb6 hE6; obtain ⟨hv6, hf6⟩ := hvk.out _ _ exE hg6))
  have xa := hid (show Ext Wb (Wb.alloc (.cells #[.slice (some ⟨g, 0, none⟩) l.length l.length] 25)) from exE)
  have kz : KZ w1.heap.size Z (fun k => k = b6) Wb (w6.setCell ⟨w.heap.size, 0, none⟩ (.slice (some ⟨b6, 0, none⟩) (pre.length + 1) cp6)) := by
   refine ((KZ.of_ext xa.out).trans (KZ.grown (Z' := fun k => k = b6) hg6 (fun r hr => .inr ⟨(hZ r).2 hr, (hov.out.ext xa.out).isC hr⟩) (fun k hk => ?_))).trans (KZ.set _ _ (by have := z1.out; dsimp only; omega))
   subst hk
   rcases at6 with h1 | h1
   ·exact .inl ((hZ _).2 h1)
   ·exact .inr (by rw [h1]; exact Nat.le_refl _)
  have hgi : ∀ e : Value, e.ownBlock = tv.ownBlock → True := fun _ _ => trivial
  have keep : ∀ (gq : Nat) (L : List Int), w.heap.size < gq → OwnI Wb 0 2 (.slice (some ⟨gq, 0, none⟩) l.length l.length) L → OwnI (w6.setCell ⟨w.heap.size, 0, none⟩ (.slice (some ⟨b6, 0, none⟩) (pre.length + 1) cp6)) 0 2 (.slice (some ⟨gq, 0, none⟩) l.length l.length) L := fun gq L hgq ho => by
   have h1 := ho.ext xa.out
   have h2 := apart_types h1 (hov.out.ext xa.out) (by decide) (g := gq) rfl
   have h3 : OwnI w6 0 2 (.slice (some ⟨gq, 0, none⟩) l.length l.length) L := World.ownsRow.kept h1 hg6 (.inr (fun e => h2 e.symm))
   exact OwnI.put h3 (by first | omega | (dsimp only; omega)) _
  refine ⟨_, kz, ⟨Ext.setCell (Ext.grown (hib.out.x.trans xa.out) hg6 (fun r e => by have := (hov.out.block r e).1; omega)) (by simp) _, ⟨_, cell_put_eq hv6, ?_, fun k => ⟨fun h => by rw [h]; rfl, fun h => (Option.some.inj h).symm⟩⟩, by rw [World.frozen?_setCell]; exact hf6, fun i hi => ?_⟩⟩
  ·rw [List.length_append]
   exact ho6.put (by simp only [Value.ownBlock]; intro e; have h9 := Option.some.inj e; (try dsimp only at h9); omega) _
  ·rcases Nat.lt_or_ge i pre.length with hlt | hge
   ·obtain ⟨r1, r2, r3⟩ := hib.out.r i hlt
    unfold hdM
    rw [getM_left hlt]
    exact ⟨keep _ _ r3 r1, r2, r3⟩
   ·have e : i = pre.length := by simp at hi; omega
    subst e
    unfold hdM
    rw [getM_last]
    have hgl : w.heap.size < g := hlo
    exact ⟨keep _ _ hgl hownb.out, hml, hgl⟩
 case done =>
  rintro L xs Z Wd hD hS hI hsz hK
  subst hD
  have hKK := hid hK
  obtain ⟨tv, hv, hov, hZ⟩ := hI.m
  obtain ⟨aa, cp, rfl, hcp, hEl⟩ := hov.els
  have hlq : xs.length = (edP l u c s).length := by rw [← hS]; simp [lsM]
  have hcm := hid (show (edP l u c s).length ≤ cp ∧ cp ≤ 9223372036854775807 from ⟨by omega, hov.capM⟩)
  have kn : KN w1.heap.size Wd (Wd.putObj w1.heap.size (.deferred none)) := KN.put _ (Nat.le_refl _) (fun o ho => by rw [hK] at ho; cases ho; rfl)
  have hie := hid (hI.kn kn (by have := z1.out; omega))
  have hlx := hlq
  clear hlq hcp
  have hvv := hid hv
  have hSS := hid hS
  have hTab : Hid (Tab (Wd.putObj w1.heap.size (.deferred none)) aa (edP l u c s)) := hid fun i hi => by
   have hi2 : i < xs.length := by omega
   obtain ⟨r1, r2, r3⟩ := hie.out.r i hi2
   obtain ⟨b, off, ha, hc⟩ := hEl i hi2
   have hrow : row (edP l u c s) i = (xs.getD i ⟨0, []⟩).l := by
    rw [← hS]
    simp [row, lsM, List.getD_eq_getElem?_getD, List.getElem?_eq_getElem hi2]
   have h0 := kn.cell (hc 0 (by omega))
   refine ⟨b, off, some ⟨(xs.getD i ⟨0, []⟩).g, 0, none⟩, l.length, ha, ?_, by rw [hrow]; exact OwnI.ints r1, by rw [hrow, r2]; exact Nat.le_refl _⟩
   rw [hrow, r2]
   simpa [hdM] using h0
  have hx9 := hid hie.out.x
  replace hlx := hid hlx
  clear hI hov hK hsz kn hv hS hie hEl hZ
  have hv := hvv.out
  gi_wp2
  refine ⟨by simp, .inl ⟨_, _, rfl, run_takeDeferred hKK.out, ?_⟩⟩
  exact ⟨.slice aa xs.length cp, by simp [results, Try.results107, go_sem], aa, cp, by rw [hlx.out], hcm.out, hTab.out, hx9.out⟩
set_option maxHeartbeats 1000000 in
theorem collect_any (l : List Met) (v : VldM l) (u c : Int) (hu : 0 ≤ u ∧ u ≤ 1000) (hc : 0 ≤ c ∧ c ≤ 1000) (s : Bool) (B0 B1 D : Nat) (a : Option Addr) (cap : Nat) (hlen : (edP l u c s).length ≤ 1000000) (w : World) (hE : EF 0 B0 B1 D a cap l u c s w) :
 Calls Try.prog 92 #[(.func (.func 103) #[] #[.pointer (some ⟨B0, 0, none⟩), .pointer (some ⟨B1, 0, none⟩)])] w (RetTC (edP l u c s) w) := by
 have h := hid (appendSeq_any l v u c hu hc s B0 B1 D a cap hlen w hE)
 clear hE hlen v
 go_enter Try.func92, Try.ntmps92
 go_wp2_with fail
 refine h.out.mono ?_; rintro e w1 ⟨a, cp, rfl, hcm, hP, hE⟩
 have hP := hid hP
 replace hcm := hid hcm
 go_wp2_with fail
 go_ret
 exact ⟨a, cp, rfl, hcm.out, hP.out, exE⟩
end Go.Proofs.Ytpnfhcnnodolbaa
namespace Go.Proofs.Ytpnfhcnnodolbaa
open Go Go.RowKit Game
def bstN (lt : Nat → Nat → Bool) : Nat → Nat
 | 0 => 0
 | k + 1 => if lt (k + 1) (bstN lt k) = true then k + 1 else bstN lt k
theorem bstN_le (lt : Nat → Nat → Bool) : ∀ k, bstN lt k ≤ k
 | 0 => Nat.le_refl _
 | k + 1 => by
  simp only [bstN]
  have := bstN_le lt k
  split <;> omega
structure Xok (l : List Met) (x : List Int) : Prop where
 prt : Prt x
 len : x.length = l.length
 pos : 0 < psum x
def csN (l : List Met) (x : List Int) : Int := ratN (costN l x l.length) (psum x)
def csD (l : List Met) (x : List Int) : Int := ratD (costN l x l.length) (psum x)
def ltC (l : List Met) (x y : List Int) : Bool := lessB (csN l x) (csD l x) (csN l y) (csD l y)
theorem ratD_bd {a b : Int} (h : 0 < b) : 1 ≤ ratD a b ∧ ratD a b ≤ b := by
 have hd : (Int.gcd a b : Int) ∣ b := Int.gcd_dvd_right ..
 have hg : 0 < (Int.gcd a b : Int) := by
  have : Int.gcd a b ≠ 0 := fun e => by rw [Int.gcd_eq_zero_iff] at e; omega
  omega
 unfold ratD
 constructor
 ·have := Int.ediv_pos_of_pos_of_dvd h (by omega) hd
  omega
 ·exact Int.ediv_le_self _ (by omega)
theorem cs_bd {l : List Met} (v : VldM l) {x : List Int} (h : Xok l x) : (0 ≤ csN l x ∧ csN l x ≤ 60000000000) ∧ (1 ≤ csD l x ∧ csD l x ≤ 60000000) := by
 have hb := cost_bd v h.prt l.length
 have n6 := v.n6
 have h1 : costN l x l.length ≤ 60000000000 := by omega
 have hp : psum x ≤ 60000000 := by
  have := (sm_bd (n := x.length) (f := nth x) (B := 10000000) fun i _ => h.prt i).2
  unfold psum
  have := h.len
  omega
 have hn := ratN_bd h.pos (B := 60000000000) (by omega) h1 (by omega)
 have hd := ratD_bd (a := costN l x l.length) h.pos
 refine ⟨⟨?_, hn.2⟩, hd.1, by have := hd.2; unfold csD; omega⟩
 unfold csN ratN
 exact Int.ediv_nonneg hb.1 (by omega)
theorem mul_i64 {a b A B : Int} (a0 : 0 ≤ a) (a1 : a ≤ A) (b0 : 0 ≤ b) (b1 : b ≤ B) (h : A * B ≤ 9000000000000000000) (hA : 0 ≤ A) : I64 (a * b) := by
 have h1 := Int.mul_nonneg a0 b0
 have h2 := Int.mul_le_mul a1 b1 b0 hA
 unfold I64
 omega
set_option maxHeartbeats 2000000 in
theorem ch1_any (l : List Met) (v : VldM l) (u c : Int) (s : Bool) (x y : List Int) (hx : Xok l x) (hy : Xok l y) (D Bp : Nat) (a1 : Option Addr) (c1 : Nat) (a2 : Option Addr) (c2 : Nat) (w : World) (hP : Pot w D l u c s) (hB : w.cell? ⟨Bp, 0, none⟩ = some (.pointer (some ⟨D, 0, none⟩))) (hI : Ints w a1 x) (hJ : Ints w a2 y) :
 Calls Try.prog 94 #[.slice a1 l.length c1, .slice a2 l.length c2, (.pointer (some ⟨Bp, 0, none⟩))] w fun e w' => e = .returned (.bool (ltC l x y)) ∧ Ext w w' := by
 have k1 := hid (fun W (hW : Ext w W) => by have := costP_any l v u c s x hx.prt hx.len hx.pos D a1 c1 W (hP.ext hW) (hI.ext hW); rw [hx.len] at this; exact this)
 have k2 := hid (fun W (hW : Ext w W) => by have := costP_any l v u c s y hy.prt hy.len hy.pos D a2 c2 W (hP.ext hW) (hJ.ext hW); rw [hy.len] at this; exact this)
 change Hid (∀ W, Ext w W → Calls Try.prog 58 #[(.pointer (some ⟨D, 0, none⟩)), .slice a1 l.length c1] W fun e w' => e = .returned (.agg #[.int .i64 (csN l x), .int .i64 (csD l x)]) ∧ Ext W w') at k1
 change Hid (∀ W, Ext w W → Calls Try.prog 58 #[(.pointer (some ⟨D, 0, none⟩)), .slice a2 l.length c2] W fun e w' => e = .returned (.agg #[.int .i64 (csN l y), .int .i64 (csD l y)]) ∧ Ext W w') at k2
 obtain ⟨p0, p1⟩ := cs_bd v hx
 obtain ⟨p2, p3⟩ := cs_bd v hy
 have k3 := hid (fun W => less_any (csN l x) (csD l x) (csN l y) (csD l y) (mul_i64 (A := 60000000000) (B := 60000000) p0.1 p0.2 (by omega) p3.2 (by decide) (by decide)) (mul_i64 (A := 60000000000) (B := 60000000) p2.1 p2.2 (by omega) p1.2 (by decide) (by decide)) W)
 change Hid (∀ W, Calls Try.prog 83 #[(.agg #[.int .i64 (csN l x), .int .i64 (csD l x)]), (.agg #[.int .i64 (csN l y), .int .i64 (csD l y)])] W fun e w' => e = .returned (.bool (ltC l x y)) ∧ Ext W w') at k3
 have z := hid hB
 clear hP hI hJ hx hy v p0 p1 p2 p3 hB
 generalize ltC l x y = R at *
 generalize csN l x = x0 at *
 generalize csD l x = x1 at *
 generalize csN l y = y0 at *
 generalize csD l y = y1 at *
 go_enter Try.func94, Try.ntmps94
 go_wp2_with fail
 refine name_act (fun A_ hA_ => ?_)
 obtain ⟨Q2, hQ2⟩ : ∃ Q2 : Exit → Act → World → Prop, Q2 = fun e a' w' => e = .normal ∧ ∃ (v0_ v1_ v3_ v4_ : Value), a' = ((((((((A_.put (some 6) (v0_)).put (some 7) (v1_)).put (some 8) (.agg #[.int .i64 x0, .int .i64 x1])).put (some 9) (v3_)).put (some 10) (v4_)).put (some 11) (.agg #[.int .i64 y0, .int .i64 y1])).put (some 12) (.bool R)).put (some 5) (.bool R)) ∧ Ext w w' := ⟨_, rfl⟩
 have hpan : ∀ c a a' w w', Q2 (.panic c) a w → Q2 (.panic c) a' w' := by rw [hQ2]; rintro c a a' w w' ⟨h, _⟩; cases h
 replace hQ2 := hid hQ2
 refine wp_mono (Q := Q2) ?_ ?_
 ·subst hA_
  have hRD_ := hid (fun w' (x_ : Ext w w') => Ext.cell x_ z.out)
  refine wp_region_held_drew (S := fun w' => Ext w w') (by kernel_rfl) exE fun hHeld => ?_
  refine name_any (fun W0 hW => ?_)
  have s0 : Ext w W0 := by rw [hW]; exact hHeld
  clear hW hHeld
  refine tkB (i := 0) (v := ?_) rfl hpan ?yl ?_
  case yl => (intro w hSw; have k_ := hRD_.out w hSw; go_simp); with_reducible rfl
  try simp only [sxA, sxB, sxC, Act.put, sxD, sxE, sxF]
  refine tkB (i := 1) (v := ?_) rfl hpan ?yl ?_
  case yl => (intro w hSw; have k_ := hRD_.out w hSw; go_simp); with_reducible rfl
  try simp only [sxA, sxB, sxC, Act.put, sxD, sxE, sxF]
  refine tkB (i := 3) (v := ?_) rfl hpan ?yl ?_
  case yl => (intro w hSw; have k_ := hRD_.out w hSw; go_simp); with_reducible rfl
  try simp only [sxA, sxB, sxC, Act.put, sxD, sxE, sxF]
  refine tkB (i := 4) (v := ?_) rfl hpan ?yl ?_
  case yl => (intro w hSw; have k_ := hRD_.out w hSw; go_simp); with_reducible rfl
  try simp only [sxA, sxB, sxC, Act.put, sxD, sxE, sxF]
  refine wpAnyH_ready (rs := [2]) (by kernel_rfl) (by simp) ?_
  refine AllReadyH.cons (o := _) rfl (fun K hK => ?_) AllReadyH.nil
  go_simp
  refine (k1.out _ s0).mono ?_; rintro e W1 ⟨rfl, e1⟩
  have s1 := s0.trans e1
  refine hK.out _ _ s1 (fun _ => ?_)
  clear hK K
  (try simp only [sxA, sxB, sxC, Act.put, sxD, sxE, sxF])
  refine wpAnyH_ready (rs := [5]) (by kernel_rfl) (by simp) ?_
  refine AllReadyH.cons (o := _) rfl (fun K hK => ?_) AllReadyH.nil
  go_simp
  refine (k2.out _ s1).mono ?_; rintro e W2 ⟨rfl, e2⟩
  have s2 := s1.trans e2
  refine hK.out _ _ s2 (fun _ => ?_)
  clear hK K
  (try simp only [sxA, sxB, sxC, Act.put, sxD, sxE, sxF])
  refine wpAnyH_ready (rs := [6]) (by kernel_rfl) (by simp) ?_
  refine AllReadyH.cons (o := _) rfl (fun K hK => ?_) AllReadyH.nil
  go_simp
  refine (k3.out _).mono ?_; rintro e W3 ⟨rfl, e3⟩
  have s3 := s2.trans e3
  refine hK.out _ _ s3 (fun _ => ?_)
  clear hK K
  (try simp only [sxA, sxB, sxC, Act.put, sxD, sxE, sxF])
  refine tkB (i := 7) (v := ?_) rfl hpan ?yl ?_
  case yl => (intro w hSw; have k_ := hRD_.out w hSw; go_simp); with_reducible rfl
  try simp only [sxA, sxB, sxC, Act.put, sxD, sxE, sxF]
  refine wpAnyH_done (by kernel_rfl) ?_ _
  try simp only [sxA, sxB, sxC, Act.put, sxD, sxE, sxF]
  rw [hQ2.out]
  refine ⟨rfl, ?u1_0_1, ?u1_1_1, ?u1_2_1, ?u1_3_1, ?eq1_1, s3⟩
  case eq1_1 => ((try simp only [sxA, sxB, sxC, Act.put, sxD, sxE, sxF]); first | done | with_reducible rfl | rfl)
 rw [hQ2.out]
 rintro e a' wa ⟨rfl, v0_, v1_, v3_, v4_, rfl, x⟩
 clear hQ2 hpan; clear Q2
 subst hA_
 simp only [sxA, sxB, sxC, Act.put, sxD, sxE, sxF]
 go_wp2_with fail
 go_ret
 exact ⟨rfl, x⟩
set_option maxHeartbeats 2000000 in
theorem bestI_any (l : List Met) (v : VldM l) (u c : Int) (s : Bool) (L : List (List Int)) (hL : ∀ x ∈ L, Xok l x) (h0 : 0 < L.length) (h9 : L.length ≤ 1000000) (D Bp : Nat) (a : Option Addr) (cap : Nat) (hcap : L.length ≤ cap) (hcm : cap ≤ 9223372036854775807) (w : World) (hP : Pot w D l u c s) (hB : w.cell? ⟨Bp, 0, none⟩ = some (.pointer (some ⟨D, 0, none⟩))) (hT : Tab w a L) :
 Calls Try.prog 93 #[.slice a L.length cap, .func (.func 94) #[] #[(.pointer (some ⟨Bp, 0, none⟩))]] w fun e w' => ∃ ai ci, e = .returned (.slice ai l.length ci) ∧ Ints w' ai (row L (bstN (fun i j => ltC l (row L i) (row L j)) (L.length - 1))) ∧ Ext w w' := by
 have hmem : ∀ i, i < L.length → Xok l (row L i) := fun i hi => hL _ (by rw [row_lt hi]; exact List.getElem_mem hi)
 obtain ⟨b, off, rfl, hb, hc⟩ := hT.at h0
 have hc : Hid (∀ i, i < L.length → ∃ ai ci, w.cell? ⟨b, off + i, none⟩ = some (.slice ai l.length ci) ∧ Ints w ai (row L i)) := hid fun i hi => by
  obtain ⟨ai, ci, h1, h2⟩ := hc i hi
  rw [(hmem i hi).len] at h1
  exact ⟨ai, ci, h1, h2⟩
 have hlt := hid (fun i j (hi : i < L.length) (hj : j < L.length) a1 c1 a2 c2 W (hW : Ext w W) h1 h2 => ch1_any l v u c s (row L i) (row L j) (hmem i hi) (hmem j hj) D Bp a1 c1 a2 c2 W (hP.ext hW) (hW.cell hB) h1 h2)
 obtain ⟨lt, hlte⟩ : ∃ lt : Nat → Nat → Bool, (fun i j => ltC l (row L i) (row L j)) = lt := ⟨_, rfl⟩
 have hlt2 : Hid (∀ i j, i < L.length → j < L.length → ∀ a1 c1 a2 c2 W, Ext w W → Ints W a1 (row L i) → Ints W a2 (row L j) → Calls Try.prog 94 #[.slice a1 l.length c1, .slice a2 l.length c2, (.pointer (some ⟨Bp, 0, none⟩))] W fun e w' => e = .returned (.bool (lt i j)) ∧ Ext W w') := hid fun i j hi hj a1 c1 a2 c2 W hW h1 h2 => by rw [← hlte]; exact hlt.out i j hi hj a1 c1 a2 c2 W hW h1 h2
 rw [hlte]
 have hbs : Hid (∀ k, bstN lt (k + 1) = if lt (k + 1) (bstN lt k) = true then k + 1 else bstN lt k) := hid fun k => rfl
 have hbl := hid (fun k => bstN_le lt k)
 have hb0 : Hid (bstN lt 0 = 0) := hid rfl
 obtain ⟨BS, hBS⟩ : ∃ B, bstN lt = B := ⟨_, rfl⟩
 rw [hBS] at hbs hbl hb0 ⊢
 obtain ⟨n, hn⟩ : ∃ n, L.length = n := ⟨_, rfl⟩
 rw [hn] at hc hlt2 h0 h9 hcap
 rw [hn]
 obtain ⟨a0, c0, e0, i0⟩ := hc.out 0 h0
 rw [Nat.add_zero] at e0
 have I0 := hid i0
 clear hL hP hB hT hmem hlt hlte hBS hn i0 v
 by_cases hc1 : cap = 1
 ·have hn1 : n = 1 := by omega
  subst hn1
  subst hc1
  go_enter Try.func93, Try.ntmps93
  go_wp2_with fail
  go_loopw [5, 14] (fun o i wr => i = .int .i64 0 ∧ o = .slice a0 l.length c0 ∧ Hid (Ext w wr)) (fun _ _ _ => 0)
  case atStart => exact ⟨rfl, rfl, hid (Ext.refl _)⟩
  case round =>
   obtain ⟨rfl, rfl, hw⟩ := hrel
   go_wp2_with fail
   go_ret
   exact ⟨a0, c0, rfl, by rw [show BS (1 - 1) = 0 from hb0.out]; exact I0.out.ext hw.out, hw.out⟩
 ·go_enter Try.func93, Try.ntmps93
  go_wp2_with fail
  go_loopw [5, 14] (fun o i wr => ∃ (k : Nat) (ai : Option Addr) (ci : Nat), k + 1 ≤ n ∧ i = .int .i64 k ∧ o = .slice ai l.length ci ∧ Hid (Ints wr ai (row L (BS k))) ∧ Hid (Ext w wr)) (fun _ i _ => (n - intOf i).toNat)
  case atStart => exact ⟨0, a0, c0, by omega, rfl, rfl, hid (by rw [hb0.out]; exact I0.out), hid (Ext.refl _)⟩
  case round =>
   obtain ⟨k, ai, ci, hk, rfl, rfl, hI, hw⟩ := hrel
   by_cases hlt : k < n - 1
   ·obtain ⟨x, hx⟩ : ∃ x, x = k + 1 := ⟨_, rfl⟩
    obtain ⟨aj, cj, ck, hJ⟩ := hc.out (k + 1) (by omega)
    have ck := hw.out.cell ck
    rw [← hx, hx, ← Nat.add_assoc, Nat.add_right_comm] at ck
    rw [← hx] at hJ
    have hJ := hid (hJ.ext hw.out)
    have hs := hid (hbs.out k)
    have hbk := hbl.out k
    have hcal := hid (fun W hW => hlt2.out (k + 1) (BS k) (by omega) (by omega) aj cj ai ci W (hw.out.trans hW) ((hx ▸ hJ.out).ext hW) (hI.out.ext hW))
    rw [← hx] at hs hcal
    obtain ⟨bb, hbb⟩ : ∃ z, BS k = z := ⟨_, rfl⟩
    rw [hbb] at hs hcal hI
    have hkI : (k : Int) < (n : Int) - 1 := by omega
    have tk := Go.IntWalk.i64_in ((k : Int) + 1) (by omega)
    clear hbb
    cases hg : lt x bb with
    | true =>
     rw [hg, if_pos rfl] at hs
     rw [hg] at hcal
     replace hx := hid hx
     go_wp2_with fail
     refine (hcal.out _ exE).mono ?_; rintro e w2 ⟨rfl, hE⟩
     have hJ2 := hid (hJ.out.ext (show Ext wr w2 from exE))
     have hw2 := hid (hw.out.trans (show Ext wr w2 from exE))
     clear hE
     go_wp2_with fail
     go_roundw
     case rel => exact ⟨k + 1, aj, cj, by have := hx.out; omega, by go_num, rfl, by have h := hx.out; rw [← h, hs.out]; exact hJ2, hw2⟩
     case measure => have := hx.out; simp [intOf]; omega
    | false =>
     rw [hg, if_neg (by decide)] at hs
     rw [hg] at hcal
     replace hx := hid hx
     go_wp2_with fail
     refine (hcal.out _ exE).mono ?_; rintro e w2 ⟨rfl, hE⟩
     have hI2 := hid (hI.out.ext (show Ext wr w2 from exE))
     have hw2 := hid (hw.out.trans (show Ext wr w2 from exE))
     clear hE
     go_wp2_with fail
     go_roundw
     case rel => exact ⟨k + 1, ai, ci, by have := hx.out; omega, by go_num, rfl, by have h := hx.out; rw [← h, hs.out]; exact hI2, hw2⟩
     case measure => have := hx.out; simp [intOf]; omega
   ·have hr := hid (show k = n - 1 by omega)
    go_wp2_with fail
    go_ret
    exact ⟨ai, ci, rfl, by rw [← hr.out]; exact hI.out, hw.out⟩
theorem edgT_mem {G : List Int → Bool} {N : Nat} {t : List Nat} {X : List (List Int)} {x : List Int} : ∀ {k : Nat}, x ∈ edgT G N t X k → ∃ q, q < k ∧ x = mixP N t (row X q) t.length ∧ G x = true
 | 0, h => by simp [edgT] at h
 | k + 1, h => by
  simp only [edgT] at h
  split at h
  ·rcases List.mem_append.1 h with h1 | h1
   ·obtain ⟨q, a, b, c⟩ := edgT_mem h1; exact ⟨q, by omega, b, c⟩
   ·rw [List.mem_singleton] at h1; exact ⟨k, by omega, h1, by rw [h1]; assumption⟩
  ·obtain ⟨q, a, b, c⟩ := edgT_mem h; exact ⟨q, by omega, b, c⟩
theorem edP_mem {l : List Met} {u c : Int} {s : Bool} {x : List Int} (h : x ∈ edP l u c s) : ∃ t k, t ∈ chsL l.length (2 ^ l.length) ∧ k < (ptL (ovr l u c s) t).length ∧ x = mixP l.length t (row (ptL (ovr l u c s) t) k) t.length ∧ goodG l u c s x = true := by
 unfold edP edC at h
 obtain ⟨t, ht, hx⟩ := List.mem_flatMap.1 h
 obtain ⟨q, a, b, d⟩ := edgT_mem hx
 exact ⟨t, q, ht, a, b, d⟩
theorem edP_ok {l : List Met} (v : VldM l) {u c : Int} (hu : 0 ≤ u ∧ u ≤ 1000) (hc : 0 ≤ c ∧ c ≤ 1000) {s : Bool} {x : List Int} (h : x ∈ edP l u c s) : Xok l x ∧ goodG l u c s x = true := by
 obtain ⟨t, k, ht, hk, hx, hg⟩ := edP_mem h
 have h1 := (chsL_ok ht).2.1
 have hr := ptL_row (fun i k => ovr_bd v hu hc s i k) h1 hk
 refine ⟨⟨?_, ?_, ?_⟩, hg⟩
 ·rw [hx]; exact mixP_prt _ _ _ hr.2 _
 ·rw [hx]; exact mixP_len _ _ _ _
 ·unfold goodG at hg
  rw [Bool.and_eq_true, decide_eq_true_eq] at hg
  exact hg.1
theorem edgT_len (G : List Int → Bool) (N : Nat) (t : List Nat) (X : List (List Int)) : ∀ k, (edgT G N t X k).length ≤ k
 | 0 => by simp [edgT]
 | k + 1 => by
  have := edgT_len G N t X k
  simp only [edgT]
  split
  ·rw [List.length_append, List.length_singleton]; omega
  ·omega
theorem chsL_len (n : Nat) : ∀ k, (chsL n k).length ≤ k
 | 0 => by simp [chsL]
 | k + 1 => by
  have := chsL_len n k
  simp only [chsL]
  split
  ·simp
  ·split
   ·rw [List.length_append, List.length_singleton]; omega
   ·omega
theorem ptL_len (ov : Nat → Nat → Int) (t : List Nat) : (ptL ov t).length ≤ 2 := by
 unfold ptL
 rw [List.length_map]
 exact Nat.le_trans (kptL_le _ _ _) (by unfold cndN; split <;> omega)
theorem edC_len (G : List Int → Bool) (N : Nat) (PT : List Nat → List (List Int)) (h : ∀ t, (PT t).length ≤ 2) : ∀ cs : List (List Nat), (edC G N PT cs).length ≤ 2 * cs.length
 | [] => by simp [edC]
 | t :: ts => by
  have h1 := edC_len G N PT h ts
  have h2 := edgT_len G N t (PT t) (PT t).length
  have h3 := h t
  have e : edC G N PT (t :: ts) = edgT G N t (PT t) (PT t).length ++ edC G N PT ts := by simp [edC]
  rw [e, List.length_append, List.length_cons]
  omega
theorem edP_len {l : List Met} (n6 : l.length ≤ 6) (u c : Int) (s : Bool) : (edP l u c s).length ≤ 1000000 := by
 have h1 := edC_len (goodG l u c s) l.length (ptL (ovr l u c s)) (ptL_len _) (chsL l.length (2 ^ l.length))
 have h2 := chsL_len l.length (2 ^ l.length)
 have h3 := pow_le6 n6
 unfold edP
 omega
def chpL (l : List Met) (u c : Int) (s : Bool) : List Int := row (edP l u c s) (bstN (fun i j => ltC l (row (edP l u c s) i) (row (edP l u c s) j)) ((edP l u c s).length - 1))
def cheE (l : List Met) (u c : Int) (s : Bool) : Int := if ¬ chkB l u c = 0 then chkB l u c else if (edP l u c s).length = 0 then 17 else 0
theorem chp_mem {l : List Met} {u c : Int} {s : Bool} (h : 0 < (edP l u c s).length) : chpL l u c s ∈ edP l u c s := by
 unfold chpL
 have hb := bstN_le (fun i j => ltC l (row (edP l u c s) i) (row (edP l u c s) j)) ((edP l u c s).length - 1)
 rw [row_lt (by omega)]
 exact List.getElem_mem _
def RetCh (l : List Met) (u c : Int) (s : Bool) (w : World) (e : Ending) (w' : World) : Prop :=
 (¬ cheE l u c s = 0 ∧ e = .returned (.tuple #[.pointer none, .slice none 0 0, .int .i64 (cheE l u c s)]) ∧ Ext w w') ∨
 ((cheE l u c s = 0 ∧ chkB l u c = 0 ∧ 0 < (edP l u c s).length) ∧ ∃ D ai ci, e = .returned (.tuple #[(.pointer (some ⟨D, 0, none⟩)), .slice ai l.length ci, .int .i64 0]) ∧ Pot w' D l u c s ∧ Ints w' ai (chpL l u c s) ∧ Ext w w')
set_option maxHeartbeats 2000000 in
theorem cheapest_any (l : List Met) (q : FitM l) (hl : l.length ≤ 1000) (a : Option Addr) (cap : Nat) (u c : Int) (iu : I64 u) (ic : I64 c) (s : Bool) (w : World) (hM : Mts w a l) :
 Calls Try.prog 70 #[.slice a l.length cap, (.agg #[.int .i64 (u), .int .i64 (c)]), .bool s] w (RetCh l u c s w) := by
 replace hM := hid hM
 have hop := hid (fun W hW => open_any l q hl a cap u c iu ic s W hW)
 have hE : Hid (cheE l u c s = if ¬ chkB l u c = 0 then chkB l u c else if (edP l u c s).length = 0 then 17 else 0) := hid rfl
 have hno : Hid (∀ E : Int, cheE l u c s = E → ¬ E = 0 → ∀ w', Ext w w' → RetCh l u c s w (.returned (.tuple #[.pointer none, .slice none 0 0, .int .i64 E])) w') := hid fun E h g w' x => .inl ⟨by rw [h]; exact g, by rw [h], x⟩
 clear q iu ic
 go_enter Try.func70, Try.ntmps70
 go_wp2_with fail
 refine name_c (fun w0 hw0 => ?_)
 have x0 := hid (show Ext w w0 by rw [hw0]; exact exE)
 clear hw0
 refine (hop.out _ (hM.out.ext x0.out)).mono ?_
 rintro e w1 (⟨g, D, rfl, hP, hE1⟩ | ⟨g, rfl, hE1⟩)
 ·rw [if_neg (by rw [g]; simp)] at hE
  obtain ⟨v, hu, hc⟩ := chkB_ok g
  have x1 := hid (x0.out.trans hE1)
  have n6 := v.n6
  have hP := hid hP
  have hV := hid v
  have hg := hid g
  clear hE1 g hop v
  go_wp2_with fail
  refine name_c (fun w2 hw2 => ?_)
  have x2 := hid (x1.out.trans (show Ext w1 w2 by rw [hw2]; exact exE))
  have pc := hid (show w2.cell? ⟨w1.heap.size, 0, none⟩ = some (.pointer (some ⟨D, 0, none⟩)) by rw [hw2]; simp [go_sem])
  have hP2 := hid (hP.out.ext (show Ext w1 w2 by rw [hw2]; exact exE))
  clear hw2 hP
  obtain ⟨Bp, hBp⟩ : ∃ B, w1.heap.size = B := ⟨_, rfl⟩
  rw [hBp] at pc ⊢
  replace hBp := hid hBp
  refine (edges_any D _).mono ?_; rintro e w3 ⟨rfl, e0, e1, hE3⟩
  obtain ⟨am, cm, hd, _⟩ := hP2.out.m
  have hef : Hid (EF 0 w2.heap.size (w2.heap.size + 1) D am cm l u c s w3) := hid ⟨e0, e1, hE3.cell hd, hP2.out.ext hE3, Nat.zero_le _⟩
  have pc3 := hid (hE3.cell pc.out)
  have x3 := hid (x2.out.trans hE3)
  have hP3 := hid (hP2.out.ext hE3)
  clear e0 e1 hE3 hd
  go_wp2_with fail
  refine (collect_any l hV.out u c hu hc s _ _ D am cm (edP_len n6 u c s) _ hef.out).mono ?_; rintro e w4 ⟨aL, cL, rfl, hcap, hT, hE4⟩
  have x4 := hid (x3.out.trans hE4)
  have hP4 := hid (hP3.out.ext hE4)
  have pc4 := hid (hE4.cell pc3.out)
  have hT := hid hT
  clear hE4 hef
  by_cases h0 : (edP l u c s).length = 0
  ·rw [if_pos h0] at hE
   have hz : (((edP l u c s).length : Int) == 0) = true := by rw [h0]; rfl
   have hfin := hid (hno.out 17 hE.out (by decide))
   replace h0 := hid h0
   go_wp2_with fail
   refine bodyPost_ret (v := .tuple #[.pointer none, .slice none 0 0, .int .i64 17]) ?_ rfl ?_
   ·simp [results, Try.results70, go_sem, *]
   ·exact hfin.out _ (by have := x4.out; exact exE)
  ·rw [if_neg h0] at hE
   have hz : (((edP l u c s).length : Int) == 0) = false := by rw [beq_eq_false_iff_ne]; omega
   have hbst := hid (bestI_any l hV.out u c s (edP l u c s) (fun x hx => (edP_ok hV.out hu hc hx).1) (by omega) (edP_len n6 u c s) D Bp aL cL hcap.1 hcap.2)
   have hyes : Hid (∀ ai ci w', Pot w' D l u c s → Ints w' ai (chpL l u c s) → Ext w w' → RetCh l u c s w (.returned (.tuple #[(.pointer (some ⟨D, 0, none⟩)), .slice ai l.length ci, .int .i64 0])) w') := hid fun ai ci w' a1 a2 a3 => .inr ⟨⟨hE.out, hg.out, by omega⟩, D, ai, ci, rfl, a1, a2, a3⟩
   change Hid (∀ w, Pot w D l u c s → w.cell? ⟨Bp, 0, none⟩ = some (.pointer (some ⟨D, 0, none⟩)) → Tab w aL (edP l u c s) → Calls Try.prog 93 #[.slice aL (edP l u c s).length cL, .func (.func 94) #[] #[(.pointer (some ⟨Bp, 0, none⟩))]] w fun e w' => ∃ ai ci, e = .returned (.slice ai l.length ci) ∧ Ints w' ai (chpL l u c s) ∧ Ext w w') at hbst
   replace h0 := hid h0
   obtain ⟨CL, hCL⟩ : ∃ C, chpL l u c s = C := ⟨_, rfl⟩
   rw [hCL] at hbst hyes
   clear hCL hcap hno
   go_wp2_with fail
   refine name_act (fun A_ hA_ => ?_)
   obtain ⟨Q2, hQ2⟩ : ∃ Q2 : Exit → Act → World → Prop, Q2 = fun e a' w' => e = .normal ∧ ∃ (ai : Option Addr) (ci : Nat) (v1_ v2_ : Value), a' = (((((((A_.put (some 28) ((.pointer (some ⟨D, 0, none⟩)))).put (some 29) (v1_)).put (some 30) (v2_)).put (some 31) (.slice ai l.length ci)).put (some 6) ((.pointer (some ⟨D, 0, none⟩)))).put (some 7) (.slice ai l.length ci)).put (some 8) (.int .i64 0)) ∧ Ext w4 w' ∧ Ints w' ai CL := ⟨_, rfl⟩
   have hpan : ∀ c a a' w w', Q2 (.panic c) a w → Q2 (.panic c) a' w' := by rw [hQ2]; rintro c a a' w w' ⟨h, _⟩; cases h
   replace hQ2 := hid hQ2
   refine wp_mono (Q := Q2) ?_ ?_
   ·subst hA_
    have hRD_ := hid (fun w' (x_ : Ext w4 w') => Ext.cell x_ pc4.out)
    refine wp_region_held_drew (S := fun w' => Ext w4 w') (by kernel_rfl) exE fun hHeld => ?_
    refine name_any (fun W0 hW => ?_)
    have s0 : Ext w4 W0 := by rw [hW]; exact hHeld
    clear hW hHeld
    refine tkB (i := 0) (v := ?_) rfl hpan ?yl ?_
    case yl => (intro w hSw; have k_ := hRD_.out w hSw; go_simp); with_reducible rfl
    try simp only [sxA, sxB, sxC, Act.put, sxD, sxE, sxF]
    refine tkB (i := 1) (v := ?_) rfl hpan ?yl ?_
    case yl => (intro w hSw; have k_ := hRD_.out w hSw; go_simp); with_reducible rfl
    try simp only [sxA, sxB, sxC, Act.put, sxD, sxE, sxF]
    refine tkB (i := 2) (v := ?_) rfl hpan ?yl ?_
    case yl => (intro w hSw; have k_ := hRD_.out w hSw; go_simp); with_reducible rfl
    try simp only [sxA, sxB, sxC, Act.put, sxD, sxE, sxF]
    refine wpAnyH_ready (rs := [3]) (by kernel_rfl) (by simp) ?_
    refine AllReadyH.cons (o := _) rfl (fun K hK => ?_) AllReadyH.nil
    go_simp
    refine (hbst.out _ (hP4.out.ext s0) ((s0).cell pc4.out) (hT.out.ext s0)).mono ?_; rintro e W1 ⟨ai, ci, rfl, hBI_, e1⟩
    have s1 := s0.trans e1
    have hBI := hid hBI_; clear hBI_
    refine hK.out _ _ s1 (fun _ => ?_)
    clear hK K
    (try simp only [sxA, sxB, sxC, Act.put, sxD, sxE, sxF])
    refine tkB (i := 4) (v := ?_) rfl hpan ?yl ?_
    case yl => (intro w hSw; have k_ := hRD_.out w hSw; go_simp); with_reducible rfl
    try simp only [sxA, sxB, sxC, Act.put, sxD, sxE, sxF]
    refine tkB (i := 5) (v := ?_) rfl hpan ?yl ?_
    case yl => (intro w hSw; have k_ := hRD_.out w hSw; go_simp); with_reducible rfl
    try simp only [sxA, sxB, sxC, Act.put, sxD, sxE, sxF]
    refine tkB (i := 6) (v := ?_) rfl hpan ?yl ?_
    case yl => (intro w hSw; have k_ := hRD_.out w hSw; go_simp); with_reducible rfl
    try simp only [sxA, sxB, sxC, Act.put, sxD, sxE, sxF]
    refine wpAnyH_done (by kernel_rfl) ?_ _
    try simp only [sxA, sxB, sxC, Act.put, sxD, sxE, sxF]
    rw [hQ2.out]
    refine ⟨rfl, ai, ci, ?u1_0_1, ?u1_1_1, ?eq1_1, s1, (hBI.out.ext (Ext.refl W1))⟩
    case eq1_1 => ((try simp only [sxA, sxB, sxC, Act.put, sxD, sxE, sxF]); first | done | with_reducible rfl | rfl)
   rw [hQ2.out]
   rintro e a' wa ⟨rfl, ai, ci, v1_, v2_, rfl, x, hBI⟩
   clear hQ2 hpan; clear Q2
   subst hA_
   simp only [sxA, sxB, sxC, Act.put, sxD, sxE, sxF]
   have x5 := hid (x4.out.trans x)
   have hP5 := hid (hP4.out.ext x)
   have hBI := hid hBI
   clear x
   go_wp2_with fail
   refine bodyPost_ret (v := .tuple #[(.pointer (some ⟨D, 0, none⟩)), .slice ai l.length ci, .int .i64 0]) ?_ rfl ?_
   ·simp [results, Try.results70, go_sem, *]
   ·exact hyes.out _ _ _ hP5.out hBI.out x5.out
 ·rw [if_pos g] at hE
  have h2 : (chkB l u c != 0) = true := by simpa using g
  have hfin := hid (hno.out _ hE.out g)
  have x1 := hid (x0.out.trans hE1)
  replace g := hid g
  clear hE1 hop
  go_wp2_with fail
  refine bodyPost_ret (v := .tuple #[.pointer none, .slice none 0 0, .int .i64 (chkB l u c)]) ?_ rfl ?_
  ·simp [results, Try.results70, go_sem, *]
  ·exact hfin.out _ (by have := x1.out; exact exE)
end Go.Proofs.Ytpnfhcnnodolbaa
