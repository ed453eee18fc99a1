/- Texts of one proof, laid together: SY, SZ, TA. -/
import Derived.Test.YtommhgcgaclflaaZB7
import Derived.Test.YtommhgcgaclflaaSX
import Derived.Test.YtommhgcgaclflaaZB17
import Derived.Test.YtommhgcgaclflaaZB15
import Derived.Test.YtommhgcgaclflaaRound
import Derived.Test.YtommhgcgaclflaaZB2
import Derived.Maps.AppendAt
namespace Go.Proofs.Ytommhgcgaclflaa
set_option linter.unusedVariables false
set_option linter.unusedSimpArgs false
set_option linter.unusedSectionVars false
set_option linter.unnecessarySimpa false
open Go Go.RowKit Game
set_option maxRecDepth 100000
attribute [local go_sem] Oper.semAt_some

def EL (w : World) (t : List (List Int)) (lo : Nat) (l : List KV) : Prop :=
 ∀ p ∈ l, p.1 ∈ chs t.length (wid t) ∧ goodB t p.1 = true ∧ ∃ g, p.2 = .slice (some ⟨g, 0, none⟩) t.length t.length ∧ lo < g ∧ g < w.heap.size ∧ Ints w (some ⟨g, 0, none⟩) (planL t p.1)
theorem EL.ext {w w' : World} {t : List (List Int)} {lo : Nat} {l : List KV} (h : EL w t lo l) (k : Ext w w') : EL w' t lo l := fun p hp => by
 obtain ⟨a, b, g, e, h1, h2, h3⟩ := h p hp
 exact ⟨a, b, g, e, h1, Nat.lt_of_lt_of_le h2 k.size, h3.ext k⟩
theorem EL.grown {w w' : World} {t : List (List Int)} {lo : Nat} {l : List KV} {r : Nat} (h : EL w t lo l) (k : w.grownBy w' (some r)) (hr : r ≤ lo) : EL w' t lo l := fun p hp => by
 obtain ⟨a, b, g, e, h1, h2, h3⟩ := h p hp
 exact ⟨a, b, g, e, h1, Nat.lt_of_lt_of_le h2 k.size, h3.grownBy k (fun e => by cases e; omega)⟩
theorem EL.put {w : World} {t : List (List Int)} {lo : Nat} {l : List KV} (h : EL w t lo l) {p : Addr} {v : Value} (hp : p.block ≤ lo) : EL (w.setCell p v) t lo l := h.grown (grown_set w p v) hp
theorem good_step (t : List (List Int)) (pre : List (Nat × Nat)) (x : Nat × Nat) : (pre ++ [x]).filter (goodB t) = if goodB t x = true then pre.filter (goodB t) ++ [x] else pre.filter (goodB t) := by
 rw [List.filter_append]
 by_cases h : goodB t x = true
 ·rw [if_pos h]; simp [h]
 ·rw [if_neg h]; simp [h]

structure EJ (w : World) (t : List (List Int)) (D : Nat) (p q : Int) (pre : List (Nat × Nat)) (W : World) : Prop where
 x : Ext w W
 b0 : W.cell? ⟨w.heap.size, 0, none⟩ = some (.pointer (some ⟨D, 0, none⟩))
 b2 : W.cell? ⟨w.heap.size + 1 + 1, 0, none⟩ = some (.map (some (w.heap.size + 1)))
 b4 : W.cell? ⟨w.heap.size + 1 + 1 + 1 + 1, 0, none⟩ = some (.pointer (some ⟨D, 0, none⟩))
 v0 : W.cell? ⟨w.heap.size + 1 + 1 + 1, 0, none⟩ = some (.int .i64 p)
 v1 : W.cell? ⟨w.heap.size + 1 + 1 + 1, 1, none⟩ = some (.int .i64 q)
 f0 : W.frozen? ⟨w.heap.size + 1 + 1 + 1, 0, none⟩ = false
 f1 : W.frozen? ⟨w.heap.size + 1 + 1 + 1, 1, none⟩ = false
 m : ∃ c l, c ≤ pre.length ∧ CM W (w.heap.size + 1) c l ∧ EL W t (w.heap.size + 6) l ∧ l.map Prod.fst = pre.filter (goodB t)
abbrev EI (w : World) (t : List (List Int)) (D : Nat) (pre : List (Nat × Nat)) (W : World) : Prop := EJ w t D (valBy t (plansOn t pre)).1 (valBy t (plansOn t pre)).2 pre W
theorem EJ.ext {w W W' : World} {t : List (List Int)} {D : Nat} {x y : Int} {pre : List (Nat × Nat)} (h : EJ w t D x y pre W) (k : Ext W W') : EJ w t D x y pre W' := by
 obtain ⟨c, l, h1, h2, h3, h4⟩ := h.m
 exact ⟨h.x.trans k, k.cell h.b0, k.cell h.b2, k.cell h.b4, k.cell h.v0, k.cell h.v1, (k.frozen (cell_lt h.v0)).trans h.f0, (k.frozen (cell_lt h.v1)).trans h.f1, c, l, h1, h2.ext k, h3.ext k, h4⟩
theorem EJ.put {w W : World} {t : List (List Int)} {D : Nat} {x y : Int} {pre : List (Nat × Nat)} (h : EJ w t D x y pre W) {r : Nat} (o : Obj) (h1 : w.heap.size + 5 ≤ r) (h2 : r ≤ w.heap.size + 6) : EJ w t D x y pre (W.putObj r o) := by
 have g := grownBy_putObj' W r o
 obtain ⟨c, l, k1, k2, k3, k4⟩ := h.m
 refine ⟨h.x.grown g (fun r e => by cases e; omega), cellG h.b0 g (by omega), cellG h.b2 g (by omega), cellG h.b4 g (by omega), cellG h.v0 g (by omega), cellG h.v1 g (by omega), ?_, ?_, c, l, k1, k2.kept g (fun e => by cases e; omega), k3.grown g h2, k4⟩
 ·rw [grownBy_frozen g (cell_lt h.v0) (fun e => by have h8 := Option.some.inj e; dsimp only at h8; omega)]; exact h.f0
 ·rw [grownBy_frozen g (cell_lt h.v1) (fun e => by have h8 := Option.some.inj e; dsimp only at h8; omega)]; exact h.f1
theorem EJ.store {w W : World} {t : List (List Int)} {D : Nat} {x y : Int} {pre : List (Nat × Nat)} (h : EJ w t D x y pre W) (a b : Int) :
 EJ w t D a b pre ((W.setCell ⟨w.heap.size + 1 + 1 + 1, 0, none⟩ (.int .i64 a)).setCell ⟨w.heap.size + 1 + 1 + 1, 1, none⟩ (.int .i64 b)) := by
 have g := (grown_set W ⟨w.heap.size + 1 + 1 + 1, 0, none⟩ (.int .i64 a)).andThen (grown_set (W.setCell ⟨w.heap.size + 1 + 1 + 1, 0, none⟩ (.int .i64 a)) ⟨w.heap.size + 1 + 1 + 1, 1, none⟩ (.int .i64 b)) (fun j e => .inr e)
 obtain ⟨c, l, k1, k2, k3, k4⟩ := h.m
 dsimp only at g
 refine ⟨h.x.grown g (fun r e => by cases e; omega), cellG h.b0 g (by omega), cellG h.b2 g (by omega), cellG h.b4 g (by omega), ?_, ?_, ?_, ?_, c, l, k1, k2.kept g (fun e => by have h8 := Option.some.inj e; omega), k3.grown g (by omega), k4⟩
 ·rw [World.cell?_setCell_other _ _ _ _ (by simp)]; exact cell_put_eq h.v0
 ·exact cell_put_eq (u := .int .i64 y) (by rw [World.cell?_setCell_other _ _ _ _ (by simp)]; exact h.v1)
 ·rw [World.frozen?_setCell, World.frozen?_setCell]; exact h.f0
 ·rw [World.frozen?_setCell, World.frozen?_setCell]; exact h.f1
theorem EJ.note {w W W' : World} {t : List (List Int)} {D : Nat} {a b : Int} {pre : List (Nat × Nat)} (h : EJ w t D a b pre W) {x : Nat × Nat} {c : Nat} {l : List KV} {g : Nat} (hg : W.grownBy W' (some (w.heap.size + 1)))
 (hc : c ≤ pre.length) (hE : EL W t (w.heap.size + 6) l) (hl : l.map Prod.fst = pre.filter (goodB t)) (hM : CM W' (w.heap.size + 1) (c + 1) (l ++ [(x, .slice (some ⟨g, 0, none⟩) t.length t.length)]))
 (hx : x ∈ chs t.length (wid t)) (hgd : goodB t x = true) (h1 : w.heap.size + 6 < g) (h2 : g < W.heap.size) (hI : Ints W (some ⟨g, 0, none⟩) (planL t x)) : EJ w t D a b (pre ++ [x]) W' := by
 refine ⟨h.x.grown hg (fun r e => by cases e; omega), cellG h.b0 hg (by omega), cellG h.b2 hg (by omega), cellG h.b4 hg (by omega), cellG h.v0 hg (by omega), cellG h.v1 hg (by omega), ?_, ?_, c + 1, _, by simp; omega, hM, ?_, ?_⟩
 ·rw [grownBy_frozen hg (cell_lt h.v0) (fun e => by have h8 := Option.some.inj e; dsimp only at h8; omega)]; exact h.f0
 ·rw [grownBy_frozen hg (cell_lt h.v1) (fun e => by have h8 := Option.some.inj e; dsimp only at h8; omega)]; exact h.f1
 ·intro p hp
  rcases List.mem_append.1 hp with hp | hp
  ·exact hE.grown hg (by omega) p hp
  ·rw [List.mem_singleton] at hp
   subst hp
   exact ⟨hx, hgd, g, rfl, h1, Nat.lt_of_lt_of_le h2 hg.size, hI.grownBy hg (fun e => by cases e; omega)⟩
 ·rw [good_step, if_pos hgd, List.map_append, hl]; rfl
theorem CM.put {w : World} {b c : Nat} {l : List KV} (h : CM w b c l) {p : Addr} (hne : p.block ≠ b) (v : Value) : CM (w.setCell p v) b c l := h.kept (grown_set w p v) (fun e => hne (Option.some.inj e).symm)
theorem CM.alloc {w : World} {b c : Nat} {l : List KV} (h : CM w b c l) (o : Obj) : CM (w.alloc o) b c l := h.ext ((Ext.refl w).alloc o)
theorem keeps_ext {A B : World} (N : Nat) (h : Ext A B) : KeepsFrom N A B := ⟨h.size, fun j o _ hj _ => h.heap hj⟩
theorem keeps_grown {A B : World} {N r : Nat} (g : A.grownBy B (some r)) (h : r < N) : KeepsFrom N A B := ⟨g.size, fun j o hj ho hc => (g.block j (lt_of_heap ho) (fun e => by cases e; omega)).trans ho⟩
theorem keeps_set {A B : World} {N : Nat} (h : KeepsFrom N A B) (p : Addr) (v : Value) : KeepsFrom N A (B.setCell p v) := h.trans ((KeepsOthers.setCell _ _ _).from _)
theorem i64_mul {a b : Int} (a0 : -19200000000 ≤ a) (a1 : a ≤ 19200000000) (b0 : 0 < b) (b1 : b ≤ 192000000) : I64 (a * b) := by
 have h := mul_abs (a := a) (b := b) (A := 19200000000) (B := 192000000) ⟨a0, a1⟩ ⟨by omega, b1⟩ (by omega)
 exact ⟨by omega, by omega⟩

theorem EL.mono {w : World} {t : List (List Int)} {lo lo' : Nat} {l : List KV} (h : EL w t lo l) (k : lo' ≤ lo) : EL w t lo' l := fun p hp => by
 obtain ⟨a, b, g, e, h1, h2, h3⟩ := h p hp
 exact ⟨a, b, g, e, by omega, h2, h3⟩
theorem EL.sub {w : World} {t : List (List Int)} {lo : Nat} {l k : List KV} (h : EL w t lo l) (s : ∀ p ∈ k, p ∈ l) : EL w t lo k := fun p hp => h p (s p hp)
theorem RT.perm {w : World} {b r c : Nat} {l k todo : List KV} (h : RT w b r c l todo) (p : l.Perm k) : RT w b r c k todo :=
 let ⟨kk, s, nd, D, left, cnt, o, d, h1, h2⟩ := h
 ⟨kk.perm p, fun q hq => p.mem_iff.1 (s q hq), nd, D, left, cnt, o, d.perm p, h1, h2⟩
theorem RT.uniq {w : World} {b r c : Nat} {l todo : List KV} (h : RT w b r c l todo) : (todo.map Prod.fst).Nodup := let ⟨_, _, nd, _⟩ := h; nd
theorem RT.kl {w : World} {b r c : Nat} {l todo : List KV} (h : RT w b r c l todo) : KL l := h.1
theorem strike_perm {l rest : List KV} {p : KV} (h : (l.map Prod.fst).Nodup) (hp : l.Perm (p :: rest)) : (l.filter fun q => q.1 ≠ p.1).Perm rest :=
 List.Perm.cons_inv ((todo_split h (hp.mem_iff.2 (by simp))).symm.trans hp)
def calmQ (Q : Exit → Act → World → Prop) : Exit → Act → World → Prop
 | .normal, a, w => Q .normal a w
 | .ret, a, w => Q .ret a w
 | _, _, _ => False
theorem calmQ_of {Q : Exit → Act → World → Prop} : ∀ e a w, calmQ Q e a w → Q e a w := fun e a w h => by
 cases e <;> first | exact h | exact h.elim
def bestB (t : List (List Int)) (p : KV) : Bool := decide (suP t (planL t p.1) = val t)

def EdgeP (t : List (List Int)) (w : World) (e : Ending) (w' : World) : Prop :=
 ∃ B c l, e = .returned (.map (some B)) ∧ w.heap.size ≤ B ∧ CM w' B c l ∧ EL w' t w.heap.size l ∧ (∀ x, x ∈ l.map Prod.fst ↔ x ∈ chs t.length (wid t) ∧ goodB t x = true ∧ suP t (planL t x) = val t) ∧ Ext w w'

set_option maxHeartbeats 8000000 in
theorem edges_any (t : List (List Int)) (v : VldT t) (D : Nat) (w : World) (hD : Dsk w D t) :
 Calls Try.prog 96 #[.pointer (some ⟨D, 0, none⟩)] w (EdgeP t w) := by
 have m1 := v.m1; have m4 := v.m4; have n1 := v.n1; have n4 := v.n4
 obtain ⟨b, off, cap, ai, ci, hb, hDl, hcf⟩ := hD.cf v
 replace hcf := hid hcf
 have HD := hid hD
 have HV := hid v
 have hmm := @run_makeMap Try.prog
 clear hD v
 refine (callsIn_wide (n := 9)).1 ?_
 refine callsIn_of_wp_marks Try.func96 rfl trivial ?_ rfl
 simp only [Try.ntmps96, List.size_toArray, List.length_cons, List.length_nil, Nat.reduceAdd, Nat.reduceSub, Array.replicate_succ, Array.replicate_zero, List.push_toArray, List.append_toArray, List.nil_append, List.cons_append]
 gi_wp2_with fail
 refine ⟨trivial, ?_⟩; refine (callsIn_wide.2 (choices_any D _)).mono ?_; rintro e w4 ⟨rfl, hw4⟩
 have hst : EI w t D [] w4 := by
  rw [hw4]
  refine ⟨(by repeat (with_reducible first | assumption | exact Ext.refl _ | refine Ext.drew ?_ | refine Ext.drewN ?_ _ | refine Ext.alloc ?_ _ | refine xS ?_ _ | refine xT ?_ (by assumption))), by simp [go_sem], by simp [go_sem], by simp [go_sem], by simp [go_sem, valBy, plansOn], by simp [go_sem, valBy, plansOn], by simp [go_sem], by simp [go_sem], 0, [], Nat.le_refl _, ?_, fun p hp => (by cases hp), rfl⟩
  have h := CM.made (w.alloc (.cells #[.pointer (some ⟨D, 0, none⟩)] 72))
  rw [World.size_alloc] at h
  refine h.ext ?_
  exact (by repeat (with_reducible first | assumption | exact Ext.refl _ | refine Ext.drew ?_ | refine Ext.drewN ?_ _ | refine Ext.alloc ?_ _ | refine xS ?_ _ | refine xT ?_ (by assumption)))
 have z4 : w4.heap.size = w.heap.size + 5 := by rw [hw4]; simp
 have x4 := hst.x
 replace hst := hid hst
 replace hw4 := hid hw4
 gi_wp2_with fail
 refine range_yieldsE (F := Fence.wide) (n := 9) rfl (by omega) (gf := 113) (lb := #[.pointer (some ⟨w.heap.size + 1 + 1 + 1 + 1, 0, none⟩)]) rfl trivial (enters_of Try.func113 (by kernel_rfl) rfl)
  (choices1_yields t.length (wid t) 8 m4 n4 _ D b off cap ai ci m1 n1) (fun _ => rfl)
  (EI w t D) (fun _ _ _ => False) (fun s A C h k => h.ext k) (fun s W h => hcf.out W _ h.x h.b4) (fun s W o h => by rw [z4]; exact h.put o (by omega) (by omega)) (fun _ _ _ _ _ _ _ hs => hs) hst.out ?round ?done (fun _ _ _ _ _ _ h _ => h.elim)
 case round =>
  rintro l pre x W hG hI hl1 hl2
  subst hl1
  simp only [kv]
  gi_wp2
  have hxc : x ∈ chs t.length (wid t) := hG.subset (by simp)
  have hprec : ∀ y ∈ pre, y ∈ chs t.length (wid t) := fun y hy => hG.subset (by simp [hy])
  have hfresh : x ∉ pre := fun hy => by
   have h := (chs_nodup t.length (wid t)).sublist hG.sublist
   rw [List.nodup_append] at h
   exact h.2.2 x hy x (by simp) rfl
  have hq := hid (chs_ch HV.out hxc)
  have hvb := valBy_bd HV.out hprec
  have hgs := hid (good_step t pre x)
  have hps := hid (plansOn_snoc t pre x)
  have hvs := hid (fun p => valBy_snoc t (plansOn t pre) p)
  have hKx : K2 x := ⟨hq.out.r, hq.out.c⟩
  have hplen : pre.length < 300 := by
   have h1 := hG.length_le
   have h2 := chs_len m4 n4
   simp at h1
   omega
  refine ⟨(KeepsOthers.alloc _ _).from _, fun o => ?_⟩
  obtain ⟨Wb, hWb⟩ : ∃ Wb, Wb = (W.alloc (.cells #[.int .i64 x.1, .int .i64 x.2] 106)).putObj (w4.heap.size + 1) o := ⟨_, rfl⟩
  have g2 := grownBy_putObj' (W.alloc (.cells #[.int .i64 x.1, .int .i64 x.2] 106)) (w4.heap.size + 1) o
  have hIb : EI w t D pre Wb := by
   rw [hWb]
   exact (hI.ext ((Ext.refl W).alloc _)).put o (by omega) (by omega)
  have zb : Wb.heap.size = W.heap.size + 1 := by rw [hWb]; simp
  rw [← hWb] at g2 ⊢
  have k0 : Wb.cell? ⟨W.heap.size, 0, none⟩ = some (.int .i64 x.1) := cellG (by simp [go_sem]) g2 (by omega)
  have k1 : Wb.cell? ⟨W.heap.size, 1, none⟩ = some (.int .i64 x.2) := cellG (by simp [go_sem]) g2 (by omega)
  have zW := hI.x.size
  have zW2 : w.heap.size + 6 < W.heap.size := by omega
  have hib := hid hIb
  have b0 := hIb.b0
  clear hWb g2 hI hIb hG
  have hxc := hid hxc
  have hev := hid (fun W hW => even_any t HV.out x.1 x.2 hq.out D W hW)
  have hgd : Hid (goodB t x = okE (ent t) (lst x.1) (lst x.2) t.length) := hid rfl
  have hKx := hid hKx
  obtain ⟨r, hr⟩ : ∃ r, x.1 = r := ⟨_, rfl⟩
  obtain ⟨c, hc⟩ : ∃ c, x.2 = c := ⟨_, rfl⟩
  obtain ⟨ok, hok⟩ : ∃ y, okE (ent t) (lst x.1) (lst x.2) t.length = y := ⟨_, rfl⟩
  rw [hok] at hgd
  simp only [hok] at hev
  rw [hr, hc] at hev
  rw [hr] at k0
  rw [hc] at k1
  rw [hr, hc]
  replace hr := hid hr
  replace hc := hid hc
  replace hok := hid hok
  cases ok with
  | false =>
   gi_wp2_with fail
   refine ⟨trivial, ?_⟩; refine (callsIn_wide.2 (hev.out _ (HD.out.ext hib.out.x))).mono ?_; rintro e w5 ⟨g5, rfl, ho5, hE5⟩
   have hi5 := hid (hib.out.ext hE5)
   gi_wp2_with fail
   refine ⟨⟨hE5.size, fun j o' _ hj _ => hE5.heap hj⟩, ?_⟩
   have h := hi5.out
   have e1 : plansOn t (pre ++ [x]) = plansOn t pre := by rw [hps.out, hgd.out]; rfl
   have e2 : (pre ++ [x]).filter (goodB t) = pre.filter (goodB t) := by rw [hgs.out, hgd.out]; rfl
   obtain ⟨cc, l, h1, h2, h3, h4⟩ := h.m
   exact ⟨h.x, h.b0, h.b2, h.b4, by rw [e1]; exact h.v0, by rw [e1]; exact h.v1, h.f0, h.f1, cc, l, by simp; omega, h2, h3, by rw [e2]; exact h4⟩
  | true =>
   have hpl := hid (planL_vld HV.out hxc.out hgd.out)
   have hbd := planL_su_bd HV.out hxc.out hgd.out
   have hpe : Hid (mkL t.length (endF (ent t) (lst x.1) (lst x.2) t.length) = planL t x) := hid (mkL_congr fun r hr => end_ev hq.out.ch m4 hgd.out hr)
   have hlen := hid (planL_len t x)
   have hsu := hid (fun a2 c2 W hW hI => sure_any t HV.out (planL t x) (fun i => ⟨hpl.out.nn i, hpl.out.le i⟩) hpl.out.ps hpl.out.len D a2 c2 W hW hI)
   rw [hlen.out] at hsu
   have hvx := hid (hvs.out (planL t x))
   have hps2 : Hid (plansOn t (pre ++ [x]) = plansOn t pre ++ [planL t x]) := hid (by rw [hps.out, hgd.out]; rfl)
   have hgs2 : Hid ((pre ++ [x]).filter (goodB t) = pre.filter (goodB t) ++ [x]) := hid (by rw [hgs.out, hgd.out]; rfl)
   have hupd : Hid (upd (valBy t (plansOn t pre)) (suP t (planL t x)) = if (valBy t (plansOn t pre)).2 = 0 ∨ (valBy t (plansOn t pre)).1 * (suP t (planL t x)).2 < (suP t (planL t x)).1 * (valBy t (plansOn t pre)).2 then suP t (planL t x) else valBy t (plansOn t pre)) := hid rfl
   unfold suP at hupd
   dsimp only at hupd
   gi_wp2_with fail
   refine ⟨trivial, ?_⟩; refine (callsIn_wide.2 (hev.out _ (HD.out.ext hib.out.x))).mono ?_; rintro e w5 ⟨g5, rfl, ho5, hE5⟩
   rw [hr.out.symm, hc.out.symm, hpe.out] at ho5
   have hi5 := hid (hib.out.ext hE5)
   have hIn5 := hid (OwnI.ints ho5)
   have hgb := ho5.block g5 rfl
   have b0 := hi5.out.b0
   have zz5 := hE5.size
   have k0 := hE5.cell k0
   have k1 := hE5.cell k1
   gi_wp2_with fail
   refine ⟨trivial, ?_⟩; refine (callsIn_wide.2 (hsu.out _ _ _ (HD.out.ext (hi5.out.x.trans (by repeat (with_reducible first | assumption | exact Ext.refl _ | refine Ext.drew ?_ | refine Ext.drewN ?_ _ | refine Ext.alloc ?_ _ | refine xS ?_ _ | refine xT ?_ (by assumption))))) (hIn5.out.ext (by repeat (with_reducible first | assumption | exact Ext.refl _ | refine Ext.drew ?_ | refine Ext.drewN ?_ _ | refine Ext.alloc ?_ _ | refine xS ?_ _ | refine xT ?_ (by assumption)))))).mono ?_; rintro e w6 ⟨rfl, hE6⟩
   have hi6 := hid (hi5.out.ext (show Ext w5 w6 from (by repeat (with_reducible first | assumption | exact Ext.refl _ | refine Ext.drew ?_ | refine Ext.drewN ?_ _ | refine Ext.alloc ?_ _ | refine xS ?_ _ | refine xT ?_ (by assumption)))))
   have hIn6 := hid (hIn5.out.ext (show Ext w5 w6 from (by repeat (with_reducible first | assumption | exact Ext.refl _ | refine Ext.drew ?_ | refine Ext.drewN ?_ _ | refine Ext.alloc ?_ _ | refine xS ?_ _ | refine xT ?_ (by assumption)))))
   have x56 := hid (show Ext Wb w6 from (by repeat (with_reducible first | assumption | exact Ext.refl _ | refine Ext.drew ?_ | refine Ext.drewN ?_ _ | refine Ext.alloc ?_ _ | refine xS ?_ _ | refine xT ?_ (by assumption))))
   have b0 := hi6.out.b0
   have b2 := hi6.out.b2
   have v0 := hi6.out.v0
   have v1 := hi6.out.v1
   have f0 := hi6.out.f0
   have f1 := hi6.out.f1
   have k0 := hE6.cell k0
   have k1 := hE6.cell k1
   have zz6 := hE6.size
   obtain ⟨vN, hvN⟩ : ∃ y, (valBy t (plansOn t pre)).1 = y := ⟨_, rfl⟩
   obtain ⟨vD, hvD⟩ : ∃ y, (valBy t (plansOn t pre)).2 = y := ⟨_, rfl⟩
   obtain ⟨sN, hsN⟩ : ∃ y, sureN t (planL t x) = y := ⟨_, rfl⟩
   obtain ⟨sD, hsD⟩ : ∃ y, sureD t (planL t x) = y := ⟨_, rfl⟩
   have hvb2 : (vN = 0 ∧ vD = 0) ∨ (-19200000000 ≤ vN ∧ vN ≤ 19200000000 ∧ 0 < vD ∧ vD ≤ 192000000) := by
    rw [← hvN, ← hvD]
    rcases hvb with h | h
    ·rw [h]; exact .inl ⟨rfl, rfl⟩
    ·exact .inr h
   rw [hvN] at v0
   rw [hvD] at v1
   rw [hvN, hvD, hsN, hsD] at hupd
   rw [hsN, hsD] at hbd
   rw [hsN, hsD]
   replace hvN := hid hvN
   replace hvD := hid hvD
   replace hsN := hid hsN
   replace hsD := hid hsD
   clear hvb hE5 hE6
   have l0 := cell_lt b0
   have l2 := cell_lt b2
   have l3 := cell_lt v0
   have l5 := cell_lt k0
   dsimp only at l0 l2 l3 l5
   rcases hvb2 with ⟨rfl, rfl⟩ | hvb2
   ·obtain ⟨cc, l, m1, hM6, hE6, m4⟩ := hi6.out.m
    replace hM6 := hid hM6
    have hnk : x ∉ l.map Prod.fst := by
     rw [m4]; exact fun h => hfresh (List.mem_filter.1 h).1
    gi_wp2_with fail
    refine ⟨trivial, ?_⟩
    gi_wp2_with (first | (gi_at_mapUpdate; (refine putC_in rfl _ _ _ rfl rfl (((hM6.out.put (by dsimp only; omega) _).put (by dsimp only; omega) _).alloc _) (by omega) x (.slice (some ⟨g5, 0, none⟩) t.length t.length) hKx.out hnk (by show _ = kv x; unfold kv; rw [hr.out, hc.out]; rfl) rfl ?_); intro w7 hM7 g7))
    refine ⟨(keeps_set (keeps_set (keeps_ext _ x56.out) _ _) _ _).trans ((keeps_ext _ ((Ext.refl _).alloc _)).trans (keeps_grown g7 (by omega))), ?_⟩
    have e1 : valBy t (plansOn t (pre ++ [x])) = (sN, sD) := by
     rw [hps2.out, hvx.out]
     show upd _ (sureN t (planL t x), sureD t (planL t x)) = _
     rw [hsN.out, hsD.out, hupd.out]
     simp
    unfold EI
    rw [e1]
    exact EJ.note (((hi6.out.store sN sD).ext ((Ext.refl _).alloc _))) g7 m1 ((EL.put (p := ⟨w.heap.size + 1 + 1 + 1, 1, none⟩) (EL.put (p := ⟨w.heap.size + 1 + 1 + 1, 0, none⟩) hE6 (by dsimp only; omega)) (by dsimp only; omega)).ext ((Ext.refl _).alloc _)) m4 hM7 hxc.out hgd.out (by omega) (by simp; omega) (((hIn6.out.put (by dsimp only; omega) _).put (by dsimp only; omega) _).alloc _)
   ·obtain ⟨cc, l, m1, hM6, hE6, m4⟩ := hi6.out.m
    have hnk : x ∉ l.map Prod.fst := by
     rw [m4]; exact fun h => hfresh (List.mem_filter.1 h).1
    have hne : (vD == 0) = false := by rw [beq_eq_false_iff_ne]; omega
    have q1 : I64 (vN * sD) := i64_mul hvb2.1 hvb2.2.1 hbd.2.2.1 hbd.2.2.2
    have q2 : I64 (sN * vD) := i64_mul hbd.1 hbd.2.1 hvb2.2.2.1 hvb2.2.2.2
    have hdn : ¬ vD = 0 := by omega
    replace hdn := hid hdn
    replace q1 := hid q1
    replace q2 := hid q2
    have hls := hid (less_any vN vD sN sD q1.out q2.out)
    by_cases hlt : vN * sD < sN * vD
    ·have hle : Hid (lessB vN vD sN sD = true) := hid (decide_eq_true hlt)
     replace hlt := hid hlt
     gi_wp2_with fail
     refine ⟨trivial, ?_⟩; refine (callsIn_wide.2 (hls.out _)).mono ?_; rintro e w8 ⟨rfl, hE8⟩
     rw [hle.out]
     have x68 : Ext w6 w8 := (by repeat (with_reducible first | assumption | exact Ext.refl _ | refine Ext.drew ?_ | refine Ext.drewN ?_ _ | refine Ext.alloc ?_ _ | refine xS ?_ _ | refine xT ?_ (by assumption)))
     have hi8 := hid (hi6.out.ext x68)
     have hIn8 := hid (hIn6.out.ext x68)
     have hM8 := hid (hM6.ext x68)
     have hE8' := hid (hE6.ext x68)
     have x58 := hid (x56.out.trans x68)
     have s0 := hE8.cell (p := ⟨w6.heap.size, 0, none⟩) (v := .int .i64 sN) (by simp [go_sem])
     have s1 := hE8.cell (p := ⟨w6.heap.size, 1, none⟩) (v := .int .i64 sD) (by simp [go_sem])
     have v0 := x68.cell v0
     have v1 := x68.cell v1
     have b2 := x68.cell b2
     have k0 := x68.cell k0
     have k1 := x68.cell k1
     have f0 := hi8.out.f0
     have f1 := hi8.out.f1
     have zz8 := x68.size
     have l2 := cell_lt b2
     have l3 := cell_lt v0
     have l5 := cell_lt k0
     have l8 := cell_lt s0
     dsimp only at l2 l3 l5 l8
     clear hE8 x68
     gi_wp2_with (first | (gi_at_mapUpdate; (refine putC_in rfl _ _ _ rfl rfl ((hM8.out.put (by dsimp only; omega) _).put (by dsimp only; omega) _) (by omega) x (.slice (some ⟨g5, 0, none⟩) t.length t.length) hKx.out hnk (by show _ = kv x; unfold kv; rw [hr.out, hc.out]; rfl) rfl ?_); intro w7 hM7 g7))
     refine ⟨(keeps_set (keeps_set (keeps_ext _ x58.out) _ _) _ _).trans (keeps_grown g7 (by omega)), ?_⟩
     have e1 : valBy t (plansOn t (pre ++ [x])) = (sN, sD) := by
      rw [hps2.out, hvx.out]
      show upd _ (sureN t (planL t x), sureD t (planL t x)) = _
      rw [hsN.out, hsD.out, hupd.out, if_pos (.inr hlt.out)]
     unfold EI
     rw [e1]
     exact EJ.note (hi8.out.store sN sD) g7 m1 (EL.put (p := ⟨w.heap.size + 1 + 1 + 1, 1, none⟩) (EL.put (p := ⟨w.heap.size + 1 + 1 + 1, 0, none⟩) hE8'.out (by dsimp only; omega)) (by dsimp only; omega)) m4 hM7 hxc.out hgd.out (by omega) (by simp; omega) ((hIn8.out.put (by dsimp only; omega) _).put (by dsimp only; omega) _)
    ·have hle : Hid (lessB vN vD sN sD = false) := hid (decide_eq_false hlt)
     replace hlt := hid hlt
     gi_wp2_with fail
     refine ⟨trivial, ?_⟩; refine (callsIn_wide.2 (hls.out _)).mono ?_; rintro e w8 ⟨rfl, hE8⟩
     rw [hle.out]
     have x68 : Ext w6 w8 := (by repeat (with_reducible first | assumption | exact Ext.refl _ | refine Ext.drew ?_ | refine Ext.drewN ?_ _ | refine Ext.alloc ?_ _ | refine xS ?_ _ | refine xT ?_ (by assumption)))
     have hi8 := hid (hi6.out.ext x68)
     have hIn8 := hid (hIn6.out.ext x68)
     have hM8 := hid (hM6.ext x68)
     have hE8' := hid (hE6.ext x68)
     have x58 := hid (x56.out.trans x68)
     have b2 := x68.cell b2
     have k0 := x68.cell k0
     have k1 := x68.cell k1
     have zz8 := x68.size
     clear hE8 x68
     gi_wp2_with (first | (gi_at_mapUpdate; (refine putC_in rfl _ _ _ rfl rfl hM8.out (by omega) x (.slice (some ⟨g5, 0, none⟩) t.length t.length) hKx.out hnk (by show _ = kv x; unfold kv; rw [hr.out, hc.out]; rfl) rfl ?_); intro w7 hM7 g7))
     refine ⟨(keeps_ext _ x58.out).trans (keeps_grown g7 (by omega)), ?_⟩
     have e1 : valBy t (plansOn t (pre ++ [x])) = valBy t (plansOn t pre) := by
      rw [hps2.out, hvx.out]
      show upd _ (sureN t (planL t x), sureD t (planL t x)) = _
      rw [hsN.out, hsD.out, hupd.out, if_neg]
      rintro (h | h)
      ·exact hdn.out h
      ·exact absurd h (Int.not_lt.2 hlt.out)
     unfold EI
     rw [e1]
     exact EJ.note hi8.out g7 m1 hE8'.out m4 hM7 hxc.out hgd.out (by omega) (by omega) hIn8.out
 case done =>
  rintro L xs W hD hS hI hK
  subst hS
  have hLe : L = w.heap.size + 5 := by omega
  subst hLe
  clear hD z4
  rename ∀ (a : Act) (w_1 : World), _ → _ => hgo
  refine hgo _ _ ?_
  refine wpIn_wide.2 ?_
  refine wp_mono (Q := calmQ _) ?_ calmQ_of
  clear hgo hst hmm hw4
  obtain ⟨cc, l, m1', hM, hE, hlk⟩ := hI.m
  have hI0 := hid hI
  have b0 := hI.b0
  have b2 := hI.b2
  have v0 := hI.v0
  have v1 := hI.v1
  have hval : Hid (valBy t (plansOn t (chs t.length (wid t))) = val t) := hid rfl
  rw [hval.out] at v0 v1
  have hsz := hI.x.size
  have hLl := (Array.getElem?_eq_some_iff.1 hK).1
  have hblt := hM.lt
  replace hM := hid hM
  have hEh := hid hE
  have hlkh := hid hlk
  have hx0 := hid hI.x
  have hcc : cc ≤ 300 := by have := chs_len m4 n4; omega
  have hK0 := hid hK
  clear hI hE hlk hK
  have hKD := hid hLl
  go_wp2_with (at_range; refine rangeC rfl _ rfl rfl hM.out ?_; intro w0 hR0 hg0 hs0)
  go_frame
  replace hR0 := hid hR0
  go_loopw [10] (fun _ wr => ∃ dn td : List KV, Hid ((dn ++ td).Perm l) ∧ Hid (RT wr (w.heap.size + 1) W.heap.size cc (dn.filter (bestB t) ++ td) td) ∧ Hid (W.grownBy wr (some (w.heap.size + 1)))) (fun _ wr => wr.rangeLeft (w.heap.size + 1) W.heap.size)
  case atStart => exact ⟨[], l, hid (by simp), hR0, hid (hg0.but _)⟩
  case round =>
   obtain ⟨dn, td, hp, hR, hg⟩ := hrel
   go_wp2_with (at_next; refine nextC rfl _ rfl rfl hR.out ?_ ?_)
   ·intro htd
    have htd := htd.out
    subst htd
    have b2 := cellG b2 hg.out (by omega)
    have hKr : wr.heap[w.heap.size + 5]? = some (.deferred (some [])) := (hg.out.block _ hLl (fun e => by have := Option.some.inj e; omega)).trans hK0.out
    replace hKr := hid hKr
    go_wp2_with fail
    refine ⟨by simp, .inl ⟨_, _, rfl, run_takeDeferred hKr.out, ?_⟩⟩
    refine ⟨.map (some (w.heap.size + 1)), ?_, ?_⟩
    ·simp [results, Try.results96, go_sem]
    ·have g8 := grownBy_putObj' wr (w.heap.size + 5) (.deferred none)
     have hxr := hx0.out.grown hg.out (fun r e => by cases e; omega)
     have hp2 := hp.out
     rw [List.append_nil] at hp2
     have hR2 := hR.out.cm
     rw [List.append_nil] at hR2
     have hEr : EL wr t (w.heap.size + 6) (dn.filter (bestB t)) := EL.sub (hEh.out.grown hg.out (by omega)) (fun p hp => hp2.mem_iff.1 (List.mem_filter.1 hp).1)
     refine ⟨_, cc, _, rfl, by omega, hR2.kept g8 (fun e => by have := Option.some.inj e; omega), (hEr.grown g8 (by omega)).mono (by omega), fun x => ?_, hxr.grown g8 (fun r e => by cases e; omega)⟩
     have hmm : ∀ x, x ∈ l.map Prod.fst ↔ x ∈ chs t.length (wid t) ∧ goodB t x = true := fun x => by rw [hlkh.out, List.mem_filter]
     constructor
     ·intro hx
      obtain ⟨p, hp3, rfl⟩ := List.mem_map.1 hx
      have h1 := List.mem_filter.1 hp3
      have h2 := (hmm p.1).1 (List.mem_map.2 ⟨p, hp2.mem_iff.1 h1.1, rfl⟩)
      exact ⟨h2.1, h2.2, of_decide_eq_true h1.2⟩
     ·rintro ⟨h1, h2, h3⟩
      obtain ⟨p, hp3, rfl⟩ := List.mem_map.1 ((hmm x).2 ⟨h1, h2⟩)
      exact List.mem_map.2 ⟨p, List.mem_filter.2 ⟨hp2.mem_iff.2 hp3, decide_eq_true h3⟩, rfl⟩
   ·intro ya yb z td2 w1 hcm
    have hen := hcm.run
    unfold kv
    unfold kv at hen
    have hsz1 := hid hcm.size
    have hsz2 : w.heap.size + 1 < w1.heap.size := by have := hR.out.cm.lt; have := hsz1.out; omega
    have hgw := hg.out.andThen hcm.grown (fun j e => by cases e; exact .inl (Nat.le_refl _))
    have e0 := hcm.inl
    have hml : ((ya, yb), z) ∈ l := by
     have h := hcm.ino
     exact hp.out.mem_iff.1 (List.mem_append.2 (.inr h))
    obtain ⟨hyc, hyg, g, hz, hg1, hg2, hI2⟩ := hEh.out ((ya, yb), z) hml
    dsimp only at hyc hyg hz hI2
    subst hz
    have hI1 := hid (hI2.grownBy hgw (fun e => by cases e; omega))
    have b0 := cellG b0 hgw (by omega)
    have b2 := cellG b2 hgw (by omega)
    have v0 := cellG v0 hgw (by omega)
    have v1 := cellG v1 hgw (by omega)
    have l0 := cell_lt b0
    have l2 := cell_lt b2
    have l3 := cell_lt v0
    dsimp only at l0 l2 l3
    have hpl := hid (planL_vld HV.out hyc hyg)
    have hlen := hid (planL_len t (ya, yb))
    have hsu := hid (fun a2 c2 W hW hI => sure_any t HV.out (planL t (ya, yb)) (fun i => ⟨hpl.out.nn i, hpl.out.le i⟩) hpl.out.ps hpl.out.len D a2 c2 W hW hI)
    rw [hlen.out] at hsu
    have hxw : Hid (Ext w w1) := hid (hx0.out.grown hgw (fun r e => by cases e; omega))
    have hbb : Hid (bestB t ((ya, yb), .slice (some ⟨g, 0, none⟩) t.length t.length) = decide (sureN t (planL t (ya, yb)) = (val t).1 ∧ sureD t (planL t (ya, yb)) = (val t).2)) := hid (by unfold bestB suP; rw [decide_eq_decide]; exact Prod.ext_iff)
    have heq := run_eqRatio (sureN t (planL t (ya, yb))) (sureD t (planL t (ya, yb))) (val t).1 (val t).2
    obtain ⟨sN, hsN⟩ : ∃ y', sureN t (planL t (ya, yb)) = y' := ⟨_, rfl⟩
    obtain ⟨sD, hsD⟩ : ∃ y', sureD t (planL t (ya, yb)) = y' := ⟨_, rfl⟩
    obtain ⟨vN, hvN⟩ : ∃ y', (val t).1 = y' := ⟨_, rfl⟩
    obtain ⟨vD, hvD⟩ : ∃ y', (val t).2 = y' := ⟨_, rfl⟩
    rw [hvN] at v0
    rw [hvD] at v1
    rw [hsN, hsD, hvN, hvD] at heq hbb
    rw [hsN, hsD] at hsu
    replace hsN := hid hsN
    replace hsD := hid hsD
    replace hvN := hid hvN
    replace hvD := hid hvD
    obtain ⟨bb, hbq⟩ : ∃ bb, decide (sN = vN ∧ sD = vD) = bb := ⟨_, rfl⟩
    rw [hbq] at heq hbb
    replace hbq := hid hbq
    replace hgw := hid hgw
    replace hcm := hid hcm
    replace hml := hid hml
    replace hyc := hid hyc
    replace hyg := hid hyg
    clear hI2 e0
    go_wp2_with fail
    refine wp_region_held_drew (S := fun w' => w'.cell? ⟨w.heap.size, 0, none⟩ = some (.pointer (some ⟨D, 0, none⟩)) ∧ w'.cell? ⟨w.heap.size + 1 + 1 + 1, 0, none⟩ = some (.int .i64 vN) ∧ w'.cell? ⟨w.heap.size + 1 + 1 + 1, 1, none⟩ = some (.int .i64 vD)) (by kernel_rfl) ⟨(show Ext w1 _ from (by repeat (with_reducible first | assumption | exact Ext.refl _ | refine Ext.drew ?_ | refine Ext.drewN ?_ _ | refine Ext.alloc ?_ _ | refine xS ?_ _ | refine xT ?_ (by assumption)))).cell b0, (show Ext w1 _ from (by repeat (with_reducible first | assumption | exact Ext.refl _ | refine Ext.drew ?_ | refine Ext.drewN ?_ _ | refine Ext.alloc ?_ _ | refine xS ?_ _ | refine xT ?_ (by assumption)))).cell v0, (show Ext w1 _ from (by repeat (with_reducible first | assumption | exact Ext.refl _ | refine Ext.drew ?_ | refine Ext.drewN ?_ _ | refine Ext.alloc ?_ _ | refine xS ?_ _ | refine xT ?_ (by assumption)))).cell v1⟩ fun hHeld => ?_
    refine tkA (i := 0) (v := ?_) rfl (fun _ _ _ h => h) (Or.inl ⟨by rfl, ?yl⟩) (by assumption) ?_
    case yl => (intro w hSw; (try dsimp only at hSw); (try obtain ⟨k1, k2, k3⟩ := hSw); go_simp); with_reducible rfl
    try simp only [Act.put, List.setIfInBounds_toArray, List.set_cons_zero, List.set_cons_succ]
    refine tkA (i := 1) (v := ?_) rfl (fun _ _ _ h => h) (Or.inl ⟨by rfl, ?yl⟩) (by assumption) ?_
    case yl => (intro w hSw; (try dsimp only at hSw); (try obtain ⟨k1, k2, k3⟩ := hSw); go_simp); with_reducible rfl
    try simp only [Act.put, List.setIfInBounds_toArray, List.set_cons_zero, List.set_cons_succ]
    refine tkA (i := 3) (v := ?_) rfl (fun _ _ _ h => h) (Or.inl ⟨by rfl, ?yl⟩) (by assumption) ?_
    case yl => (intro w hSw; (try dsimp only at hSw); (try obtain ⟨k1, k2, k3⟩ := hSw); go_simp); with_reducible rfl
    try simp only [Act.put, List.setIfInBounds_toArray, List.set_cons_zero, List.set_cons_succ]
    refine wpAnyH_ready (rs := [2]) (by kernel_rfl) (by simp) ?_
    refine AllReadyH.cons (o := _) rfl (fun K hK => ?_) AllReadyH.nil
    go_simp
    refine (hsu.out _ _ _ (HD.out.ext (hxw.out.trans (by repeat (with_reducible first | assumption | exact Ext.refl _ | refine Ext.drew ?_ | refine Ext.drewN ?_ _ | refine Ext.alloc ?_ _ | refine xS ?_ _ | refine xT ?_ (by assumption))))) (hI1.out.ext (by repeat (with_reducible first | assumption | exact Ext.refl _ | refine Ext.drew ?_ | refine Ext.drewN ?_ _ | refine Ext.alloc ?_ _ | refine xS ?_ _ | refine xT ?_ (by assumption))))).mono ?_; rintro e w2 ⟨rfl, hE2⟩
    have x12 : Ext w1 w2 := (by repeat (with_reducible first | assumption | exact Ext.refl _ | refine Ext.drew ?_ | refine Ext.drewN ?_ _ | refine Ext.alloc ?_ _ | refine xS ?_ _ | refine xT ?_ (by assumption)))
    refine hK.out _ _ ⟨x12.cell b0, x12.cell v0, x12.cell v1⟩ (fun hHeld => ?_)
    clear hK K
    try simp only [Act.put, List.setIfInBounds_toArray, List.set_cons_zero, List.set_cons_succ]
    refine tkA (i := 4) (v := ?_) rfl (fun _ _ _ h => h) (Or.inl ⟨by rfl, ?yl⟩) (by assumption) ?_
    case yl => (intro w hSw; (try dsimp only at hSw); (try obtain ⟨k1, k2, k3⟩ := hSw); go_simp); with_reducible rfl
    try simp only [Act.put, List.setIfInBounds_toArray, List.set_cons_zero, List.set_cons_succ]
    refine wpAnyH_done (by kernel_rfl) ?_ _
    simp only [sxA, sxB, sxC, Act.put, sxD, sxE, sxF]
    clear hHeld
    have hpm := hcm.out.perm
    have hR2 := hid (hcm.out.rt.ext x12)
    have hg2 : W.grownBy w2 (some (w.heap.size + 1)) := (hgw.out).andThen (grows_ext x12) (fun j e => by cases e)
    replace hg2 := hid hg2
    have hls := hcm.out.less
    have hsame : w2.rangeLeft (w.heap.size + 1) W.heap.size = w1.rangeLeft (w.heap.size + 1) W.heap.size := by
     obtain ⟨_, _, _, D, left, cnt, o1, _⟩ := hcm.out.rt
     rw [o1.left_eq, (o1.kept (grows_ext x12) (by simp) (by simp)).left_eq]
    have hdt : Hid ((dn ++ [((ya, yb), Value.slice (some ⟨g, 0, none⟩) t.length t.length)] ++ td2).Perm l) := by
     refine hid (List.Perm.trans ?_ hp.out)
     rw [List.append_assoc]
     exact hpm.symm.append_left dn
    have hin := hid hcm.out.inl
    have hun := hid hcm.out.rt.uniq
    have hfr : Hid (td2.filter (fun q => q.1 ≠ (ya, yb)) = td2) := by
     refine hid (List.filter_eq_self.2 fun q hq => ?_)
     have hnd := (hpm.map Prod.fst).nodup_iff.1 hR.out.uniq
     rw [List.map_cons, List.nodup_cons] at hnd
     simp only [ne_eq, decide_not, Bool.not_eq_eq_eq_not, Bool.not_true, decide_eq_false_iff_not]
     intro e
     exact hnd.1 (List.mem_map.2 ⟨q, hq, e⟩)
    have q0 := hE2.cell (p := ⟨w1.heap.size, 0, none⟩) (v := .int .i64 ya) (by simp [go_sem])
    have q1 := hE2.cell (p := ⟨w1.heap.size, 1, none⟩) (v := .int .i64 yb) (by simp [go_sem])
    have b2 := x12.cell b2
    replace hpm := hid hpm
    replace hls := hid hls
    replace hsame := hid hsame
    clear x12 hE2
    cases bb with
    | true =>
     go_wp2_with fail
     go_roundw
     case rel =>
      refine ⟨dn ++ [((ya, yb), .slice (some ⟨g, 0, none⟩) t.length t.length)], td2, hdt, hid (hR2.out.perm ?_), hg2⟩
      rw [List.filter_append, List.filter_cons_of_pos hbb.out, List.append_assoc]
      exact hpm.out.append_left _
     case measure => have h1 := hls.out; have h2 := hsame.out; omega
    | false =>
     go_wp2_with (at_delete; refine dropC rfl _ _ rfl rfl hR2.out (ya, yb) (.slice (some ⟨g, 0, none⟩) t.length t.length) hin.out rfl ?_; intro w3 hdr)
     try go_frame
     go_roundw
     case rel =>
      refine ⟨dn ++ [((ya, yb), .slice (some ⟨g, 0, none⟩) t.length t.length)], td2, hdt, hid ?_, hid (hg2.out.andThen hdr.grown (fun j e => .inr e))⟩
      have hr3 := hdr.rt
      rw [hfr.out] at hr3
      refine hr3.perm ?_
      refine strike_perm hR2.out.kl.nd (p := ((ya, yb), .slice (some ⟨g, 0, none⟩) t.length t.length)) ?_
      rw [List.filter_append, List.filter_cons_of_neg (by rw [hbb.out]; simp), List.filter_nil, List.append_nil]
      exact (hpm.out.append_left _).trans List.perm_middle
     case measure => have h1 := hls.out; have h2 := hsame.out; have h3 := hdr.le; omega

end Go.Proofs.Ytommhgcgaclflaa
namespace Go.Proofs.Ytommhgcgaclflaa
set_option linter.unusedVariables false
set_option linter.unusedSimpArgs false
set_option linter.unusedSectionVars false
set_option linter.unnecessarySimpa false
open Go Go.RowKit Game
set_option maxRecDepth 100000
attribute [local go_sem] Oper.semAt_some

theorem appPD_wp {P : Program} {w : World} {o : Oper} {a : Act} {K : Act → World → Prop} {Q : Exit → Act → World → Prop} (s x : Operand) (t : TypeId)
 (ho : o.op = .call { callee := .builtin .append, args := #[s, x], argTypes := #[t, t] })
 (e : TypeId) (ht : P.underlying t = some (.slice e)) (he : ElemP P e) (base : Nat) (l : List (Int × Int)) (y : Int × Int) (v : Value) (hs : a.eval s = v) (b0 : Nat) (hx : a.eval x = .slice (some ⟨b0, 0, none⟩) 1 1)
 (hown : OwnP w base e v l) (hc : w.cell? ⟨b0, 0, none⟩ = some (.int .i64 y.1)) (hd : w.cell? ⟨b0, 1, none⟩ = some (.int .i64 y.2)) (hl : l.length ≤ 1099511627776) (hbase : base ≤ w.heap.size)
 (h : ∀ b cap w', OwnP w' base e (.slice (some ⟨b, 0, none⟩) (l ++ [y]).length cap) (l ++ [y]) → w.grownBy w' v.ownBlock → base ≤ b →
  K (a.put o.dst (.slice (some ⟨b, 0, none⟩) (l ++ [y]).length cap)) w') : o.wp P a w K Q := by
 obtain ⟨i, z, hi, hz, hzs, hsz, hby⟩ := he
 obtain ⟨v', w', hr, hown', hg, hn, hat⟩ := run_append_own_at (P := P) w base t o.type e i z 2 16 ht hi hz hsz hby hzs (by decide) v l.length _ hown ⟨b0, 0, none⟩ 1 1 [.int .i64 y.1, .int .i64 y.2] rfl (by
  intro j u hj
  match j, hj with
  | 0, hj => simp at hj; subst hj; simpa [Addr.add] using hc
  | 1, hj => simp at hj; subst hj; simpa [Addr.add] using hd) (by
  intro u hu
  simp at hu
  rcases hu with rfl | rfl <;> rfl) (by unfold maxLen; omega) (by omega) hbase
 have hne : ¬ v' = .slice none 0 0 := fun e => by have := (hn.1 e).2; simp at this
 rcases hown'.2 with ⟨e1, _⟩ | ⟨g, cap, cur, rfl, hb, rr⟩
 ·exact absurd e1 hne
 ·have e1 : l.length + 1 = (l ++ [y]).length := by simp
  have e2 : cellsP l ++ [.int .i64 y.1, .int .i64 y.2] = cellsP (l ++ [y]) := by rw [cellsP_append]; rfl
  rw [e1, e2] at hown'
  rw [e1] at hr
  unfold Oper.wp execOp
  simp only [ho, resolve, invoke, builtin, Sem.run_bind, Sem.run_pure, Result.andThen_ok, List.map_toArray, List.map_cons, List.map_nil, hs, hx, hr]
  exact h g cap w' hown' hg hb
theorem appPD_in {P : Program} {L nn : Nat} {w : World} {ops : Array Oper} {rest : List Oper} {o : Oper} {a : Act} {Q : Exit → Act → World → Prop} (hgd : o.guard = none) (s x : Operand) (t : TypeId)
 (ho : o.op = .call { callee := .builtin .append, args := #[s, x], argTypes := #[t, t] })
 (e : TypeId) (ht : P.underlying t = some (.slice e)) (he : ElemP P e) (base : Nat) (l : List (Int × Int)) (y : Int × Int) (v : Value) (hs : a.eval s = v) (b0 : Nat) (hx : a.eval x = .slice (some ⟨b0, 0, none⟩) 1 1)
 (hown : OwnP w base e v l) (hc : w.cell? ⟨b0, 0, none⟩ = some (.int .i64 y.1)) (hd : w.cell? ⟨b0, 1, none⟩ = some (.int .i64 y.2)) (hl : l.length ≤ 1099511627776) (hbase : base ≤ w.heap.size)
 (h : ∀ b cap w', OwnP w' base e (.slice (some ⟨b, 0, none⟩) (l ++ [y]).length cap) (l ++ [y]) → w.grownBy w' v.ownBlock → base ≤ b →
  wpListIn (Fence.wide.inRound L) nn P ops Q rest (a.put o.dst (.slice (some ⟨b, 0, none⟩) (l ++ [y]).length cap)) w') : wpListIn (Fence.wide.inRound L) nn P ops Q (o :: rest) a w :=
 wpListIn_plain hgd fun K hK => op_round (by unfold noDefer; rw [ho]) (appPD_wp s x t ho e ht he base l y v hs b0 hx hown hc hd hl hbase fun b cap w' h1 h2 h3 => hK _ _ (h b cap w' h1 h2 h3))
theorem keeps_own {w w' : World} {base N : Nat} {e : TypeId} {v : Value} {l : List (Int × Int)} (h : OwnP w base e v l) (g : w.grownBy w' v.ownBlock) : KeepsFrom N w w' := by
 refine ⟨g.size, fun j o hj ho hc => (g.block j (lt_of_heap ho) (fun e2 => ?_)).trans ho⟩
 obtain ⟨h1, ⟨rfl, h2⟩ | ⟨g', cap', cur, hv, hb, hg, r⟩⟩ := h
 ·simp [Value.ownBlock] at e2
 ·subst hv
  simp only [Value.ownBlock, Option.some.injEq] at e2
  subst e2
  rw [hg] at ho
  cases ho
  simp [Obj.isCells] at hc
theorem elemChoice : ElemP Try.prog 106 := elemP_mk (by kernel_rfl)
def prs (l : List (Nat × Nat)) : List (Int × Int) := l.map fun x => ((x.1 : Int), (x.2 : Int))
theorem prs_len (l : List (Nat × Nat)) : (prs l).length = l.length := by simp [prs]
theorem prs_snoc (l : List (Nat × Nat)) (x : Nat × Nat) : prs (l ++ [x]) = prs l ++ [((x.1 : Int), (x.2 : Int))] := by simp [prs]

theorem own_put {w : World} {base : Nat} {e : TypeId} {v : Value} {l : List (Int × Int)} (h : OwnP w base e v l) {p : Addr} (hne : v.ownBlock ≠ some p.block) (u : Value) : OwnP (w.setCell p u) base e v l := by
 refine World.ownsRow.kept h (grown_set w p u) ?_
 cases hub : v.ownBlock with
 | none => exact .inl rfl
 | some g => exact .inr fun h => hne (by rw [hub, h])
structure AI (w : World) (pre : List (Nat × Nat)) (W : World) : Prop where
 x : Ext w W
 m : ∃ v, W.cell? ⟨w.heap.size, 0, none⟩ = some v ∧ OwnP W (w.heap.size + 3) 106 v (prs pre)
 f : W.frozen? ⟨w.heap.size, 0, none⟩ = false
theorem AI.ext {w W W' : World} {pre : List (Nat × Nat)} (h : AI w pre W) (k : Ext W W') : AI w pre W' := by
 obtain ⟨v, h1, h2⟩ := h.m
 exact ⟨h.x.trans k, ⟨v, k.cell h1, h2.ext k⟩, (k.frozen (cell_lt h1)).trans h.f⟩
theorem AI.put {w W : World} {pre : List (Nat × Nat)} (h : AI w pre W) {r : Nat} (o : Obj) (h1 : w.heap.size + 1 ≤ r) (h2 : r ≤ w.heap.size + 2) : AI w pre (W.putObj r o) := by
 have g := grownBy_putObj' W r o
 obtain ⟨v, k1, k2⟩ := h.m
 refine ⟨h.x.grown g (fun r e => by cases e; omega), ⟨v, cellG k1 g (by omega), ?_⟩, ?_⟩
 ·refine World.ownsRow.kept k2 g ?_
  cases hub : v.ownBlock with
  | none => exact .inl rfl
  | some g' => exact .inr fun h => by have := (k2.block _ hub).1; have := Option.some.inj h; omega
 ·rw [grownBy_frozen g (cell_lt k1) (fun e => by have h8 := Option.some.inj e; dsimp only at h8; omega)]; exact h.f

set_option maxHeartbeats 4000000 in
theorem appendSeq_any (m n : Nat) (m4 : m ≤ 4) (n4 : n ≤ 4) (m1 : 1 ≤ m) (n1 : 1 ≤ n) (Bx D b off cap : Nat) (ai : Option Addr) (ci : Nat) (w : World) (hcf : CF w Bx D b off m n cap ai ci) :
 Calls Try.prog 112 #[.slice none 0 0, .func (.func 113) #[] #[.pointer (some ⟨Bx, 0, none⟩)]] w fun e w' => ∃ a cp, e = .returned (.slice a (chs m n).length cp) ∧ Prs w' a (prs (chs m n)) ∧ Ext w w' := by
 have hcl := chs_len m4 n4
 replace hcf := hid hcf
 refine (callsIn_wide (n := 9)).1 ?_
 refine callsIn_of_wp_marks Try.func112 rfl trivial ?_ rfl
 simp only [Try.ntmps112, List.size_toArray, List.length_cons, List.length_nil, Nat.reduceAdd, Nat.reduceSub, Array.replicate_succ, Array.replicate_zero, List.push_toArray, List.append_toArray, List.nil_append, List.cons_append]
 gi_wp2_with fail
 obtain ⟨w1, hw1⟩ : ∃ w1, w1 = w.alloc (.cells #[.slice none 0 0] 109) := ⟨_, rfl⟩
 rw [← hw1]
 have hst : AI w [] w1 := by
  rw [hw1]
  exact ⟨(by repeat (with_reducible first | assumption | exact Ext.refl _ | refine Ext.drew ?_ | refine Ext.drewN ?_ _ | refine Ext.alloc ?_ _ | refine xS ?_ _ | refine xT ?_ (by assumption))), ⟨.slice none 0 0, by simp [go_sem], OwnP.nil _ _ _⟩, by simp [go_sem]⟩
 have z1 : w1.heap.size = w.heap.size + 1 := by rw [hw1]; simp
 have x1 := hst.x
 clear hw1
 refine range_yieldsE (F := Fence.wide) (n := 9) rfl (by omega) (gf := 113) (lb := #[.pointer (some ⟨Bx, 0, none⟩)]) rfl trivial (enters_of Try.func113 (by kernel_rfl) rfl)
  (choices1_yields m n 8 m4 n4 Bx D b off cap ai ci m1 n1) (fun _ => rfl)
  (AI w) (fun _ _ _ => False) (fun s A C h k => h.ext k) (fun s W h => ⟨h.x.cell hcf.out.c0, h.x.cell hcf.out.c1, h.x.cell hcf.out.c2⟩) (fun s W o h => by rw [z1]; exact h.put o (by omega) (by omega)) (fun _ _ _ _ _ _ _ hs => hs) hst ?round ?done (fun _ _ _ _ _ _ h _ => h.elim)
 case round =>
  rintro l pre x W hG hI hl1 hl2
  subst hl1
  simp only [kv]
  gi_wp2
  have hps := hid (prs_snoc pre x)
  have hplen : pre.length < 300 := by
   have h1 := hG.length_le
   simp at h1
   omega
  have hpl := hid (prs_len pre)
  refine ⟨(KeepsOthers.alloc _ _).from _, fun o => ?_⟩
  obtain ⟨Wb, hWb⟩ : ∃ Wb, Wb = (W.alloc (.cells #[.int .i64 x.1, .int .i64 x.2] 106)).putObj (w1.heap.size + 1) o := ⟨_, rfl⟩
  have g2 := grownBy_putObj' (W.alloc (.cells #[.int .i64 x.1, .int .i64 x.2] 106)) (w1.heap.size + 1) o
  have hIb : AI w pre Wb := by
   rw [hWb]
   exact (hI.ext ((Ext.refl W).alloc _)).put o (by omega) (by omega)
  have zb : Wb.heap.size = W.heap.size + 1 := by rw [hWb]; simp
  rw [← hWb] at g2 ⊢
  have k0 : Wb.cell? ⟨W.heap.size, 0, none⟩ = some (.int .i64 x.1) := cellG (by simp [go_sem]) g2 (by omega)
  have k1 : Wb.cell? ⟨W.heap.size, 1, none⟩ = some (.int .i64 x.2) := cellG (by simp [go_sem]) g2 (by omega)
  have zW := hI.x.size
  have zW2 : w.heap.size + 2 < W.heap.size := by omega
  obtain ⟨v, hv, hov⟩ := hIb.m
  have hf := hIb.f
  have hx := hid hIb.x
  have hov := hid hov
  have l0 := cell_lt hv
  have l1 := cell_lt k0
  dsimp only at l0 l1
  clear hWb g2 hI hIb hG
  have hvk : Hid (∀ A B, Ext Wb A → A.grownBy B v.ownBlock → B.cell? ⟨w.heap.size, 0, none⟩ = some v ∧ B.frozen? ⟨w.heap.size, 0, none⟩ = false) := hid fun A B h g => by
   have hne : some w.heap.size ≠ v.ownBlock := fun e => by have := (hov.out.block _ e.symm).1; omega
   have h1 := h.cell hv
   exact ⟨g.cell h1 hne, (grownBy_frozen g (cell_lt h1) hne).trans ((h.frozen (cell_lt hv)).trans hf)⟩
  have zb2 := hid zb
  clear zb
  gi_wp2_with (first | (gi_at_builtin; (refine appPD_in rfl _ _ _ rfl 106 Try.underlying109 elemChoice (w.heap.size + 3) (prs pre) ((x.1 : Int), (x.2 : Int)) _ rfl Wb.heap.size rfl (hov.out.ext (by repeat (with_reducible first | assumption | exact Ext.refl _ | refine Ext.drew ?_ | refine Ext.drewN ?_ _ | refine Ext.alloc ?_ _ | refine xS ?_ _ | refine xT ?_ (by assumption)))) (by simp [go_sem]) (by simp [go_sem]) (by rw [hpl.out]; omega) (by have := zb2.out; simp; omega) ?_); intro g6 cp6 w6 ho6 hg6 hb6; obtain ⟨hv6, hf6⟩ := hvk.out _ _ (by repeat (with_reducible first | assumption | exact Ext.refl _ | refine Ext.drew ?_ | refine Ext.drewN ?_ _ | refine Ext.alloc ?_ _ | refine xS ?_ _ | refine xT ?_ (by assumption))) hg6))
  have hog := hid hov.out.block
  refine ⟨keeps_set ((keeps_ext _ ((Ext.refl Wb).alloc _)).trans (keeps_own (hov.out.ext ((Ext.refl Wb).alloc _)) hg6)) _ _, ?_⟩
  refine ⟨Ext.setCell (Ext.grown (hx.out.alloc _) hg6 (fun r e => by have := (hog.out r e).1; omega)) (by simp) _, ⟨_, cell_put_eq hv6, ?_⟩, by rw [World.frozen?_setCell]; exact hf6⟩
  rw [hps.out]
  rw [show (prs pre ++ [((x.1 : Int), (x.2 : Int))]).length = (prs pre).length + 1 by simp] at ho6
  exact own_put (p := ⟨w.heap.size, 0, none⟩) ho6 (by simp only [Value.ownBlock]; intro e; have h9 := Option.some.inj e; omega) _
 case done =>
  rintro L xs W hD hS hI hK
  subst hS
  have hLe : L = w.heap.size + 1 := by omega
  subst hLe
  obtain ⟨v, hv, hov⟩ := hI.m
  have hpl := hid (prs_len (chs m n))
  obtain ⟨aa, cp, rfl, _, hP⟩ := hov.slice
  have hx := hid hI.x
  have hPo := hid hov
  have hPh := hid hP
  have hKK := hid hK
  clear hD z1 hI hov hP hK
  rw [hpl.out] at hv
  gi_wp2
  refine ⟨by simp, .inl ⟨_, _, rfl, run_takeDeferred hKK.out, ?_⟩⟩
  refine ⟨.slice aa (chs m n).length cp, ?_, ?_⟩
  ·simp [results, Try.results112, go_sem]
  ·have g8 := grownBy_putObj' W (w.heap.size + 1) (.deferred none)
   refine ⟨aa, cp, rfl, ?_, hx.out.grown g8 (fun r e => by cases e; omega)⟩
   have ho8 : OwnP (W.putObj (w.heap.size + 1) (.deferred none)) (w.heap.size + 3) 106 (.slice aa (prs (chs m n)).length cp) (prs (chs m n)) := by
    refine World.ownsRow.kept hPo.out g8 ?_
    cases hub : Value.ownBlock (.slice aa (prs (chs m n)).length cp) with
    | none => exact .inl rfl
    | some g => exact .inr fun h => by have h1 := (hPo.out.block _ hub).1; have := Option.some.inj h; omega
   obtain ⟨a', c', e', _, hP'⟩ := ho8.slice
   cases e'
   exact hP'

set_option maxHeartbeats 1000000 in
theorem collect_any (m n : Nat) (m4 : m ≤ 4) (n4 : n ≤ 4) (m1 : 1 ≤ m) (n1 : 1 ≤ n) (Bx D b off cap : Nat) (ai : Option Addr) (ci : Nat) (w : World) (hcf : CF w Bx D b off m n cap ai ci) :
 Calls Try.prog 98 #[.func (.func 113) #[] #[.pointer (some ⟨Bx, 0, none⟩)]] w fun e w' => ∃ a cp, e = .returned (.slice a (chs m n).length cp) ∧ Prs w' a (prs (chs m n)) ∧ Ext w w' := by
 have h := hid (appendSeq_any m n m4 n4 m1 n1 Bx D b off cap ai ci w hcf)
 clear hcf
 go_enter Try.func98, Try.ntmps98
 go_wp2_with fail
 refine h.out.mono ?_; rintro e w1 ⟨a, cp, rfl, hP, hE⟩
 go_wp2_with fail
 go_ret
 exact ⟨a, cp, rfl, hP, (by repeat (with_reducible first | assumption | exact Ext.refl _ | refine Ext.drew ?_ | refine Ext.drewN ?_ _ | refine Ext.alloc ?_ _ | refine xS ?_ _ | refine xT ?_ (by assumption)))⟩

def firstX (f : Nat × Nat → Bool) (l : List (Nat × Nat)) : Option (Nat × Nat) := l.find? f
theorem find_split {f : Nat × Nat → Bool} {l : List (Nat × Nat)} {k : Nat} (hk : k < l.length) (h : ∀ j, j < k → f (l.getD j (0, 0)) = false) (g : f (l.getD k (0, 0)) = true) : l.find? f = some (l.getD k (0, 0)) := by
 induction l generalizing k with
 | nil => simp at hk
 | cons a l ih =>
  cases k with
  | zero => simp at g; simp [g]
  | succ k =>
   have h0 := h 0 (by omega)
   simp at h0
   rw [List.find?_cons_of_neg (by simp [h0])]
   simp only [List.getD_cons_succ] at g ⊢
   exact ih (by simpa using hk) (fun j hj => by have := h (j + 1) (by omega); simpa using this) g
theorem prs_at (l : List (Nat × Nat)) (k : Nat) : pa (prs l) k = ((l.getD k (0, 0)).1 : Int) ∧ pb (prs l) k = ((l.getD k (0, 0)).2 : Int) := by
 unfold pa pb prs
 simp only [List.getD_eq_getElem?_getD, List.getElem?_map]
 cases l[k]? <;> simp

set_option maxHeartbeats 2000000 in
theorem best1_any (B c : Nat) (l : List KV) (t : List (List Int)) (lo : Nat) (x : Nat × Nat) (hx : K2 x) (Bp : Nat) (w : World) (hM : CM w B c l) (hE : EL w t lo l) (hB : w.cell? ⟨Bp, 0, none⟩ = some (.map (some B))) (h0 : 1 ≤ t.length) (h4 : t.length ≤ 4) :
 Calls Try.prog 100 #[kv x, .pointer (some ⟨Bp, 0, none⟩)] w fun e w' => e = .returned (.bool (decide (x ∈ l.map Prod.fst))) ∧ Ext w w' := by
 have hlk := (hM.ext ((Ext.refl w).alloc (.cells #[.int .i64 x.1, .int .i64 x.2] 106))).look hx
 have hv : ∃ n a cp, lookV l x = .slice a n cp ∧ (decide (0 < n) = decide (x ∈ l.map Prod.fst)) := by
  by_cases h : x ∈ l.map Prod.fst
  ·obtain ⟨p, hp, rfl⟩ := List.mem_map.1 h
   obtain ⟨_, _, g, e, _⟩ := hE p hp
   exact ⟨t.length, _, _, by rw [lookV_at hM.1 hp, e], by rw [decide_eq_true h]; exact decide_eq_true (by omega)⟩
  ·exact ⟨0, none, 0, lookV_miss h, by rw [decide_eq_false h]; rfl⟩
 obtain ⟨n, a, cp, e1, e2⟩ := hv
 rw [e1] at hlk
 unfold kv at hlk ⊢
 obtain ⟨r, hr⟩ : ∃ r, x.1 = r := ⟨_, rfl⟩
 obtain ⟨cc, hc⟩ : ∃ c, x.2 = c := ⟨_, rfl⟩
 rw [hr, hc] at hlk ⊢
 replace e2 := hid e2
 have hl := cell_lt hB
 clear hM hE e1
 go_enter Try.func100, Try.ntmps100
 go_wp2_with fail
 go_ret
 exact ⟨ret_bool e2.out, (by repeat (with_reducible first | assumption | exact Ext.refl _ | refine Ext.drew ?_ | refine Ext.drewN ?_ _ | refine Ext.alloc ?_ _ | refine xS ?_ _ | refine xT ?_ (by assumption)))⟩

set_option maxHeartbeats 2000000 in
theorem findChoice_any (B c : Nat) (lv : List KV) (t : List (List Int)) (lo : Nat) (l : List (Nat × Nat)) (hK : ∀ x ∈ l, K2 x) (hl9 : l.length ≤ 1000) (k0 : Nat) (hk0 : k0 < l.length) (hno : ∀ j, j < k0 → l.getD j (0, 0) ∉ lv.map Prod.fst) (hyes : l.getD k0 (0, 0) ∈ lv.map Prod.fst)
 (Bp : Nat) (a : Option Addr) (cap : Nat) (w : World) (hP : Prs w a (prs l)) (hM : CM w B c lv) (hE : EL w t lo lv) (hB : w.cell? ⟨Bp, 0, none⟩ = some (.map (some B))) (h0 : 1 ≤ t.length) (h4 : t.length ≤ 4) :
 Calls Try.prog 97 #[.slice a l.length cap, .func (.func 100) #[] #[.pointer (some ⟨Bp, 0, none⟩)]] w fun e w' => e = .returned (.tuple #[kv (l.getD k0 (0, 0)), .bool true]) ∧ Ext w w' := by
 obtain ⟨b, off, rfl, hbl, hcc⟩ := hP.at (by rw [prs_len]; omega)
 have HC : Hid (∀ i, i < l.length → w.cell? ⟨b, off + i * 2, none⟩ = some (.int .i64 (l.getD i (0, 0)).1) ∧ w.cell? ⟨b, off + i * 2 + 1, none⟩ = some (.int .i64 (l.getD i (0, 0)).2)) := hid fun i hi => by
  have := hcc i (by rw [prs_len]; exact hi)
  rwa [(prs_at l i).1, (prs_at l i).2] at this
 have hB1 := hid (fun x (hx : K2 x) W (h : Ext w W) => best1_any B c lv t lo x hx Bp W (hM.ext h) (hE.ext h) (h.cell hB) h0 h4)
 have hKK : Hid (∀ i, i < l.length → K2 (l.getD i (0, 0))) := hid fun i hi => hK _ (by simp [hi])
 have hno := hid hno
 have hyes := hid hyes
 have hl := hid hl9
 obtain ⟨N, hN⟩ : ∃ N, l.length = N := ⟨_, rfl⟩
 rw [hN] at hk0 HC hKK hl9
 rw [hN]
 replace hN := hid hN
 obtain ⟨X, hX⟩ : ∃ X : Nat → Nat × Nat, (fun i => l.getD i (0, 0)) = X := ⟨_, rfl⟩
 have hXe : ∀ i, l.getD i (0, 0) = X i := fun i => by rw [← hX]
 simp only [hXe] at HC hKK hno hyes ⊢
 obtain ⟨w0, hw0⟩ : ∃ w0, w0 = w.alloc (.cells #[.int .i64 0, .int .i64 0] 106) := ⟨_, rfl⟩
 have x0 : Ext w w0 := by rw [hw0]; exact (Ext.refl w).alloc _
 have r0 : w0.cell? ⟨w.heap.size, 0, none⟩ = some (.int .i64 0) := by rw [hw0]; simp [go_sem]
 have r1 : w0.cell? ⟨w.heap.size, 1, none⟩ = some (.int .i64 0) := by rw [hw0]; simp [go_sem]
 have f0 : w0.frozen? ⟨w.heap.size, 0, none⟩ = false := by rw [hw0]; simp [go_sem]
 have f1 : w0.frozen? ⟨w.heap.size, 1, none⟩ = false := by rw [hw0]; simp [go_sem]
 clear hX hXe hP hcc hK hM hE hB
 replace x0 := hid x0
 go_enter Try.func97, Try.ntmps97
 go_wp2_with fail
 rw [← hw0]
 clear hw0
 go_loopw [11] (fun i wr => ∃ k : Nat, k ≤ k0 ∧ i = .int .i64 k ∧ Ext w0 wr) (fun i _ => (N - intOf i).toNat)
 case atStart => exact ⟨0, by omega, rfl, Ext.refl _⟩
 case round =>
  obtain ⟨k, hk, rfl, hw⟩ := hrel
  have hkN : k < N := by omega
  have hxw := x0.out.trans hw
  obtain ⟨p0, p1⟩ := HC.out k hkN
  have p0 := hxw.cell p0
  have p1 := hxw.cell p1
  have hW := hid hw
  have hxW := hid hxw
  have hb := hid (fun W h => hB1.out (X k) (hKK.out k hkN) W h)
  by_cases hkk : k = k0
  ·subst hkk
   have hd : Hid (decide (X k ∈ lv.map Prod.fst) = true) := hid (decide_eq_true hyes.out)
   have r0 := hw.cell r0
   have r1 := hw.cell r1
   have f0 := (hw.frozen (cell_lt (by assumption : w0.cell? ⟨w.heap.size, 0, none⟩ = some (.int .i64 0)))).trans f0
   have f1 := (hw.frozen (cell_lt (by assumption : w0.cell? ⟨w.heap.size, 1, none⟩ = some (.int .i64 0)))).trans f1
   have l0 := cell_lt r0
   dsimp only at l0
   clear hw hxw
   unfold kv at hb
   obtain ⟨r, hr⟩ : ∃ r, (X k).1 = r := ⟨_, rfl⟩
   obtain ⟨cc, hc⟩ : ∃ c, (X k).2 = c := ⟨_, rfl⟩
   rw [hr] at p0
   rw [hc] at p1
   rw [hr, hc] at hb
   replace hr := hid hr
   replace hc := hid hc
   go_wp2_with fail
   refine (hb.out _ (by have := hxW.out; exact (by repeat (with_reducible first | assumption | exact Ext.refl _ | refine Ext.drew ?_ | refine Ext.drewN ?_ _ | refine Ext.alloc ?_ _ | refine xS ?_ _ | refine xT ?_ (by assumption))))).mono ?_; rintro e w1 ⟨rfl, hE1⟩
   rw [hd.out]
   have q0 := hE1.cell (p := ⟨wr.heap.size, 0, none⟩) (v := .int .i64 r) (by simp [go_sem])
   have q1 := hE1.cell (p := ⟨wr.heap.size, 1, none⟩) (v := .int .i64 cc) (by simp [go_sem])
   have xx : Ext wr w1 := (by repeat (with_reducible first | assumption | exact Ext.refl _ | refine Ext.drew ?_ | refine Ext.drewN ?_ _ | refine Ext.alloc ?_ _ | refine xS ?_ _ | refine xT ?_ (by assumption)))
   have r0 := xx.cell r0
   have r1 := xx.cell r1
   have f0 := (xx.frozen (cell_lt (by assumption : wr.cell? ⟨w.heap.size, 0, none⟩ = some (.int .i64 0)))).trans f0
   have f1 := (xx.frozen (cell_lt (by assumption : wr.cell? ⟨w.heap.size, 1, none⟩ = some (.int .i64 0)))).trans f1
   have hfin := hid (hxW.out.trans xx)
   clear hE1 xx
   go_wp2_with fail
   refine bodyPost_ret (v := .tuple #[.agg #[.int .i64 r, .int .i64 cc], .bool true]) ?_ rfl ?_
   ·simp [results, Try.results97, go_sem, *]
   ·refine ⟨by unfold kv; rw [hr.out, hc.out], ?_⟩
    have := hfin.out
    exact Ext.setCell (Ext.setCell this (by simp) _) (by simp) _
  ·have hd : Hid (decide (X k ∈ lv.map Prod.fst) = false) := hid (decide_eq_false (hno.out k (by omega)))
   clear hw hxw
   unfold kv at hb
   obtain ⟨r, hr⟩ : ∃ r, (X k).1 = r := ⟨_, rfl⟩
   obtain ⟨cc, hc⟩ : ∃ c, (X k).2 = c := ⟨_, rfl⟩
   rw [hr] at p0
   rw [hc] at p1
   rw [hr, hc] at hb
   replace hr := hid hr
   replace hc := hid hc
   go_wp2_with fail
   refine (hb.out _ (by have := hxW.out; exact (by repeat (with_reducible first | assumption | exact Ext.refl _ | refine Ext.drew ?_ | refine Ext.drewN ?_ _ | refine Ext.alloc ?_ _ | refine xS ?_ _ | refine xT ?_ (by assumption))))).mono ?_; rintro e w1 ⟨rfl, hE1⟩
   rw [hd.out]
   have hfin := hid (hW.out.trans (show Ext wr w1 from (by repeat (with_reducible first | assumption | exact Ext.refl _ | refine Ext.drew ?_ | refine Ext.drewN ?_ _ | refine Ext.alloc ?_ _ | refine xS ?_ _ | refine xT ?_ (by assumption)))))
   clear hE1
   go_wp2_with fail
   go_roundw
   case rel => exact ⟨k + 1, by omega, by go_num, hfin.out⟩
   case measure => simp [intOf]; omega

theorem best_index {t : List (List Int)} (v : VldT t) : ∃ k0, k0 < (chs t.length (wid t)).length ∧ (chs t.length (wid t)).getD k0 (0, 0) = bestX t ∧ ∀ j, j < k0 → ¬ (goodB t ((chs t.length (wid t)).getD j (0, 0)) = true ∧ suP t (planL t ((chs t.length (wid t)).getD j (0, 0))) = val t) := by
 obtain ⟨x, hx, hg, e, _⟩ := val_spec v
 unfold bestX
 cases h : (chs t.length (wid t)).find? fun x => goodB t x && decide (suP t (planL t x) = val t) with
 | none =>
  have := List.find?_eq_none.1 h x hx
  simp [hg, e] at this
 | some y =>
  obtain ⟨_, i, hi, e1, hj⟩ := List.find?_eq_some_iff_getElem.1 h
  refine ⟨i, hi, by simp [hi, e1], fun j hji => ?_⟩
  have h1 := hj j hji
  have h2 : (chs t.length (wid t)).getD j (0, 0) = (chs t.length (wid t))[j] := by simp [show j < (chs t.length (wid t)).length by omega]
  rw [h2]
  rintro ⟨h3, h4⟩
  simp [h3, h4] at h1
def RetB (p : List Int) (w : World) (e : Ending) (w' : World) : Prop := ∃ g, e = .returned (.slice (some ⟨g, 0, none⟩) p.length p.length) ∧ w.heap.size ≤ g ∧ Ints w' (some ⟨g, 0, none⟩) p ∧ Ext w w'

set_option maxHeartbeats 2000000 in
theorem best_any (t : List (List Int)) (v : VldT t) (D : Nat) (w : World) (hD : Dsk w D t) :
 Calls Try.prog 73 #[.pointer (some ⟨D, 0, none⟩)] w (RetB (bestL t) w) := by
 have m1 := v.m1; have m4 := v.m4; have n1 := v.n1; have n4 := v.n4
 obtain ⟨b, off, cap, ai, ci, hb, hDl, hcf⟩ := hD.cf v
 obtain ⟨k0, hk0, hkX, hkn⟩ := best_index v
 have hbx := bestX_spec v
 have hKx : K2 (bestX t) := ⟨(chs_ch v hbx.1).r, (chs_ch v hbx.1).c⟩
 have hK2 : Hid (∀ x ∈ chs t.length (wid t), K2 x) := hid fun x hx => ⟨(chs_ch v hx).r, (chs_ch v hx).c⟩
 have hcl := hid (chs_len m4 n4)
 have hed := hid (edges_any t v D w hD)
 have hcf := hid hcf
 have hcol := hid (fun Bx W h => collect_any t.length (wid t) m4 n4 m1 n1 Bx D b off cap ai ci W h)
 have hbl : Hid (bestL t = planL t (bestX t)) := hid rfl
 have hbn : Hid ((bestL t).length = t.length) := hid (planL_len t _)
 replace hk0 := hid hk0
 replace hkX := hid hkX
 replace hkn := hid hkn
 replace hbx := hid hbx
 replace hKx := hid hKx
 have hchx : Hid (∀ j, j < (chs t.length (wid t)).length → (chs t.length (wid t)).getD j (0, 0) ∈ chs t.length (wid t)) := hid fun j hj => by simp [hj]
 clear hD
 go_enter Try.func73, Try.ntmps73
 go_wp2_with fail
 refine hed.out.mono ?_; rintro e w1 ⟨B, c, l, rfl, hB, hM, hE, hiff, hE1⟩
 have x1 := hid hE1
 have hM := hid hM
 have hE := hid hE
 have hiff := hid hiff
 have s1 := hE1.size
 clear hE1
 go_wp2_with fail
 refine (choices_any D _).mono ?_; rintro e w2 ⟨rfl, hw2⟩
 have x2 : Ext (w1.alloc (.cells #[.map (some B)] 103)) w2 := by rw [hw2]; exact (by repeat (with_reducible first | assumption | exact Ext.refl _ | refine Ext.drew ?_ | refine Ext.drewN ?_ _ | refine Ext.alloc ?_ _ | refine xS ?_ _ | refine xT ?_ (by assumption)))
 have x12 : Ext w1 w2 := (by repeat (with_reducible first | assumption | exact Ext.refl _ | refine Ext.drew ?_ | refine Ext.drewN ?_ _ | refine Ext.alloc ?_ _ | refine xS ?_ _ | refine xT ?_ (by assumption)))
 have c1 := x2.cell (p := ⟨w1.heap.size, 0, none⟩) (v := .map (some B)) (by simp [go_sem])
 have c2 : w2.cell? ⟨w1.heap.size + 1, 0, none⟩ = some (.pointer (some ⟨D, 0, none⟩)) := by rw [hw2]; simp [go_sem]
 have hc2 := hid (hcf.out w2 (w1.heap.size + 1) (by have := x1.out; exact (by repeat (with_reducible first | assumption | exact Ext.refl _ | refine Ext.drew ?_ | refine Ext.drewN ?_ _ | refine Ext.alloc ?_ _ | refine xS ?_ _ | refine xT ?_ (by assumption)))) c2)
 clear hw2 x2
 go_wp2_with fail
 refine (hcol.out _ _ hc2.out).mono ?_; rintro e w3 ⟨a3, cp3, rfl, hP3, hE3⟩
 have c1 := hE3.cell c1
 have hP3 := hid hP3
 have x13 := hid (x12.trans hE3)
 clear x12 hE3 c2
 go_wp2_with fail
 refine (findChoice_any B c l t w.heap.size (chs t.length (wid t)) hK2.out (by have := hcl.out; omega) k0 hk0.out (fun j hj h => hkn.out j hj ((hiff.out _).1 h).2) ((hiff.out _).2 (by rw [hkX.out]; exact hbx.out)) w1.heap.size a3 cp3 _ (hP3.out.ext (by repeat (with_reducible first | assumption | exact Ext.refl _ | refine Ext.drew ?_ | refine Ext.drewN ?_ _ | refine Ext.alloc ?_ _ | refine xS ?_ _ | refine xT ?_ (by assumption)))) (hM.out.ext (by have := x13.out; exact (by repeat (with_reducible first | assumption | exact Ext.refl _ | refine Ext.drew ?_ | refine Ext.drewN ?_ _ | refine Ext.alloc ?_ _ | refine xS ?_ _ | refine xT ?_ (by assumption))))) (hE.out.ext (by have := x13.out; exact (by repeat (with_reducible first | assumption | exact Ext.refl _ | refine Ext.drew ?_ | refine Ext.drewN ?_ _ | refine Ext.alloc ?_ _ | refine xS ?_ _ | refine xT ?_ (by assumption))))) (by assumption) m1 m4).mono ?_
 rintro e w4 ⟨rfl, hE4⟩
 rw [hkX.out]
 have c1 := hE4.cell c1
 have x14 := hid (x13.out.trans hE4)
 have l1 := cell_lt c1
 dsimp only at l1
 have hM4 := hM.out.ext x14.out
 obtain ⟨p, hp, hpe⟩ := List.mem_map.1 ((hiff.out (bestX t)).2 hbx.out)
 obtain ⟨_, _, g, ev, hg1, hg2, hI⟩ := hE.out.ext x14.out p hp
 have hlk := (hM4.ext ((Ext.refl w4).alloc (.cells #[.int .i64 (bestX t).1, .int .i64 (bestX t).2] 106))).look hKx.out
 rw [← hpe, lookV_at hM4.1 hp, ev, hpe] at hlk
 have hI := hid hI
 replace hpe := hid hpe
 unfold kv at hlk ⊢
 clear hM4 ev hE4
 go_wp2_with fail
 go_ret
 refine ⟨g, by rw [hbn.out]; rfl, by omega, ?_, by have := x1.out; have := x14.out; exact (by repeat (with_reducible first | assumption | exact Ext.refl _ | refine Ext.drew ?_ | refine Ext.drewN ?_ _ | refine Ext.alloc ?_ _ | refine xS ?_ _ | refine xT ?_ (by assumption)))⟩
 rw [hbl.out, ← hpe.out]
 exact hI.out.ext (by repeat (with_reducible first | assumption | exact Ext.refl _ | refine Ext.drew ?_ | refine Ext.drewN ?_ _ | refine Ext.alloc ?_ _ | refine xS ?_ _ | refine xT ?_ (by assumption)))

end Go.Proofs.Ytommhgcgaclflaa
namespace Go.Proofs.Ytommhgcgaclflaa
set_option linter.unusedVariables false
set_option linter.unusedSimpArgs false
set_option linter.unusedSectionVars false
set_option linter.unnecessarySimpa false
open Go Go.RowKit Game
set_option maxRecDepth 100000

def orTo (b : Nat) (f : Nat → Bool) : Nat → Nat
 | 0 => b
 | k + 1 => if f k then orTo b f k ||| 2 ^ k else orTo b f k
theorem or_lt : ∀ b k : Nat, b < 16 → k < 4 → b ||| 2 ^ k < 16 := by
 have : ∀ b, b < 16 → ∀ k, k < 4 → b ||| 2 ^ k < 16 := by decide +kernel
 exact fun b k hb hk => this b hb k hk
theorem or_bits : ∀ b k : Nat, b < 16 → k < 4 → bits BinOp.or IntKind.i64 (b : Int) ((2 ^ k : Nat) : Int) = ((b ||| 2 ^ k : Nat) : Int) := by
 have : ∀ b : Nat, b < 16 → ∀ k : Nat, k < 4 → bits BinOp.or IntKind.i64 (b : Int) ((2 ^ k : Nat) : Int) = ((b ||| 2 ^ k : Nat) : Int) := by decide +kernel
 exact fun b k hb hk => this b hb k hk
theorem orTo_lt {b : Nat} (f : Nat → Bool) (hb : b < 16) : ∀ k, k ≤ 4 → orTo b f k < 16
 | 0, _ => hb
 | k + 1, h => by
  simp only [orTo]
  split
  ·exact or_lt _ k (orTo_lt f hb k (by omega)) (by omega)
  ·exact orTo_lt f hb k (by omega)
theorem orTo_bit {b : Nat} (f : Nat → Bool) (i : Nat) : ∀ k, (orTo b f k).testBit i = (b.testBit i || (decide (i < k) && f i))
 | 0 => by simp [orTo]
 | k + 1 => by
  simp only [orTo]
  split
  ·rename_i h
   rw [Nat.testBit_or, orTo_bit f i k, Nat.testBit_two_pow]
   by_cases e : k = i
   ·subst e; simp [h]
   ·have : decide (i < k + 1) = decide (i < k) := by rw [decide_eq_decide]; omega
    simp [e, this]
  ·rename_i h
   rw [orTo_bit f i k]
   by_cases e : k = i
   ·subst e; simp [h]
   ·have : decide (i < k + 1) = decide (i < k) := by rw [decide_eq_decide]; omega
    rw [this]
def BitsOf (t : List (List Int)) (dn : List KV) (b : Nat) : Prop := b < 16 ∧ ∀ i, i < 4 → (b.testBit i = true ↔ ∃ p, p ∈ dn ∧ 0 < nth (planL t p.1) i)
theorem BitsOf.nil (t : List (List Int)) : BitsOf t [] 0 := ⟨by omega, fun i _ => by simp⟩
theorem BitsOf.snoc {t : List (List Int)} {dn : List KV} {b : Nat} (h : BitsOf t dn b) (m4 : t.length ≤ 4) (p : KV) : BitsOf t (dn ++ [p]) (orTo b (fun i => decide (0 < nth (planL t p.1) i)) t.length) := by
 refine ⟨orTo_lt _ h.1 _ m4, fun i hi => ?_⟩
 rw [orTo_bit]
 simp only [Bool.or_eq_true, Bool.and_eq_true, decide_eq_true_eq, h.2 i hi, List.mem_append, List.mem_singleton]
 constructor
 ·rintro (⟨q, hq, e⟩ | ⟨_, e⟩)
  ·exact ⟨q, .inl hq, e⟩
  ·exact ⟨p, .inr rfl, e⟩
 ·rintro ⟨q, hq | rfl, e⟩
  ·exact .inl ⟨q, hq, e⟩
  ·refine .inr ⟨?_, e⟩
   rcases Nat.lt_or_ge i t.length with g | g
   ·exact g
   ·rw [nth_ge (by rw [planL_len]; exact g)] at e; omega
theorem BitsOf.used {t : List (List Int)} {l : List KV} {b : Nat} (h : BitsOf t l b) (hiff : ∀ x, x ∈ l.map Prod.fst ↔ x ∈ chs t.length (wid t) ∧ goodB t x = true ∧ suP t (planL t x) = val t) : b = usedB t := by
 refine bits_eq _ _ h.1 (usedB_lt t) fun i hi => ?_
 rw [usedB_bit t hi]
 rw [Bool.eq_iff_iff, h.2 i hi]
 unfold usedP
 rw [List.any_eq_true]
 constructor
 ·rintro ⟨p, hp, e⟩
  have := (hiff p.1).1 (List.mem_map.2 ⟨p, hp, rfl⟩)
  exact ⟨p.1, this.1, by simp [this.2.1, this.2.2, e]⟩
 ·rintro ⟨x, hx, e⟩
  simp only [Bool.and_eq_true, decide_eq_true_eq] at e
  obtain ⟨p, hp, rfl⟩ := List.mem_map.1 ((hiff x).2 ⟨hx, e.1.1, e.1.2⟩)
  exact ⟨p, hp, e.2⟩
theorem BitsOf.perm {t : List (List Int)} {l k : List KV} {b : Nat} (h : BitsOf t l b) (p : l.Perm k) : BitsOf t k b :=
 ⟨h.1, fun i hi => by rw [h.2 i hi]; exact ⟨fun ⟨q, hq, e⟩ => ⟨q, p.mem_iff.1 hq, e⟩, fun ⟨q, hq, e⟩ => ⟨q, p.mem_iff.2 hq, e⟩⟩⟩

set_option maxHeartbeats 4000000 in
theorem used_any (t : List (List Int)) (v : VldT t) (D : Nat) (w : World) (hD : Dsk w D t) :
 Calls Try.prog 79 #[.pointer (some ⟨D, 0, none⟩)] w (RetI (bitsTo (usedB t) 4) w) := by
 have m1 := v.m1; have m4 := v.m4
 have hed := hid (edges_any t v D w hD)
 have hul := usedB_lt t
 have hli := hid (fun W => listed_any (usedB t) hul W)
 clear hD
 go_enter Try.func79, Try.ntmps79
 go_wp2_with fail
 refine hed.out.mono ?_; rintro e w1 ⟨B, c, l, rfl, hB, hM, hE, hiff, hE1⟩
 have x1 := hid hE1
 have hM := hid hM
 have hE := hid hE
 have hiff := hid hiff
 have s1 := hE1.size
 have hBl := hM.out.lt
 clear hE1
 go_wp2_with (at_range; refine rangeC rfl _ rfl rfl hM.out ?_; intro w0 hR0 hg0 hs0)
 try go_frame
 have hx0 : Ext w1 w0 := Ext.grown (Ext.refl _) hg0 (fun r e => by cases e)
 replace hR0 := hid hR0
 go_loopw [3] (fun s wr => ∃ (b : Nat) (dn td : List KV), s = .int .i64 b ∧ Hid (BitsOf t dn b) ∧ Hid ((dn ++ td).Perm l) ∧ Hid (RT wr B w1.heap.size c l td) ∧ Hid (Ext w1 wr)) (fun _ wr => wr.rangeLeft B w1.heap.size)
 case atStart => exact ⟨0, [], l, rfl, hid (BitsOf.nil t), hid (by simp), hR0, hid hx0⟩
 case round =>
  obtain ⟨b, dn, td, rfl, hb, hp, hR, hx⟩ := hrel
  go_wp2_with (at_next; refine nextC rfl _ rfl rfl hR.out ?_ ?_)
  ·intro htd
   have htd := htd.out
   subst htd
   have hp2 := hp.out
   rw [List.append_nil] at hp2
   have hbu := (hb.out.perm hp2).used hiff.out
   subst hbu
   go_wp2_with fail
   refine (hli.out _).mono ?_; rintro e w3 ⟨aa, cp, rfl, hI3, hE3⟩
   go_wp2_with fail
   go_ret
   exact ⟨aa, cp, rfl, hI3.ext (by repeat (with_reducible first | assumption | exact Ext.refl _ | refine Ext.drew ?_ | refine Ext.drewN ?_ _ | refine Ext.alloc ?_ _ | refine xS ?_ _ | refine xT ?_ (by assumption))), by have := x1.out; have := hx.out; exact (by repeat (with_reducible first | assumption | exact Ext.refl _ | refine Ext.drew ?_ | refine Ext.drewN ?_ _ | refine Ext.alloc ?_ _ | refine xS ?_ _ | refine xT ?_ (by assumption)))⟩
  ·intro ya yb z td2 w2 hcm
   have hen := hcm.run
   unfold kv at hen
   obtain ⟨hyc, hyg, g, hz, hg1, hg2, hI2⟩ := hE.out ((ya, yb), z) hcm.inl
   dsimp only at hyc hyg hz hI2
   subst hz
   have hxn : Ext w1 w2 := Ext.grown hx.out hcm.grown (fun r e => by cases e; exact Nat.le_refl _)
   have hI2 := hI2.ext hxn
   have hlen := hid (planL_len t (ya, yb))
   have hsn := hid (hb.out.snoc m4 ((ya, yb), .slice (some ⟨g, 0, none⟩) t.length t.length))
   have hlt := hb.out.1
   obtain ⟨b', off', e', hbl, hcell⟩ := hI2.at (by rw [hlen.out]; omega)
   cases e'
   have hC : Hid (∀ k, k < t.length → w2.cell? ⟨g, k, none⟩ = some (.int .i64 (nth (planL t (ya, yb)) k))) := hid fun k hk => by
    have := hcell k (by rw [hlen.out]; exact hk)
    rwa [Nat.zero_add] at this
   dsimp only at hsn
   have hcm := hid hcm
   have hxn := hid hxn
   obtain ⟨p, hpp⟩ : ∃ p, planL t (ya, yb) = p := ⟨_, rfl⟩
   rw [hpp] at hC hsn
   replace hpp := hid hpp
   obtain ⟨m, hm⟩ : ∃ m, t.length = m := ⟨_, rfl⟩
   rw [hm] at hC hsn m4 m1 hen hcm
   replace hm := hid hm
   have hstep : Hid (∀ k, orTo b (fun i => decide (0 < nth p i)) (k + 1) = if decide (0 < nth p k) then orTo b (fun i => decide (0 < nth p i)) k ||| 2 ^ k else orTo b (fun i => decide (0 < nth p i)) k) := hid fun k => rfl
   have hol : Hid (∀ k, k ≤ 4 → orTo b (fun i => decide (0 < nth p i)) k < 16) := hid fun k hk => orTo_lt _ hlt k hk
   have hz0 : Hid (orTo b (fun i => decide (0 < nth p i)) 0 = b) := hid rfl
   obtain ⟨O, hO⟩ : ∃ O, orTo b (fun i => decide (0 < nth p i)) = O := ⟨_, rfl⟩
   rw [hO] at hstep hol hz0 hsn
   replace hO := hid hO
   clear hcell hI2 hlt
   go_wp2_with fail
   go_loopw [3, 17] (fun s i wr => ∃ k : Nat, k ≤ m ∧ i = .int .i64 k ∧ s = .int .i64 (O k) ∧ wr = w2) (fun _ i _ => (m - intOf i).toNat)
   case atStart => exact ⟨0, by omega, rfl, by rw [hz0.out], rfl⟩
   case round =>
    obtain ⟨k, hk, rfl, rfl, rfl⟩ := hrel
    by_cases hkl : k < m
    ·have p0 := hC.out k hkl
     have hs := hid (hstep.out k)
     have hlt := hol.out k (by omega)
     have hob := or_bits (O k) k hlt (by omega)
     have hol2 := or_lt (O k) k hlt (by omega)
     have hs1 := shl_one k (by omega)
     obtain ⟨y, hy⟩ : ∃ y, nth p k = y := ⟨_, rfl⟩
     rw [hy] at p0 hs
     replace hy := hid hy
     obtain ⟨ok, hok⟩ : ∃ y, O k = y := ⟨_, rfl⟩
     rw [hok] at hs hlt hob hol2 ⊢
     replace hok := hid hok
     obtain ⟨T, hT⟩ : ∃ T, 2 ^ k = T := ⟨_, rfl⟩
     rw [hT] at hob hol2 hs hs1
     replace hT := hid hT
     by_cases hyp : 0 < y
     ·rw [decide_eq_true hyp, if_pos rfl] at hs
      go_wp2_with fail
      go_roundw
      case rel => exact ⟨k + 1, by omega, by go_num, by rw [hs.out, ← hob], by first | rfl | trivial⟩
      case measure => simp [intOf]; omega
     ·rw [decide_eq_false hyp, if_neg (by simp)] at hs
      go_wp2_with fail
      go_roundw
      case rel => exact ⟨k + 1, by omega, by go_num, by rw [hs.out], by first | rfl | trivial⟩
      case measure => simp [intOf]; omega
    ·obtain rfl : m = k := by omega
     have hdt : Hid ((dn ++ [((ya, yb), Value.slice (some ⟨g, 0, none⟩) m m)] ++ td2).Perm l) := by
      refine hid (List.Perm.trans ?_ hp.out)
      rw [List.append_assoc]
      exact hcm.out.perm.symm.append_left dn
     go_wp2_with fail
     go_roundw
     case rel => exact ⟨O m, dn ++ [((ya, yb), Value.slice (some ⟨g, 0, none⟩) m m)], td2, rfl, hsn, hdt, hid hcm.out.rt, hxn⟩
     case measure => exact hcm.out.less

end Go.Proofs.Ytommhgcgaclflaa
