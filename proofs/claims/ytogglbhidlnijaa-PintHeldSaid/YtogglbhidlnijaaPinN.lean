/- The program's first. -/
import Derived.Test.YtogglbhidlnijaaPinM
namespace Go.Proofs.Ytogglbhidlnijaa
set_option linter.unusedVariables false
set_option linter.unusedSimpArgs false
set_option linter.unusedSectionVars false
set_option linter.unnecessarySimpa false
open Go Go.RowKit
set_option maxRecDepth 100000
attribute [local go_sem] Oper.semAt_some

theorem appFreshI_in {P : Program} {l nn : Nat} {w : World} {ops : Array Oper} {rest : List Oper} {o : Oper} {a : Act} {Q : Exit → Act → World → Prop} (hgd : o.guard = none) (s x : Operand) (t : TypeId)
    (ho : o.op = .call { callee := .builtin .append, args := #[s, x], argTypes := #[t, t] })
    (e : TypeId) (ht : P.underlying t = some (.slice e)) (he : ElemI P e) (k : List Int) (ad0 : Option Addr) (hs : a.eval s = .slice ad0 0 0) (ad : Option Addr) (c : Nat) (hx : a.eval x = .slice ad k.length c)
    (hc : Ints w ad k) (hk : 0 < k.length) (hl : k.length ≤ 1099511627776)
    (h : ∀ g cap w', w.heap.size ≤ g → OwnI w' w.heap.size e (.slice (some ⟨g, 0, none⟩) k.length cap) k → Ext w w' →
      wpListIn (Fence.wide.inRound l) nn P ops Q rest (a.put o.dst (.slice (some ⟨g, 0, none⟩) k.length cap)) w') : wpListIn (Fence.wide.inRound l) nn P ops Q (o :: rest) a w :=
  wpListIn_plain hgd fun K hK => op_round (by unfold noDefer; rw [ho]) (appFreshI_wp s x t ho e ht he k ad0 hs ad c hx hc hk hl fun cap w' own ext => hK _ _ (h _ cap w' (Nat.le_refl _) own ext))

/-- The two ways out of first. -/
def FirstP (k : List (List Int × Int)) (none_ : Int) (w : World) (e : Ending) (w' : World) : Prop :=
  Ext w w' ∧ ((k = [] ∧ e = .returned (.tuple #[.slice none 0 0, .int .i64 none_])) ∨
    (∃ y a cap, y ∈ k.map Prod.fst ∧ e = .returned (.tuple #[.slice a y.length cap, .int .i64 0]) ∧ Ints w' a y))

set_option maxHeartbeats 2000000 in
theorem first_any (d : Dent) (v : VldD d) (a : Option Addr) (cap : Nat) (b n c : Nat) (k : List (List Int × Int)) (ne : Int) (w : World) (hP : Prs w a d.rs) (hT : TM w b d.rs.length c k) (hk : ∀ p ∈ k, IsT d.rs p.1) :
    Calls Try.prog 94 #[(.agg #[.int .i64 d.L, .int .i64 d.R, .slice a d.rs.length cap]), .map (some b), .int .i64 ne] w (FirstP k ne w) := by
  have n1 := v.n1
  have n4 := v.n4
  obtain ⟨bb, off, rfl, hbb, hcc⟩ := hP.at (by omega)
  have hbl := hT.lt
  have HT := hid hT
  have HCC := hid hcc
  have HK := hid hk
  clear hP hT hcc hk
  refine (callsIn_wide (n := 9)).1 ?_
  refine callsIn_of_wp_marks Try.func94 rfl trivial ?_ rfl
  simp only [Try.ntmps94, List.size_toArray, List.length_cons, List.length_nil, Nat.reduceAdd, Nat.reduceSub, Array.replicate_succ, Array.replicate_zero, List.push_toArray, List.append_toArray, List.nil_append, List.cons_append]
  gi_wp2_with fail
  refine ⟨trivial, ?_⟩; refine (callsIn_wide.2 (bottoms_any d _ cap _)).mono ?_; rintro e w4 ⟨rfl, hw4⟩
  have x4 : Ext w w4 := by rw [hw4]; exact (by repeat (with_reducible first | assumption | exact Ext.refl _ | refine Ext.drew ?_ | refine Ext.drewN ?_ _ | refine Ext.alloc ?_ _ | (refine Ext.setCell ?_ ?sz _; case sz => (first | (simp; done) | (simp; omega))) | refine Ext.trans ?_ (by assumption)))
  have z4 : w4.heap.size = w.heap.size + 1 + 1 + 1 + 1 + 1 := by rw [hw4]; simp
  have d0 : w4.cell? ⟨w.heap.size, 0, none⟩ = some (.int .i64 d.L) := by rw [hw4]; simp [go_sem]
  have d1 : w4.cell? ⟨w.heap.size, 1, none⟩ = some (.int .i64 d.R) := by rw [hw4]; simp [go_sem]
  have d2 : w4.cell? ⟨w.heap.size, 2, none⟩ = some (.slice (some ⟨bb, off, none⟩) d.rs.length cap) := by rw [hw4]; simp [go_sem]
  have m0 : w4.cell? ⟨w.heap.size + 1, 0, none⟩ = some (.map (some b)) := by rw [hw4]; simp [go_sem]
  have r0 : w4.cell? ⟨w.heap.size + 1 + 1, 0, none⟩ = some (.slice none 0 0) := by rw [hw4]; simp [go_sem]
  have r1 : w4.cell? ⟨w.heap.size + 1 + 1 + 1, 0, none⟩ = some (.int .i64 0) := by rw [hw4]; simp [go_sem]
  have f0 : w4.frozen? ⟨w.heap.size + 1 + 1, 0, none⟩ = false := by rw [hw4]; simp [go_sem]
  have f1 : w4.frozen? ⟨w.heap.size + 1 + 1 + 1, 0, none⟩ = false := by rw [hw4]; simp [go_sem]
  have d4 : w4.cell? ⟨w.heap.size + 1 + 1 + 1 + 1, 2, none⟩ = some (.slice (some ⟨bb, off, none⟩) d.rs.length cap) := by rw [hw4]; simp [go_sem]
  have HDF : DF w4 w4.heap.size (w.heap.size + 1 + 1 + 1 + 1) d bb off cap :=
    ⟨d4, fun i hi => ⟨x4.cell (HCC.out i hi).1, x4.cell (HCC.out i hi).2⟩, by omega, Nat.lt_of_lt_of_le hbb x4.size, Nat.le_refl _⟩
  have T4' := HT.out.ext x4
  replace HDF := hid HDF
  replace T4' := hid T4'
  replace x4 := hid x4
  clear hw4 d4
  gi_wp2_with fail
  refine range_yields (F := Fence.wide) (n := 9) rfl (by omega) (gf := 104) (lb := #[.pointer (some ⟨w.heap.size + 1 + 1 + 1 + 1, 0, none⟩)]) rfl trivial (enters_of Try.func104 (by kernel_rfl) rfl)
    (bottoms1_yields d v 8 _ bb off cap w4 HDF.out) (Ext.refl _) (fun _ => rfl)
    (fun pre W => Ext w4 W ∧ Hid (∀ y ∈ pre.map (·.1), y ∉ k.map Prod.fst))
    (fun cd pre W => cd = .ret ∧ Ext w W ∧ ∃ y g cp, y ∈ k.map Prod.fst ∧ w4.heap.size + 1 < g ∧ g < W.heap.size ∧ W.cell? ⟨w.heap.size + 1 + 1, 0, none⟩ = some (.slice (some ⟨g, 0, none⟩) y.length cp) ∧ Ints W (some ⟨g, 0, none⟩) y ∧ W.cell? ⟨w.heap.size + 1 + 1 + 1, 0, none⟩ = some (.int .i64 0))
    ?hI ?hIx ⟨Ext.refl _, hid (by simp)⟩ ?round ?done ?stop
  case hI =>
    intro pre A C row ⟨ha, hb⟩ hg hr
    exact ⟨ha.grown hg hr, hb⟩
  case hIx =>
    rintro cd pre W r o hr1 hr2 ⟨h1, h2, y, g, cp, h3, h4, h5, h6, h7, h8⟩
    have hg := grownBy_putObj' W r o
    have hx := x4.out.size
    refine ⟨h1, h2.grown hg (fun j e => by cases e; omega), y, g, cp, h3, h4, by simpa using h5, cellG h6 hg (by omega), fun i hi => ?_, cellG h8 hg (by omega)⟩
    obtain ⟨b', o', e, hc⟩ := h7 i hi
    cases e
    exact ⟨g, 0, rfl, cellG hc hg (by omega)⟩
  case round =>
    rintro l pre x W hG ⟨hE, hN⟩ hl1 hl2
    simp only [encT, kv]
    gi_wp2
    have hx := isT_fit v x.2
    have hT4 : T4 d.rs.length x.1 := ⟨hx.1, hx.2.1, fun i => ⟨by have := (hx.2.2 i); omega, by have := (hx.2.2 i); omega⟩⟩
    have hxl := hid hx.1
    clear hx
    refine ⟨(KeepsOthers.alloc _ _).from _, KeepC.of_ext ((Ext.refl W).alloc _), fun o => ?_⟩
    obtain ⟨Wb, hWb⟩ : ∃ Wb, Wb = (W.alloc (.cells #[.int .i64 (nth x.1 0), .int .i64 (nth x.1 1), .int .i64 (nth x.1 2), .int .i64 (nth x.1 3)] 115)).putObj l o := ⟨_, rfl⟩
    have g1 := World.grownBy_alloc W (.cells #[.int .i64 (nth x.1 0), .int .i64 (nth x.1 1), .int .i64 (nth x.1 2), .int .i64 (nth x.1 3)] 115) none
    have g2 := grownBy_putObj' (W.alloc (.cells #[.int .i64 (nth x.1 0), .int .i64 (nth x.1 1), .int .i64 (nth x.1 2), .int .i64 (nth x.1 3)] 115)) l o
    rw [← hWb] at g2 ⊢
    have xb : Ext w4 Wb := (hE.grown g1 (fun _ e => by cases e)).grown g2 (fun r e => by cases e; omega)
    have y0 : Wb.cell? ⟨W.heap.size, 0, none⟩ = some (.int .i64 (nth x.1 0)) := cellG (by simp [go_sem]) g2 (by omega)
    have y1 : Wb.cell? ⟨W.heap.size, 1, none⟩ = some (.int .i64 (nth x.1 1)) := cellG (by simp [go_sem]) g2 (by omega)
    have y2 : Wb.cell? ⟨W.heap.size, 2, none⟩ = some (.int .i64 (nth x.1 2)) := cellG (by simp [go_sem]) g2 (by omega)
    have y3 : Wb.cell? ⟨W.heap.size, 3, none⟩ = some (.int .i64 (nth x.1 3)) := cellG (by simp [go_sem]) g2 (by omega)
    have HX : Hid (Ints Wb (some ⟨W.heap.size, 0, none⟩) x.1) := hid (fun i hi => by
      obtain ⟨b', o', e, hc⟩ := kv_row (w := W) (t := 115) hT4 rfl i hi
      cases e
      exact ⟨_, _, rfl, cellG hc g2 (by omega)⟩)
    have zW : w4.heap.size + 1 ≤ W.heap.size := by omega
    have zB : W.heap.size < Wb.heap.size := by have := g2.size; simp at this; omega
    have v0 := xb.cell d0
    have v1 := xb.cell d1
    have v2 := xb.cell d2
    have v3 := xb.cell m0
    have tb := hid (T4'.out.ext xb)
    have i0 : (0 : Int) ≤ (d.rs.length : Int) := by omega
    have i4 : (d.rs.length : Int) ≤ 4 := by omega
    replace hT4 := hid hT4
    replace hN := hid hN
    clear hWb g1 g2
    cases hdec : decide (x.1 ∈ k.map Prod.fst) with
    | false =>
      replace hdec := hid hdec
      gi_wp2_with (gi_at_lookup; refine lookT_in rfl _ _ rfl rfl tb.out x.1 hT4.out rfl ?_; intro z; rw [hdec.out])
      refine ⟨KeepsFrom.refl _ _, KeepC.refl _, xb, hid fun y hy => ?_⟩
      rw [List.map_append, List.mem_append] at hy
      rcases hy with hy | hy
      · exact hN.out.out y hy
      · have e : y = x.1 := by simpa using hy
        rw [e]
        simpa using hdec.out
    | true =>
      replace hdec := hid hdec
      have hr0 := xb.cell r0
      have hr1 := xb.cell r1
      have hf0 := (xb.frozen (p := ⟨w.heap.size + 1 + 1, 0, none⟩) (by simp; omega)).trans f0
      have hf1 := (xb.frozen (p := ⟨w.heap.size + 1 + 1 + 1, 0, none⟩) (by simp; omega)).trans f1
      have hlen := hxl.out
      replace hlen := hid hlen
      gi_wp2_with (first | (gi_at_lookup; refine lookT_in rfl _ _ rfl rfl tb.out x.1 hT4.out rfl ?_; intro z; rw [hdec.out]) | (gi_at_builtin; refine appFreshI_in rfl _ _ _ rfl 2 Try.underlying22 elemI64 x.1 _ rfl (some ⟨W.heap.size, 0, none⟩) 4 ?hx HX.out ?hk ?hl ?_; (case hx => rw [hlen.out]; rfl); (case hk => rw [hlen.out]; omega); (case hl => rw [hlen.out]; omega); intro g6 cp6 w6 hg6 ho6 hE6; have hr0 := hE6.cell hr0; have hr1 := hE6.cell hr1; have hf0 := (hE6.frozen (cell_lt (by assumption : Wb.cell? ⟨w.heap.size + 1 + 1, 0, none⟩ = some (.slice none 0 0)))).trans hf0; have hf1 := (hE6.frozen (cell_lt (by assumption : Wb.cell? ⟨w.heap.size + 1 + 1 + 1, 0, none⟩ = some (.int .i64 0)))).trans hf1))
      refine ⟨(show KeepsFrom _ _ _ from ⟨hE6.size, fun j o' _ hj _ => hE6.heap hj⟩).trans ((KeepsOthers.setCell _ _ _).from _ |>.trans ((KeepsOthers.setCell _ _ _).from _)), rfl, ?_, x.1, g6, cp6, by simpa using hdec.out, by omega, ?_, ?_, ?_, ?_⟩
      · have q : Ext w w6 := (x4.out.trans xb).trans hE6
        exact (q.setCell (by simp; omega) _).setCell (by simp; omega) _
      · have := (ho6.block g6 rfl).2
        simpa using this
      · rw [World.cell?_setCell_other _ _ _ _ (by simp)]
        exact cell_put_eq hr0
      · obtain ⟨a7, c7, hv7, hI7⟩ := ho6.slice
        cases hv7
        exact (hI7.put (by simp; omega) _).put (by simp; omega) _
      · exact cell_put_eq (u := .int .i64 0) (by rw [World.cell?_setCell_other _ _ _ _ (by simp)]; exact hr1)
  case done =>
    rintro D xs W hD hS ⟨hE, hN⟩ hK
    have hkn : k = [] := by
      cases k with
      | nil => rfl
      | cons p k =>
        have h1 := HK.out p (by simp)
        have h2 := (mem_allT (okL_of v)).2 h1
        rw [← hS] at h2
        exact absurd (by simp) (hN.out p.1 h2)
    have hr0 := hE.cell r0
    have hr1 := hE.cell r1
    have hf0 := (hE.frozen (p := ⟨w.heap.size + 1 + 1, 0, none⟩) (by simp; omega)).trans f0
    have hf1 := (hE.frozen (p := ⟨w.heap.size + 1 + 1 + 1, 0, none⟩) (by simp; omega)).trans f1
    have hq : Ext w W := x4.out.trans hE
    have hEs := hE.size
    replace hkn := hid hkn
    gi_wp2
    have hK2 := (KeepsOthers.setCell (W.setCell ⟨w.heap.size + 1 + 1, 0, none⟩ (.slice none 0 0)) ⟨w.heap.size + 1 + 1 + 1, 0, none⟩ (.int .i64 ne)).same D _ ((KeepsOthers.setCell W ⟨w.heap.size + 1 + 1, 0, none⟩ (.slice none 0 0)).same D _ hK rfl) rfl
    have qa : ((W.setCell ⟨w.heap.size + 1 + 1, 0, none⟩ (.slice none 0 0)).setCell ⟨w.heap.size + 1 + 1 + 1, 0, none⟩ (.int .i64 ne)).cell? ⟨w.heap.size + 1 + 1, 0, none⟩ = some (.slice none 0 0) := by
      rw [World.cell?_setCell_other _ _ _ _ (by simp)]
      exact cell_put_eq hr0
    have qb : ((W.setCell ⟨w.heap.size + 1 + 1, 0, none⟩ (.slice none 0 0)).setCell ⟨w.heap.size + 1 + 1 + 1, 0, none⟩ (.int .i64 ne)).cell? ⟨w.heap.size + 1 + 1 + 1, 0, none⟩ = some (.int .i64 ne) :=
      cell_put_eq (u := .int .i64 0) (by rw [World.cell?_setCell_other _ _ _ _ (by simp)]; exact hr1)
    have hq2 : Ext w ((W.setCell ⟨w.heap.size + 1 + 1, 0, none⟩ (.slice none 0 0)).setCell ⟨w.heap.size + 1 + 1 + 1, 0, none⟩ (.int .i64 ne)) := (hq.setCell (by simp; omega) _).setCell (by simp; omega) _
    generalize (W.setCell ⟨w.heap.size + 1 + 1, 0, none⟩ (.slice none 0 0)).setCell ⟨w.heap.size + 1 + 1 + 1, 0, none⟩ (.int .i64 ne) = Wf at *
    have g8 := grownBy_putObj' Wf D (.deferred none)
    refine ⟨by simp, .inl ⟨_, _, rfl, run_takeDeferred hK2, ?_⟩⟩
    refine ⟨.tuple #[.slice none 0 0, .int .i64 ne], ?_, ?_⟩
    · have qa := cellG qa g8 (by omega)
      have qb := cellG qb g8 (by omega)
      simp [results, Try.results94, go_sem, qa, qb]
    · exact ⟨hq2.grown g8 (fun r e => by cases e; have := x4.out.size; omega), .inl ⟨hkn.out, rfl⟩⟩
  case stop =>
    rintro D cd pre W hD hS ⟨rfl, hE, y, g, cp, hy, hg1, hg2, hr0, hI, hr1⟩ hK
    gi_wp2
    have g8 := grownBy_putObj' W D (.deferred none)
    refine ⟨by simp, .inl ⟨_, _, rfl, run_takeDeferred hK, ?_⟩⟩
    refine ⟨.tuple #[.slice (some ⟨g, 0, none⟩) y.length cp, .int .i64 0], ?_, ?_⟩
    · have qa := cellG hr0 g8 (by omega)
      have qb := cellG hr1 g8 (by omega)
      simp [results, Try.results94, go_sem, qa, qb]
    · refine ⟨hE.grown g8 (fun r e => by cases e; have := x4.out.size; omega), .inr ⟨y, _, cp, hy, rfl, fun i hi => ?_⟩⟩
      obtain ⟨b', o', e, hc⟩ := hI i hi
      cases e
      exact ⟨g, 0, rfl, cellG hc g8 (fun e => by subst e; simp [World.cell?, hK] at hc)⟩

end Go.Proofs.Ytogglbhidlnijaa
