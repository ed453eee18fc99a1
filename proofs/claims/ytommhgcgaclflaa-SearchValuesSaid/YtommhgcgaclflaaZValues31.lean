/- Texts of one proof, laid together: Rev, UA. -/
import Derived.Test.YtommhgcgaclflaaZB17
import Derived.Test.YtommhgcgaclflaaSR
namespace Go.Proofs.Ytommhgcgaclflaa
set_option linter.unusedVariables false
set_option linter.unusedSimpArgs false
set_option linter.unusedSectionVars false
set_option linter.unnecessarySimpa false
open Game

def loE (A : Nat → Nat → Int) (s c : List Nat) : Nat → Int
  | 0 => 0
  | k + 1 => min (loE A s c k) (partE A s c k)
def hiE (A : Nat → Nat → Int) (s c : List Nat) : Nat → Int
  | 0 => 0
  | k + 1 => max (hiE A s c k) (partE A s c k)
theorem lo_spec (A : Nat → Nat → Int) (s c : List Nat) : ∀ k, loE A s c k ≤ 0 ∧ (∀ i, i < k → loE A s c k ≤ partE A s c i) ∧ (loE A s c k < 0 → ∃ i, i < k ∧ partE A s c i = loE A s c k)
  | 0 => ⟨by simp [loE], fun i h => by omega, fun h => by simp [loE] at h⟩
  | k + 1 => by
    obtain ⟨h1, h2, h3⟩ := lo_spec A s c k
    simp only [loE]
    refine ⟨by omega, fun i hi => ?_, fun hl => ?_⟩
    · by_cases e : i = k
      · subst e; omega
      · have := h2 i (by omega); omega
    · by_cases g : loE A s c k ≤ partE A s c k
      · obtain ⟨i, hi, e⟩ := h3 (by omega)
        exact ⟨i, by omega, by omega⟩
      · exact ⟨k, by omega, by omega⟩
theorem hi_spec (A : Nat → Nat → Int) (s c : List Nat) : ∀ k, 0 ≤ hiE A s c k ∧ (∀ i, i < k → partE A s c i ≤ hiE A s c k) ∧ (0 < hiE A s c k → ∃ i, i < k ∧ partE A s c i = hiE A s c k)
  | 0 => ⟨by simp [hiE], fun i h => by omega, fun h => by simp [hiE] at h⟩
  | k + 1 => by
    obtain ⟨h1, h2, h3⟩ := hi_spec A s c k
    simp only [hiE]
    refine ⟨by omega, fun i hi => ?_, fun hl => ?_⟩
    · by_cases e : i = k
      · subst e; omega
      · have := h2 i (by omega); omega
    · by_cases g : partE A s c k ≤ hiE A s c k
      · obtain ⟨i, hi, e⟩ := h3 (by omega)
        exact ⟨i, by omega, by omega⟩
      · exact ⟨k, by omega, by omega⟩
/-- Whether the reference lists no plan. -/
def nilE (A : Nat → Nat → Int) (s c : List Nat) : Prop := (loE A s c s.length < 0 ∧ 0 < hiE A s c s.length) ∨ (loE A s c s.length = 0 ∧ hiE A s c s.length = 0)
theorem mem_pc {A : Nat → Nat → Int} {m n : Nat} {s c : List Nat} (h : Ch m n s c) (m4 : m ≤ 4) {a : Int} : a ∈ pc A s c ↔ ∃ i, i < s.length ∧ partE A s c i = a := by
  rw [← parts_pc A s c h.eq (ch_len4 h m4) h.pos, List.mem_map]
  simp only [List.mem_range]
theorem nil_iff {A : Nat → Nat → Int} {m n : Nat} {s c : List Nat} (h : Ch m n s c) (m4 : m ≤ 4) : nilE A s c ↔ okE A s c m = false := by
  obtain ⟨l1, l2, l3⟩ := lo_spec A s c s.length
  obtain ⟨u1, u2, u3⟩ := hi_spec A s c s.length
  have hok := ok_iff (A := A) h m4
  unfold nilE
  constructor
  · intro hn
    rw [← Bool.not_eq_true, hok]
    rintro ⟨⟨a, ha, na⟩, hno⟩
    obtain ⟨i, hi, rfl⟩ := (mem_pc h m4).1 ha
    rcases hn with ⟨p, q⟩ | ⟨p, q⟩
    · obtain ⟨i1, k1, e1⟩ := l3 p
      obtain ⟨i2, k2, e2⟩ := u3 q
      exact hno ⟨⟨_, (mem_pc h m4).2 ⟨i1, k1, rfl⟩, by omega⟩, _, (mem_pc h m4).2 ⟨i2, k2, rfl⟩, by omega⟩
    · have := l2 i hi
      have := u2 i hi
      omega
  · intro hf
    rw [← Bool.not_eq_true, hok] at hf
    refine Classical.byContradiction fun hn => hf ⟨?_, ?_⟩
    · by_cases p : loE A s c s.length < 0
      · obtain ⟨i1, k1, e1⟩ := l3 p
        exact ⟨_, (mem_pc h m4).2 ⟨i1, k1, rfl⟩, by omega⟩
      · have q : 0 < hiE A s c s.length := by omega
        obtain ⟨i2, k2, e2⟩ := u3 q
        exact ⟨_, (mem_pc h m4).2 ⟨i2, k2, rfl⟩, by omega⟩
    · rintro ⟨⟨a, ha, pa⟩, b, hb, pb⟩
      obtain ⟨i, hi, rfl⟩ := (mem_pc h m4).1 ha
      obtain ⟨j, hj, rfl⟩ := (mem_pc h m4).1 hb
      have := l2 i hi
      have := u2 j hj
      omega
/-- The reference's list after so many parts. -/
def abF (A : Nat → Nat → Int) (s c : List Nat) (k r : Nat) : Int := ab (pf A s c k r)
theorem abF_zero (A : Nat → Nat → Int) (s c : List Nat) : abF A s c 0 = fun _ => 0 := by funext r; simp [abF, pf, ab]
theorem ab_max (x : Int) : max x (-x) = ab x := by unfold ab; split <;> omega
theorem abF_step (A : Nat → Nat → Int) (s c : List Nat) (k : Nat) : (fun r => if r = s.getD k 0 then ab (partE A s c k) else abF A s c k r) = abF A s c (k + 1) := by
  funext r
  simp only [abF, pf]
  split <;> simp_all
theorem abF_end {A : Nat → Nat → Int} {m n : Nat} {s c : List Nat} (h : Ch m n s c) (m4 : m ≤ 4) (r : Nat) : abF A s c s.length r = ev A s c r := by
  unfold ev abF
  rw [put_ab, ← pf_end A s c (sorted_nodup h.ss) h.eq (ch_len4 h m4) h.pos r]

end Go.Proofs.Ytommhgcgaclflaa
namespace Go.Proofs.Ytommhgcgaclflaa
set_option linter.unusedVariables false
set_option linter.unusedSimpArgs false
set_option linter.unusedSectionVars false
set_option linter.unnecessarySimpa false
open Go Go.RowKit Game
set_option maxRecDepth 100000


/-- Numbers as the program's list of them. -/
def nL (s : List Nat) : List Int := s.map (fun (x : Nat) => (x : Int))
theorem nL_len (s : List Nat) : (nL s).length = s.length := by simp [nL]
theorem nL_nth (s : List Nat) (i : Nat) : nth (nL s) i = ((s.getD i 0 : Nat) : Int) := by
  unfold nL nth
  simp only [List.getD_eq_getElem?_getD, List.getElem?_map]
  cases h : s[i]? <;> simp
/-- The rows of differences but one, so far. -/
def dX (A : Nat → Nat → Int) (s c : List Nat) (i : Nat) : Nat → List (List Int)
  | 0 => []
  | k + 1 => if k = i then dX A s c i k else dX A s c i k ++ [dR A (s.getD k 0) c (c.length - 1)]
theorem dX_dT (A : Nat → Nat → Int) (s c : List Nat) (i : Nat) : ∀ k, dX A s c i k = (dT A s c k).take i ++ (dT A s c k).drop (i + 1)
  | 0 => by simp [dX, dT]
  | k + 1 => by
    have hl := dT_len A s c k
    simp only [dX, dT]
    rw [dX_dT A s c i k]
    split
    · subst_vars
      rw [List.take_append_of_le_length (by omega), List.drop_of_length_le (by omega), List.drop_of_length_le (by simp; omega)]
    · rename_i g
      rcases Nat.lt_or_ge i k with h | h
      · rw [List.take_append_of_le_length (by omega), List.drop_append_of_le_length (by omega), List.append_assoc]
      · rw [List.take_of_length_le (by omega), List.drop_of_length_le (by omega), List.take_of_length_le (by simp; omega), List.drop_of_length_le (by simp; omega)]
        simp
theorem dX_len (A : Nat → Nat → Int) (s c : List Nat) (i : Nat) (k : Nat) : (dX A s c i k).length = if i < k then k - 1 else k := by
  rw [dX_dT]
  have hl := dT_len A s c k
  simp only [List.length_append, List.length_take, List.length_drop, hl]
  split <;> omega
theorem dX_end (A : Nat → Nat → Int) (s c : List Nat) (i : Nat) : dX A s c i s.length = cutT (dTab A s c) i := by
  rw [dX_dT, dT_end]; rfl

set_option maxHeartbeats 8000000 in
theorem evenR_any (t : List (List Int)) (v : VldT t) (s c : List Nat) (q : Ch t.length (wid t) s c) (a : Option Addr) (cap : Nat) (ar ac : Option Addr) (cr cc : Nat) (w : World) (hT : Tab w a t) (hI1 : Ints w ar (nL s)) (hI2 : Ints w ac (nL c)) :
    Calls Try.prog 114 #[(.agg #[.slice a t.length cap]), .slice ar s.length cr, .slice ac c.length cc] w fun e w' =>
      (okE (ent t) s c t.length = false ∧ e = .returned (.slice none 0 0) ∧ Ext w w') ∨
      (okE (ent t) s c t.length = true ∧ ∃ g, e = .returned (.slice (some ⟨g, 0, none⟩) t.length t.length) ∧ OwnI w' w.heap.size 2 (.slice (some ⟨g, 0, none⟩) t.length t.length) (mkL t.length (ev (ent t) s c)) ∧ Ext w w') := by
  have m1 := v.m1; have m4 := v.m4; have n1 := v.n1; have n4 := v.n4
  obtain ⟨b, off, B, O, C, rfl, hb, hcc⟩ := hT.fullC (by omega) v.eq (by omega)
  have HC := hid hcc
  have hch := hid q
  have hni := hid (nil_iff (A := ent t) q m4)
  have hae := hid (fun r => abF_end (A := ent t) q m4 r)
  have hn4 : Hid (s.length ≤ 4) := hid (ch_len4 q m4)
  obtain ⟨n, hn⟩ : ∃ n, s.length = n := ⟨_, rfl⟩
  have hcn : c.length = n := by rw [← hch.out.eq, hn]
  rw [hn] at hn4
  have hn1 : 1 ≤ n := by have := hch.out.pos; omega
  obtain ⟨M, hM⟩ : ∃ M, t.length = M := ⟨_, rfl⟩
  rw [hM] at m1 m4 HC hni ⊢
  obtain ⟨Br, Ow, rfl, hBr, hr0⟩ := hI1.at (by rw [nL_len]; omega)
  obtain ⟨Bc, Oc, rfl, hBc, hc0⟩ := hI2.at (by rw [nL_len]; omega)
  have HR : Hid (∀ i, i < n → w.cell? ⟨Br, Ow + i, none⟩ = some (.int .i64 (s.getD i 0 : Nat))) := hid (fun i hi => by
    have := hr0 i (by rw [nL_len, hn]; exact hi)
    rw [nL_nth] at this; exact this)
  have HCc : Hid (∀ i, i < n → w.cell? ⟨Bc, Oc + i, none⟩ = some (.int .i64 (c.getD i 0 : Nat))) := hid (fun i hi => by
    have := hc0 i (by rw [nL_len, hcn]; exact hi)
    rw [nL_nth] at this; exact this)
  replace hM := hid hM
  have hsl : Hid (∀ i, i < n → s.getD i 0 < M) := hid (fun i hi => by rw [← hM.out]; exact hch.out.sl _ (getD_mem (by omega)))
  have hcl : Hid (∀ i, i < n → c.getD i 0 < wid t) := hid (fun i hi => hch.out.cl _ (getD_mem (by omega)))
  rw [hn, hcn]
  rw [hn] at hae
  have hndef : nilE (ent t) s c ↔ (loE (ent t) s c n < 0 ∧ 0 < hiE (ent t) s c n) ∨ (loE (ent t) s c n = 0 ∧ hiE (ent t) s c n = 0) := by unfold nilE; rw [hn]
  have hni2 := hid (hndef.symm.trans hni.out)
  replace hn := hid hn
  replace hcn := hid hcn
  have hvv := hid v
  have hm0 : (0 : Int) ≤ (M : Int) := by omega
  clear hT hcc hI1 hI2 hr0 hc0 hBr hBc q v hni hndef
  go_enter Try.func114, Try.ntmps114
  go_wp2_with (at_make; refine make_ints rfl _ _ 25 rfl 2 Try.underlying25 elemI64 M rfl rfl (by omega) ?_; intro w5 ho5 hx5)
  have hDc := hx5.cell (p := ⟨w.heap.size, 0, none⟩) (v := .slice (some ⟨b, off, none⟩) M cap) (by simp [go_sem])
  have hDl := cell_lt hDc
  simp only at hDl
  have hgs := hid (show w.heap.size ≤ (w.alloc (.cells #[.slice (some ⟨b, off, none⟩) M cap] 24)).heap.size from Ext.size (by repeat (with_reducible first | assumption | exact Ext.refl _ | refine Ext.drew ?_ | refine Ext.drewN ?_ _ | refine Ext.alloc ?_ _ | (refine Ext.setCell ?_ ?sz _; case sz => (first | (simp; done) | (simp; omega))) | refine Ext.trans ?_ (by assumption))))
  have xw := hid (show Ext w w5 from (by repeat (with_reducible first | assumption | exact Ext.refl _ | refine Ext.drew ?_ | refine Ext.drewN ?_ _ | refine Ext.alloc ?_ _ | (refine Ext.setCell ?_ ?sz _; case sz => (first | (simp; done) | (simp; omega))) | refine Ext.trans ?_ (by assumption))))
  have hx5 := hid hx5
  obtain ⟨wm, hwm⟩ : ∃ x, x = w.alloc (.cells #[.slice (some ⟨b, off, none⟩) M cap] 24) := ⟨_, rfl⟩
  rw [← hwm] at hx5 hgs ho5
  have hgw : wm.heap.size = w.heap.size + 1 := by rw [hwm]; simp [go_sem]
  rw [hgw] at ho5 hgs
  rw [mkL_rep, mkL_congr (fun k _ => (show (0 : Int) = abF (ent t) s c 0 k by rw [abF_zero]))] at ho5
  have ho5 := hid ho5
  obtain ⟨g, hg⟩ : ∃ g, g = w.heap.size + 1 := ⟨_, rfl⟩
  have hgq : wm.heap.size = g := by rw [hgw, hg]
  rw [← hg] at ho5 hgs ⊢
  clear hwm hgw
  replace hgq := hid hgq
  obtain ⟨Bx, hBx⟩ : ∃ Bx, Bx = w.heap.size := ⟨_, rfl⟩
  rw [← hBx] at hDc hDl ⊢
  replace hBx := hid hBx
  replace hg := hid hg
  have hDc := hid hDc
  go_loopw [8, 9, 10, 11] (fun sg lo hi i wx => ∃ k : Nat, k ≤ n ∧ i = .int .i64 k ∧ sg = .int .i64 (sgn k) ∧ lo = .int .i64 (loE (ent t) s c k) ∧ hi = .int .i64 (hiE (ent t) s c k) ∧ Hid (OwnI wx g 2 (.slice (some ⟨g, 0, none⟩) M M) (mkL M (abF (ent t) s c k))) ∧ Hid (Ext wm wx) ∧ Hid (Ext w wx) ∧ Hid (wx.cell? ⟨Bx, 0, none⟩ = some (.slice (some ⟨b, off, none⟩) M cap))) (fun _ _ _ i _ => (n - intOf i).toNat)
  case atStart => exact ⟨0, by omega, rfl, rfl, rfl, rfl, ho5, hx5, xw, hDc⟩
  case round =>
    obtain ⟨k, hk, rfl, rfl, rfl, rfl, hO, hx, hxw, hD⟩ := hrel
    by_cases hkl : k < n
    · obtain ⟨w3, rfl⟩ : ∃ w3 : World, w3 = wr := ⟨_, rfl⟩
      clear ho5 hx5 xw hDc
      have hdl := hid (dX_len (ent t) s c k)
      go_wp2_with fail
      go_loopw [12, 13] (fun dl i wr => ∃ r : Nat, r ≤ n ∧ i = .int .i64 r ∧ Hid (OwnT wr w3.heap.size w3.heap.size 25 dl (dX (ent t) s c k r)) ∧ Hid (Ext w3 wr)) (fun _ i _ => (n - intOf i).toNat)
      case atStart => exact ⟨0, by omega, rfl, hid (OwnT.nil _ _ _ _), hid (Ext.refl _)⟩
      case round =>
        obtain ⟨r, hr, rfl, hoT, hxT⟩ := hrel
        by_cases hrl : r < n
        · obtain ⟨w4, rfl⟩ : ∃ w4 : World, w4 = wr := ⟨_, rfl⟩
          have hstT := hid (show dX (ent t) s c k (r + 1) = if r = k then dX (ent t) s c k r else dX (ent t) s c k r ++ [dR (ent t) (s.getD r 0) c (c.length - 1)] from rfl)
          rw [hcn.out] at hstT
          have hsi := hid (hsl.out r hrl)
          have p2 := hid (HR.out r hrl)
          obtain ⟨si, hsi0⟩ : ∃ x, s.getD r 0 = x := ⟨_, rfl⟩
          rw [hsi0] at hstT hsi p2
          replace hsi0 := hid hsi0
          have u2 := Go.IntWalk.i64_in ((r : Int) + 1) (by have := hn4.out; omega)
          go_wp2_with fail
          go_loopw [14, 15] (fun l i wr => ∃ j : Nat, j ≤ n - 1 ∧ i = .int .i64 ((j : Int) + 1) ∧ Hid (OwnI wr w4.heap.size 2 l (dR (ent t) si c j)) ∧ Hid (Ext w4 wr)) (fun _ i _ => (n - intOf i).toNat)
          case atStart => exact ⟨0, by omega, rfl, hid (OwnI.nil _ _ _), hid (Ext.refl _)⟩
          case round =>
            obtain ⟨j, hj, rfl, ho, hX⟩ := hrel
            by_cases hjl : j + 1 < n
            · obtain ⟨w5, rfl⟩ : ∃ w4 : World, w4 = wr := ⟨_, rfl⟩
              have q0 := hid hxT.out
              have hXo := hX.out
              have qq := hid (hxw.out.trans q0.out)
              have r1 := q0.out.cell hD.out
              have r2 := qq.out.cell p2.out
              obtain ⟨r3, _, rr, _⟩ := HC.out si hsi.out
              have r3 := qq.out.cell r3
              have g1 := hcl.out (j + 1) hjl
              have g0 := hcl.out 0 (by omega)
              have r4 := qq.out.cell (HCc.out (j + 1) hjl)
              have r5 := qq.out.cell (HCc.out 0 (by omega))
              rw [Nat.add_zero] at r5
              have r6 := qq.out.cell (rr _ g1)
              have r7 := qq.out.cell (rr _ g0)
              have y1 := And.intro (hvv.out.lo si (c.getD (j + 1) 0)) (hvv.out.hi si (c.getD (j + 1) 0))
              have y0 := And.intro (hvv.out.lo si (c.getD 0 0)) (hvv.out.hi si (c.getD 0 0))
              have hsr := hid (show dR (ent t) si c (j + 1) = dR (ent t) si c j ++ [ent t si (c.getD (j + 1) 0) - ent t si (c.getD 0 0)] from rfl)
              have hlr := hid (dR_len (ent t) si c j)
              obtain ⟨cj, hcj⟩ : ∃ x, c.getD (j + 1) 0 = x := ⟨_, rfl⟩
              obtain ⟨c0, hc0⟩ : ∃ x, c.getD 0 0 = x := ⟨_, rfl⟩
              rw [hcj] at g1 r4 r6 y1 hsr
              rw [hc0] at g0 r5 r7 y0 hsr
              obtain ⟨x, hx0⟩ : ∃ x, ent t si cj = x := ⟨_, rfl⟩
              obtain ⟨y, hy0⟩ : ∃ y, ent t si c0 = y := ⟨_, rfl⟩
              rw [hx0] at r6 y1 hsr
              rw [hy0] at r7 y0 hsr
              have z1 := Go.IntWalk.i64_in (x - y) (by omega)
              obtain ⟨W, hWd⟩ : ∃ W, wid t = W := ⟨_, rfl⟩
              rw [hWd] at r3 g1 g0
              have h9 := hsi.out
              have h7 : (0 : Int) < (n : Int) := by omega
              have h8 : 0 < n := by omega
              have q1 : (j : Int) + 1 < (n : Int) := by omega
              have q2 : (0 : Int) ≤ (j : Int) + 1 := by omega
              have q3 : ((j : Int) + 1).toNat = j + 1 := by omega
              clear rr hcj hc0 hx0 hy0 hWd y1 y0
              go_wp2_with fail
              refine wp_region_held_drew (S := fun w' => w'.cell? ⟨Bx, 0, none⟩ = some (.slice (some ⟨b, off, none⟩) M cap) ∧ w'.cell? ⟨Br, Ow + r, none⟩ = some (.int .i64 si) ∧ w'.cell? ⟨b, off + si, none⟩ = some (.slice (some ⟨B si, O si, none⟩) W (C si)) ∧ w'.cell? ⟨Bc, Oc + (j + 1), none⟩ = some (.int .i64 cj) ∧ w'.cell? ⟨Bc, Oc, none⟩ = some (.int .i64 c0) ∧ w'.cell? ⟨B si, O si + cj, none⟩ = some (.int .i64 x) ∧ w'.cell? ⟨B si, O si + c0, none⟩ = some (.int .i64 y)) (by kernel_rfl) ⟨(show Ext w4 w5.drew from (by repeat (with_reducible first | assumption | exact Ext.refl _ | refine Ext.drew ?_ | refine Ext.drewN ?_ _ | refine Ext.alloc ?_ _ | (refine Ext.setCell ?_ ?sz _; case sz => (first | (simp; done) | (simp; omega))) | refine Ext.trans ?_ (by assumption)))).cell r1, (show Ext w4 w5.drew from (by repeat (with_reducible first | assumption | exact Ext.refl _ | refine Ext.drew ?_ | refine Ext.drewN ?_ _ | refine Ext.alloc ?_ _ | (refine Ext.setCell ?_ ?sz _; case sz => (first | (simp; done) | (simp; omega))) | refine Ext.trans ?_ (by assumption)))).cell r2, (show Ext w4 w5.drew from (by repeat (with_reducible first | assumption | exact Ext.refl _ | refine Ext.drew ?_ | refine Ext.drewN ?_ _ | refine Ext.alloc ?_ _ | (refine Ext.setCell ?_ ?sz _; case sz => (first | (simp; done) | (simp; omega))) | refine Ext.trans ?_ (by assumption)))).cell r3, (show Ext w4 w5.drew from (by repeat (with_reducible first | assumption | exact Ext.refl _ | refine Ext.drew ?_ | refine Ext.drewN ?_ _ | refine Ext.alloc ?_ _ | (refine Ext.setCell ?_ ?sz _; case sz => (first | (simp; done) | (simp; omega))) | refine Ext.trans ?_ (by assumption)))).cell r4, (show Ext w4 w5.drew from (by repeat (with_reducible first | assumption | exact Ext.refl _ | refine Ext.drew ?_ | refine Ext.drewN ?_ _ | refine Ext.alloc ?_ _ | (refine Ext.setCell ?_ ?sz _; case sz => (first | (simp; done) | (simp; omega))) | refine Ext.trans ?_ (by assumption)))).cell r5, (show Ext w4 w5.drew from (by repeat (with_reducible first | assumption | exact Ext.refl _ | refine Ext.drew ?_ | refine Ext.drewN ?_ _ | refine Ext.alloc ?_ _ | (refine Ext.setCell ?_ ?sz _; case sz => (first | (simp; done) | (simp; omega))) | refine Ext.trans ?_ (by assumption)))).cell r6, (show Ext w4 w5.drew from (by repeat (with_reducible first | assumption | exact Ext.refl _ | refine Ext.drew ?_ | refine Ext.drewN ?_ _ | refine Ext.alloc ?_ _ | (refine Ext.setCell ?_ ?sz _; case sz => (first | (simp; done) | (simp; omega))) | refine Ext.trans ?_ (by assumption)))).cell r7⟩ fun hHeld => ?_
              refine wpAnyH_take (i := 0) (oi := _) (v := ?_) rfl (by kernel_rfl) (by kernel_rfl) (by kernel_rfl) (fun _ _ _ h => h) (Or.inl ⟨by rfl, ?yl⟩) (by assumption) ?_
              case yl => (intro w hSw; (try dsimp only at hSw); (try obtain ⟨k1, k2, k3, k4, k5, k6, k7⟩ := hSw); go_simp); with_reducible rfl
              try simp only [List.getElem_toArray, List.getElem_cons_succ, List.getElem_cons_zero, Act.put, List.setIfInBounds_toArray, List.set_cons_zero, List.set_cons_succ]
              refine wpAnyH_take (i := 1) (oi := _) (v := ?_) rfl (by kernel_rfl) (by kernel_rfl) (by kernel_rfl) (fun _ _ _ h => h) (Or.inl ⟨by rfl, ?yl⟩) (by assumption) ?_
              case yl => (intro w hSw; (try dsimp only at hSw); (try obtain ⟨k1, k2, k3, k4, k5, k6, k7⟩ := hSw); go_simp); with_reducible rfl
              try simp only [List.getElem_toArray, List.getElem_cons_succ, List.getElem_cons_zero, Act.put, List.setIfInBounds_toArray, List.set_cons_zero, List.set_cons_succ]
              refine wpAnyH_take (i := 2) (oi := _) (v := ?_) rfl (by kernel_rfl) (by kernel_rfl) (by kernel_rfl) (fun _ _ _ h => h) (Or.inl ⟨by rfl, ?yl⟩) (by assumption) ?_
              case yl => (intro w hSw; (try dsimp only at hSw); (try obtain ⟨k1, k2, k3, k4, k5, k6, k7⟩ := hSw); go_simp); with_reducible rfl
              try simp only [List.getElem_toArray, List.getElem_cons_succ, List.getElem_cons_zero, Act.put, List.setIfInBounds_toArray, List.set_cons_zero, List.set_cons_succ]
              refine wpAnyH_take (i := 3) (oi := _) (v := ?_) rfl (by kernel_rfl) (by kernel_rfl) (by kernel_rfl) (fun _ _ _ h => h) (Or.inl ⟨by rfl, ?yl⟩) (by assumption) ?_
              case yl => (intro w hSw; (try dsimp only at hSw); (try obtain ⟨k1, k2, k3, k4, k5, k6, k7⟩ := hSw); go_simp); with_reducible rfl
              try simp only [List.getElem_toArray, List.getElem_cons_succ, List.getElem_cons_zero, Act.put, List.setIfInBounds_toArray, List.set_cons_zero, List.set_cons_succ]
              refine wpAnyH_take (i := 4) (oi := _) (v := ?_) rfl (by kernel_rfl) (by kernel_rfl) (by kernel_rfl) (fun _ _ _ h => h) (Or.inl ⟨by rfl, ?yl⟩) (by assumption) ?_
              case yl => (intro w hSw; (try dsimp only at hSw); (try obtain ⟨k1, k2, k3, k4, k5, k6, k7⟩ := hSw); go_simp); with_reducible rfl
              try simp only [List.getElem_toArray, List.getElem_cons_succ, List.getElem_cons_zero, Act.put, List.setIfInBounds_toArray, List.set_cons_zero, List.set_cons_succ]
              refine wpAnyH_take (i := 5) (oi := _) (v := ?_) rfl (by kernel_rfl) (by kernel_rfl) (by kernel_rfl) (fun _ _ _ h => h) (Or.inl ⟨by rfl, ?yl⟩) (by assumption) ?_
              case yl => (intro w hSw; (try dsimp only at hSw); (try obtain ⟨k1, k2, k3, k4, k5, k6, k7⟩ := hSw); go_simp); with_reducible rfl
              try simp only [List.getElem_toArray, List.getElem_cons_succ, List.getElem_cons_zero, Act.put, List.setIfInBounds_toArray, List.set_cons_zero, List.set_cons_succ]
              refine wpAnyH_take (i := 6) (oi := _) (v := ?_) rfl (by kernel_rfl) (by kernel_rfl) (by kernel_rfl) (fun _ _ _ h => h) (Or.inl ⟨by rfl, ?yl⟩) (by assumption) ?_
              case yl => (intro w hSw; (try dsimp only at hSw); (try obtain ⟨k1, k2, k3, k4, k5, k6, k7⟩ := hSw); go_simp); with_reducible rfl
              try simp only [List.getElem_toArray, List.getElem_cons_succ, List.getElem_cons_zero, Act.put, List.setIfInBounds_toArray, List.set_cons_zero, List.set_cons_succ]
              refine wpAnyH_take (i := 7) (oi := _) (v := ?_) rfl (by kernel_rfl) (by kernel_rfl) (by kernel_rfl) (fun _ _ _ h => h) (Or.inl ⟨by rfl, ?yl⟩) (by assumption) ?_
              case yl => (intro w hSw; (try dsimp only at hSw); (try obtain ⟨k1, k2, k3, k4, k5, k6, k7⟩ := hSw); go_simp); with_reducible rfl
              try simp only [List.getElem_toArray, List.getElem_cons_succ, List.getElem_cons_zero, Act.put, List.setIfInBounds_toArray, List.set_cons_zero, List.set_cons_succ]
              refine wpAnyH_take (i := 8) (oi := _) (v := ?_) rfl (by kernel_rfl) (by kernel_rfl) (by kernel_rfl) (fun _ _ _ h => h) (Or.inl ⟨by rfl, ?yl⟩) (by assumption) ?_
              case yl => (intro w hSw; (try dsimp only at hSw); (try obtain ⟨k1, k2, k3, k4, k5, k6, k7⟩ := hSw); go_simp); with_reducible rfl
              try simp only [List.getElem_toArray, List.getElem_cons_succ, List.getElem_cons_zero, Act.put, List.setIfInBounds_toArray, List.set_cons_zero, List.set_cons_succ]
              refine wpAnyH_take (i := 9) (oi := _) (v := ?_) rfl (by kernel_rfl) (by kernel_rfl) (by kernel_rfl) (fun _ _ _ h => h) (Or.inl ⟨by rfl, ?yl⟩) (by assumption) ?_
              case yl => (intro w hSw; (try dsimp only at hSw); (try obtain ⟨k1, k2, k3, k4, k5, k6, k7⟩ := hSw); go_simp); with_reducible rfl
              try simp only [List.getElem_toArray, List.getElem_cons_succ, List.getElem_cons_zero, Act.put, List.setIfInBounds_toArray, List.set_cons_zero, List.set_cons_succ]
              refine wpAnyH_take (i := 10) (oi := _) (v := ?_) rfl (by kernel_rfl) (by kernel_rfl) (by kernel_rfl) (fun _ _ _ h => h) (Or.inl ⟨by rfl, ?yl⟩) (by assumption) ?_
              case yl => (intro w hSw; (try dsimp only at hSw); (try obtain ⟨k1, k2, k3, k4, k5, k6, k7⟩ := hSw); go_simp); with_reducible rfl
              try simp only [List.getElem_toArray, List.getElem_cons_succ, List.getElem_cons_zero, Act.put, List.setIfInBounds_toArray, List.set_cons_zero, List.set_cons_succ]
              refine wpAnyH_take (i := 11) (oi := _) (v := ?_) rfl (by kernel_rfl) (by kernel_rfl) (by kernel_rfl) (fun _ _ _ h => h) (Or.inl ⟨by rfl, ?yl⟩) (by assumption) ?_
              case yl => (intro w hSw; (try dsimp only at hSw); (try obtain ⟨k1, k2, k3, k4, k5, k6, k7⟩ := hSw); go_simp); with_reducible rfl
              try simp only [List.getElem_toArray, List.getElem_cons_succ, List.getElem_cons_zero, Act.put, List.setIfInBounds_toArray, List.set_cons_zero, List.set_cons_succ]
              refine wpAnyH_take (i := 12) (oi := _) (v := ?_) rfl (by kernel_rfl) (by kernel_rfl) (by kernel_rfl) (fun _ _ _ h => h) (Or.inl ⟨by rfl, ?yl⟩) (by assumption) ?_
              case yl => (intro w hSw; (try dsimp only at hSw); (try obtain ⟨k1, k2, k3, k4, k5, k6, k7⟩ := hSw); go_simp); with_reducible rfl
              try simp only [List.getElem_toArray, List.getElem_cons_succ, List.getElem_cons_zero, Act.put, List.setIfInBounds_toArray, List.set_cons_zero, List.set_cons_succ]
              refine wpAnyH_take (i := 13) (oi := _) (v := ?_) rfl (by kernel_rfl) (by kernel_rfl) (by kernel_rfl) (fun _ _ _ h => h) (Or.inl ⟨by rfl, ?yl⟩) (by assumption) ?_
              case yl => (intro w hSw; (try dsimp only at hSw); (try obtain ⟨k1, k2, k3, k4, k5, k6, k7⟩ := hSw); go_simp); with_reducible rfl
              try simp only [List.getElem_toArray, List.getElem_cons_succ, List.getElem_cons_zero, Act.put, List.setIfInBounds_toArray, List.set_cons_zero, List.set_cons_succ]
              refine wpAnyH_take (i := 14) (oi := _) (v := ?_) rfl (by kernel_rfl) (by kernel_rfl) (by kernel_rfl) (fun _ _ _ h => h) (Or.inl ⟨by rfl, ?yl⟩) (by assumption) ?_
              case yl => (intro w hSw; (try dsimp only at hSw); (try obtain ⟨k1, k2, k3, k4, k5, k6, k7⟩ := hSw); go_simp); with_reducible rfl
              try simp only [List.getElem_toArray, List.getElem_cons_succ, List.getElem_cons_zero, Act.put, List.setIfInBounds_toArray, List.set_cons_zero, List.set_cons_succ]
              refine wpAnyH_take (i := 15) (oi := _) (v := ?_) rfl (by kernel_rfl) (by kernel_rfl) (by kernel_rfl) (fun _ _ _ h => h) (Or.inl ⟨by rfl, ?yl⟩) (by assumption) ?_
              case yl => (intro w hSw; (try dsimp only at hSw); (try obtain ⟨k1, k2, k3, k4, k5, k6, k7⟩ := hSw); go_simp); with_reducible rfl
              try simp only [List.getElem_toArray, List.getElem_cons_succ, List.getElem_cons_zero, Act.put, List.setIfInBounds_toArray, List.set_cons_zero, List.set_cons_succ]
              refine wpAnyH_take (i := 16) (oi := _) (v := ?_) rfl (by kernel_rfl) (by kernel_rfl) (by kernel_rfl) (fun _ _ _ h => h) (Or.inl ⟨by rfl, ?yl⟩) (by assumption) ?_
              case yl => (intro w hSw; (try dsimp only at hSw); (try obtain ⟨k1, k2, k3, k4, k5, k6, k7⟩ := hSw); go_simp); with_reducible rfl
              try simp only [List.getElem_toArray, List.getElem_cons_succ, List.getElem_cons_zero, Act.put, List.setIfInBounds_toArray, List.set_cons_zero, List.set_cons_succ]
              refine wpAnyH_take (i := 17) (oi := _) (v := ?_) rfl (by kernel_rfl) (by kernel_rfl) (by kernel_rfl) (fun _ _ _ h => h) (Or.inl ⟨by rfl, ?yl⟩) (by assumption) ?_
              case yl => (intro w hSw; (try dsimp only at hSw); (try obtain ⟨k1, k2, k3, k4, k5, k6, k7⟩ := hSw); go_simp); with_reducible rfl
              try simp only [List.getElem_toArray, List.getElem_cons_succ, List.getElem_cons_zero, Act.put, List.setIfInBounds_toArray, List.set_cons_zero, List.set_cons_succ]
              refine wpAnyH_take (i := 18) (oi := _) (v := ?_) rfl (by kernel_rfl) (by kernel_rfl) (by kernel_rfl) (fun _ _ _ h => h) (Or.inl ⟨by rfl, ?yl⟩) (by assumption) ?_
              case yl => (intro w hSw; (try dsimp only at hSw); (try obtain ⟨k1, k2, k3, k4, k5, k6, k7⟩ := hSw); go_simp); with_reducible rfl
              try simp only [List.getElem_toArray, List.getElem_cons_succ, List.getElem_cons_zero, Act.put, List.setIfInBounds_toArray, List.set_cons_zero, List.set_cons_succ]
              refine wpAnyH_take (i := 19) (oi := _) (v := ?_) rfl (by kernel_rfl) (by kernel_rfl) (by kernel_rfl) (fun _ _ _ h => h) (Or.inl ⟨by rfl, ?yl⟩) (by assumption) ?_
              case yl => (intro w hSw; (try dsimp only at hSw); (try obtain ⟨k1, k2, k3, k4, k5, k6, k7⟩ := hSw); go_simp); with_reducible rfl
              try simp only [List.getElem_toArray, List.getElem_cons_succ, List.getElem_cons_zero, Act.put, List.setIfInBounds_toArray, List.set_cons_zero, List.set_cons_succ]
              refine wpAnyH_take (i := 20) (oi := _) (v := ?_) rfl (by kernel_rfl) (by kernel_rfl) (by kernel_rfl) (fun _ _ _ h => h) (Or.inl ⟨by rfl, ?yl⟩) (by assumption) ?_
              case yl => (intro w hSw; (try dsimp only at hSw); (try obtain ⟨k1, k2, k3, k4, k5, k6, k7⟩ := hSw); go_simp); with_reducible rfl
              try simp only [List.getElem_toArray, List.getElem_cons_succ, List.getElem_cons_zero, Act.put, List.setIfInBounds_toArray, List.set_cons_zero, List.set_cons_succ]
              refine wpAnyH_take (i := 21) (oi := _) (v := ?_) rfl (by kernel_rfl) (by kernel_rfl) (by kernel_rfl) (fun _ _ _ h => h) (Or.inl ⟨by rfl, ?yl⟩) (by assumption) ?_
              case yl => (intro w hSw; (try dsimp only at hSw); (try obtain ⟨k1, k2, k3, k4, k5, k6, k7⟩ := hSw); go_simp); with_reducible rfl
              try simp only [List.getElem_toArray, List.getElem_cons_succ, List.getElem_cons_zero, Act.put, List.setIfInBounds_toArray, List.set_cons_zero, List.set_cons_succ]
              refine wpAnyH_take (i := 22) (oi := _) (v := ?_) rfl (by kernel_rfl) (by kernel_rfl) (by kernel_rfl) (fun _ _ _ h => h) (Or.inl ⟨by rfl, ?yl⟩) (by assumption) ?_
              case yl => (intro w hSw; (try dsimp only at hSw); (try obtain ⟨k1, k2, k3, k4, k5, k6, k7⟩ := hSw); go_simp); with_reducible rfl
              try simp only [List.getElem_toArray, List.getElem_cons_succ, List.getElem_cons_zero, Act.put, List.setIfInBounds_toArray, List.set_cons_zero, List.set_cons_succ]
              refine wpAnyH_take (i := 23) (oi := _) (v := ?_) rfl (by kernel_rfl) (by kernel_rfl) (by kernel_rfl) (fun _ _ _ h => h) (Or.inl ⟨by rfl, ?yl⟩) (by assumption) ?_
              case yl => (intro w hSw; (try dsimp only at hSw); (try obtain ⟨k1, k2, k3, k4, k5, k6, k7⟩ := hSw); go_simp); with_reducible rfl
              try simp only [List.getElem_toArray, List.getElem_cons_succ, List.getElem_cons_zero, Act.put, List.setIfInBounds_toArray, List.set_cons_zero, List.set_cons_succ]
              refine wpAnyH_take (i := 24) (oi := _) (v := ?_) rfl (by kernel_rfl) (by kernel_rfl) (by kernel_rfl) (fun _ _ _ h => h) (Or.inl ⟨by rfl, ?yl⟩) (by assumption) ?_
              case yl => (intro w hSw; (try dsimp only at hSw); (try obtain ⟨k1, k2, k3, k4, k5, k6, k7⟩ := hSw); go_simp); with_reducible rfl
              try simp only [List.getElem_toArray, List.getElem_cons_succ, List.getElem_cons_zero, Act.put, List.setIfInBounds_toArray, List.set_cons_zero, List.set_cons_succ]
              refine wpAnyH_take (i := 25) (oi := _) (v := ?_) rfl (by kernel_rfl) (by kernel_rfl) (by kernel_rfl) (fun _ _ _ h => h) (Or.inl ⟨by rfl, ?yl⟩) (by assumption) ?_
              case yl => (intro w hSw; (try dsimp only at hSw); (try obtain ⟨k1, k2, k3, k4, k5, k6, k7⟩ := hSw); go_simp); with_reducible rfl
              try simp only [List.getElem_toArray, List.getElem_cons_succ, List.getElem_cons_zero, Act.put, List.setIfInBounds_toArray, List.set_cons_zero, List.set_cons_succ]
              refine wpAnyH_take (i := 26) (oi := _) (v := ?_) rfl (by kernel_rfl) (by kernel_rfl) (by kernel_rfl) (fun _ _ _ h => h) (Or.inl ⟨by rfl, ?yl⟩) (by assumption) ?_
              case yl => (intro w hSw; (try dsimp only at hSw); (try obtain ⟨k1, k2, k3, k4, k5, k6, k7⟩ := hSw); go_simp); with_reducible rfl
              try simp only [List.getElem_toArray, List.getElem_cons_succ, List.getElem_cons_zero, Act.put, List.setIfInBounds_toArray, List.set_cons_zero, List.set_cons_succ]
              refine wpAnyH_take (i := 27) (oi := _) (v := ?_) rfl (by kernel_rfl) (by kernel_rfl) (by kernel_rfl) (fun _ _ _ h => h) (Or.inl ⟨by rfl, ?yl⟩) (by assumption) ?_
              case yl => (intro w hSw; (try dsimp only at hSw); (try obtain ⟨k1, k2, k3, k4, k5, k6, k7⟩ := hSw); go_simp); with_reducible rfl
              try simp only [List.getElem_toArray, List.getElem_cons_succ, List.getElem_cons_zero, Act.put, List.setIfInBounds_toArray, List.set_cons_zero, List.set_cons_succ]
              refine wpAnyH_take (i := 28) (oi := _) (v := ?_) rfl (by kernel_rfl) (by kernel_rfl) (by kernel_rfl) (fun _ _ _ h => h) (Or.inl ⟨by rfl, ?yl⟩) (by assumption) ?_
              case yl => (intro w hSw; (try dsimp only at hSw); (try obtain ⟨k1, k2, k3, k4, k5, k6, k7⟩ := hSw); go_simp); with_reducible rfl
              try simp only [List.getElem_toArray, List.getElem_cons_succ, List.getElem_cons_zero, Act.put, List.setIfInBounds_toArray, List.set_cons_zero, List.set_cons_succ]
              refine wpAnyH_ready (rs := [29]) (by kernel_rfl) (by simp) ?_
              refine AllReadyH.cons (o := _) rfl (fun K hK => ?_) AllReadyH.nil
              go_simp
              refine hK.out _ _ ⟨(show Ext w4 _ from (by repeat (with_reducible first | assumption | exact Ext.refl _ | refine Ext.drew ?_ | refine Ext.drewN ?_ _ | refine Ext.alloc ?_ _ | (refine Ext.setCell ?_ ?sz _; case sz => (first | (simp; done) | (simp; omega))) | refine Ext.trans ?_ (by assumption)))).cell r1, (show Ext w4 _ from (by repeat (with_reducible first | assumption | exact Ext.refl _ | refine Ext.drew ?_ | refine Ext.drewN ?_ _ | refine Ext.alloc ?_ _ | (refine Ext.setCell ?_ ?sz _; case sz => (first | (simp; done) | (simp; omega))) | refine Ext.trans ?_ (by assumption)))).cell r2, (show Ext w4 _ from (by repeat (with_reducible first | assumption | exact Ext.refl _ | refine Ext.drew ?_ | refine Ext.drewN ?_ _ | refine Ext.alloc ?_ _ | (refine Ext.setCell ?_ ?sz _; case sz => (first | (simp; done) | (simp; omega))) | refine Ext.trans ?_ (by assumption)))).cell r3, (show Ext w4 _ from (by repeat (with_reducible first | assumption | exact Ext.refl _ | refine Ext.drew ?_ | refine Ext.drewN ?_ _ | refine Ext.alloc ?_ _ | (refine Ext.setCell ?_ ?sz _; case sz => (first | (simp; done) | (simp; omega))) | refine Ext.trans ?_ (by assumption)))).cell r4, (show Ext w4 _ from (by repeat (with_reducible first | assumption | exact Ext.refl _ | refine Ext.drew ?_ | refine Ext.drewN ?_ _ | refine Ext.alloc ?_ _ | (refine Ext.setCell ?_ ?sz _; case sz => (first | (simp; done) | (simp; omega))) | refine Ext.trans ?_ (by assumption)))).cell r5, (show Ext w4 _ from (by repeat (with_reducible first | assumption | exact Ext.refl _ | refine Ext.drew ?_ | refine Ext.drewN ?_ _ | refine Ext.alloc ?_ _ | (refine Ext.setCell ?_ ?sz _; case sz => (first | (simp; done) | (simp; omega))) | refine Ext.trans ?_ (by assumption)))).cell r6, (show Ext w4 _ from (by repeat (with_reducible first | assumption | exact Ext.refl _ | refine Ext.drew ?_ | refine Ext.drewN ?_ _ | refine Ext.alloc ?_ _ | (refine Ext.setCell ?_ ?sz _; case sz => (first | (simp; done) | (simp; omega))) | refine Ext.trans ?_ (by assumption)))).cell r7⟩ (fun hHeld => ?_)
              clear hK K
              refine wpAnyH_ready (rs := [30]) (by kernel_rfl) (by simp) ?_
              refine AllReadyH.cons (o := _) rfl (fun K hK => ?_) AllReadyH.nil
              rw [if_pos (by rfl)]
              refine appK_wp _ _ _ rfl 2 Try.underlying25 elemI64 w4.heap.size (dR (ent t) si c j) [x - y] _ rfl _ _ _ rfl (by rfl) ?b0 ?b1 ?b2 ?b3 ?_
              case b0 => exact ho.out.ext (by repeat (with_reducible first | assumption | exact Ext.refl _ | refine Ext.drew ?_ | refine Ext.drewN ?_ _ | refine Ext.alloc ?_ _ | (refine Ext.setCell ?_ ?sz _; case sz => (first | (simp; done) | (simp; omega))) | refine Ext.trans ?_ (by assumption)))
              case b1 => intro i hi; obtain rfl : i = 0 := by simp at hi; omega
                         exact ⟨_, _, rfl, by simp [go_sem, nth]⟩
              case b2 => have h4 := hn4.out; rw [hlr.out]; simp; omega
              case b3 => have := Ext.size hX.out; simp; omega
              intro b9 cp9 w9 own9 ext9
              have hE9 : Ext w4 w9 := ext9 w4 (by have := hX.out; exact (by repeat (with_reducible first | assumption | exact Ext.refl _ | refine Ext.drew ?_ | refine Ext.drewN ?_ _ | refine Ext.alloc ?_ _ | (refine Ext.setCell ?_ ?sz _; case sz => (first | (simp; done) | (simp; omega))) | refine Ext.trans ?_ (by assumption)))) (Nat.le_refl _)
              simp only [List.length_singleton] at own9 ⊢
              refine hK.out _ _ ⟨(show Ext w4 w9 from (by repeat (with_reducible first | assumption | exact Ext.refl _ | refine Ext.drew ?_ | refine Ext.drewN ?_ _ | refine Ext.alloc ?_ _ | (refine Ext.setCell ?_ ?sz _; case sz => (first | (simp; done) | (simp; omega))) | refine Ext.trans ?_ (by assumption)))).cell r1, (show Ext w4 w9 from (by repeat (with_reducible first | assumption | exact Ext.refl _ | refine Ext.drew ?_ | refine Ext.drewN ?_ _ | refine Ext.alloc ?_ _ | (refine Ext.setCell ?_ ?sz _; case sz => (first | (simp; done) | (simp; omega))) | refine Ext.trans ?_ (by assumption)))).cell r2, (show Ext w4 w9 from (by repeat (with_reducible first | assumption | exact Ext.refl _ | refine Ext.drew ?_ | refine Ext.drewN ?_ _ | refine Ext.alloc ?_ _ | (refine Ext.setCell ?_ ?sz _; case sz => (first | (simp; done) | (simp; omega))) | refine Ext.trans ?_ (by assumption)))).cell r3, (show Ext w4 w9 from (by repeat (with_reducible first | assumption | exact Ext.refl _ | refine Ext.drew ?_ | refine Ext.drewN ?_ _ | refine Ext.alloc ?_ _ | (refine Ext.setCell ?_ ?sz _; case sz => (first | (simp; done) | (simp; omega))) | refine Ext.trans ?_ (by assumption)))).cell r4, (show Ext w4 w9 from (by repeat (with_reducible first | assumption | exact Ext.refl _ | refine Ext.drew ?_ | refine Ext.drewN ?_ _ | refine Ext.alloc ?_ _ | (refine Ext.setCell ?_ ?sz _; case sz => (first | (simp; done) | (simp; omega))) | refine Ext.trans ?_ (by assumption)))).cell r5, (show Ext w4 w9 from (by repeat (with_reducible first | assumption | exact Ext.refl _ | refine Ext.drew ?_ | refine Ext.drewN ?_ _ | refine Ext.alloc ?_ _ | (refine Ext.setCell ?_ ?sz _; case sz => (first | (simp; done) | (simp; omega))) | refine Ext.trans ?_ (by assumption)))).cell r6, (show Ext w4 w9 from (by repeat (with_reducible first | assumption | exact Ext.refl _ | refine Ext.drew ?_ | refine Ext.drewN ?_ _ | refine Ext.alloc ?_ _ | (refine Ext.setCell ?_ ?sz _; case sz => (first | (simp; done) | (simp; omega))) | refine Ext.trans ?_ (by assumption)))).cell r7⟩ (fun hHeld => ?_)
              clear hK K
              try simp only [List.getElem_toArray, List.getElem_cons_succ, List.getElem_cons_zero, Act.put, List.setIfInBounds_toArray, List.set_cons_zero, List.set_cons_succ]
              refine wpAnyH_take (i := 31) (oi := _) (v := ?_) rfl (by kernel_rfl) (by kernel_rfl) (by kernel_rfl) (fun _ _ _ h => h) (Or.inl ⟨by rfl, ?yl⟩) (by assumption) ?_
              case yl => (intro w hSw; (try dsimp only at hSw); (try obtain ⟨k1, k2, k3, k4, k5, k6, k7⟩ := hSw); go_simp); with_reducible rfl
              try simp only [List.getElem_toArray, List.getElem_cons_succ, List.getElem_cons_zero, Act.put, List.setIfInBounds_toArray, List.set_cons_zero, List.set_cons_succ]
              refine wpAnyH_done (by kernel_rfl) ?_ _
              try simp only [List.getElem_toArray, List.getElem_cons_succ, List.getElem_cons_zero, Act.put, List.setIfInBounds_toArray, List.set_cons_zero, List.set_cons_succ]
              clear hHeld
              have hfr := hid own9
              have hfx := hid hE9
              clear own9 ext9 hE9 hXo r1 r2 r3 r4 r5 r6 r7
              have u1 := Go.IntWalk.i64_in ((j : Int) + 1 + 1) (by have h4 := hn4.out; omega)
              go_wp2_with fail
              go_roundw
              case rel => exact ⟨j + 1, by omega, by go_num, hid (by rw [hsr.out]; exact hfr.out), hfx⟩
              case measure => simp [intOf]; omega
            · have hjn : j = n - 1 := by omega
              have hqn : ¬ ((j : Int) + 1 < (n : Int)) := by omega
              rw [hjn] at ho
              obtain ⟨la, lc, rfl, hLI⟩ := ho.out.slice
              have hlcap := hid ho.out.cap.2
              have hlb := hid ho.out.block
              obtain ⟨R, hR⟩ : ∃ R, dR (ent t) si c (n - 1) = R := ⟨_, rfl⟩
              rw [hR] at hlcap hlb hLI hstT ⊢
              have hLI := hid hLI
              have hsz := hid (Ext.size hX.out)
              have s3 := hid (Ext.size hxT.out)
              have hct : Hid ((dX (ent t) s c k r).length ≤ 4) := hid (by rw [dX_len]; have := hn4.out; split <;> omega)
              clear ho hR hjn
              by_cases hrk : r = k
              · have e1 : ((r : Int) == (k : Int)) = true := by rw [beq_iff_eq]; omega
                have e2 : ((r : Int) != (k : Int)) = false := by rw [bne, e1]; rfl
                have hst := hid (hstT.out.trans (if_pos hrk))
                clear hstT hrk
                go_wp2_with fail
                go_roundw
                case rel => exact ⟨r + 1, by omega, by go_num, hid (by rw [hst.out]; exact hoT.out.ext hX.out), hid (hxT.out.trans hX.out)⟩
                case measure => simp [intOf]; omega
              · have e1 : ((r : Int) == (k : Int)) = false := by rw [beq_eq_false_iff_ne]; omega
                have e2 : ((r : Int) != (k : Int)) = true := by rw [bne, e1]; rfl
                have e3 : ¬ (r : Int) = (k : Int) := by omega
                have hst := hid (hstT.out.trans (if_neg hrk))
                clear hstT hrk
                go_wp2_with (at_builtin; refine app_row rfl _ _ _ rfl 25 Try.underlying22 elemRowS w3.heap.size w3.heap.size (dX (ent t) s c k r) u12 rfl _ rfl (hoT.out.ext (by have := hX.out; exact (by repeat (with_reducible first | assumption | exact Ext.refl _ | refine Ext.drew ?_ | refine Ext.drewN ?_ _ | refine Ext.alloc ?_ _ | (refine Ext.setCell ?_ ?sz _; case sz => (first | (simp; done) | (simp; omega))) | refine Ext.trans ?_ (by assumption))))) R la R.length lc rfl ?A4 ?A5 hlcap.out ?A6 ?A7 ?A8 ?_; (case A4 => simp [go_sem]); (case A5 => exact hLI.out.ext (by repeat (with_reducible first | assumption | exact Ext.refl _ | refine Ext.drew ?_ | refine Ext.drewN ?_ _ | refine Ext.alloc ?_ _ | (refine Ext.setCell ?_ ?sz _; case sz => (first | (simp; done) | (simp; omega))) | refine Ext.trans ?_ (by assumption)))); (case A6 => intro bb oo h0 e; subst e; have z1 := (hlb.out bb (by simp [Value.ownBlock])).1; have z3 := s3.out; exact ⟨fun he => by have := (hoT.out.block bb he).2; omega, by omega⟩); (case A7 => have := hct.out; omega); (case A8 => have := hsz.out; have := s3.out; simp; omega); intro b9 cp9 w9 own9 g9 at9 hb9; have hE9 : Hid (Ext w3 w9) := hid (Ext.grown (by have := hX.out; have := hxT.out; exact (by repeat (with_reducible first | assumption | exact Ext.refl _ | refine Ext.drew ?_ | refine Ext.drewN ?_ _ | refine Ext.alloc ?_ _ | (refine Ext.setCell ?_ ?sz _; case sz => (first | (simp; done) | (simp; omega))) | refine Ext.trans ?_ (by assumption)))) g9 (fun g hg => (hoT.out.block g hg).1)); have own9 := hid own9; clear at9 g9 hb9)
                go_roundw
                case rel => exact ⟨r + 1, by omega, by go_num, hid (by rw [hst.out]; exact own9.out), hE9⟩
                case measure => simp [intOf]; omega
        · have hrn : r = n := by omega
          have hqn : ¬ ((r : Int) < (n : Int)) := by omega
          have hend := hid (dX_end (ent t) s c k)
          rw [hn.out] at hend
          rw [hrn, hend.out] at hoT
          obtain ⟨w4, rfl⟩ : ∃ w4 : World, w4 = wr := ⟨_, rfl⟩
          obtain ⟨ta, tc, rfl, hTT⟩ := hoT.out.slice
          have hTT := hid hTT
          have hTl := hid (cutT_len (t := dTab (ent t) s c) (k := k) (by rw [dTab_len, hn.out]; exact hkl))
          rw [dTab_len, hn.out] at hTl
          rw [hTl.out]
          have hrc := hid (dTab_rc hvv.out (s := s) (c := c) (by rw [hn.out, hcn.out]) (by rw [hn.out]; omega))
          rw [hn.out] at hrc
          have hsq := hid (hrc.out.cut (w := k) (by omega))
          have hdet := hid (fun W hW => determinant_any (n - 1) (by have := hn4.out; omega) _ hsq.out ta (n - 1) tc rfl W hW)
          have hbd := hid (det_bd (n - 1) _ hsq.out)
          have hpe := hid (show partE (ent t) s c k = sgn k * detF (n - 1) (cutT (dTab (ent t) s c) k) by unfold partE; rw [hn.out])
          obtain ⟨dd, hdd⟩ : ∃ d, detF (n - 1) (cutT (dTab (ent t) s c) k) = d := ⟨_, rfl⟩
          rw [hdd] at hbd hdet hpe
          have hB : detB (n - 1) ≤ 48000000 := by
            have h4 := hn4.out
            have : n - 1 = 0 ∨ n - 1 = 1 ∨ n - 1 = 2 ∨ n - 1 = 3 := by omega
            rcases this with e | e | e | e <;> rw [e] <;> simp [detB]
          have hsg := hid (sgn_bd k)
          have hss := hid (sgn_step k)
          have hl1 := hid (show loE (ent t) s c (k + 1) = min (loE (ent t) s c k) (partE (ent t) s c k) from rfl)
          have hh1 := hid (show hiE (ent t) s c (k + 1) = max (hiE (ent t) s c k) (partE (ent t) s c k) from rfl)
          have hab := hid (abF_step (ent t) s c k)
          rw [← ab_max] at hab
          obtain ⟨sg, hsg0⟩ : ∃ x, sgn k = x := ⟨_, rfl⟩
          obtain ⟨lo, hlo0⟩ : ∃ x, loE (ent t) s c k = x := ⟨_, rfl⟩
          obtain ⟨hi, hhi0⟩ : ∃ x, hiE (ent t) s c k = x := ⟨_, rfl⟩
          rw [hsg0] at hsg hss hpe ⊢
          rw [hlo0] at hl1 ⊢
          rw [hhi0] at hh1 ⊢
          rw [hpe.out] at hl1 hh1 hab
          have e1 : sg * dd = dd ∨ sg * dd = -dd := by rcases hsg.out with rfl | rfl <;> omega
          have z1 := Go.IntWalk.i64_in (sg * dd) (by have := hbd.out; omega)
          have z4 := Go.IntWalk.i64_in (-(sg * dd)) (by have := hbd.out; omega)
          have z2 := Go.IntWalk.i64_in (-sg) (by have := hsg.out; omega)
          have z3 := Go.IntWalk.i64_in ((k : Int) + 1) (by have := hn4.out; omega)
          have hEw := hid (hxw.out.trans hxT.out)
          have p0 := hEw.out.cell (HR.out k hkl)
          have hs2 := hsl.out k hkl
          obtain ⟨sk, hsk⟩ : ∃ x, s.getD k 0 = x := ⟨_, rfl⟩
          rw [hsk] at p0 hs2 hab
          replace hdd := hid hdd
          replace hsg0 := hid hsg0
          replace hsk := hid hsk
          replace hlo0 := hid hlo0
          replace hhi0 := hid hhi0
          clear e1 hB hrn hoT
          go_wp2_with (first | (go_at_call 117; refine (hdet.out _ (hTT.out.ext (by repeat (with_reducible first | assumption | exact Ext.refl _ | refine Ext.drew ?_ | refine Ext.drewN ?_ _ | refine Ext.alloc ?_ _ | (refine Ext.setCell ?_ ?sz _; case sz => (first | (simp; done) | (simp; omega))) | refine Ext.trans ?_ (by assumption))))).mono ?_; rintro e w6 ⟨rfl, hE6⟩; have hO6 := hid ((hO.out.ext hxT.out).ext (show Ext w4 w6 from (by repeat (with_reducible first | assumption | exact Ext.refl _ | refine Ext.drew ?_ | refine Ext.drewN ?_ _ | refine Ext.alloc ?_ _ | (refine Ext.setCell ?_ ?sz _; case sz => (first | (simp; done) | (simp; omega))) | refine Ext.trans ?_ (by assumption))))); have p0 := (show Ext w4 w6 from (by repeat (with_reducible first | assumption | exact Ext.refl _ | refine Ext.drew ?_ | refine Ext.drewN ?_ _ | refine Ext.alloc ?_ _ | (refine Ext.setCell ?_ ?sz _; case sz => (first | (simp; done) | (simp; omega))) | refine Ext.trans ?_ (by assumption)))).cell p0; obtain ⟨q2, q3, -, q4⟩ := hO6.out.facts (j := sk) (by rw [mkL_len]; exact hs2)))
          have h2 := OwnI.set (l := mkL M (abF (ent t) s c k)) (by rw [mkL_len]; exact hO6.out) (i := sk) (if sg * dd < -(sg * dd) then -(sg * dd) else sg * dd)
          rw [mkL_set, mkL_len, maxIf, hab.out] at h2
          have h2 := hid h2
          rw [minIf, maxIf, maxIf]
          go_roundw
          case rel => exact ⟨k + 1, by omega, by go_num, by rw [hss.out], by rw [hl1.out], by rw [hh1.out], h2, hid (by have := hx.out; have := hxT.out; have := hgq.out; exact (show Ext wm w6 from (by repeat (with_reducible first | assumption | exact Ext.refl _ | refine Ext.drew ?_ | refine Ext.drewN ?_ _ | refine Ext.alloc ?_ _ | (refine Ext.setCell ?_ ?sz _; case sz => (first | (simp; done) | (simp; omega))) | refine Ext.trans ?_ (by assumption)))).setCell (by simp; omega) _), hid (by have := hEw.out; have := hgs.out; exact (show Ext w w6 from (by repeat (with_reducible first | assumption | exact Ext.refl _ | refine Ext.drew ?_ | refine Ext.drewN ?_ _ | refine Ext.alloc ?_ _ | (refine Ext.setCell ?_ ?sz _; case sz => (first | (simp; done) | (simp; omega))) | refine Ext.trans ?_ (by assumption)))).setCell (by simpa using hgs.out) _), hid (by rw [World.cell?_setCell_far _ _ _ _ (by simp; have := hg.out; have := hBx.out; omega)]; exact (show Ext w4 w6 from (by repeat (with_reducible first | assumption | exact Ext.refl _ | refine Ext.drew ?_ | refine Ext.drewN ?_ _ | refine Ext.alloc ?_ _ | (refine Ext.setCell ?_ ?sz _; case sz => (first | (simp; done) | (simp; omega))) | refine Ext.trans ?_ (by assumption)))).cell (hxT.out.cell hD.out))⟩
          case measure => simp [intOf]; omega
    · have hkn : k = n := by omega
      have hqn : ¬ ((k : Int) < (n : Int)) := by omega
      rw [hkn] at hO ⊢
      rw [mkL_congr (fun r _ => hae.out r)] at hO
      have hls := (lo_spec (ent t) s c n).1
      have hhs := (hi_spec (ent t) s c n).1
      obtain ⟨lo, hlo⟩ : ∃ x, loE (ent t) s c n = x := ⟨_, rfl⟩
      obtain ⟨hi, hhi⟩ : ∃ x, hiE (ent t) s c n = x := ⟨_, rfl⟩
      rw [hlo, hhi] at hni2
      rw [hlo] at hls ⊢
      rw [hhi] at hhs ⊢
      have hqk : ¬ ((n : Int) < (n : Int)) := by omega
      obtain ⟨ok, hok⟩ : ∃ x, okE (ent t) s c M = x := ⟨_, rfl⟩
      rw [hok] at hni2
      replace hok := hid hok
      clear hkn hlo hhi hDc xw hx5 ho5
      by_cases h1 : lo < 0
      · by_cases h2 : 0 < hi
        · have hf := hni2.out.1 (.inl ⟨h1, h2⟩)
          subst hf
          replace hni2 := hid hni2
          go_wp2_with fail
          go_ret
          exact .inl ⟨hok.out, rfl, hxw.out⟩
        · have h0 : hi = 0 := by omega
          subst h0
          have ht : ok = true := by
            cases ok
            · have := hni2.out.2 rfl; omega
            · rfl
          subst ht
          have n1 : ¬ lo = 0 := by omega
          have n2 : (lo == 0) = false := by rw [beq_eq_false_iff_ne]; omega
          clear hni2 h2
          go_wp2_with fail
          go_ret
          exact .inr ⟨hok.out, g, rfl, hO.out.mono hgs.out, hxw.out⟩
      · have h0 : lo = 0 := by omega
        subst h0
        by_cases h2 : 0 < hi
        · have ht : ok = true := by
            cases ok
            · have := hni2.out.2 rfl; omega
            · rfl
          subst ht
          have n1 : ¬ hi = 0 := by omega
          have n2 : (hi == 0) = false := by rw [beq_eq_false_iff_ne]; omega
          clear hni2 h1
          go_wp2_with fail
          go_ret
          exact .inr ⟨hok.out, g, rfl, hO.out.mono hgs.out, hxw.out⟩
        · have h0 : hi = 0 := by omega
          subst h0
          have hf := hni2.out.1 (.inr ⟨rfl, rfl⟩)
          subst hf
          clear hni2
          go_wp2_with fail
          go_ret
          exact .inl ⟨hok.out, rfl, hxw.out⟩

end Go.Proofs.Ytommhgcgaclflaa
