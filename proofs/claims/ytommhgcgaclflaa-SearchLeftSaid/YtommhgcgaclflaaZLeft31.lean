/- Texts of one proof, laid together: Par, Mor, Lft, Rev, UA, UF, UG. -/
import Derived.Test.YtommhgcgaclflaaZB17
import Derived.Test.YtommhgcgaclflaaZB6
import Derived.Test.YtommhgcgaclflaaZB15
import Derived.Test.YtommhgcgaclflaaZB7
import Derived.Test.YtommhgcgaclflaaSR
import Derived.Test.YtommhgcgaclflaaZB12
namespace Go.Proofs.Ytommhgcgaclflaa
set_option linter.unusedVariables false
set_option linter.unusedSimpArgs false
set_option linter.unusedSectionVars false
set_option linter.unnecessarySimpa false
open Go Go.RowKit Game

def prow (t : List (List Int)) (r : Nat) (C : List Nat) : Nat → List Int
 | 0 => []
 | k + 1 => prow t r C k ++ [ent t r (C.getD k 0)]
theorem prow_len (t : List (List Int)) (r : Nat) (C : List Nat) (n : Nat) : (prow t r C n).length = n := by induction n <;> simp [prow, *]
theorem prow_nth (t : List (List Int)) (r : Nat) (C : List Nat) : ∀ n k, k < n → nth (prow t r C n) k = ent t r (C.getD k 0)
 | 0, k, h => by omega
 | n + 1, k, h => by
  have hl := prow_len t r C n
  unfold prow
  by_cases e : k < n
  ·rw [nth_append_left (by omega)]; exact prow_nth t r C n k e
  ·obtain rfl : k = n := by omega
   rw [nth_append_right (by omega), hl, Nat.sub_self]; simp [nth]
def ptabN (t : List (List Int)) (R C : List Nat) : Nat → List (List Int)
 | 0 => []
 | k + 1 => ptabN t R C k ++ [prow t (R.getD k 0) C C.length]
theorem ptabN_len (t : List (List Int)) (R C : List Nat) (n : Nat) : (ptabN t R C n).length = n := by induction n <;> simp [ptabN, *]
theorem ptabN_row (t : List (List Int)) (R C : List Nat) : ∀ n k, k < n → row (ptabN t R C n) k = prow t (R.getD k 0) C C.length
 | 0, k, h => by omega
 | n + 1, k, h => by
  have hl := ptabN_len t R C n
  unfold ptabN
  by_cases e : k < n
  ·rw [row_append_left (by omega)]; exact ptabN_row t R C n k e
  ·obtain rfl : k = n := by omega
   rw [row_append_right (by omega), hl, Nat.sub_self]; rfl
def ptab (t : List (List Int)) (R C : List Nat) : List (List Int) := ptabN t R C R.length
theorem ptab_len (t : List (List Int)) (R C : List Nat) : (ptab t R C).length = R.length := ptabN_len t R C _
theorem ptab_row {t : List (List Int)} {R C : List Nat} {i : Nat} (h : i < R.length) : row (ptab t R C) i = prow t (R.getD i 0) C C.length := ptabN_row t R C _ i h
theorem ptab_ent {t : List (List Int)} {R C : List Nat} {i k : Nat} (h : i < R.length) (hk : k < C.length) : ent (ptab t R C) i k = ent t (R.getD i 0) (C.getD k 0) := by
 unfold ent; rw [ptab_row h]; exact prow_nth t _ C _ k hk
theorem ptab_wid {t : List (List Int)} {R C : List Nat} (h : 0 < R.length) : wid (ptab t R C) = C.length := by
 unfold wid; rw [ptab_row h, prow_len]
theorem ptab_out {t : List (List Int)} {R C : List Nat} {i k : Nat} (h : ¬ (i < R.length ∧ k < C.length)) : ent (ptab t R C) i k = 0 := by
 unfold ent
 by_cases g : i < R.length
 ·rw [ptab_row g, nth_ge (by rw [prow_len]; omega)]
 ·rw [row_ge (by rw [ptab_len]; omega)]; simp [nth]
theorem ptab_vld {t : List (List Int)} (v : VldT t) {R C : List Nat} (r1 : 1 ≤ R.length) (r4 : R.length ≤ 4) (c1 : 1 ≤ C.length) (c4 : C.length ≤ 4) : VldT (ptab t R C) := by
 have hw : wid (ptab t R C) = C.length := ptab_wid (by omega)
 refine ⟨by rw [ptab_len]; omega, by rw [ptab_len]; omega, by omega, by omega, fun i hi => ?_, fun i k => ?_, fun i k => ?_⟩
 ·rw [ptab_len] at hi; rw [hw, ptab_row hi, prow_len]
 ·by_cases g : i < R.length ∧ k < C.length
  ·rw [ptab_ent g.1 g.2]; exact v.lo _ _
  ·rw [ptab_out g]; omega
 ·by_cases g : i < R.length ∧ k < C.length
  ·rw [ptab_ent g.1 g.2]; exact v.hi _ _
  ·rw [ptab_out g]; omega
theorem getD_lt {l : List Nat} {m i : Nat} (hb : ∀ x ∈ l, x < m) (h : i < l.length) : l.getD i 0 < m := hb _ (by rw [List.getD_eq_getElem?_getD, List.getElem?_eq_getElem h]; exact List.getElem_mem h)
theorem turn_ptab {t : List (List Int)} {R C : List Nat} (r1 : 1 ≤ R.length) (hR : ∀ x ∈ R, x < t.length) (hC : ∀ x ∈ C, x < wid t) : turn (ptab t R C) = ptab (turn t) C R := by
 have hw : wid (ptab t R C) = C.length := ptab_wid (by omega)
 refine row_ext (by rw [turn_len, hw, ptab_len]) fun k hk => ?_
 rw [turn_len, hw] at hk
 rw [turn_row (by rw [hw]; exact hk), ptab_row hk]
 refine nth_ext (by rw [colN_len, prow_len, ptab_len]) fun i hi => ?_
 rw [colN_len, ptab_len] at hi
 rw [colN_nth _ _ _ _ (by rw [ptab_len]; exact hi), prow_nth _ _ _ _ _ hi, ptab_ent hi hk, turn_ent (getD_lt hC hk) (getD_lt hR hi)]
theorem ss_lt {l : List Nat} (h : l.Pairwise (· < ·)) {i j : Nat} (hi : i < j) (hj : j < l.length) : l.getD i 0 < l.getD j 0 := by
 rw [List.getD_eq_getElem?_getD, List.getD_eq_getElem?_getD, List.getElem?_eq_getElem hj, List.getElem?_eq_getElem (by omega)]
 exact List.pairwise_iff_getElem.1 h i j (by omega) hj hi
theorem range_getD {n k : Nat} (h : k < n) : (List.range n).getD k 0 = k := by simp [List.getD_eq_getElem?_getD, h]
theorem btn_ptab {t : List (List Int)} {R C : List Nat} (hs : R.Pairwise (· < ·)) {i o : Nat} (hi : i < R.length) (ho : o < R.length) :
 btn (ptab t R C) (List.range C.length) i o = btn t C (R.getD i 0) (R.getD o 0) := by
 unfold btn
 have e1 : geTo (ptab t R C) i o (List.range C.length) (List.range C.length).length = geTo t (R.getD i 0) (R.getD o 0) C C.length := by
  rw [Bool.eq_iff_iff, geTo_iff, geTo_iff, List.length_range]
  constructor
  ·intro h k hk
   have := h k hk
   rwa [range_getD hk, ptab_ent hi hk, ptab_ent ho hk] at this
  ·intro h k hk
   have := h k hk
   rwa [range_getD hk, ptab_ent hi hk, ptab_ent ho hk]
 have e3 : decide (o < i) = decide (R.getD o 0 < R.getD i 0) := by
  rw [decide_eq_decide]
  constructor
  ·intro h; exact ss_lt hs h hi
  ·intro h
   rcases Nat.lt_trichotomy o i with g | g | g
   ·exact g
   ·subst g; omega
   ·have := ss_lt hs g ho; omega
 have e4 : decide (o ≠ i) = decide (R.getD o 0 ≠ R.getD i 0) := by
  rw [decide_eq_decide]
  constructor
  ·intro h
   rcases Nat.lt_or_gt_of_ne h with g | g
   ·have := ss_lt hs g hi; omega
   ·have := ss_lt hs g ho; omega
  ·intro h e; subst e; exact h rfl
 have e2 : mrTo (ptab t R C) i o (List.range C.length) (decide (o < i)) (List.range C.length).length = mrTo t (R.getD i 0) (R.getD o 0) C (decide (R.getD o 0 < R.getD i 0)) C.length := by
  rw [← e3, Bool.eq_iff_iff, mrTo_iff, mrTo_iff, List.length_range]
  constructor
  ·rintro (h | ⟨k, hk, h⟩)
   ·exact .inl h
   ·rw [range_getD hk, ptab_ent hi hk, ptab_ent ho hk] at h; exact .inr ⟨k, hk, h⟩
  ·rintro (h | ⟨k, hk, h⟩)
   ·exact .inl h
   ·exact .inr ⟨k, hk, by rw [range_getD hk, ptab_ent hi hk, ptab_ent ho hk]; exact h⟩
 rw [e1, e2, e4]
theorem list_range {R : List Nat} : R = (List.range R.length).map fun i => R.getD i 0 := by
 refine List.ext_getElem (by simp) fun i h1 h2 => ?_
 simp [List.getD_eq_getElem?_getD, h1]
theorem spB_ptab {t : List (List Int)} {R C : List Nat} (hs : R.Pairwise (· < ·)) {i : Nat} (hi : i < R.length) :
 spB (ptab t R C) (List.range R.length) (List.range C.length) i = spB t R C (R.getD i 0) := by
 unfold spB
 rw [Bool.eq_iff_iff, List.any_eq_true, List.any_eq_true]
 constructor
 ·rintro ⟨o, ho, h⟩
  rw [List.mem_range] at ho
  rw [btn_ptab hs hi ho] at h
  exact ⟨_, by rw [List.getD_eq_getElem?_getD, List.getElem?_eq_getElem ho]; exact List.getElem_mem ho, h⟩
 ·rintro ⟨x, hx, h⟩
  obtain ⟨o, ho, rfl⟩ := List.getElem_of_mem hx
  refine ⟨o, List.mem_range.2 ho, ?_⟩
  rw [btn_ptab hs hi ho]
  rwa [List.getD_eq_getElem?_getD (l := R) (i := o), List.getElem?_eq_getElem ho]
def spI (s : List (List Int)) : Nat := (List.range s.length).findIdx (spB s (List.range s.length) (List.range (wid s)))
theorem findIdx_congr {f g : Nat → Bool} {l : List Nat} (h : ∀ x ∈ l, f x = g x) : l.findIdx f = l.findIdx g := by
 induction l with
 | nil => rfl
 | cons a l ih =>
  rw [List.findIdx_cons, List.findIdx_cons, h a (by simp), ih fun x hx => h x (by simp [hx])]
theorem spI_ptab {t : List (List Int)} {R C : List Nat} (r1 : 1 ≤ R.length) (hs : R.Pairwise (· < ·)) : spI (ptab t R C) = R.findIdx (spB t R C) := by
 unfold spI
 rw [ptab_len, ptab_wid (by omega)]
 conv => rhs; rw [list_range (R := R)]
 rw [List.findIdx_map, ← list_range]
 exact findIdx_congr fun i hi => spB_ptab hs (List.mem_range.1 hi)

end Go.Proofs.Ytommhgcgaclflaa
namespace Go.Proofs.Ytommhgcgaclflaa
set_option linter.unusedVariables false
set_option linter.unusedSimpArgs false
set_option linter.unusedSectionVars false
set_option linter.unnecessarySimpa false
open Go Go.RowKit Game

theorem leF_trans {a b c : Int × Int} (ha : 0 < a.2) (hb : 0 < b.2) (hc : 0 < c.2) (h : leF a b) (k : leF b c) : leF a c := ratio_trans hb ha hc h k
theorem val_mono {t x : List (List Int)} (v : VldT t) (vx : VldT x) (h : ∀ p, Pln t p → ∃ q, Pln x q ∧ leF (suP t p) (suP x q)) : leF (val t) (val x) := by
 obtain ⟨q, h1, h2⟩ := h _ (bestL_vld v).pln
 rw [bestL_su v] at h2
 exact leF_trans (val_pos v) (su_pos h1.ps) (val_pos vx) h2 (val_le vx h1)
theorem val_up {t x : List (List Int)} (v : VldT t) (vx : VldT x) (hl : x.length = t.length) (f : Nat → Nat) (hf : ∀ k, k < wid x → f k < wid t) (he : ∀ i k, i < t.length → k < wid x → ent t i (f k) ≤ ent x i k) : leF (val t) (val x) := by
 refine val_mono v vx fun p hp => ⟨p, ⟨hp.len.trans hl.symm, hp.nn, hp.ps⟩, ?_⟩
 rw [su_le hp.ps hp.ps]
 refine Int.mul_le_mul_of_nonneg_right ?_ (by have := hp.ps; omega)
 unfold lst_
 obtain ⟨k, hk, e⟩ := mnTo_at (agn x p) (n := wid x) (by have := vx.n1; omega)
 rw [← e]
 have h1 := mnTo_le (f := agn t p) (hf k hk)
 refine Int.le_trans h1 ?_
 unfold agn ag
 refine sm_le fun i hi => ?_
 rw [hp.len] at hi
 exact Int.mul_le_mul_of_nonneg_left (he i k hi hk) (hp.nn i)
theorem val_row {t x : List (List Int)} (v : VldT t) (vx : VldT x) {i : Nat} (hl : x.length + 1 = t.length) (hi : i ≤ x.length) (hw : wid x = wid t) (he : ∀ j k, j < x.length → k < wid x → ent x j k = ent t (sk i j) k) : leF (val x) (val t) := by
 refine val_mono vx v fun q hq => ?_
 have hsk : ∀ j, j < x.length → sk i j < t.length ∧ sk i j ≠ i := fun j hj => by unfold sk; split <;> omega
 let g : Nat → Int := fun j => if j = i then 0 else if j < i then nth q j else nth q (j - 1)
 have hg : ∀ j, g (sk i j) = nth q j := fun j => by
  show (if sk i j = i then 0 else if sk i j < i then nth q (sk i j) else nth q (sk i j - 1)) = _
  unfold sk
  by_cases h : j < i
  ·rw [if_pos h, if_neg (by omega), if_pos h]
  ·rw [if_neg h, if_neg (by omega), if_neg (by omega)]; congr 1
 have hgi : g i = 0 := if_pos rfl
 have hs : ∀ A : Nat → Int, sm t.length (fun j => nth (mkL t.length g) j * A j) = sm x.length fun j => nth q j * A (sk i j) := fun A => by
  rw [← hl, sm_ins _ hi, mkL_nth _ (by omega), hgi, Int.zero_mul, Int.zero_add]
  refine sm_congr fun j hj => ?_
  have h1 := (hsk j hj).1
  rw [mkL_nth _ (by omega), hg j]
 have hps : psum (mkL t.length g) = psum q := by
  unfold psum
  rw [mkL_len, hq.len]
  have := hs fun _ => 1
  simp only [Int.mul_one] at this
  exact this
 have hag : ∀ k, k < wid x → agn t (mkL t.length g) k = agn x q k := fun k hk => by
  unfold agn ag
  rw [mkL_len, hq.len, hs fun j => ent t j k]
  exact sm_congr fun j hj => by rw [he j k hj hk]
 have hpl : Pln t (mkL t.length g) := by
  refine ⟨mkL_len _ _, fun j => ?_, by rw [hps]; exact hq.ps⟩
  rcases Nat.lt_or_ge j t.length with h | h
  ·rw [mkL_nth _ h]
   show 0 ≤ (if j = i then 0 else if j < i then nth q j else nth q (j - 1))
   split
   ·omega
   ·split <;> exact hq.nn _
  ·rw [nth_ge (by rw [mkL_len]; exact h)]; omega
 refine ⟨_, hpl, ?_⟩
 rw [su_le hq.ps hpl.ps, hps]
 have : lst_ t (mkL t.length g) = lst_ x q := by
  unfold lst_
  rw [hw]
  exact mnTo_congr (by have := v.n1; omega) fun k hk => hag k (by rw [hw]; exact hk)
 rw [this]; exact Int.le_refl _

end Go.Proofs.Ytommhgcgaclflaa
namespace Go.Proofs.Ytommhgcgaclflaa
set_option linter.unusedVariables false
set_option linter.unusedSimpArgs false
set_option linter.unusedSectionVars false
set_option linter.unnecessarySimpa false
open Go Go.RowKit Game

theorem val_drop {t x : List (List Int)} (v : VldT t) (vx : VldT x) {i : Nat} (hl : x.length + 1 = t.length) (hi : i ≤ x.length) (hw : wid x = wid t) (he : ∀ j k, j < x.length → k < wid x → ent x j k = ent t (sk i j) k)
 {o : Nat} (ho : o < x.length) (hd : ∀ k, k < wid t → ent t i k ≤ ent x o k) : leF (val t) (val x) := by
 refine val_mono v vx fun p hp => ?_
 let g : Nat → Int := fun j => nth p (sk i j) + if j = o then nth p i else 0
 have hs : ∀ A : Nat → Int, sm x.length (fun j => nth (mkL x.length g) j * A j) = sm x.length (fun j => nth p (sk i j) * A j) + nth p i * A o := fun A => by
  have e1 : sm x.length (fun j => nth (mkL x.length g) j * A j) = sm x.length fun j => nth p (sk i j) * A j + (if j = o then nth p i * A j else 0) := sm_congr fun j hj => by
   rw [mkL_nth _ hj]
   show (nth p (sk i j) + if j = o then nth p i else 0) * A j = _
   split <;> grind
  have e2 : sm x.length (fun j => if j = o then nth p i * A j else 0) = nth p i * A o := by
   rw [sm_split _ ho, sm_zero]
   ·rw [if_pos rfl]; omega
   ·intro j _
    by_cases e : j = o
    ·rw [if_pos e]
    ·rw [if_neg e, if_neg e]
  rw [e1, sm_add, e2]
 have hps : psum (mkL x.length g) = psum p := by
  have h1 := hs fun _ => 1
  simp only [Int.mul_one] at h1
  unfold psum
  rw [mkL_len, h1, hp.len, ← hl, sm_ins _ hi]
  omega
 have hnn : ∀ j, 0 ≤ nth (mkL x.length g) j := fun j => by
  rcases Nat.lt_or_ge j x.length with h | h
  ·rw [mkL_nth _ h]
   show 0 ≤ nth p (sk i j) + if j = o then nth p i else 0
   have h1 := hp.nn (sk i j)
   have h2 := hp.nn i
   split <;> omega
  ·rw [nth_ge (by rw [mkL_len]; exact h)]; omega
 refine ⟨mkL x.length g, ⟨mkL_len _ _, hnn, by rw [hps]; exact hp.ps⟩, ?_⟩
 rw [su_le hp.ps (by rw [hps]; exact hp.ps), hps]
 refine Int.mul_le_mul_of_nonneg_right ?_ (by have := hp.ps; omega)
 unfold lst_
 obtain ⟨k, hk, e⟩ := mnTo_at (agn x (mkL x.length g)) (n := wid x) (by have := vx.n1; omega)
 rw [← e]
 refine Int.le_trans (mnTo_le (f := agn t p) (hw ▸ hk)) ?_
 unfold agn ag
 rw [mkL_len, hs fun j => ent x j k, hp.len, ← hl, sm_ins _ hi]
 have h1 : sm x.length (fun j => nth p (sk i j) * ent x j k) = sm x.length fun j => nth p (sk i j) * ent t (sk i j) k := sm_congr fun j hj => by rw [he j k hj hk]
 rw [h1]
 have h2 := Int.mul_le_mul_of_nonneg_left (hd k (hw ▸ hk)) (hp.nn i)
 omega
theorem val_anti2 {t s : List (List Int)} (v : VldT t) (vs : VldT s) (h : leF (val t) (val s)) (k : leF (val s) (val t)) : val t = val s := by
 rw [← bestL_su v, ← bestL_su vs] at h k ⊢
 exact leF_anti (bestL_vld v).ps (bestL_vld vs).ps h k
theorem cutN_sk {l : List Nat} {p : Nat} (h : p < l.length) (j : Nat) : (cutN l p).getD j 0 = l.getD (sk p j) 0 := by
 rw [cutN_at h]; unfold sk; split <;> rfl
theorem spare_by {t : List (List Int)} {R C : List Nat} (h : R.findIdx (spB t R C) < R.length) :
 ∃ o, o < (cutN R (R.findIdx (spB t R C))).length ∧ ∀ k, k < C.length → ent t (R.getD (R.findIdx (spB t R C)) 0) (C.getD k 0) ≤ ent t ((cutN R (R.findIdx (spB t R C))).getD o 0) (C.getD k 0) := by
 have h1 := (findIdx_at h).1
 generalize R.findIdx (spB t R C) = p at *
 unfold spB at h1
 rw [List.any_eq_true] at h1
 obtain ⟨x, hx, hb⟩ := h1
 unfold btn at hb
 simp only [Bool.and_eq_true, decide_eq_true_eq] at hb
 obtain ⟨i, hi, e⟩ := List.getElem_of_mem hx
 have e2 : R.getD i 0 = x := by rw [List.getD_eq_getElem?_getD, List.getElem?_eq_getElem hi]; exact e
 have hne : i ≠ p := fun e3 => hb.2 (by rw [← e2, e3])
 rw [cutN_len h]
 have hg := geTo_iff.1 hb.1.1
 rcases Nat.lt_or_gt_of_ne hne with g | g
 ·refine ⟨i, by omega, fun k hk => ?_⟩
  rw [cutN_sk h, show sk p i = i by unfold sk; rw [if_pos g], e2]
  exact hg k hk
 ·refine ⟨i - 1, by omega, fun k hk => ?_⟩
  rw [cutN_sk h, show sk p (i - 1) = i by unfold sk; rw [if_neg (by omega)]; omega, e2]
  exact hg k hk
theorem cut_len1 {t : List (List Int)} {R C : List Nat} (h : R.findIdx (spB t R C) < R.length) : 1 ≤ (cutN R (R.findIdx (spB t R C))).length := by
 have h1 := (findIdx_at h).1
 have hr : R.getD (R.findIdx (spB t R C)) 0 ∈ R := getD_mem h
 rw [cutN_len h]
 generalize R.getD (R.findIdx (spB t R C)) 0 = r at h1 hr
 unfold spB at h1
 rw [List.any_eq_true] at h1
 obtain ⟨o, ho, hb⟩ := h1
 unfold btn at hb
 simp only [Bool.and_eq_true, decide_eq_true_eq] at hb
 rcases Nat.lt_or_ge 1 R.length with g | g
 ·omega
 ·exfalso
  have hl : R.length = 1 := by omega
  obtain ⟨x, hx⟩ := List.length_eq_one_iff.1 hl
  rw [hx, List.mem_singleton] at ho hr
  exact hb.2 (by rw [ho, hr])
structure LP (t : List (List Int)) (R C : List Nat) : Prop where
 v : VldT t
 r1 : 1 ≤ R.length
 r4 : R.length ≤ 4
 c1 : 1 ≤ C.length
 c4 : C.length ≤ 4
 rb : ∀ x ∈ R, x < t.length
 cb : ∀ x ∈ C, x < wid t
theorem LP.vld {t : List (List Int)} {R C : List Nat} (h : LP t R C) : VldT (ptab t R C) := ptab_vld h.v h.r1 h.r4 h.c1 h.c4
theorem LP.wd {t : List (List Int)} {R C : List Nat} (h : LP t R C) : wid (ptab t R C) = C.length := ptab_wid (by have := h.r1; omega)
theorem LP.turn {t : List (List Int)} {R C : List Nat} (h : LP t R C) : LP (Go.Proofs.Ytommhgcgaclflaa.turn t) C R :=
 ⟨turn_vld h.v, h.c1, h.c4, h.r1, h.r4, fun x hx => by rw [turn_len]; exact h.cb x hx, fun x hx => by rw [turn_wid (by have := h.v.n1; omega)]; exact h.rb x hx⟩
theorem LP.tt {t : List (List Int)} {R C : List Nat} (h : LP t R C) : Go.Proofs.Ytommhgcgaclflaa.turn (ptab t R C) = ptab (Go.Proofs.Ytommhgcgaclflaa.turn t) C R := turn_ptab h.r1 h.rb h.cb
theorem LP.cut {t : List (List Int)} {R C : List Nat} (h : LP t R C) (g : R.findIdx (spB t R C) < R.length) : LP t (cutN R (R.findIdx (spB t R C))) C :=
 ⟨h.v, cut_len1 g, by have := h.r4; rw [cutN_len g]; omega, h.c1, h.c4, fun x hx => h.rb x (cutN_mem hx), h.cb⟩
theorem LP.ent {t : List (List Int)} {R C : List Nat} (h : LP t R C) (g : R.findIdx (spB t R C) < R.length) {j k : Nat} (hj : j < (cutN R (R.findIdx (spB t R C))).length) (hk : k < C.length) :
 Go.Proofs.Ytommhgcgaclflaa.ent (ptab t (cutN R (R.findIdx (spB t R C))) C) j k = Go.Proofs.Ytommhgcgaclflaa.ent (ptab t R C) (sk (R.findIdx (spB t R C)) j) k := by
 have hj2 := hj
 rw [cutN_len g] at hj2
 rw [ptab_ent hj hk, ptab_ent (by unfold sk; split <;> omega) hk, cutN_sk g]
theorem LP.val {t : List (List Int)} {R C : List Nat} (h : LP t R C) (g : R.findIdx (spB t R C) < R.length) :
 Go.Proofs.Ytommhgcgaclflaa.val (ptab t (cutN R (R.findIdx (spB t R C))) C) = Go.Proofs.Ytommhgcgaclflaa.val (ptab t R C) := by
 have h2 := h.cut g
 have l1 := cutN_len g
 have hx : (ptab t (cutN R (R.findIdx (spB t R C))) C).length + 1 = (ptab t R C).length := by rw [ptab_len, ptab_len, l1]; omega
 have hp : R.findIdx (spB t R C) ≤ (ptab t (cutN R (R.findIdx (spB t R C))) C).length := by rw [ptab_len, l1]; omega
 have hw : wid (ptab t (cutN R (R.findIdx (spB t R C))) C) = wid (ptab t R C) := by rw [h2.wd, h.wd]
 have he : ∀ j k, j < (ptab t (cutN R (R.findIdx (spB t R C))) C).length → k < wid (ptab t (cutN R (R.findIdx (spB t R C))) C) → Go.Proofs.Ytommhgcgaclflaa.ent (ptab t (cutN R (R.findIdx (spB t R C))) C) j k = Go.Proofs.Ytommhgcgaclflaa.ent (ptab t R C) (sk (R.findIdx (spB t R C)) j) k := fun j k hj hk => by
  rw [ptab_len] at hj; rw [h2.wd] at hk; exact h.ent g hj hk
 obtain ⟨o, ho, hd⟩ := spare_by g
 refine val_anti2 h2.vld h.vld (val_row h.vld h2.vld hx hp hw he) (val_drop h.vld h2.vld hx hp hw he (by rw [ptab_len]; exact ho) fun k hk => ?_)
 rw [h.wd] at hk
 rw [ptab_ent g hk, ptab_ent ho hk]
 exact hd k hk
theorem LP.pure {t : List (List Int)} {R C : List Nat} (h : LP t R C) (g : R.findIdx (spB t R C) < R.length) {i k : Nat} (hi : i < (cutN R (R.findIdx (spB t R C))).length) (hk : k < C.length)
 (hp : PureB (ptab t (cutN R (R.findIdx (spB t R C))) C) i k) : PureB (ptab t R C) (sk (R.findIdx (spB t R C)) i) k := by
 have h2 := h.cut g
 have l1 := cutN_len g
 obtain ⟨p1, p2⟩ := hp
 rw [ptab_len] at p1
 rw [h2.wd] at p2
 refine ⟨fun j hj => ?_, fun l hl => ?_⟩
 ·rw [ptab_len] at hj
  rw [← h.ent g hi hk]
  by_cases e : j = R.findIdx (spB t R C)
  ·obtain ⟨o, ho, hd⟩ := spare_by g
   have h3 := p1 o ho
   rw [ptab_ent ho hk] at h3
   rw [e, ptab_ent g hk]
   exact Int.le_trans (hd k hk) h3
  ·obtain ⟨l, hl, e2⟩ := sk_of (m := (cutN R (R.findIdx (spB t R C))).length) (i := R.findIdx (spB t R C)) (k := j) (by omega) (by omega) e
   have h3 := p1 l hl
   rw [h.ent g hl hk, e2] at h3
   exact h3
 ·rw [h.wd] at hl
  rw [← h.ent g hi hk, ← h.ent g hi hl]
  exact p2 l hl
theorem pure_turn {t : List (List Int)} (v : VldT t) {i k : Nat} (hi : i < t.length) (hk : k < wid t) : PureB (turn t) k i ↔ PureB t i k := by
 unfold PureB
 rw [turn_len, turn_wid (by have := v.n1; omega)]
 constructor
 ·rintro ⟨a, b⟩
  refine ⟨fun j hj => ?_, fun l hl => ?_⟩
  ·have := b j hj; rw [turn_ent hk hi, turn_ent hk hj] at this; omega
  ·have := a l hl; rw [turn_ent hk hi, turn_ent hl hi] at this; omega
 ·rintro ⟨a, b⟩
  refine ⟨fun j hj => ?_, fun l hl => ?_⟩
  ·have := b j hj; rw [turn_ent hk hi, turn_ent hj hi]; omega
  ·have := a l hl; rw [turn_ent hk hi, turn_ent hk hl]; omega
theorem val_turn_eq {t s : List (List Int)} (v : VldT t) (vs : VldT s) (h : val (turn t) = val (turn s)) : val t = val s := by
 rw [val_turn v, val_turn vs] at h
 have h1 := congrArg Prod.fst h
 have h2 := congrArg Prod.snd h
 dsimp only at h1 h2
 exact Prod.ext (by omega) h2
structure LI (t : List (List Int)) (s : List Nat × List Nat) : Prop where
 lp : LP t s.1 s.2
 val : Go.Proofs.Ytommhgcgaclflaa.val (ptab t s.1 s.2) = Go.Proofs.Ytommhgcgaclflaa.val t
 pure : ∀ i k, i < s.1.length → k < s.2.length → PureB (ptab t s.1 s.2) i k → PureB t (s.1.getD i 0) (s.2.getD k 0)
theorem LI.step {t : List (List Int)} {s : List Nat × List Nat} (h : LI t s) : LI t (stepL t s) := by
 have lp := h.lp
 unfold stepL
 split
 ·rename_i g
  refine ⟨lp.cut g, (lp.val g).trans h.val, fun i k hi hk hp => ?_⟩
  dsimp only at hi hk hp ⊢
  have l1 := cutN_len g
  rw [cutN_sk g]
  exact h.pure _ _ (by unfold sk; split <;> omega) hk (lp.pure g hi hk hp)
 ·split
  ·rename_i g
   have lt := lp.turn
   have lc := (lt.cut g).turn
   rw [turn_turn lp.v] at lc
   refine ⟨lc, ?_, fun i k hi hk hp => ?_⟩
   ·refine Eq.trans (val_turn_eq lc.vld lp.vld ?_) h.val
    rw [lc.tt, lp.tt]
    exact lt.val g
   ·dsimp only at hi hk hp ⊢
    have l1 := cutN_len g
    have hw := lc.wd
    rw [← pure_turn lc.vld (by rw [ptab_len]; exact hi) (by rw [hw]; exact hk), lc.tt] at hp
    have h3 := lt.pure g hk hi hp
    rw [← lp.tt] at h3
    have hsk : sk (s.2.findIdx (spB (turn t) s.2 s.1)) k < s.2.length := by unfold sk; split <;> omega
    rw [pure_turn lp.vld (by rw [ptab_len]; exact hi) (by rw [lp.wd]; exact hsk)] at h3
    rw [cutN_sk g]
    exact h.pure _ _ hi hsk h3
  ·exact h
theorem ptab_all {t : List (List Int)} (v : VldT t) : ptab t (List.range t.length) (List.range (wid t)) = t := by
 refine row_ext (by rw [ptab_len, List.length_range]) fun i hi => ?_
 rw [ptab_len, List.length_range] at hi
 rw [ptab_row (by rw [List.length_range]; exact hi)]
 refine nth_ext (by rw [prow_len, List.length_range, v.eq i hi]) fun k hk => ?_
 rw [prow_len, List.length_range] at hk
 rw [prow_nth _ _ _ _ _ (by rw [List.length_range]; exact hk), range_getD hi, range_getD hk]
 rfl
theorem LI.left {t : List (List Int)} (v : VldT t) : ∀ k, LI t (leftN t k)
 | 0 => by
  have e := ptab_all v
  have hl : LP t (List.range t.length) (List.range (wid t)) := ⟨v, by rw [List.length_range]; exact v.m1, by rw [List.length_range]; exact v.m4, by rw [List.length_range]; exact v.n1, by rw [List.length_range]; exact v.n4, fun x hx => List.mem_range.1 hx, fun x hx => List.mem_range.1 hx⟩
  refine ⟨hl, by show Go.Proofs.Ytommhgcgaclflaa.val (ptab t (List.range t.length) (List.range (wid t))) = _; rw [e], fun i k hi hk hp => ?_⟩
  have hi' : i < (List.range t.length).length := hi
  have hk' : k < (List.range (wid t)).length := hk
  rw [List.length_range] at hi' hk'
  have hp' : PureB (ptab t (List.range t.length) (List.range (wid t))) i k := hp
  rw [e] at hp'
  show PureB t ((List.range t.length).getD i 0) ((List.range (wid t)).getD k 0)
  rw [range_getD hi', range_getD hk']
  exact hp'
 | k + 1 => (LI.left v k).step
theorem step_less {t : List (List Int)} (s : List Nat × List Nat) : stepL t s = s ∨ (stepL t s).1.length + (stepL t s).2.length + 1 = s.1.length + s.2.length := by
 unfold stepL
 split
 ·rename_i g; right; have := cutN_len g; dsimp only; omega
 ·split
  ·rename_i g; right; have := cutN_len g; dsimp only; omega
  ·left; rfl
theorem left_end {t : List (List Int)} (v : VldT t) : stepL t (leftN t 8) = leftN t 8 := by
 have h : ∀ k, (∃ j, j ≤ k ∧ stepL t (leftN t j) = leftN t j) ∨ (leftN t k).1.length + (leftN t k).2.length + k ≤ 8 := by
  intro k
  induction k with
  | zero => right; simp only [leftN, List.length_range]; have := v.m4; have := v.n4; omega
  | succ k ih =>
   rcases ih with ⟨j, hj, e⟩ | ih
   ·exact .inl ⟨j, by omega, e⟩
   ·rcases step_less (t := t) (leftN t k) with e | e
    ·exact .inl ⟨k, by omega, e⟩
    ·right
     show (stepL t (leftN t k)).1.length + (stepL t (leftN t k)).2.length + (k + 1) ≤ 8
     omega
 rcases h 8 with ⟨j, hj, e⟩ | h
 ·rw [left_fix e 8 hj]; exact e
 ·have h1 := (LI.left v 8).lp.r1
  omega
theorem left_no {t : List (List Int)} (v : VldT t) : (leftN t 8).1.findIdx (spB t (leftN t 8).1 (leftN t 8).2) = (leftN t 8).1.length ∧ (leftN t 8).2.findIdx (spB (turn t) (leftN t 8).2 (leftN t 8).1) = (leftN t 8).2.length := by
 have h := left_end v
 generalize leftN t 8 = s at *
 have l1 := List.findIdx_le_length (xs := s.1) (p := spB t s.1 s.2)
 have l2 := List.findIdx_le_length (xs := s.2) (p := spB (turn t) s.2 s.1)
 unfold stepL at h
 split at h
 ·rename_i g
  have h1 := congrArg (fun s => s.1.length) h
  have := cutN_len g
  dsimp only at h1; omega
 ·split at h
  ·rename_i g
   have h1 := congrArg (fun s => s.2.length) h
   have := cutN_len g
   dsimp only at h1; omega
  ·exact ⟨by omega, by omega⟩
theorem left_again {t : List (List Int)} (v : VldT t) : spI (ptab t (leftN t 8).1 (leftN t 8).2) = (leftN t 8).1.length ∧ spI (turn (ptab t (leftN t 8).1 (leftN t 8).2)) = (leftN t 8).2.length ∧
 leftN (ptab t (leftN t 8).1 (leftN t 8).2) 8 = (List.range (leftN t 8).1.length, List.range (leftN t 8).2.length) := by
 have hl := (LI.left v 8).lp
 have hs := LS.left t 8
 obtain ⟨n1, n2⟩ := left_no v
 have s1 := (spI_ptab hl.r1 hs.rs (t := t) (C := (leftN t 8).2)).trans n1
 have s2 : spI (turn (ptab t (leftN t 8).1 (leftN t 8).2)) = (leftN t 8).2.length := by rw [hl.tt, spI_ptab hl.c1 hs.cs]; exact n2
 refine ⟨s1, s2, ?_⟩
 have hv := hl.vld
 have hw := hl.wd
 have h0 : leftN (ptab t (leftN t 8).1 (leftN t 8).2) 0 = (List.range (leftN t 8).1.length, List.range (leftN t 8).2.length) := by
  show (List.range (ptab t (leftN t 8).1 (leftN t 8).2).length, List.range (wid (ptab t (leftN t 8).1 (leftN t 8).2))) = _
  rw [ptab_len, hw]
 generalize ptab t (leftN t 8).1 (leftN t 8).2 = x at *
 rw [← h0]
 refine left_fix ?_ 8 (by omega)
 unfold spI at s1 s2
 rw [turn_len, turn_wid (by have := hv.n1; omega)] at s2
 have e1 : (leftN x 0).1 = List.range x.length := rfl
 have e2 : (leftN x 0).2 = List.range (wid x) := rfl
 unfold stepL
 rw [e1, e2, List.length_range, List.length_range, if_neg, if_neg]
 ·rw [s2, ← hw]; omega
 ·rw [s1]
  have : (List.range (leftN t 8).1.length).length = (leftN x 0).1.length := by rw [h0]
  rw [e1, List.length_range, List.length_range] at this
  omega

end Go.Proofs.Ytommhgcgaclflaa
namespace Go.Proofs.Ytommhgcgaclflaa
set_option linter.unusedVariables false
set_option linter.unusedSimpArgs false
set_option linter.unusedSectionVars false
set_option linter.unnecessarySimpa false
open Game

def loE (A : Nat → Nat → Int) (s c : List Nat) : Nat → Int
 | 0 => 0
 | k + 1 => min (loE A s c k) (partE A s c k)
def hiE (A : Nat → Nat → Int) (s c : List Nat) : Nat → Int
 | 0 => 0
 | k + 1 => max (hiE A s c k) (partE A s c k)
theorem lo_spec (A : Nat → Nat → Int) (s c : List Nat) : ∀ k, loE A s c k ≤ 0 ∧ (∀ i, i < k → loE A s c k ≤ partE A s c i) ∧ (loE A s c k < 0 → ∃ i, i < k ∧ partE A s c i = loE A s c k)
 | 0 => ⟨by simp [loE], fun i h => by omega, fun h => by simp [loE] at h⟩
 | k + 1 => by
  obtain ⟨h1, h2, h3⟩ := lo_spec A s c k
  simp only [loE]
  refine ⟨by omega, fun i hi => ?_, fun hl => ?_⟩
  ·by_cases e : i = k
   ·subst e; omega
   ·have := h2 i (by omega); omega
  ·by_cases g : loE A s c k ≤ partE A s c k
   ·obtain ⟨i, hi, e⟩ := h3 (by omega)
    exact ⟨i, by omega, by omega⟩
   ·exact ⟨k, by omega, by omega⟩
theorem hi_spec (A : Nat → Nat → Int) (s c : List Nat) : ∀ k, 0 ≤ hiE A s c k ∧ (∀ i, i < k → partE A s c i ≤ hiE A s c k) ∧ (0 < hiE A s c k → ∃ i, i < k ∧ partE A s c i = hiE A s c k)
 | 0 => ⟨by simp [hiE], fun i h => by omega, fun h => by simp [hiE] at h⟩
 | k + 1 => by
  obtain ⟨h1, h2, h3⟩ := hi_spec A s c k
  simp only [hiE]
  refine ⟨by omega, fun i hi => ?_, fun hl => ?_⟩
  ·by_cases e : i = k
   ·subst e; omega
   ·have := h2 i (by omega); omega
  ·by_cases g : partE A s c k ≤ hiE A s c k
   ·obtain ⟨i, hi, e⟩ := h3 (by omega)
    exact ⟨i, by omega, by omega⟩
   ·exact ⟨k, by omega, by omega⟩
def nilE (A : Nat → Nat → Int) (s c : List Nat) : Prop := (loE A s c s.length < 0 ∧ 0 < hiE A s c s.length) ∨ (loE A s c s.length = 0 ∧ hiE A s c s.length = 0)
theorem mem_pc {A : Nat → Nat → Int} {m n : Nat} {s c : List Nat} (h : Ch m n s c) (m4 : m ≤ 4) {a : Int} : a ∈ pc A s c ↔ ∃ i, i < s.length ∧ partE A s c i = a := by
 rw [← parts_pc A s c h.eq (ch_len4 h m4) h.pos, List.mem_map]
 simp only [List.mem_range]
theorem nil_iff {A : Nat → Nat → Int} {m n : Nat} {s c : List Nat} (h : Ch m n s c) (m4 : m ≤ 4) : nilE A s c ↔ okE A s c m = false := by
 obtain ⟨l1, l2, l3⟩ := lo_spec A s c s.length
 obtain ⟨u1, u2, u3⟩ := hi_spec A s c s.length
 have hok := ok_iff (A := A) h m4
 unfold nilE
 constructor
 ·intro hn
  rw [← Bool.not_eq_true, hok]
  rintro ⟨⟨a, ha, na⟩, hno⟩
  obtain ⟨i, hi, rfl⟩ := (mem_pc h m4).1 ha
  rcases hn with ⟨p, q⟩ | ⟨p, q⟩
  ·obtain ⟨i1, k1, e1⟩ := l3 p
   obtain ⟨i2, k2, e2⟩ := u3 q
   exact hno ⟨⟨_, (mem_pc h m4).2 ⟨i1, k1, rfl⟩, by omega⟩, _, (mem_pc h m4).2 ⟨i2, k2, rfl⟩, by omega⟩
  ·have := l2 i hi
   have := u2 i hi
   omega
 ·intro hf
  rw [← Bool.not_eq_true, hok] at hf
  refine Classical.byContradiction fun hn => hf ⟨?_, ?_⟩
  ·by_cases p : loE A s c s.length < 0
   ·obtain ⟨i1, k1, e1⟩ := l3 p
    exact ⟨_, (mem_pc h m4).2 ⟨i1, k1, rfl⟩, by omega⟩
   ·have q : 0 < hiE A s c s.length := by omega
    obtain ⟨i2, k2, e2⟩ := u3 q
    exact ⟨_, (mem_pc h m4).2 ⟨i2, k2, rfl⟩, by omega⟩
  ·rintro ⟨⟨a, ha, pa⟩, b, hb, pb⟩
   obtain ⟨i, hi, rfl⟩ := (mem_pc h m4).1 ha
   obtain ⟨j, hj, rfl⟩ := (mem_pc h m4).1 hb
   have := l2 i hi
   have := u2 j hj
   omega
def abF (A : Nat → Nat → Int) (s c : List Nat) (k r : Nat) : Int := ab (pf A s c k r)
theorem abF_zero (A : Nat → Nat → Int) (s c : List Nat) : abF A s c 0 = fun _ => 0 := by funext r; simp [abF, pf, ab]
theorem ab_max (x : Int) : max x (-x) = ab x := by unfold ab; split <;> omega
theorem abF_step (A : Nat → Nat → Int) (s c : List Nat) (k : Nat) : (fun r => if r = s.getD k 0 then ab (partE A s c k) else abF A s c k r) = abF A s c (k + 1) := by
 funext r
 simp only [abF, pf]
 split <;> simp_all
theorem abF_end {A : Nat → Nat → Int} {m n : Nat} {s c : List Nat} (h : Ch m n s c) (m4 : m ≤ 4) (r : Nat) : abF A s c s.length r = ev A s c r := by
 unfold ev abF
 rw [put_ab, ← pf_end A s c (sorted_nodup h.ss) h.eq (ch_len4 h m4) h.pos r]

end Go.Proofs.Ytommhgcgaclflaa
namespace Go.Proofs.Ytommhgcgaclflaa
set_option linter.unusedVariables false
set_option linter.unusedSimpArgs false
set_option linter.unusedSectionVars false
set_option linter.unnecessarySimpa false
open Go Go.RowKit Game
set_option maxRecDepth 100000


def nL (s : List Nat) : List Int := s.map (fun (x : Nat) => (x : Int))
theorem nL_len (s : List Nat) : (nL s).length = s.length := by simp [nL]
theorem nL_nth (s : List Nat) (i : Nat) : nth (nL s) i = ((s.getD i 0 : Nat) : Int) := by
 unfold nL nth
 simp only [List.getD_eq_getElem?_getD, List.getElem?_map]
 cases h : s[i]? <;> simp
def dX (A : Nat → Nat → Int) (s c : List Nat) (i : Nat) : Nat → List (List Int)
 | 0 => []
 | k + 1 => if k = i then dX A s c i k else dX A s c i k ++ [dR A (s.getD k 0) c (c.length - 1)]
theorem dX_dT (A : Nat → Nat → Int) (s c : List Nat) (i : Nat) : ∀ k, dX A s c i k = (dT A s c k).take i ++ (dT A s c k).drop (i + 1)
 | 0 => by simp [dX, dT]
 | k + 1 => by
  have hl := dT_len A s c k
  simp only [dX, dT]
  rw [dX_dT A s c i k]
  split
  ·subst_vars
   rw [List.take_append_of_le_length (by omega), List.drop_of_length_le (by omega), List.drop_of_length_le (by simp; omega)]
  ·rename_i g
   rcases Nat.lt_or_ge i k with h | h
   ·rw [List.take_append_of_le_length (by omega), List.drop_append_of_le_length (by omega), List.append_assoc]
   ·rw [List.take_of_length_le (by omega), List.drop_of_length_le (by omega), List.take_of_length_le (by simp; omega), List.drop_of_length_le (by simp; omega)]
    simp
theorem dX_len (A : Nat → Nat → Int) (s c : List Nat) (i : Nat) (k : Nat) : (dX A s c i k).length = if i < k then k - 1 else k := by
 rw [dX_dT]
 have hl := dT_len A s c k
 simp only [List.length_append, List.length_take, List.length_drop, hl]
 split <;> omega
theorem dX_end (A : Nat → Nat → Int) (s c : List Nat) (i : Nat) : dX A s c i s.length = cutT (dTab A s c) i := by
 rw [dX_dT, dT_end]; rfl

set_option maxHeartbeats 8000000 in
theorem evenR_any (t : List (List Int)) (v : VldT t) (s c : List Nat) (q : Ch t.length (wid t) s c) (a : Option Addr) (cap : Nat) (ar ac : Option Addr) (cr cc : Nat) (w : World) (hT : Tab w a t) (hI1 : Ints w ar (nL s)) (hI2 : Ints w ac (nL c)) :
 Calls Try.prog 114 #[(.agg #[.slice a t.length cap]), .slice ar s.length cr, .slice ac c.length cc] w fun e w' =>
  (okE (ent t) s c t.length = false ∧ e = .returned (.slice none 0 0) ∧ Ext w w') ∨
  (okE (ent t) s c t.length = true ∧ ∃ g, e = .returned (.slice (some ⟨g, 0, none⟩) t.length t.length) ∧ OwnI w' w.heap.size 2 (.slice (some ⟨g, 0, none⟩) t.length t.length) (mkL t.length (ev (ent t) s c)) ∧ Ext w w') := by
 have m1 := v.m1; have m4 := v.m4; have n1 := v.n1; have n4 := v.n4
 obtain ⟨b, off, B, O, C, rfl, hb, hcc⟩ := hT.fullC (by omega) v.eq (by omega)
 have HC := hid hcc
 have hch := hid q
 have hni := hid (nil_iff (A := ent t) q m4)
 have hae := hid (fun r => abF_end (A := ent t) q m4 r)
 have hn4 : Hid (s.length ≤ 4) := hid (ch_len4 q m4)
 obtain ⟨n, hn⟩ : ∃ n, s.length = n := ⟨_, rfl⟩
 have hcn : c.length = n := by rw [← hch.out.eq, hn]
 rw [hn] at hn4
 have hn1 : 1 ≤ n := by have := hch.out.pos; omega
 obtain ⟨M, hM⟩ : ∃ M, t.length = M := ⟨_, rfl⟩
 rw [hM] at m1 m4 HC hni ⊢
 obtain ⟨Br, Ow, rfl, hBr, hr0⟩ := hI1.at (by rw [nL_len]; omega)
 obtain ⟨Bc, Oc, rfl, hBc, hc0⟩ := hI2.at (by rw [nL_len]; omega)
 have HR : Hid (∀ i, i < n → w.cell? ⟨Br, Ow + i, none⟩ = some (.int .i64 (s.getD i 0 : Nat))) := hid (fun i hi => by
  have := hr0 i (by rw [nL_len, hn]; exact hi)
  rw [nL_nth] at this; exact this)
 have HCc : Hid (∀ i, i < n → w.cell? ⟨Bc, Oc + i, none⟩ = some (.int .i64 (c.getD i 0 : Nat))) := hid (fun i hi => by
  have := hc0 i (by rw [nL_len, hcn]; exact hi)
  rw [nL_nth] at this; exact this)
 replace hM := hid hM
 have hsl : Hid (∀ i, i < n → s.getD i 0 < M) := hid (fun i hi => by rw [← hM.out]; exact hch.out.sl _ (getD_mem (by omega)))
 have hcl : Hid (∀ i, i < n → c.getD i 0 < wid t) := hid (fun i hi => hch.out.cl _ (getD_mem (by omega)))
 rw [hn, hcn]
 rw [hn] at hae
 have hndef : nilE (ent t) s c ↔ (loE (ent t) s c n < 0 ∧ 0 < hiE (ent t) s c n) ∨ (loE (ent t) s c n = 0 ∧ hiE (ent t) s c n = 0) := by unfold nilE; rw [hn]
 have hni2 := hid (hndef.symm.trans hni.out)
 replace hn := hid hn
 replace hcn := hid hcn
 have hvv := hid v
 have hm0 : (0 : Int) ≤ (M : Int) := by omega
 clear hT hcc hI1 hI2 hr0 hc0 hBr hBc q v hni hndef
 go_enter Try.func114, Try.ntmps114
 go_wp2_with (at_make; refine make_ints rfl _ _ 25 rfl 2 Try.underlying25 elemI64 M rfl rfl (by omega) ?_; intro w5 ho5 hx5)
 have hDc := hx5.cell (p := ⟨w.heap.size, 0, none⟩) (v := .slice (some ⟨b, off, none⟩) M cap) (by simp [go_sem])
 have hDl := cell_lt hDc
 simp only at hDl
 have hgs := hid (show w.heap.size ≤ (w.alloc (.cells #[.slice (some ⟨b, off, none⟩) M cap] 24)).heap.size from Ext.size (by repeat (with_reducible first | assumption | exact Ext.refl _ | refine Ext.drew ?_ | refine Ext.drewN ?_ _ | refine Ext.alloc ?_ _ | refine xS ?_ _ | refine xT ?_ (by assumption))))
 have xw := hid (show Ext w w5 from (by repeat (with_reducible first | assumption | exact Ext.refl _ | refine Ext.drew ?_ | refine Ext.drewN ?_ _ | refine Ext.alloc ?_ _ | refine xS ?_ _ | refine xT ?_ (by assumption))))
 have hx5 := hid hx5
 obtain ⟨wm, hwm⟩ : ∃ x, x = w.alloc (.cells #[.slice (some ⟨b, off, none⟩) M cap] 24) := ⟨_, rfl⟩
 rw [← hwm] at hx5 hgs ho5
 have hgw : wm.heap.size = w.heap.size + 1 := by rw [hwm]; simp [go_sem]
 rw [hgw] at ho5 hgs
 rw [mkL_rep, mkL_congr (fun k _ => (show (0 : Int) = abF (ent t) s c 0 k by rw [abF_zero]))] at ho5
 have ho5 := hid ho5
 obtain ⟨g, hg⟩ : ∃ g, g = w.heap.size + 1 := ⟨_, rfl⟩
 have hgq : wm.heap.size = g := by rw [hgw, hg]
 rw [← hg] at ho5 hgs ⊢
 clear hwm hgw
 replace hgq := hid hgq
 obtain ⟨Bx, hBx⟩ : ∃ Bx, Bx = w.heap.size := ⟨_, rfl⟩
 rw [← hBx] at hDc hDl ⊢
 replace hBx := hid hBx
 replace hg := hid hg
 have hDc := hid hDc
 go_loopw [8, 9, 10, 11] (fun sg lo hi i wx => ∃ k : Nat, k ≤ n ∧ i = .int .i64 k ∧ sg = .int .i64 (sgn k) ∧ lo = .int .i64 (loE (ent t) s c k) ∧ hi = .int .i64 (hiE (ent t) s c k) ∧ Hid (OwnI wx g 2 (.slice (some ⟨g, 0, none⟩) M M) (mkL M (abF (ent t) s c k))) ∧ Hid (Ext wm wx) ∧ Hid (Ext w wx) ∧ Hid (wx.cell? ⟨Bx, 0, none⟩ = some (.slice (some ⟨b, off, none⟩) M cap))) (fun _ _ _ i _ => (n - intOf i).toNat)
 case atStart => exact ⟨0, by omega, rfl, rfl, rfl, rfl, ho5, hx5, xw, hDc⟩
 case round =>
  obtain ⟨k, hk, rfl, rfl, rfl, rfl, hO, hx, hxw, hD⟩ := hrel
  by_cases hkl : k < n
  ·obtain ⟨w3, rfl⟩ : ∃ w3 : World, w3 = wr := ⟨_, rfl⟩
   clear ho5 hx5 xw hDc
   have hdl := hid (dX_len (ent t) s c k)
   go_wp2_with fail
   go_loopw [12, 13] (fun dl i wr => ∃ r : Nat, r ≤ n ∧ i = .int .i64 r ∧ Hid (OwnT wr w3.heap.size w3.heap.size 25 dl (dX (ent t) s c k r)) ∧ Hid (Ext w3 wr)) (fun _ i _ => (n - intOf i).toNat)
   case atStart => exact ⟨0, by omega, rfl, hid (OwnT.nil _ _ _ _), hid (Ext.refl _)⟩
   case round =>
    obtain ⟨r, hr, rfl, hoT, hxT⟩ := hrel
    by_cases hrl : r < n
    ·obtain ⟨w4, rfl⟩ : ∃ w4 : World, w4 = wr := ⟨_, rfl⟩
     have hstT := hid (show dX (ent t) s c k (r + 1) = if r = k then dX (ent t) s c k r else dX (ent t) s c k r ++ [dR (ent t) (s.getD r 0) c (c.length - 1)] from rfl)
     rw [hcn.out] at hstT
     have hsi := hid (hsl.out r hrl)
     have p2 := hid (HR.out r hrl)
     obtain ⟨si, hsi0⟩ : ∃ x, s.getD r 0 = x := ⟨_, rfl⟩
     rw [hsi0] at hstT hsi p2
     replace hsi0 := hid hsi0
     have u2 := Go.IntWalk.i64_in ((r : Int) + 1) (by have := hn4.out; omega)
     go_wp2_with fail
     go_loopw [14, 15] (fun l i wr => ∃ j : Nat, j ≤ n - 1 ∧ i = .int .i64 ((j : Int) + 1) ∧ Hid (OwnI wr w4.heap.size 2 l (dR (ent t) si c j)) ∧ Hid (Ext w4 wr)) (fun _ i _ => (n - intOf i).toNat)
     case atStart => exact ⟨0, by omega, rfl, hid (OwnI.nil _ _ _), hid (Ext.refl _)⟩
     case round =>
      obtain ⟨j, hj, rfl, ho, hX⟩ := hrel
      by_cases hjl : j + 1 < n
      ·obtain ⟨w5, rfl⟩ : ∃ w4 : World, w4 = wr := ⟨_, rfl⟩
       have q0 := hid hxT.out
       have hXo := hX.out
       have qq := hid (hxw.out.trans q0.out)
       have r1 := q0.out.cell hD.out
       have r2 := qq.out.cell p2.out
       obtain ⟨r3, _, rr, _⟩ := HC.out si hsi.out
       have r3 := qq.out.cell r3
       have g1 := hcl.out (j + 1) hjl
       have g0 := hcl.out 0 (by omega)
       have r4 := qq.out.cell (HCc.out (j + 1) hjl)
       have r5 := qq.out.cell (HCc.out 0 (by omega))
       rw [Nat.add_zero] at r5
       have r6 := qq.out.cell (rr _ g1)
       have r7 := qq.out.cell (rr _ g0)
       have y1 := And.intro (hvv.out.lo si (c.getD (j + 1) 0)) (hvv.out.hi si (c.getD (j + 1) 0))
       have y0 := And.intro (hvv.out.lo si (c.getD 0 0)) (hvv.out.hi si (c.getD 0 0))
       have hsr := hid (show dR (ent t) si c (j + 1) = dR (ent t) si c j ++ [ent t si (c.getD (j + 1) 0) - ent t si (c.getD 0 0)] from rfl)
       have hlr := hid (dR_len (ent t) si c j)
       obtain ⟨cj, hcj⟩ : ∃ x, c.getD (j + 1) 0 = x := ⟨_, rfl⟩
       obtain ⟨c0, hc0⟩ : ∃ x, c.getD 0 0 = x := ⟨_, rfl⟩
       rw [hcj] at g1 r4 r6 y1 hsr
       rw [hc0] at g0 r5 r7 y0 hsr
       obtain ⟨x, hx0⟩ : ∃ x, ent t si cj = x := ⟨_, rfl⟩
       obtain ⟨y, hy0⟩ : ∃ y, ent t si c0 = y := ⟨_, rfl⟩
       rw [hx0] at r6 y1 hsr
       rw [hy0] at r7 y0 hsr
       have z1 := Go.IntWalk.i64_in (x - y) (by omega)
       obtain ⟨W, hWd⟩ : ∃ W, wid t = W := ⟨_, rfl⟩
       rw [hWd] at r3 g1 g0
       have h9 := hsi.out
       have h7 : (0 : Int) < (n : Int) := by omega
       have h8 : 0 < n := by omega
       have q1 : (j : Int) + 1 < (n : Int) := by omega
       have q2 : (0 : Int) ≤ (j : Int) + 1 := by omega
       have q3 : ((j : Int) + 1).toNat = j + 1 := by omega
       clear rr hcj hc0 hx0 hy0 hWd y1 y0
       go_wp2_with fail
       refine wp_region_held_drew (S := fun w' => w'.cell? ⟨Bx, 0, none⟩ = some (.slice (some ⟨b, off, none⟩) M cap) ∧ w'.cell? ⟨Br, Ow + r, none⟩ = some (.int .i64 si) ∧ w'.cell? ⟨b, off + si, none⟩ = some (.slice (some ⟨B si, O si, none⟩) W (C si)) ∧ w'.cell? ⟨Bc, Oc + (j + 1), none⟩ = some (.int .i64 cj) ∧ w'.cell? ⟨Bc, Oc, none⟩ = some (.int .i64 c0) ∧ w'.cell? ⟨B si, O si + cj, none⟩ = some (.int .i64 x) ∧ w'.cell? ⟨B si, O si + c0, none⟩ = some (.int .i64 y)) (by kernel_rfl) ⟨(show Ext w4 w5.drew from (by repeat (with_reducible first | assumption | exact Ext.refl _ | refine Ext.drew ?_ | refine Ext.drewN ?_ _ | refine Ext.alloc ?_ _ | refine xS ?_ _ | refine xT ?_ (by assumption)))).cell r1, (show Ext w4 w5.drew from (by repeat (with_reducible first | assumption | exact Ext.refl _ | refine Ext.drew ?_ | refine Ext.drewN ?_ _ | refine Ext.alloc ?_ _ | refine xS ?_ _ | refine xT ?_ (by assumption)))).cell r2, (show Ext w4 w5.drew from (by repeat (with_reducible first | assumption | exact Ext.refl _ | refine Ext.drew ?_ | refine Ext.drewN ?_ _ | refine Ext.alloc ?_ _ | refine xS ?_ _ | refine xT ?_ (by assumption)))).cell r3, (show Ext w4 w5.drew from (by repeat (with_reducible first | assumption | exact Ext.refl _ | refine Ext.drew ?_ | refine Ext.drewN ?_ _ | refine Ext.alloc ?_ _ | refine xS ?_ _ | refine xT ?_ (by assumption)))).cell r4, (show Ext w4 w5.drew from (by repeat (with_reducible first | assumption | exact Ext.refl _ | refine Ext.drew ?_ | refine Ext.drewN ?_ _ | refine Ext.alloc ?_ _ | refine xS ?_ _ | refine xT ?_ (by assumption)))).cell r5, (show Ext w4 w5.drew from (by repeat (with_reducible first | assumption | exact Ext.refl _ | refine Ext.drew ?_ | refine Ext.drewN ?_ _ | refine Ext.alloc ?_ _ | refine xS ?_ _ | refine xT ?_ (by assumption)))).cell r6, (show Ext w4 w5.drew from (by repeat (with_reducible first | assumption | exact Ext.refl _ | refine Ext.drew ?_ | refine Ext.drewN ?_ _ | refine Ext.alloc ?_ _ | refine xS ?_ _ | refine xT ?_ (by assumption)))).cell r7⟩ fun hHeld => ?_
       refine tkA (i := 0) (v := ?_) rfl (fun _ _ _ h => h) (Or.inl ⟨by rfl, ?yl⟩) (by assumption) ?_
       case yl => (intro w hSw; (try dsimp only at hSw); (try obtain ⟨k1, k2, k3, k4, k5, k6, k7⟩ := hSw); go_simp); with_reducible rfl
       try simp only [sxA, sxB, sxC, Act.put, sxD, sxE, sxF]
       refine tkA (i := 1) (v := ?_) rfl (fun _ _ _ h => h) (Or.inl ⟨by rfl, ?yl⟩) (by assumption) ?_
       case yl => (intro w hSw; (try dsimp only at hSw); (try obtain ⟨k1, k2, k3, k4, k5, k6, k7⟩ := hSw); go_simp); with_reducible rfl
       try simp only [sxA, sxB, sxC, Act.put, sxD, sxE, sxF]
       refine tkA (i := 2) (v := ?_) rfl (fun _ _ _ h => h) (Or.inl ⟨by rfl, ?yl⟩) (by assumption) ?_
       case yl => (intro w hSw; (try dsimp only at hSw); (try obtain ⟨k1, k2, k3, k4, k5, k6, k7⟩ := hSw); go_simp); with_reducible rfl
       try simp only [sxA, sxB, sxC, Act.put, sxD, sxE, sxF]
       refine tkA (i := 3) (v := ?_) rfl (fun _ _ _ h => h) (Or.inl ⟨by rfl, ?yl⟩) (by assumption) ?_
       case yl => (intro w hSw; (try dsimp only at hSw); (try obtain ⟨k1, k2, k3, k4, k5, k6, k7⟩ := hSw); go_simp); with_reducible rfl
       try simp only [sxA, sxB, sxC, Act.put, sxD, sxE, sxF]
       refine tkA (i := 4) (v := ?_) rfl (fun _ _ _ h => h) (Or.inl ⟨by rfl, ?yl⟩) (by assumption) ?_
       case yl => (intro w hSw; (try dsimp only at hSw); (try obtain ⟨k1, k2, k3, k4, k5, k6, k7⟩ := hSw); go_simp); with_reducible rfl
       try simp only [sxA, sxB, sxC, Act.put, sxD, sxE, sxF]
       refine tkA (i := 5) (v := ?_) rfl (fun _ _ _ h => h) (Or.inl ⟨by rfl, ?yl⟩) (by assumption) ?_
       case yl => (intro w hSw; (try dsimp only at hSw); (try obtain ⟨k1, k2, k3, k4, k5, k6, k7⟩ := hSw); go_simp); with_reducible rfl
       try simp only [sxA, sxB, sxC, Act.put, sxD, sxE, sxF]
       refine tkA (i := 6) (v := ?_) rfl (fun _ _ _ h => h) (Or.inl ⟨by rfl, ?yl⟩) (by assumption) ?_
       case yl => (intro w hSw; (try dsimp only at hSw); (try obtain ⟨k1, k2, k3, k4, k5, k6, k7⟩ := hSw); go_simp); with_reducible rfl
       try simp only [sxA, sxB, sxC, Act.put, sxD, sxE, sxF]
       refine tkA (i := 7) (v := ?_) rfl (fun _ _ _ h => h) (Or.inl ⟨by rfl, ?yl⟩) (by assumption) ?_
       case yl => (intro w hSw; (try dsimp only at hSw); (try obtain ⟨k1, k2, k3, k4, k5, k6, k7⟩ := hSw); go_simp); with_reducible rfl
       try simp only [sxA, sxB, sxC, Act.put, sxD, sxE, sxF]
       refine tkA (i := 8) (v := ?_) rfl (fun _ _ _ h => h) (Or.inl ⟨by rfl, ?yl⟩) (by assumption) ?_
       case yl => (intro w hSw; (try dsimp only at hSw); (try obtain ⟨k1, k2, k3, k4, k5, k6, k7⟩ := hSw); go_simp); with_reducible rfl
       try simp only [sxA, sxB, sxC, Act.put, sxD, sxE, sxF]
       refine tkA (i := 9) (v := ?_) rfl (fun _ _ _ h => h) (Or.inl ⟨by rfl, ?yl⟩) (by assumption) ?_
       case yl => (intro w hSw; (try dsimp only at hSw); (try obtain ⟨k1, k2, k3, k4, k5, k6, k7⟩ := hSw); go_simp); with_reducible rfl
       try simp only [sxA, sxB, sxC, Act.put, sxD, sxE, sxF]
       refine tkA (i := 10) (v := ?_) rfl (fun _ _ _ h => h) (Or.inl ⟨by rfl, ?yl⟩) (by assumption) ?_
       case yl => (intro w hSw; (try dsimp only at hSw); (try obtain ⟨k1, k2, k3, k4, k5, k6, k7⟩ := hSw); go_simp); with_reducible rfl
       try simp only [sxA, sxB, sxC, Act.put, sxD, sxE, sxF]
       refine tkA (i := 11) (v := ?_) rfl (fun _ _ _ h => h) (Or.inl ⟨by rfl, ?yl⟩) (by assumption) ?_
       case yl => (intro w hSw; (try dsimp only at hSw); (try obtain ⟨k1, k2, k3, k4, k5, k6, k7⟩ := hSw); go_simp); with_reducible rfl
       try simp only [sxA, sxB, sxC, Act.put, sxD, sxE, sxF]
       refine tkA (i := 12) (v := ?_) rfl (fun _ _ _ h => h) (Or.inl ⟨by rfl, ?yl⟩) (by assumption) ?_
       case yl => (intro w hSw; (try dsimp only at hSw); (try obtain ⟨k1, k2, k3, k4, k5, k6, k7⟩ := hSw); go_simp); with_reducible rfl
       try simp only [sxA, sxB, sxC, Act.put, sxD, sxE, sxF]
       refine tkA (i := 13) (v := ?_) rfl (fun _ _ _ h => h) (Or.inl ⟨by rfl, ?yl⟩) (by assumption) ?_
       case yl => (intro w hSw; (try dsimp only at hSw); (try obtain ⟨k1, k2, k3, k4, k5, k6, k7⟩ := hSw); go_simp); with_reducible rfl
       try simp only [sxA, sxB, sxC, Act.put, sxD, sxE, sxF]
       refine tkA (i := 14) (v := ?_) rfl (fun _ _ _ h => h) (Or.inl ⟨by rfl, ?yl⟩) (by assumption) ?_
       case yl => (intro w hSw; (try dsimp only at hSw); (try obtain ⟨k1, k2, k3, k4, k5, k6, k7⟩ := hSw); go_simp); with_reducible rfl
       try simp only [sxA, sxB, sxC, Act.put, sxD, sxE, sxF]
       refine tkA (i := 15) (v := ?_) rfl (fun _ _ _ h => h) (Or.inl ⟨by rfl, ?yl⟩) (by assumption) ?_
       case yl => (intro w hSw; (try dsimp only at hSw); (try obtain ⟨k1, k2, k3, k4, k5, k6, k7⟩ := hSw); go_simp); with_reducible rfl
       try simp only [sxA, sxB, sxC, Act.put, sxD, sxE, sxF]
       refine tkA (i := 16) (v := ?_) rfl (fun _ _ _ h => h) (Or.inl ⟨by rfl, ?yl⟩) (by assumption) ?_
       case yl => (intro w hSw; (try dsimp only at hSw); (try obtain ⟨k1, k2, k3, k4, k5, k6, k7⟩ := hSw); go_simp); with_reducible rfl
       try simp only [sxA, sxB, sxC, Act.put, sxD, sxE, sxF]
       refine tkA (i := 17) (v := ?_) rfl (fun _ _ _ h => h) (Or.inl ⟨by rfl, ?yl⟩) (by assumption) ?_
       case yl => (intro w hSw; (try dsimp only at hSw); (try obtain ⟨k1, k2, k3, k4, k5, k6, k7⟩ := hSw); go_simp); with_reducible rfl
       try simp only [sxA, sxB, sxC, Act.put, sxD, sxE, sxF]
       refine tkA (i := 18) (v := ?_) rfl (fun _ _ _ h => h) (Or.inl ⟨by rfl, ?yl⟩) (by assumption) ?_
       case yl => (intro w hSw; (try dsimp only at hSw); (try obtain ⟨k1, k2, k3, k4, k5, k6, k7⟩ := hSw); go_simp); with_reducible rfl
       try simp only [sxA, sxB, sxC, Act.put, sxD, sxE, sxF]
       refine tkA (i := 19) (v := ?_) rfl (fun _ _ _ h => h) (Or.inl ⟨by rfl, ?yl⟩) (by assumption) ?_
       case yl => (intro w hSw; (try dsimp only at hSw); (try obtain ⟨k1, k2, k3, k4, k5, k6, k7⟩ := hSw); go_simp); with_reducible rfl
       try simp only [sxA, sxB, sxC, Act.put, sxD, sxE, sxF]
       refine tkA (i := 20) (v := ?_) rfl (fun _ _ _ h => h) (Or.inl ⟨by rfl, ?yl⟩) (by assumption) ?_
       case yl => (intro w hSw; (try dsimp only at hSw); (try obtain ⟨k1, k2, k3, k4, k5, k6, k7⟩ := hSw); go_simp); with_reducible rfl
       try simp only [sxA, sxB, sxC, Act.put, sxD, sxE, sxF]
       refine tkA (i := 21) (v := ?_) rfl (fun _ _ _ h => h) (Or.inl ⟨by rfl, ?yl⟩) (by assumption) ?_
       case yl => (intro w hSw; (try dsimp only at hSw); (try obtain ⟨k1, k2, k3, k4, k5, k6, k7⟩ := hSw); go_simp); with_reducible rfl
       try simp only [sxA, sxB, sxC, Act.put, sxD, sxE, sxF]
       refine tkA (i := 22) (v := ?_) rfl (fun _ _ _ h => h) (Or.inl ⟨by rfl, ?yl⟩) (by assumption) ?_
       case yl => (intro w hSw; (try dsimp only at hSw); (try obtain ⟨k1, k2, k3, k4, k5, k6, k7⟩ := hSw); go_simp); with_reducible rfl
       try simp only [sxA, sxB, sxC, Act.put, sxD, sxE, sxF]
       refine tkA (i := 23) (v := ?_) rfl (fun _ _ _ h => h) (Or.inl ⟨by rfl, ?yl⟩) (by assumption) ?_
       case yl => (intro w hSw; (try dsimp only at hSw); (try obtain ⟨k1, k2, k3, k4, k5, k6, k7⟩ := hSw); go_simp); with_reducible rfl
       try simp only [sxA, sxB, sxC, Act.put, sxD, sxE, sxF]
       refine tkA (i := 24) (v := ?_) rfl (fun _ _ _ h => h) (Or.inl ⟨by rfl, ?yl⟩) (by assumption) ?_
       case yl => (intro w hSw; (try dsimp only at hSw); (try obtain ⟨k1, k2, k3, k4, k5, k6, k7⟩ := hSw); go_simp); with_reducible rfl
       try simp only [sxA, sxB, sxC, Act.put, sxD, sxE, sxF]
       refine tkA (i := 25) (v := ?_) rfl (fun _ _ _ h => h) (Or.inl ⟨by rfl, ?yl⟩) (by assumption) ?_
       case yl => (intro w hSw; (try dsimp only at hSw); (try obtain ⟨k1, k2, k3, k4, k5, k6, k7⟩ := hSw); go_simp); with_reducible rfl
       try simp only [sxA, sxB, sxC, Act.put, sxD, sxE, sxF]
       refine tkA (i := 26) (v := ?_) rfl (fun _ _ _ h => h) (Or.inl ⟨by rfl, ?yl⟩) (by assumption) ?_
       case yl => (intro w hSw; (try dsimp only at hSw); (try obtain ⟨k1, k2, k3, k4, k5, k6, k7⟩ := hSw); go_simp); with_reducible rfl
       try simp only [sxA, sxB, sxC, Act.put, sxD, sxE, sxF]
       refine tkA (i := 27) (v := ?_) rfl (fun _ _ _ h => h) (Or.inl ⟨by rfl, ?yl⟩) (by assumption) ?_
       case yl => (intro w hSw; (try dsimp only at hSw); (try obtain ⟨k1, k2, k3, k4, k5, k6, k7⟩ := hSw); go_simp); with_reducible rfl
       try simp only [sxA, sxB, sxC, Act.put, sxD, sxE, sxF]
       refine tkA (i := 28) (v := ?_) rfl (fun _ _ _ h => h) (Or.inl ⟨by rfl, ?yl⟩) (by assumption) ?_
       case yl => (intro w hSw; (try dsimp only at hSw); (try obtain ⟨k1, k2, k3, k4, k5, k6, k7⟩ := hSw); go_simp); with_reducible rfl
       try simp only [sxA, sxB, sxC, Act.put, sxD, sxE, sxF]
       refine wpAnyH_ready (rs := [29]) (by kernel_rfl) (by simp) ?_
       refine AllReadyH.cons (o := _) rfl (fun K hK => ?_) AllReadyH.nil
       go_simp
       refine hK.out _ _ ⟨(show Ext w4 _ from (by repeat (with_reducible first | assumption | exact Ext.refl _ | refine Ext.drew ?_ | refine Ext.drewN ?_ _ | refine Ext.alloc ?_ _ | refine xS ?_ _ | refine xT ?_ (by assumption)))).cell r1, (show Ext w4 _ from (by repeat (with_reducible first | assumption | exact Ext.refl _ | refine Ext.drew ?_ | refine Ext.drewN ?_ _ | refine Ext.alloc ?_ _ | refine xS ?_ _ | refine xT ?_ (by assumption)))).cell r2, (show Ext w4 _ from (by repeat (with_reducible first | assumption | exact Ext.refl _ | refine Ext.drew ?_ | refine Ext.drewN ?_ _ | refine Ext.alloc ?_ _ | refine xS ?_ _ | refine xT ?_ (by assumption)))).cell r3, (show Ext w4 _ from (by repeat (with_reducible first | assumption | exact Ext.refl _ | refine Ext.drew ?_ | refine Ext.drewN ?_ _ | refine Ext.alloc ?_ _ | refine xS ?_ _ | refine xT ?_ (by assumption)))).cell r4, (show Ext w4 _ from (by repeat (with_reducible first | assumption | exact Ext.refl _ | refine Ext.drew ?_ | refine Ext.drewN ?_ _ | refine Ext.alloc ?_ _ | refine xS ?_ _ | refine xT ?_ (by assumption)))).cell r5, (show Ext w4 _ from (by repeat (with_reducible first | assumption | exact Ext.refl _ | refine Ext.drew ?_ | refine Ext.drewN ?_ _ | refine Ext.alloc ?_ _ | refine xS ?_ _ | refine xT ?_ (by assumption)))).cell r6, (show Ext w4 _ from (by repeat (with_reducible first | assumption | exact Ext.refl _ | refine Ext.drew ?_ | refine Ext.drewN ?_ _ | refine Ext.alloc ?_ _ | refine xS ?_ _ | refine xT ?_ (by assumption)))).cell r7⟩ (fun hHeld => ?_)
       clear hK K
       refine wpAnyH_ready (rs := [30]) (by kernel_rfl) (by simp) ?_
       refine AllReadyH.cons (o := _) rfl (fun K hK => ?_) AllReadyH.nil
       rw [if_pos (by rfl)]
       refine appK_wp _ _ _ rfl 2 Try.underlying25 elemI64 w4.heap.size (dR (ent t) si c j) [x - y] _ rfl _ _ _ rfl (by rfl) ?b0 ?b1 ?b2 ?b3 ?_
       case b0 => exact ho.out.ext (by repeat (with_reducible first | assumption | exact Ext.refl _ | refine Ext.drew ?_ | refine Ext.drewN ?_ _ | refine Ext.alloc ?_ _ | refine xS ?_ _ | refine xT ?_ (by assumption)))
       case b1 => (intro i hi; obtain rfl : i = 0 := (by simp at hi; omega); exact ⟨_, _, rfl, by simp [go_sem, nth]⟩)
       case b2 => have h4 := hn4.out; rw [hlr.out]; simp; omega
       case b3 => have := Ext.size hX.out; simp; omega
       intro b9 cp9 w9 own9 ext9
       have hE9 : Ext w4 w9 := ext9 w4 (by have := hX.out; exact (by repeat (with_reducible first | assumption | exact Ext.refl _ | refine Ext.drew ?_ | refine Ext.drewN ?_ _ | refine Ext.alloc ?_ _ | refine xS ?_ _ | refine xT ?_ (by assumption)))) (Nat.le_refl _)
       simp only [List.length_singleton] at own9 ⊢
       refine hK.out _ _ ⟨(show Ext w4 w9 from (by repeat (with_reducible first | assumption | exact Ext.refl _ | refine Ext.drew ?_ | refine Ext.drewN ?_ _ | refine Ext.alloc ?_ _ | refine xS ?_ _ | refine xT ?_ (by assumption)))).cell r1, (show Ext w4 w9 from (by repeat (with_reducible first | assumption | exact Ext.refl _ | refine Ext.drew ?_ | refine Ext.drewN ?_ _ | refine Ext.alloc ?_ _ | refine xS ?_ _ | refine xT ?_ (by assumption)))).cell r2, (show Ext w4 w9 from (by repeat (with_reducible first | assumption | exact Ext.refl _ | refine Ext.drew ?_ | refine Ext.drewN ?_ _ | refine Ext.alloc ?_ _ | refine xS ?_ _ | refine xT ?_ (by assumption)))).cell r3, (show Ext w4 w9 from (by repeat (with_reducible first | assumption | exact Ext.refl _ | refine Ext.drew ?_ | refine Ext.drewN ?_ _ | refine Ext.alloc ?_ _ | refine xS ?_ _ | refine xT ?_ (by assumption)))).cell r4, (show Ext w4 w9 from (by repeat (with_reducible first | assumption | exact Ext.refl _ | refine Ext.drew ?_ | refine Ext.drewN ?_ _ | refine Ext.alloc ?_ _ | refine xS ?_ _ | refine xT ?_ (by assumption)))).cell r5, (show Ext w4 w9 from (by repeat (with_reducible first | assumption | exact Ext.refl _ | refine Ext.drew ?_ | refine Ext.drewN ?_ _ | refine Ext.alloc ?_ _ | refine xS ?_ _ | refine xT ?_ (by assumption)))).cell r6, (show Ext w4 w9 from (by repeat (with_reducible first | assumption | exact Ext.refl _ | refine Ext.drew ?_ | refine Ext.drewN ?_ _ | refine Ext.alloc ?_ _ | refine xS ?_ _ | refine xT ?_ (by assumption)))).cell r7⟩ (fun hHeld => ?_)
       clear hK K
       try simp only [sxA, sxB, sxC, Act.put, sxD, sxE, sxF]
       refine tkA (i := 31) (v := ?_) rfl (fun _ _ _ h => h) (Or.inl ⟨by rfl, ?yl⟩) (by assumption) ?_
       case yl => (intro w hSw; (try dsimp only at hSw); (try obtain ⟨k1, k2, k3, k4, k5, k6, k7⟩ := hSw); go_simp); with_reducible rfl
       try simp only [sxA, sxB, sxC, Act.put, sxD, sxE, sxF]
       refine wpAnyH_done (by kernel_rfl) ?_ _
       try simp only [sxA, sxB, sxC, Act.put, sxD, sxE, sxF]
       clear hHeld
       have hfr := hid own9
       have hfx := hid hE9
       clear own9 ext9 hE9 hXo r1 r2 r3 r4 r5 r6 r7
       have u1 := Go.IntWalk.i64_in ((j : Int) + 1 + 1) (by have h4 := hn4.out; omega)
       go_wp2_with fail
       go_roundw
       case rel => exact ⟨j + 1, by omega, by go_num, hid (by rw [hsr.out]; exact hfr.out), hfx⟩
       case measure => simp [intOf]; omega
      ·have hjn : j = n - 1 := by omega
       have hqn : ¬ ((j : Int) + 1 < (n : Int)) := by omega
       rw [hjn] at ho
       obtain ⟨la, lc, rfl, hLI⟩ := ho.out.slice
       have hlcap := hid ho.out.cap.2
       have hlb := hid ho.out.block
       obtain ⟨R, hR⟩ : ∃ R, dR (ent t) si c (n - 1) = R := ⟨_, rfl⟩
       rw [hR] at hlcap hlb hLI hstT ⊢
       have hLI := hid hLI
       have hsz := hid (Ext.size hX.out)
       have s3 := hid (Ext.size hxT.out)
       have hct : Hid ((dX (ent t) s c k r).length ≤ 4) := hid (by rw [dX_len]; have := hn4.out; split <;> omega)
       clear ho hR hjn
       by_cases hrk : r = k
       ·have e1 : ((r : Int) == (k : Int)) = true := by rw [beq_iff_eq]; omega
        have e2 : ((r : Int) != (k : Int)) = false := by rw [bne, e1]; rfl
        have hst := hid (hstT.out.trans (if_pos hrk))
        clear hstT hrk
        go_wp2_with fail
        go_roundw
        case rel => exact ⟨r + 1, by omega, by go_num, hid (by rw [hst.out]; exact hoT.out.ext hX.out), hid (hxT.out.trans hX.out)⟩
        case measure => simp [intOf]; omega
       ·have e1 : ((r : Int) == (k : Int)) = false := by rw [beq_eq_false_iff_ne]; omega
        have e2 : ((r : Int) != (k : Int)) = true := by rw [bne, e1]; rfl
        have e3 : ¬ (r : Int) = (k : Int) := by omega
        have hst := hid (hstT.out.trans (if_neg hrk))
        clear hstT hrk
        go_wp2_with (at_builtin; refine app_row rfl _ _ _ rfl 25 Try.underlying22 elemRowS w3.heap.size w3.heap.size (dX (ent t) s c k r) u12 rfl _ rfl (hoT.out.ext (by have := hX.out; exact (by repeat (with_reducible first | assumption | exact Ext.refl _ | refine Ext.drew ?_ | refine Ext.drewN ?_ _ | refine Ext.alloc ?_ _ | refine xS ?_ _ | refine xT ?_ (by assumption))))) R la R.length lc rfl ?A4 ?A5 hlcap.out ?A6 ?A7 ?A8 ?_; (case A4 => simp [go_sem]); (case A5 => exact hLI.out.ext (by repeat (with_reducible first | assumption | exact Ext.refl _ | refine Ext.drew ?_ | refine Ext.drewN ?_ _ | refine Ext.alloc ?_ _ | refine xS ?_ _ | refine xT ?_ (by assumption)))); (case A6 => intro bb oo h0 e; subst e; have z1 := (hlb.out bb (by simp [Value.ownBlock])).1; have z3 := s3.out; exact ⟨fun he => by have := (hoT.out.block bb he).2; omega, by omega⟩); (case A7 => have := hct.out; omega); (case A8 => have := hsz.out; have := s3.out; simp; omega); intro b9 cp9 w9 own9 g9 at9 hb9; have hE9 : Hid (Ext w3 w9) := hid (Ext.grown (by have := hX.out; have := hxT.out; exact (by repeat (with_reducible first | assumption | exact Ext.refl _ | refine Ext.drew ?_ | refine Ext.drewN ?_ _ | refine Ext.alloc ?_ _ | refine xS ?_ _ | refine xT ?_ (by assumption)))) g9 (fun g hg => (hoT.out.block g hg).1)); have own9 := hid own9; clear at9 g9 hb9)
        go_roundw
        case rel => exact ⟨r + 1, by omega, by go_num, hid (by rw [hst.out]; exact own9.out), hE9⟩
        case measure => simp [intOf]; omega
    ·have hrn : r = n := by omega
     have hqn : ¬ ((r : Int) < (n : Int)) := by omega
     have hend := hid (dX_end (ent t) s c k)
     rw [hn.out] at hend
     rw [hrn, hend.out] at hoT
     obtain ⟨w4, rfl⟩ : ∃ w4 : World, w4 = wr := ⟨_, rfl⟩
     obtain ⟨ta, tc, rfl, hTT⟩ := hoT.out.slice
     have hTT := hid hTT
     have hTl := hid (cutT_len (t := dTab (ent t) s c) (k := k) (by rw [dTab_len, hn.out]; exact hkl))
     rw [dTab_len, hn.out] at hTl
     rw [hTl.out]
     have hrc := hid (dTab_rc hvv.out (s := s) (c := c) (by rw [hn.out, hcn.out]) (by rw [hn.out]; omega))
     rw [hn.out] at hrc
     have hsq := hid (hrc.out.cut (w := k) (by omega))
     have hdet := hid (fun W hW => determinant_any (n - 1) (by have := hn4.out; omega) _ hsq.out ta (n - 1) tc rfl W hW)
     have hbd := hid (det_bd (n - 1) _ hsq.out)
     have hpe := hid (show partE (ent t) s c k = sgn k * detF (n - 1) (cutT (dTab (ent t) s c) k) by unfold partE; rw [hn.out])
     obtain ⟨dd, hdd⟩ : ∃ d, detF (n - 1) (cutT (dTab (ent t) s c) k) = d := ⟨_, rfl⟩
     rw [hdd] at hbd hdet hpe
     have hB : detB (n - 1) ≤ 48000000 := by
      have h4 := hn4.out
      have : n - 1 = 0 ∨ n - 1 = 1 ∨ n - 1 = 2 ∨ n - 1 = 3 := by omega
      rcases this with e | e | e | e <;> rw [e] <;> simp [detB]
     have hsg := hid (sgn_bd k)
     have hss := hid (sgn_step k)
     have hl1 := hid (show loE (ent t) s c (k + 1) = min (loE (ent t) s c k) (partE (ent t) s c k) from rfl)
     have hh1 := hid (show hiE (ent t) s c (k + 1) = max (hiE (ent t) s c k) (partE (ent t) s c k) from rfl)
     have hab := hid (abF_step (ent t) s c k)
     rw [← ab_max] at hab
     obtain ⟨sg, hsg0⟩ : ∃ x, sgn k = x := ⟨_, rfl⟩
     obtain ⟨lo, hlo0⟩ : ∃ x, loE (ent t) s c k = x := ⟨_, rfl⟩
     obtain ⟨hi, hhi0⟩ : ∃ x, hiE (ent t) s c k = x := ⟨_, rfl⟩
     rw [hsg0] at hsg hss hpe ⊢
     rw [hlo0] at hl1 ⊢
     rw [hhi0] at hh1 ⊢
     rw [hpe.out] at hl1 hh1 hab
     have e1 : sg * dd = dd ∨ sg * dd = -dd := by rcases hsg.out with rfl | rfl <;> omega
     have z1 := Go.IntWalk.i64_in (sg * dd) (by have := hbd.out; omega)
     have z4 := Go.IntWalk.i64_in (-(sg * dd)) (by have := hbd.out; omega)
     have z2 := Go.IntWalk.i64_in (-sg) (by have := hsg.out; omega)
     have z3 := Go.IntWalk.i64_in ((k : Int) + 1) (by have := hn4.out; omega)
     have hEw := hid (hxw.out.trans hxT.out)
     have p0 := hEw.out.cell (HR.out k hkl)
     have hs2 := hsl.out k hkl
     obtain ⟨sk, hsk⟩ : ∃ x, s.getD k 0 = x := ⟨_, rfl⟩
     rw [hsk] at p0 hs2 hab
     replace hdd := hid hdd
     replace hsg0 := hid hsg0
     replace hsk := hid hsk
     replace hlo0 := hid hlo0
     replace hhi0 := hid hhi0
     clear e1 hB hrn hoT
     go_wp2_with (first | (go_at_call 117; refine (hdet.out _ (hTT.out.ext (by repeat (with_reducible first | assumption | exact Ext.refl _ | refine Ext.drew ?_ | refine Ext.drewN ?_ _ | refine Ext.alloc ?_ _ | refine xS ?_ _ | refine xT ?_ (by assumption))))).mono ?_; rintro e w6 ⟨rfl, hE6⟩; have hO6 := hid ((hO.out.ext hxT.out).ext (show Ext w4 w6 from (by repeat (with_reducible first | assumption | exact Ext.refl _ | refine Ext.drew ?_ | refine Ext.drewN ?_ _ | refine Ext.alloc ?_ _ | refine xS ?_ _ | refine xT ?_ (by assumption))))); have p0 := (show Ext w4 w6 from (by repeat (with_reducible first | assumption | exact Ext.refl _ | refine Ext.drew ?_ | refine Ext.drewN ?_ _ | refine Ext.alloc ?_ _ | refine xS ?_ _ | refine xT ?_ (by assumption)))).cell p0; obtain ⟨q2, q3, -, q4⟩ := hO6.out.facts (j := sk) (by rw [mkL_len]; exact hs2)))
     have h2 := OwnI.set (l := mkL M (abF (ent t) s c k)) (by rw [mkL_len]; exact hO6.out) (i := sk) (if sg * dd < -(sg * dd) then -(sg * dd) else sg * dd)
     rw [mkL_set, mkL_len, maxIf, hab.out] at h2
     have h2 := hid h2
     rw [minIf, maxIf, maxIf]
     go_roundw
     case rel => exact ⟨k + 1, by omega, by go_num, by rw [hss.out], by rw [hl1.out], by rw [hh1.out], h2, hid (by have := hx.out; have := hxT.out; have := hgq.out; exact (show Ext wm w6 from (by repeat (with_reducible first | assumption | exact Ext.refl _ | refine Ext.drew ?_ | refine Ext.drewN ?_ _ | refine Ext.alloc ?_ _ | refine xS ?_ _ | refine xT ?_ (by assumption)))).setCell (by simp; omega) _), hid (by have := hEw.out; have := hgs.out; exact (show Ext w w6 from (by repeat (with_reducible first | assumption | exact Ext.refl _ | refine Ext.drew ?_ | refine Ext.drewN ?_ _ | refine Ext.alloc ?_ _ | refine xS ?_ _ | refine xT ?_ (by assumption)))).setCell (by simpa using hgs.out) _), hid (by rw [World.cell?_setCell_far _ _ _ _ (by simp; have := hg.out; have := hBx.out; omega)]; exact (show Ext w4 w6 from (by repeat (with_reducible first | assumption | exact Ext.refl _ | refine Ext.drew ?_ | refine Ext.drewN ?_ _ | refine Ext.alloc ?_ _ | refine xS ?_ _ | refine xT ?_ (by assumption)))).cell (hxT.out.cell hD.out))⟩
     case measure => simp [intOf]; omega
  ·have hkn : k = n := by omega
   have hqn : ¬ ((k : Int) < (n : Int)) := by omega
   rw [hkn] at hO ⊢
   rw [mkL_congr (fun r _ => hae.out r)] at hO
   have hls := (lo_spec (ent t) s c n).1
   have hhs := (hi_spec (ent t) s c n).1
   obtain ⟨lo, hlo⟩ : ∃ x, loE (ent t) s c n = x := ⟨_, rfl⟩
   obtain ⟨hi, hhi⟩ : ∃ x, hiE (ent t) s c n = x := ⟨_, rfl⟩
   rw [hlo, hhi] at hni2
   rw [hlo] at hls ⊢
   rw [hhi] at hhs ⊢
   have hqk : ¬ ((n : Int) < (n : Int)) := by omega
   obtain ⟨ok, hok⟩ : ∃ x, okE (ent t) s c M = x := ⟨_, rfl⟩
   rw [hok] at hni2
   replace hok := hid hok
   clear hkn hlo hhi hDc xw hx5 ho5
   by_cases h1 : lo < 0
   ·by_cases h2 : 0 < hi
    ·have hf := hni2.out.1 (.inl ⟨h1, h2⟩)
     subst hf
     replace hni2 := hid hni2
     go_wp2_with fail
     go_ret
     exact .inl ⟨hok.out, rfl, hxw.out⟩
    ·have h0 : hi = 0 := by omega
     subst h0
     have ht : ok = true := by
      cases ok
      ·have := hni2.out.2 rfl; omega
      ·rfl
     subst ht
     have n1 : ¬ lo = 0 := by omega
     have n2 : (lo == 0) = false := by rw [beq_eq_false_iff_ne]; omega
     clear hni2 h2
     go_wp2_with fail
     go_ret
     exact .inr ⟨hok.out, g, rfl, hO.out.mono hgs.out, hxw.out⟩
   ·have h0 : lo = 0 := by omega
    subst h0
    by_cases h2 : 0 < hi
    ·have ht : ok = true := by
      cases ok
      ·have := hni2.out.2 rfl; omega
      ·rfl
     subst ht
     have n1 : ¬ hi = 0 := by omega
     have n2 : (hi == 0) = false := by rw [beq_eq_false_iff_ne]; omega
     clear hni2 h1
     go_wp2_with fail
     go_ret
     exact .inr ⟨hok.out, g, rfl, hO.out.mono hgs.out, hxw.out⟩
    ·have h0 : hi = 0 := by omega
     subst h0
     have hf := hni2.out.1 (.inr ⟨rfl, rfl⟩)
     subst hf
     clear hni2
     go_wp2_with fail
     go_ret
     exact .inl ⟨hok.out, rfl, hxw.out⟩

end Go.Proofs.Ytommhgcgaclflaa
namespace Go.Proofs.Ytommhgcgaclflaa
set_option linter.unusedVariables false
set_option linter.unusedSimpArgs false
set_option linter.unusedSectionVars false
set_option linter.unnecessarySimpa false
open Go Go.RowKit Game
set_option maxRecDepth 100000

set_option maxHeartbeats 4000000 in
theorem partR_any (t : List (List Int)) (v : VldT t) (R C : List Nat) (hR : ∀ x ∈ R, x < t.length) (hC : ∀ x ∈ C, x < wid t) (r8 : R.length ≤ 8) (c8 : C.length ≤ 8) (a : Option Addr) (cap : Nat) (ar ac : Option Addr) (cr cc : Nat) (w : World) (hT : Tab w a t) (hI1 : Ints w ar (nats R)) (hI2 : Ints w ac (nats C)) :
 Calls Try.prog 49 #[(.agg #[.slice a t.length cap]), .slice ar R.length cr, .slice ac C.length cc] w (RetT (ptab t R C) w) := by
 have m1 := v.m1; have m4 := v.m4; have n1 := v.n1; have n4 := v.n4
 obtain ⟨b, off, B, O, CP, rfl, hb, hcc⟩ := hT.fullC (by omega) v.eq (by omega)
 have HC := hid hcc
 have HR : Hid (∀ i, i < R.length → ∃ b off, ar = some ⟨b, off, none⟩ ∧ w.cell? ⟨b, off + i, none⟩ = some (.int .i64 (R.getD i 0 : Nat))) := hid fun i hi => by
  obtain ⟨b, off, e, h⟩ := hI1 i (by rw [nats_len]; exact hi)
  rw [nats_nth] at h; exact ⟨b, off, e, h⟩
 have HCc : Hid (∀ i, i < C.length → ∃ b off, ac = some ⟨b, off, none⟩ ∧ w.cell? ⟨b, off + i, none⟩ = some (.int .i64 (C.getD i 0 : Nat))) := hid fun i hi => by
  obtain ⟨b, off, e, h⟩ := hI2 i (by rw [nats_len]; exact hi)
  rw [nats_nth] at h; exact ⟨b, off, e, h⟩
 have hRl : Hid (∀ i, i < R.length → R.getD i 0 < t.length) := hid fun i hi => getD_lt hR hi
 have hCl : Hid (∀ i, i < C.length → C.getD i 0 < wid t) := hid fun i hi => getD_lt hC hi
 obtain ⟨M, hM⟩ : ∃ M, t.length = M := ⟨_, rfl⟩
 obtain ⟨NW, hN⟩ : ∃ M, wid t = M := ⟨_, rfl⟩
 rw [hM] at HC hRl m1 m4 ⊢
 rw [hN] at HC hCl n1 n4
 replace hM := hid hM
 replace hN := hid hN
 obtain ⟨rl, hrl⟩ : ∃ x, R.length = x := ⟨_, rfl⟩
 obtain ⟨cl, hcl⟩ : ∃ x, C.length = x := ⟨_, rfl⟩
 have hpt : Hid (ptab t R C = ptabN t R C rl) := hid (by rw [← hrl]; rfl)
 have hps : Hid (∀ k, ptabN t R C (k + 1) = ptabN t R C k ++ [prow t (R.getD k 0) C cl]) := hid (by rw [← hcl]; exact fun k => rfl)
 rw [hrl] at HR hRl r8 ⊢
 rw [hcl] at HCc hCl c8 ⊢
 replace hrl := hid hrl
 replace hcl := hid hcl
 clear hcc hT hI1 hI2 hR hC
 go_enter Try.func49, Try.ntmps49
 go_wp2_with fail
 obtain ⟨D, hDD⟩ : ∃ D, D = w.heap.size + 2 := ⟨_, rfl⟩
 obtain ⟨w0, hw0⟩ : ∃ w0, w0 = ((w.alloc (.cells #[.slice (some ⟨b, off, none⟩) M cap] 24)).alloc (.cells #[.slice none 0 0] 24)).alloc (.cells #[.slice none 0 0] 24) := ⟨_, rfl⟩
 have x0 : Ext w w0 := by rw [hw0]; exact (by repeat (with_reducible first | assumption | exact Ext.refl _ | refine Ext.drew ?_ | refine Ext.drewN ?_ _ | refine Ext.alloc ?_ _ | refine xS ?_ _ | refine xT ?_ (by assumption)))
 have d0 : w0.cell? ⟨w.heap.size, 0, none⟩ = some (.slice (some ⟨b, off, none⟩) M cap) := by rw [hw0]; simp [go_sem]
 have d1 : w0.cell? ⟨w.heap.size + 1, 0, none⟩ = some (.slice none 0 0) := by rw [hw0]; simp [go_sem]
 have d2 : w0.cell? ⟨w.heap.size + 2, 0, none⟩ = some (.slice none 0 0) := by rw [hw0]; simp [go_sem]
 have g1 : w0.frozen? ⟨w.heap.size + 1, 0, none⟩ = false := by rw [hw0]; simp [go_sem]
 have g2 : w0.frozen? ⟨w.heap.size + 2, 0, none⟩ = false := by rw [hw0]; simp [go_sem]
 have s0 : w0.heap.size = w.heap.size + 3 := by rw [hw0]; simp
 obtain ⟨E, hE⟩ : ∃ E, E = w.heap.size + 1 := ⟨_, rfl⟩
 obtain ⟨T, hTT⟩ : ∃ T, T = w.heap.size := ⟨_, rfl⟩
 rw [show w.heap.size + 1 + 1 = w.heap.size + 2 from rfl, ← hw0, ← hDD, ← hE, ← hTT]
 rw [← hTT] at d0
 rw [← hE] at d1 g1
 rw [← hDD] at d2 g2
 have hTD : T < D := by omega
 have hED : E < D := by omega
 have hD1 : w.heap.size + 2 ≤ D := by omega
 have hs0 : w0.heap.size = D + 1 := by omega
 have hE1 : w.heap.size ≤ E := by omega
 clear hw0 s0
 replace hDD := hid hDD
 replace hE := hid hE
 replace hTT := hid hTT
 go_loopw [8] (fun i wr => ∃ (k : Nat) (vv : Value), k ≤ rl ∧ i = .int .i64 k ∧ Hid (Grw wr D 25 vv (ptabN t R C k)) ∧ Hid (wr.cell? ⟨T, 0, none⟩ = some (.slice (some ⟨b, off, none⟩) M cap) ∧ wr.cell? ⟨E, 0, none⟩ = some (.slice none 0 0) ∧ wr.frozen? ⟨E, 0, none⟩ = false) ∧ Hid (Ext w wr)) (fun i _ => (rl - intOf i).toNat)
 case atStart => exact ⟨0, .slice none 0 0, by omega, rfl, hid ⟨d2, g2, OwnT.nil _ _ _ _, by omega⟩, hid ⟨d0, d1, g1⟩, hid x0⟩
 case round =>
  obtain ⟨k, vv, hk, rfl, hG, hF, HW⟩ := hrel
  obtain ⟨d0', d1', g1'⟩ := hF.out
  by_cases hlt : k < rl
  ·obtain ⟨Br, Ow, rfl, p2⟩ := HR.out k hlt
   have P2 := hid (HW.out.cell p2)
   have hsi := hid (hRl.out k hlt)
   have hst := hid (hps.out k)
   obtain ⟨si, hsi0⟩ : ∃ x, R.getD k 0 = x := ⟨_, rfl⟩
   rw [hsi0] at P2 hsi hst
   replace hsi0 := hid hsi0
   obtain ⟨w1, rfl⟩ : ∃ w1 : World, w1 = wr := ⟨_, rfl⟩
   have hD0 := hid d0'
   have u2 := Go.IntWalk.i64_in ((k : Int) + 1) (by omega)
   have hlt2 : (k : Int) < (rl : Int) := by omega
   clear d0 d1 d2 g1 g2 p2 x0
   go_wp2_with fail
   go_loopw [9, 10] (fun r i wr => ∃ j : Nat, j ≤ cl ∧ i = .int .i64 j ∧ Hid (OwnI wr w1.heap.size 2 r (prow t si C j)) ∧ Hid (Ext w1 wr)) (fun _ i _ => (cl - intOf i).toNat)
   case atStart => exact ⟨0, by omega, rfl, hid (OwnI.nil _ _ _), hid (Ext.refl _)⟩
   case round =>
    obtain ⟨j, hj, rfl, ho, hX⟩ := hrel
    by_cases hjl : j < cl
    ·obtain ⟨Bc, Oc, rfl, p4⟩ := HCc.out j hjl
     obtain ⟨w5, rfl⟩ : ∃ w4 : World, w4 = wr := ⟨_, rfl⟩
     have hXo := hX.out
     have xw := hid (HW.out.trans hX.out)
     have r1 := hXo.cell hD0.out
     have r2 := hXo.cell P2.out
     obtain ⟨r30, _, rr, _⟩ := HC.out si hsi.out
     have r3 := xw.out.cell r30
     have g4 := hCl.out j hjl
     have r4 := xw.out.cell p4
     have hsr := hid (show prow t si C (j + 1) = prow t si C j ++ [ent t si (C.getD j 0)] from rfl)
     have P5 := hid (rr _ g4)
     have P4 := hid p4
     have P3 := hid r30
     have r5 := xw.out.cell (rr _ g4)
     have hlr := hid (prow_len t si C j)
     obtain ⟨cj, hcj⟩ : ∃ x, C.getD j 0 = x := ⟨_, rfl⟩
     rw [hcj] at g4 r4 r5 hsr P4 P5
     obtain ⟨x, hx0⟩ : ∃ x, ent t si cj = x := ⟨_, rfl⟩
     rw [hx0] at r5 hsr P5
     have h9 := hsi.out
     have hjl2 : (j : Int) < (cl : Int) := by omega
     have u1 := Go.IntWalk.i64_in ((j : Int) + 1) (by omega)
     clear rr hcj hx0 p4 r30
     go_wp2_with fail
     refine wp_region_held_drew (S := fun w' => w'.cell? ⟨T, 0, none⟩ = some (.slice (some ⟨b, off, none⟩) M cap) ∧ w'.cell? ⟨Br, Ow + k, none⟩ = some (.int .i64 si) ∧ w'.cell? ⟨b, off + si, none⟩ = some (.slice (some ⟨B si, O si, none⟩) NW (CP si)) ∧ w'.cell? ⟨Bc, Oc + j, none⟩ = some (.int .i64 cj) ∧ w'.cell? ⟨B si, O si + cj, none⟩ = some (.int .i64 x)) (by kernel_rfl) ⟨(show Ext w5 w5.drew from (by repeat (with_reducible first | assumption | exact Ext.refl _ | refine Ext.drew ?_ | refine Ext.drewN ?_ _ | refine Ext.alloc ?_ _ | refine xS ?_ _ | refine xT ?_ (by assumption)))).cell r1, (show Ext w5 w5.drew from (by repeat (with_reducible first | assumption | exact Ext.refl _ | refine Ext.drew ?_ | refine Ext.drewN ?_ _ | refine Ext.alloc ?_ _ | refine xS ?_ _ | refine xT ?_ (by assumption)))).cell r2, (show Ext w5 w5.drew from (by repeat (with_reducible first | assumption | exact Ext.refl _ | refine Ext.drew ?_ | refine Ext.drewN ?_ _ | refine Ext.alloc ?_ _ | refine xS ?_ _ | refine xT ?_ (by assumption)))).cell r3, (show Ext w5 w5.drew from (by repeat (with_reducible first | assumption | exact Ext.refl _ | refine Ext.drew ?_ | refine Ext.drewN ?_ _ | refine Ext.alloc ?_ _ | refine xS ?_ _ | refine xT ?_ (by assumption)))).cell r4, (show Ext w5 w5.drew from (by repeat (with_reducible first | assumption | exact Ext.refl _ | refine Ext.drew ?_ | refine Ext.drewN ?_ _ | refine Ext.alloc ?_ _ | refine xS ?_ _ | refine xT ?_ (by assumption)))).cell r5⟩ fun hHeld => ?_
     refine tkA (i := 0) (v := ?_) rfl (fun _ _ _ h => h) (Or.inl ⟨by rfl, ?yl⟩) (by assumption) ?_
     case yl => (intro w hSw; (try dsimp only at hSw); (try obtain ⟨k1, k2, k3, k4, k5⟩ := hSw); go_simp); with_reducible rfl
     try simp only [sxA, sxB, sxC, Act.put, sxD, sxE, sxF]
     refine tkA (i := 1) (v := ?_) rfl (fun _ _ _ h => h) (Or.inl ⟨by rfl, ?yl⟩) (by assumption) ?_
     case yl => (intro w hSw; (try dsimp only at hSw); (try obtain ⟨k1, k2, k3, k4, k5⟩ := hSw); go_simp); with_reducible rfl
     try simp only [sxA, sxB, sxC, Act.put, sxD, sxE, sxF]
     refine tkA (i := 2) (v := ?_) rfl (fun _ _ _ h => h) (Or.inl ⟨by rfl, ?yl⟩) (by assumption) ?_
     case yl => (intro w hSw; (try dsimp only at hSw); (try obtain ⟨k1, k2, k3, k4, k5⟩ := hSw); go_simp); with_reducible rfl
     try simp only [sxA, sxB, sxC, Act.put, sxD, sxE, sxF]
     refine tkA (i := 3) (v := ?_) rfl (fun _ _ _ h => h) (Or.inl ⟨by rfl, ?yl⟩) (by assumption) ?_
     case yl => (intro w hSw; (try dsimp only at hSw); (try obtain ⟨k1, k2, k3, k4, k5⟩ := hSw); go_simp); with_reducible rfl
     try simp only [sxA, sxB, sxC, Act.put, sxD, sxE, sxF]
     refine tkA (i := 4) (v := ?_) rfl (fun _ _ _ h => h) (Or.inl ⟨by rfl, ?yl⟩) (by assumption) ?_
     case yl => (intro w hSw; (try dsimp only at hSw); (try obtain ⟨k1, k2, k3, k4, k5⟩ := hSw); go_simp); with_reducible rfl
     try simp only [sxA, sxB, sxC, Act.put, sxD, sxE, sxF]
     refine tkA (i := 5) (v := ?_) rfl (fun _ _ _ h => h) (Or.inl ⟨by rfl, ?yl⟩) (by assumption) ?_
     case yl => (intro w hSw; (try dsimp only at hSw); (try obtain ⟨k1, k2, k3, k4, k5⟩ := hSw); go_simp); with_reducible rfl
     try simp only [sxA, sxB, sxC, Act.put, sxD, sxE, sxF]
     refine tkA (i := 6) (v := ?_) rfl (fun _ _ _ h => h) (Or.inl ⟨by rfl, ?yl⟩) (by assumption) ?_
     case yl => (intro w hSw; (try dsimp only at hSw); (try obtain ⟨k1, k2, k3, k4, k5⟩ := hSw); go_simp); with_reducible rfl
     try simp only [sxA, sxB, sxC, Act.put, sxD, sxE, sxF]
     refine tkA (i := 7) (v := ?_) rfl (fun _ _ _ h => h) (Or.inl ⟨by rfl, ?yl⟩) (by assumption) ?_
     case yl => (intro w hSw; (try dsimp only at hSw); (try obtain ⟨k1, k2, k3, k4, k5⟩ := hSw); go_simp); with_reducible rfl
     try simp only [sxA, sxB, sxC, Act.put, sxD, sxE, sxF]
     refine tkA (i := 8) (v := ?_) rfl (fun _ _ _ h => h) (Or.inl ⟨by rfl, ?yl⟩) (by assumption) ?_
     case yl => (intro w hSw; (try dsimp only at hSw); (try obtain ⟨k1, k2, k3, k4, k5⟩ := hSw); go_simp); with_reducible rfl
     try simp only [sxA, sxB, sxC, Act.put, sxD, sxE, sxF]
     refine tkA (i := 9) (v := ?_) rfl (fun _ _ _ h => h) (Or.inl ⟨by rfl, ?yl⟩) (by assumption) ?_
     case yl => (intro w hSw; (try dsimp only at hSw); (try obtain ⟨k1, k2, k3, k4, k5⟩ := hSw); go_simp); with_reducible rfl
     try simp only [sxA, sxB, sxC, Act.put, sxD, sxE, sxF]
     refine tkA (i := 10) (v := ?_) rfl (fun _ _ _ h => h) (Or.inl ⟨by rfl, ?yl⟩) (by assumption) ?_
     case yl => (intro w hSw; (try dsimp only at hSw); (try obtain ⟨k1, k2, k3, k4, k5⟩ := hSw); go_simp); with_reducible rfl
     try simp only [sxA, sxB, sxC, Act.put, sxD, sxE, sxF]
     refine tkA (i := 11) (v := ?_) rfl (fun _ _ _ h => h) (Or.inl ⟨by rfl, ?yl⟩) (by assumption) ?_
     case yl => (intro w hSw; (try dsimp only at hSw); (try obtain ⟨k1, k2, k3, k4, k5⟩ := hSw); go_simp); with_reducible rfl
     try simp only [sxA, sxB, sxC, Act.put, sxD, sxE, sxF]
     refine tkA (i := 12) (v := ?_) rfl (fun _ _ _ h => h) (Or.inl ⟨by rfl, ?yl⟩) (by assumption) ?_
     case yl => (intro w hSw; (try dsimp only at hSw); (try obtain ⟨k1, k2, k3, k4, k5⟩ := hSw); go_simp); with_reducible rfl
     try simp only [sxA, sxB, sxC, Act.put, sxD, sxE, sxF]
     refine tkA (i := 13) (v := ?_) rfl (fun _ _ _ h => h) (Or.inl ⟨by rfl, ?yl⟩) (by assumption) ?_
     case yl => (intro w hSw; (try dsimp only at hSw); (try obtain ⟨k1, k2, k3, k4, k5⟩ := hSw); go_simp); with_reducible rfl
     try simp only [sxA, sxB, sxC, Act.put, sxD, sxE, sxF]
     refine tkA (i := 14) (v := ?_) rfl (fun _ _ _ h => h) (Or.inl ⟨by rfl, ?yl⟩) (by assumption) ?_
     case yl => (intro w hSw; (try dsimp only at hSw); (try obtain ⟨k1, k2, k3, k4, k5⟩ := hSw); go_simp); with_reducible rfl
     try simp only [sxA, sxB, sxC, Act.put, sxD, sxE, sxF]
     refine wpAnyH_ready (rs := [15]) (by kernel_rfl) (by simp) ?_
     refine AllReadyH.cons (o := _) rfl (fun K hK => ?_) AllReadyH.nil
     go_simp
     refine hK.out _ _ ⟨(show Ext w5 _ from (by repeat (with_reducible first | assumption | exact Ext.refl _ | refine Ext.drew ?_ | refine Ext.drewN ?_ _ | refine Ext.alloc ?_ _ | refine xS ?_ _ | refine xT ?_ (by assumption)))).cell r1, (show Ext w5 _ from (by repeat (with_reducible first | assumption | exact Ext.refl _ | refine Ext.drew ?_ | refine Ext.drewN ?_ _ | refine Ext.alloc ?_ _ | refine xS ?_ _ | refine xT ?_ (by assumption)))).cell r2, (show Ext w5 _ from (by repeat (with_reducible first | assumption | exact Ext.refl _ | refine Ext.drew ?_ | refine Ext.drewN ?_ _ | refine Ext.alloc ?_ _ | refine xS ?_ _ | refine xT ?_ (by assumption)))).cell r3, (show Ext w5 _ from (by repeat (with_reducible first | assumption | exact Ext.refl _ | refine Ext.drew ?_ | refine Ext.drewN ?_ _ | refine Ext.alloc ?_ _ | refine xS ?_ _ | refine xT ?_ (by assumption)))).cell r4, (show Ext w5 _ from (by repeat (with_reducible first | assumption | exact Ext.refl _ | refine Ext.drew ?_ | refine Ext.drewN ?_ _ | refine Ext.alloc ?_ _ | refine xS ?_ _ | refine xT ?_ (by assumption)))).cell r5⟩ (fun hHeld => ?_)
     clear hK K
     refine wpAnyH_ready (rs := [16]) (by kernel_rfl) (by simp) ?_
     refine AllReadyH.cons (o := _) rfl (fun K hK => ?_) AllReadyH.nil
     rw [if_pos (by rfl)]
     refine appK_wp _ _ _ rfl 2 Try.underlying25 elemI64 w1.heap.size (prow t si C j) [x] _ rfl _ _ _ rfl (by rfl) ?b0 ?b1 ?b2 ?b3 ?_
     case b0 => exact ho.out.ext (by repeat (with_reducible first | assumption | exact Ext.refl _ | refine Ext.drew ?_ | refine Ext.drewN ?_ _ | refine Ext.alloc ?_ _ | refine xS ?_ _ | refine xT ?_ (by assumption)))
     case b1 => (intro i hi; obtain rfl : i = 0 := (by simp at hi; omega); exact ⟨_, _, rfl, by simp [go_sem, nth]⟩)
     case b2 => rw [hlr.out]; simp; omega
     case b3 => have := Ext.size hX.out; simp; omega
     intro b9 cp9 w9 own9 ext9
     have hE9 : Ext w1 w9 := ext9 w1 (by have := hX.out; exact (by repeat (with_reducible first | assumption | exact Ext.refl _ | refine Ext.drew ?_ | refine Ext.drewN ?_ _ | refine Ext.alloc ?_ _ | refine xS ?_ _ | refine xT ?_ (by assumption)))) (Nat.le_refl _)
     have hE5 : Hid (w9.cell? ⟨T, 0, none⟩ = some (.slice (some ⟨b, off, none⟩) M cap) ∧ w9.cell? ⟨Br, Ow + k, none⟩ = some (.int .i64 si) ∧ w9.cell? ⟨b, off + si, none⟩ = some (.slice (some ⟨B si, O si, none⟩) NW (CP si)) ∧ w9.cell? ⟨Bc, Oc + j, none⟩ = some (.int .i64 cj) ∧ w9.cell? ⟨B si, O si + cj, none⟩ = some (.int .i64 x)) := hid (by
      have z2 := HW.out.trans hE9
      exact ⟨hE9.cell hD0.out, hE9.cell P2.out, z2.cell P3.out, z2.cell P4.out, z2.cell P5.out⟩)
     simp only [List.length_singleton] at own9 ⊢
     refine hK.out _ _ hE5.out (fun hHeld => ?_)
     clear hK K
     try simp only [sxA, sxB, sxC, Act.put, sxD, sxE, sxF]
     refine tkA (i := 17) (v := ?_) rfl (fun _ _ _ h => h) (Or.inl ⟨by rfl, ?yl⟩) (by assumption) ?_
     case yl => (intro w hSw; (try dsimp only at hSw); (try obtain ⟨k1, k2, k3, k4, k5⟩ := hSw); go_simp); with_reducible rfl
     try simp only [sxA, sxB, sxC, Act.put, sxD, sxE, sxF]
     refine wpAnyH_done (by kernel_rfl) ?_ _
     try simp only [sxA, sxB, sxC, Act.put, sxD, sxE, sxF]
     clear hHeld
     have hfr := hid own9
     have hfx := hid hE9
     clear own9 ext9 hE9 hXo r1 r2 r3 r4 r5
     go_wp2_with fail
     go_roundw
     case rel => exact ⟨j + 1, by omega, by go_num, hid (by rw [hsr.out]; exact hfr.out), hfx⟩
     case measure => simp [intOf]; omega
    ·have hjn : j = cl := by omega
     have hnl : ¬ (j : Int) < (cl : Int) := by omega
     rw [hjn] at ho
     have hlen := hid (prow_len t si C cl)
     have hlt2 := hid (ptabN_len t R C k)
     have hG2 := hid (hG.out.ext hX.out)
     have ra := hid ho.out.block
     obtain ⟨ba, cpa, rfl, hIa⟩ := ho.out.slice
     have hIa := hid hIa
     have hcapa := hid ho.out.cap
     have cD := hG2.out.c
     have fD := hG2.out.f
     have lD := hG2.out.l
     have hF2 := hid (And.intro (hX.out.cell d0') (And.intro (hX.out.cell d1') ((hX.out.frozen (cell_lt d1')).trans g1')))
     have xw := hid (HW.out.trans hX.out)
     clear ho hjn
     go_wp2_with (at_builtin; refine app_row rfl _ _ _ rfl 25 Try.underlying22 elemRow (D + 1) (D + 1) (ptabN t R C k) vv rfl _ rfl (hG2.out.o.ext (by repeat (with_reducible first | assumption | exact Ext.refl _ | refine Ext.drew ?_ | refine Ext.drewN ?_ _ | refine Ext.alloc ?_ _ | refine xS ?_ _ | refine xT ?_ (by assumption)))) (prow t si C cl) ba _ cpa rfl ?c4 (hIa.out.ext (by repeat (with_reducible first | assumption | exact Ext.refl _ | refine Ext.drew ?_ | refine Ext.drewN ?_ _ | refine Ext.alloc ?_ _ | refine xS ?_ _ | refine xT ?_ (by assumption)))) hcapa.out.2 ?c5 ?c6 ?c7 ?_; (case c4 => simp [go_sem]); (case c5 => intro bb oo h0 e; subst e; have z1 := (ra.out bb (by simp [Value.ownBlock])).1; have z2 := hG.out.l; exact ⟨fun he => by have := (hG.out.o.block bb he).2; omega, by omega⟩); (case c6 => rw [hlt2.out]; omega); (case c7 => simp; omega); intro b9 cp9 w9 own9 g9 at9 hb9; obtain ⟨q0, q1, q2, q3⟩ := (hG2.out.ext (show Ext wr _ from (by repeat (with_reducible first | assumption | exact Ext.refl _ | refine Ext.drew ?_ | refine Ext.drewN ?_ _ | refine Ext.alloc ?_ _ | refine xS ?_ _ | refine xT ?_ (by assumption))))).app g9; obtain ⟨r0, r1⟩ := (hG2.out.ext (show Ext wr _ from (by repeat (with_reducible first | assumption | exact Ext.refl _ | refine Ext.drew ?_ | refine Ext.drewN ?_ _ | refine Ext.alloc ?_ _ | refine xS ?_ _ | refine xT ?_ (by assumption))))).old g9 T hTD 0; obtain ⟨r2, r3⟩ := (hG2.out.ext (show Ext wr _ from (by repeat (with_reducible first | assumption | exact Ext.refl _ | refine Ext.drew ?_ | refine Ext.drewN ?_ _ | refine Ext.alloc ?_ _ | refine xS ?_ _ | refine xT ?_ (by assumption))))).old g9 E hED 0)
     have hlD := hG.out.l
     go_roundw
     case rel => exact ⟨k + 1, _, by omega, by go_num, hid (by rw [hst.out]; exact Grw.put own9 q0 q1 q2), hid ⟨by simp [go_sem, r0, Nat.ne_of_lt hTD]; exact Ext.cell (by repeat (with_reducible first | assumption | exact Ext.refl _ | refine Ext.drew ?_ | refine Ext.drewN ?_ _ | refine Ext.alloc ?_ _ | refine xS ?_ _ | refine xT ?_ (by assumption))) hF2.out.1, by simp [go_sem, r2, Nat.ne_of_lt hED]; exact Ext.cell (by repeat (with_reducible first | assumption | exact Ext.refl _ | refine Ext.drew ?_ | refine Ext.drewN ?_ _ | refine Ext.alloc ?_ _ | refine xS ?_ _ | refine xT ?_ (by assumption))) hF2.out.2.1, by simp [go_sem, r3, Nat.ne_of_lt hED]; exact (Ext.frozen (w := wr) (by repeat (with_reducible first | assumption | exact Ext.refl _ | refine Ext.drew ?_ | refine Ext.drewN ?_ _ | refine Ext.alloc ?_ _ | refine xS ?_ _ | refine xT ?_ (by assumption))) (cell_lt hF2.out.2.1)).trans hF2.out.2.2⟩, hid (by have xx := q3 w (by have := xw.out; exact (by repeat (with_reducible first | assumption | exact Ext.refl _ | refine Ext.drew ?_ | refine Ext.drewN ?_ _ | refine Ext.alloc ?_ _ | refine xS ?_ _ | refine xT ?_ (by assumption)))) (by omega); exact (by repeat (with_reducible first | assumption | exact Ext.refl _ | refine Ext.drew ?_ | refine Ext.drewN ?_ _ | refine Ext.alloc ?_ _ | refine xS ?_ _ | refine xT ?_ (by assumption))))⟩
     case measure => simp [intOf]; omega
  ·have hkn : k = rl := by omega
   have hnl : ¬ (k : Int) < (rl : Int) := by omega
   rw [hkn, ← hpt.out] at hG
   obtain ⟨aa, cc2, hv, hTT2⟩ := hG.out.o.slice
   have cD := hG.out.c
   rw [hv] at cD
   have hput := hid (fun u => show Tab (wr.setCell ⟨E, 0, none⟩ u) aa (ptab t R C) by
    obtain ⟨a3, c3, h3, h4⟩ := (hG.out.o.put (p := ⟨E, 0, none⟩) (by simp; omega) (by simp; omega) u).slice
    rw [hv] at h3
    simp only [Value.slice.injEq] at h3
    rw [h3.1]; exact h4)
   clear hG hv hTT2 hkn
   go_wp2_with fail
   refine bodyPost_ret (v := (.agg #[.slice aa (ptab t R C).length cc2])) ?_ rfl ?_
   ·simp [results, Try.results49, go_sem, *]
   ·exact ⟨aa, cc2, rfl, hput.out _, by have := HW.out; exact (by repeat (with_reducible first | assumption | exact Ext.refl _ | refine Ext.drew ?_ | refine Ext.drewN ?_ _ | refine Ext.alloc ?_ _ | refine xS ?_ _ | refine xT ?_ (by assumption)))⟩

end Go.Proofs.Ytommhgcgaclflaa
namespace Go.Proofs.Ytommhgcgaclflaa
set_option linter.unusedVariables false
set_option linter.unusedSimpArgs false
set_option linter.unusedSectionVars false
set_option linter.unnecessarySimpa false
open Go Go.RowKit Game
set_option maxRecDepth 100000

set_option maxHeartbeats 8000000 in
theorem spareR_any (t : List (List Int)) (v : VldT t) (a : Option Addr) (cap : Nat) (w : World) (hT : Tab w a t) :
 Calls Try.prog 52 #[(.agg #[.slice a t.length cap])] w fun e w' => e = .returned (.int .i64 (if spI t < t.length then (spI t : Int) else -1)) ∧ Ext w w' := by
 have m1 := v.m1; have m4 := v.m4; have n1 := v.n1; have n4 := v.n4
 obtain ⟨b, off, B, O, CP, rfl, hb, hcc⟩ := hT.fullC (by omega) v.eq (by omega)
 have HC := hid hcc
 have hbt : Hid (∀ i o, btn t (List.range (wid t)) i o = (geTo t i o (List.range (wid t)) (wid t) && mrTo t i o (List.range (wid t)) (decide (o < i)) (wid t) && decide (o ≠ i))) := hid fun i o => by unfold btn; rw [List.length_range]
 have hmr : Hid (∀ i o, mrTo t i o (List.range (wid t)) (decide (o < i)) (wid t) = (mrTo t i o (List.range (wid t)) false (wid t) || decide (o < i))) := hid fun i o => by
  rw [Bool.eq_iff_iff]; simp only [Bool.or_eq_true, mrTo_iff, decide_eq_true_eq]; simp
  exact Or.comm
 have hg1 : Hid (∀ i o k, k < wid t → geTo t i o (List.range (wid t)) (k + 1) = (geTo t i o (List.range (wid t)) k && decide (ent t i k ≤ ent t o k))) := hid fun i o k h => by
  show (_ && decide (ent t i ((List.range (wid t)).getD k 0) ≤ ent t o ((List.range (wid t)).getD k 0))) = _
  rw [range_getD h]
 have hm1 : Hid (∀ i o k, k < wid t → mrTo t i o (List.range (wid t)) false (k + 1) = (mrTo t i o (List.range (wid t)) false k || decide (ent t i k < ent t o k))) := hid fun i o k h => by
  show (_ || decide (ent t i ((List.range (wid t)).getD k 0) < ent t o ((List.range (wid t)).getD k 0))) = _
  rw [range_getD h]
 have hg0 : Hid (∀ i o, geTo t i o (List.range (wid t)) 0 = true ∧ mrTo t i o (List.range (wid t)) false 0 = false) := hid fun i o => ⟨rfl, rfl⟩
 have hsp : Hid (∀ i, spB t (List.range t.length) (List.range (wid t)) i = true ↔ ∃ o, o < t.length ∧ btn t (List.range (wid t)) i o = true) := hid fun i => by unfold spB; rw [List.any_eq_true]; simp
 have hyes : Hid (∀ i, i < t.length → (∀ j, j < i → spB t (List.range t.length) (List.range (wid t)) j = false) → spB t (List.range t.length) (List.range (wid t)) i = true → (if spI t < t.length then (spI t : Int) else -1) = (i : Int)) := hid fun i hi h1 h2 => by
  have e : spI t = i := by
   unfold spI
   have hlen : (List.range t.length).length = t.length := List.length_range
   refine (List.findIdx_eq (by rw [hlen]; exact hi)).2 ⟨by simpa using h2, fun j hj => by simpa using h1 j hj⟩
  rw [e, if_pos hi]
 have hno : Hid ((∀ j, j < t.length → spB t (List.range t.length) (List.range (wid t)) j = false) → (if spI t < t.length then (spI t : Int) else -1) = -1) := hid fun h => by
  rw [if_neg]
  intro g
  unfold spI at g
  have := List.findIdx_getElem (w := by simpa using g) (xs := List.range t.length) (p := spB t (List.range t.length) (List.range (wid t)))
  rw [List.getElem_range] at this
  rw [h _ g] at this; cases this
 obtain ⟨RES, hRES⟩ : ∃ x : Int, (if spI t < t.length then (spI t : Int) else -1) = x := ⟨_, rfl⟩
 rw [hRES] at hyes hno ⊢
 obtain ⟨SP, hSP⟩ : ∃ f, spB t (List.range t.length) (List.range (wid t)) = f := ⟨_, rfl⟩
 rw [hSP] at hsp hyes hno
 obtain ⟨BT, hBT⟩ : ∃ f, btn t (List.range (wid t)) = f := ⟨_, rfl⟩
 rw [hBT] at hsp hbt
 obtain ⟨GE, hGE⟩ : ∃ f : Nat → Nat → Nat → Bool, ∀ i o k, geTo t i o (List.range (wid t)) k = f i o k := ⟨_, fun _ _ _ => rfl⟩
 obtain ⟨MR, hMR⟩ : ∃ f : Nat → Nat → Nat → Bool, ∀ i o k, mrTo t i o (List.range (wid t)) false k = f i o k := ⟨_, fun _ _ _ => rfl⟩
 have hbt : Hid (∀ i o, BT i o = (GE i o (wid t) && (MR i o (wid t) || decide (o < i)) && decide (o ≠ i))) := hid fun i o => by rw [hbt.out, hmr.out, hGE, hMR]
 replace hg1 : Hid (∀ i o k, k < wid t → GE i o (k + 1) = (GE i o k && decide (ent t i k ≤ ent t o k))) := hid fun i o k h => by rw [← hGE, ← hGE]; exact hg1.out i o k h
 replace hm1 : Hid (∀ i o k, k < wid t → MR i o (k + 1) = (MR i o k || decide (ent t i k < ent t o k))) := hid fun i o k h => by rw [← hMR, ← hMR]; exact hm1.out i o k h
 replace hg0 : Hid (∀ i o, GE i o 0 = true ∧ MR i o 0 = false) := hid fun i o => by rw [← hGE, ← hMR]; exact hg0.out i o
 replace hRES := hid hRES
 replace hSP := hid hSP
 replace hBT := hid hBT
 clear hGE hMR hmr
 obtain ⟨M, hM⟩ : ∃ M, t.length = M := ⟨_, rfl⟩
 obtain ⟨N, hN⟩ : ∃ M, wid t = M := ⟨_, rfl⟩
 rw [hM] at HC m1 m4 hsp hyes hno ⊢
 rw [hN] at HC n1 n4 hbt hg1 hm1
 replace hM := hid hM
 replace hN := hid hN
 obtain ⟨E, hE⟩ : ∃ f, ent t = f := ⟨_, rfl⟩
 rw [hE] at HC hg1 hm1
 replace hE := hid hE
 clear hcc hT hb v
 go_enter Try.func52, Try.ntmps52
 go_wp2_with fail
 refine name_wp (fun w1 hw1 => ?_)
 have X := hid (show Ext w w1 from by rw [hw1]; exact (by repeat (with_reducible first | assumption | exact Ext.refl _ | refine Ext.drew ?_ | refine Ext.drewN ?_ _ | refine Ext.alloc ?_ _ | refine xS ?_ _ | refine xT ?_ (by assumption))))
 have q0 : w1.cell? ⟨w.heap.size, 0, none⟩ = some (.slice (some ⟨b, off, none⟩) M cap) := by rw [hw1]; simp [go_sem]
 clear hw1
 obtain ⟨Bx, hBx⟩ : ∃ B, w.heap.size = B := ⟨_, rfl⟩
 rw [hBx] at q0 ⊢
 replace hBx := hid hBx
 have HD : Hid (∀ i, i < M → w1.cell? ⟨b, off + i, none⟩ = some (.slice (some ⟨B i, O i, none⟩) N (CP i)) ∧ ∀ k, k < N → w1.cell? ⟨B i, O i + k, none⟩ = some (.int .i64 (E i k))) := hid fun i hi => by
  obtain ⟨h1, _, h2, _⟩ := HC.out i hi
  exact ⟨X.out.cell h1, fun k hk => X.out.cell (h2 k hk)⟩
 have e0 := (HD.out 0 (by omega)).1
 rw [Nat.add_zero] at e0
 go_loopw [3] (fun i wr => ∃ k : Nat, k ≤ M ∧ i = .int .i64 k ∧ Hid (∀ j, j < k → SP j = false) ∧ Hid (Ext w1 wr)) (fun i _ => (M - intOf i).toNat)
 case atStart => exact ⟨0, by omega, rfl, hid (fun j hj => by omega), hid (Ext.refl _)⟩
 case round =>
  obtain ⟨i, hi, rfl, hS, hx⟩ := hrel
  replace q0 := hid q0
  replace e0 := hid e0
  have q1 := hx.out.cell q0.out
  have f0 := hx.out.cell e0.out
  by_cases hil : i < M
  ·have c1 := HD.out i hil
   have J1 := hid c1.1
   have i1 := hx.out.cell c1.1
   have I1 := hid c1.2
   have u2 := Go.IntWalk.i64_in ((i : Int) + 1) (by omega)
   have hil2 : (i : Int) < (M : Int) := by omega
   clear c1
   go_wp2_with fail
   go_loopw [4] (fun o wr => ∃ k : Nat, k ≤ M ∧ o = .int .i64 k ∧ Hid (∀ j, j < k → BT i j = false) ∧ Hid (Ext w1 wr)) (fun o _ => (M - intOf o).toNat)
   case atStart => exact ⟨0, by omega, rfl, hid (fun j hj => by omega), hx⟩
   case round =>
    clear q1 f0 i1 hx
    obtain ⟨o, ho, rfl, hB, hx⟩ := hrel
    have q1 := hx.out.cell q0.out
    have f0 := hx.out.cell e0.out
    have i1 := hx.out.cell J1.out
    by_cases hol : o < M
    ·have c1 := HD.out o hol
     have P1 := hid c1.1
     have o1 := hx.out.cell c1.1
     have O1 := hid c1.2
     have u3 := Go.IntWalk.i64_in ((o : Int) + 1) (by omega)
     have hol2 : (o : Int) < (M : Int) := by omega
     clear c1
     have hz := hg0.out i o
     have hz1 := hid hz.1
     have hz2 := hid hz.2
     clear hz
     go_wp2_with fail
     go_loopw [5, 6, 7] (fun no mo k wr => ∃ j : Nat, j ≤ N ∧ k = .int .i64 j ∧ no = .bool (GE i o j) ∧ mo = .bool (MR i o j) ∧ Hid (Ext w1 wr)) (fun _ _ k _ => (N - intOf k).toNat)
     case atStart => exact ⟨0, by omega, rfl, by rw [hz1.out], by rw [hz2.out], hx⟩
     case round =>
      clear q1 f0 i1 o1 hx
      obtain ⟨j, hj, rfl, rfl, rfl, hx⟩ := hrel
      have q1 := hx.out.cell q0.out
      have f0 := hx.out.cell e0.out
      have i1 := hx.out.cell J1.out
      have o1 := hx.out.cell P1.out
      by_cases hjl : j < N
      ·have a1 := hx.out.cell (I1.out j hjl)
       have a2 := hx.out.cell (O1.out j hjl)
       have s1 := hid (hg1.out i o j hjl)
       have s2 := hid (hm1.out i o j hjl)
       obtain ⟨x, hxv⟩ : ∃ x, E i j = x := ⟨_, rfl⟩
       obtain ⟨y, hy⟩ : ∃ x, E o j = x := ⟨_, rfl⟩
       obtain ⟨no, hno2⟩ : ∃ x, GE i o j = x := ⟨_, rfl⟩
       obtain ⟨mo, hmo2⟩ : ∃ x, MR i o j = x := ⟨_, rfl⟩
       rw [hxv] at a1 s1 s2
       rw [hy] at a2 s1 s2
       rw [hno2] at s1 ⊢
       rw [hmo2] at s2 ⊢
       replace hxv := hid hxv
       replace hy := hid hy
       replace hno2 := hid hno2
       replace hmo2 := hid hmo2
       have u4 := Go.IntWalk.i64_in ((j : Int) + 1) (by omega)
       have hjl2 : (j : Int) < (N : Int) := by omega
       rcases Int.lt_trichotomy y x with hlt | heq | hgt
       ·rw [decide_eq_false (by omega)] at s1 s2
        have k1 : ¬ x ≤ y := by omega
        have k2 : ¬ x < y := by omega
        cases no
        ·cases mo
         ·go_wp2_with fail
          go_quiet (fail)
          go_wp2_with fail
          go_quiet (fail)
          go_wp2_with fail
          go_roundw
          case rel => exact ⟨j + 1, by omega, by go_num, by rw [s1.out]; simp [k1, k2], by rw [s2.out]; simp [k1, k2], hid (hx.out.trans (by repeat (with_reducible first | assumption | exact Ext.refl _ | refine Ext.drew ?_ | refine Ext.drewN ?_ _ | refine Ext.alloc ?_ _ | refine xS ?_ _ | refine xT ?_ (by assumption))))⟩
          case measure => simp [intOf]; omega
         ·go_wp2_with fail
          go_quiet (fail)
          go_wp2_with fail
          go_quiet (fail)
          go_wp2_with fail
          go_roundw
          case rel => exact ⟨j + 1, by omega, by go_num, by rw [s1.out]; simp [k1, k2], by rw [s2.out]; simp [k1, k2], hid (hx.out.trans (by repeat (with_reducible first | assumption | exact Ext.refl _ | refine Ext.drew ?_ | refine Ext.drewN ?_ _ | refine Ext.alloc ?_ _ | refine xS ?_ _ | refine xT ?_ (by assumption))))⟩
          case measure => simp [intOf]; omega
        ·cases mo
         ·go_wp2_with fail
          go_quiet (fail)
          go_wp2_with fail
          go_quiet (fail)
          go_wp2_with fail
          go_roundw
          case rel => exact ⟨j + 1, by omega, by go_num, by rw [s1.out]; simp [k1, k2], by rw [s2.out]; simp [k1, k2], hid (hx.out.trans (by repeat (with_reducible first | assumption | exact Ext.refl _ | refine Ext.drew ?_ | refine Ext.drewN ?_ _ | refine Ext.alloc ?_ _ | refine xS ?_ _ | refine xT ?_ (by assumption))))⟩
          case measure => simp [intOf]; omega
         ·go_wp2_with fail
          go_quiet (fail)
          go_wp2_with fail
          go_quiet (fail)
          go_wp2_with fail
          go_roundw
          case rel => exact ⟨j + 1, by omega, by go_num, by rw [s1.out]; simp [k1, k2], by rw [s2.out]; simp [k1, k2], hid (hx.out.trans (by repeat (with_reducible first | assumption | exact Ext.refl _ | refine Ext.drew ?_ | refine Ext.drewN ?_ _ | refine Ext.alloc ?_ _ | refine xS ?_ _ | refine xT ?_ (by assumption))))⟩
          case measure => simp [intOf]; omega
       ·rw [decide_eq_true (by omega)] at s1
        rw [decide_eq_false (by omega)] at s2
        have k1 : x ≤ y := by omega
        have k2 : ¬ x < y := by omega
        cases no
        ·cases mo
         ·go_wp2_with fail
          go_quiet (fail)
          go_wp2_with fail
          go_quiet (fail)
          go_wp2_with fail
          go_roundw
          case rel => exact ⟨j + 1, by omega, by go_num, by rw [s1.out]; simp [k1, k2], by rw [s2.out]; simp [k1, k2], hid (hx.out.trans (by repeat (with_reducible first | assumption | exact Ext.refl _ | refine Ext.drew ?_ | refine Ext.drewN ?_ _ | refine Ext.alloc ?_ _ | refine xS ?_ _ | refine xT ?_ (by assumption))))⟩
          case measure => simp [intOf]; omega
         ·go_wp2_with fail
          go_quiet (fail)
          go_wp2_with fail
          go_quiet (fail)
          go_wp2_with fail
          go_roundw
          case rel => exact ⟨j + 1, by omega, by go_num, by rw [s1.out]; simp [k1, k2], by rw [s2.out]; simp [k1, k2], hid (hx.out.trans (by repeat (with_reducible first | assumption | exact Ext.refl _ | refine Ext.drew ?_ | refine Ext.drewN ?_ _ | refine Ext.alloc ?_ _ | refine xS ?_ _ | refine xT ?_ (by assumption))))⟩
          case measure => simp [intOf]; omega
        ·cases mo
         ·go_wp2_with fail
          go_quiet (fail)
          go_wp2_with fail
          go_quiet (fail)
          go_wp2_with fail
          go_roundw
          case rel => exact ⟨j + 1, by omega, by go_num, by rw [s1.out]; simp [k1, k2], by rw [s2.out]; simp [k1, k2], hid (hx.out.trans (by repeat (with_reducible first | assumption | exact Ext.refl _ | refine Ext.drew ?_ | refine Ext.drewN ?_ _ | refine Ext.alloc ?_ _ | refine xS ?_ _ | refine xT ?_ (by assumption))))⟩
          case measure => simp [intOf]; omega
         ·go_wp2_with fail
          go_quiet (fail)
          go_wp2_with fail
          go_quiet (fail)
          go_wp2_with fail
          go_roundw
          case rel => exact ⟨j + 1, by omega, by go_num, by rw [s1.out]; simp [k1, k2], by rw [s2.out]; simp [k1, k2], hid (hx.out.trans (by repeat (with_reducible first | assumption | exact Ext.refl _ | refine Ext.drew ?_ | refine Ext.drewN ?_ _ | refine Ext.alloc ?_ _ | refine xS ?_ _ | refine xT ?_ (by assumption))))⟩
          case measure => simp [intOf]; omega
       ·rw [decide_eq_true (by omega)] at s1 s2
        have k1 : x ≤ y := by omega
        have k2 : x < y := by omega
        cases no
        ·cases mo
         ·go_wp2_with fail
          go_quiet (fail)
          go_wp2_with fail
          go_quiet (fail)
          go_wp2_with fail
          go_roundw
          case rel => exact ⟨j + 1, by omega, by go_num, by rw [s1.out]; simp [k1, k2], by rw [s2.out]; simp [k1, k2], hid (hx.out.trans (by repeat (with_reducible first | assumption | exact Ext.refl _ | refine Ext.drew ?_ | refine Ext.drewN ?_ _ | refine Ext.alloc ?_ _ | refine xS ?_ _ | refine xT ?_ (by assumption))))⟩
          case measure => simp [intOf]; omega
         ·go_wp2_with fail
          go_quiet (fail)
          go_wp2_with fail
          go_quiet (fail)
          go_wp2_with fail
          go_roundw
          case rel => exact ⟨j + 1, by omega, by go_num, by rw [s1.out]; simp [k1, k2], by rw [s2.out]; simp [k1, k2], hid (hx.out.trans (by repeat (with_reducible first | assumption | exact Ext.refl _ | refine Ext.drew ?_ | refine Ext.drewN ?_ _ | refine Ext.alloc ?_ _ | refine xS ?_ _ | refine xT ?_ (by assumption))))⟩
          case measure => simp [intOf]; omega
        ·cases mo
         ·go_wp2_with fail
          go_quiet (fail)
          go_wp2_with fail
          go_quiet (fail)
          go_wp2_with fail
          go_roundw
          case rel => exact ⟨j + 1, by omega, by go_num, by rw [s1.out]; simp [k1, k2], by rw [s2.out]; simp [k1, k2], hid (hx.out.trans (by repeat (with_reducible first | assumption | exact Ext.refl _ | refine Ext.drew ?_ | refine Ext.drewN ?_ _ | refine Ext.alloc ?_ _ | refine xS ?_ _ | refine xT ?_ (by assumption))))⟩
          case measure => simp [intOf]; omega
         ·go_wp2_with fail
          go_quiet (fail)
          go_wp2_with fail
          go_quiet (fail)
          go_wp2_with fail
          go_roundw
          case rel => exact ⟨j + 1, by omega, by go_num, by rw [s1.out]; simp [k1, k2], by rw [s2.out]; simp [k1, k2], hid (hx.out.trans (by repeat (with_reducible first | assumption | exact Ext.refl _ | refine Ext.drew ?_ | refine Ext.drewN ?_ _ | refine Ext.alloc ?_ _ | refine xS ?_ _ | refine xT ?_ (by assumption))))⟩
          case measure => simp [intOf]; omega
      ·have hjn : j = N := by omega
       have hnl : ¬ (j : Int) < (N : Int) := by omega
       have hb0 := hid (hbt.out i o)
       rw [hjn]
       obtain ⟨no, hno2⟩ : ∃ x, GE i o N = x := ⟨_, rfl⟩
       obtain ⟨mo, hmo2⟩ : ∃ x, MR i o N = x := ⟨_, rfl⟩
       rw [hno2, hmo2] at hb0 ⊢
       replace hno2 := hid hno2
       replace hmo2 := hid hmo2
       have hnn : ¬ (N : Int) < (N : Int) := by omega
       clear hjn
       rcases Nat.lt_trichotomy o i with hlt | heq | hgt
       ·rw [decide_eq_true hlt, decide_eq_true (show o ≠ i by omega)] at hb0
        have k1 : ((o : Int) == (i : Int)) = false := by rw [beq_eq_false_iff_ne]; omega
        have k2 : (o : Int) < (i : Int) := by omega
        have k3 : ((o : Int) != (i : Int)) = true := by rw [bne, k1]; rfl
        cases no
        ·cases mo
         ·have hb : Hid (BT i o = false) := hid hb0.out
          go_wp2_with fail
          go_roundw
          case rel => exact ⟨o + 1, by omega, by go_num, hid (fun j hj => by
           by_cases e : j = o
           ·subst e; exact hb.out
           ·exact hB.out j (by omega)), hid (hx.out.trans (by repeat (with_reducible first | assumption | exact Ext.refl _ | refine Ext.drew ?_ | refine Ext.drewN ?_ _ | refine Ext.alloc ?_ _ | refine xS ?_ _ | refine xT ?_ (by assumption))))⟩
          case measure => simp [intOf]; omega
         ·have hb : Hid (BT i o = false) := hid hb0.out
          go_wp2_with fail
          go_roundw
          case rel => exact ⟨o + 1, by omega, by go_num, hid (fun j hj => by
           by_cases e : j = o
           ·subst e; exact hb.out
           ·exact hB.out j (by omega)), hid (hx.out.trans (by repeat (with_reducible first | assumption | exact Ext.refl _ | refine Ext.drew ?_ | refine Ext.drewN ?_ _ | refine Ext.alloc ?_ _ | refine xS ?_ _ | refine xT ?_ (by assumption))))⟩
          case measure => simp [intOf]; omega
        ·cases mo
         ·have hb : BT i o = true := hb0.out
          have hr := hid (hyes.out i hil hS.out ((hsp.out i).2 ⟨o, hol, hb⟩))
          clear hb
          go_wp2_with fail
          go_ret
          exact ⟨by rw [hr.out]; rfl, X.out.trans (hx.out.trans (by repeat (with_reducible first | assumption | exact Ext.refl _ | refine Ext.drew ?_ | refine Ext.drewN ?_ _ | refine Ext.alloc ?_ _ | refine xS ?_ _ | refine xT ?_ (by assumption))))⟩
         ·have hb : BT i o = true := hb0.out
          have hr := hid (hyes.out i hil hS.out ((hsp.out i).2 ⟨o, hol, hb⟩))
          clear hb
          go_wp2_with fail
          go_ret
          exact ⟨by rw [hr.out]; rfl, X.out.trans (hx.out.trans (by repeat (with_reducible first | assumption | exact Ext.refl _ | refine Ext.drew ?_ | refine Ext.drewN ?_ _ | refine Ext.alloc ?_ _ | refine xS ?_ _ | refine xT ?_ (by assumption))))⟩
       ·rw [decide_eq_false (show ¬ o < i by omega), decide_eq_false (show ¬ o ≠ i by omega)] at hb0
        have k1 : ((o : Int) == (i : Int)) = true := by rw [beq_iff_eq]; omega
        have k2 : ¬ (o : Int) < (i : Int) := by omega
        have k3 : ((o : Int) != (i : Int)) = false := by rw [bne, k1]; rfl
        cases no
        ·cases mo
         ·have hb : Hid (BT i o = false) := hid hb0.out
          go_wp2_with fail
          go_roundw
          case rel => exact ⟨o + 1, by omega, by go_num, hid (fun j hj => by
           by_cases e : j = o
           ·subst e; exact hb.out
           ·exact hB.out j (by omega)), hid (hx.out.trans (by repeat (with_reducible first | assumption | exact Ext.refl _ | refine Ext.drew ?_ | refine Ext.drewN ?_ _ | refine Ext.alloc ?_ _ | refine xS ?_ _ | refine xT ?_ (by assumption))))⟩
          case measure => simp [intOf]; omega
         ·have hb : Hid (BT i o = false) := hid hb0.out
          go_wp2_with fail
          go_roundw
          case rel => exact ⟨o + 1, by omega, by go_num, hid (fun j hj => by
           by_cases e : j = o
           ·subst e; exact hb.out
           ·exact hB.out j (by omega)), hid (hx.out.trans (by repeat (with_reducible first | assumption | exact Ext.refl _ | refine Ext.drew ?_ | refine Ext.drewN ?_ _ | refine Ext.alloc ?_ _ | refine xS ?_ _ | refine xT ?_ (by assumption))))⟩
          case measure => simp [intOf]; omega
        ·cases mo
         ·have hb : Hid (BT i o = false) := hid hb0.out
          go_wp2_with fail
          go_roundw
          case rel => exact ⟨o + 1, by omega, by go_num, hid (fun j hj => by
           by_cases e : j = o
           ·subst e; exact hb.out
           ·exact hB.out j (by omega)), hid (hx.out.trans (by repeat (with_reducible first | assumption | exact Ext.refl _ | refine Ext.drew ?_ | refine Ext.drewN ?_ _ | refine Ext.alloc ?_ _ | refine xS ?_ _ | refine xT ?_ (by assumption))))⟩
          case measure => simp [intOf]; omega
         ·have hb : Hid (BT i o = false) := hid hb0.out
          go_wp2_with fail
          go_roundw
          case rel => exact ⟨o + 1, by omega, by go_num, hid (fun j hj => by
           by_cases e : j = o
           ·subst e; exact hb.out
           ·exact hB.out j (by omega)), hid (hx.out.trans (by repeat (with_reducible first | assumption | exact Ext.refl _ | refine Ext.drew ?_ | refine Ext.drewN ?_ _ | refine Ext.alloc ?_ _ | refine xS ?_ _ | refine xT ?_ (by assumption))))⟩
          case measure => simp [intOf]; omega
       ·rw [decide_eq_false (show ¬ o < i by omega), decide_eq_true (show o ≠ i by omega)] at hb0
        have k1 : ((o : Int) == (i : Int)) = false := by rw [beq_eq_false_iff_ne]; omega
        have k2 : ¬ (o : Int) < (i : Int) := by omega
        have k3 : ((o : Int) != (i : Int)) = true := by rw [bne, k1]; rfl
        cases no
        ·cases mo
         ·have hb : Hid (BT i o = false) := hid hb0.out
          go_wp2_with fail
          go_roundw
          case rel => exact ⟨o + 1, by omega, by go_num, hid (fun j hj => by
           by_cases e : j = o
           ·subst e; exact hb.out
           ·exact hB.out j (by omega)), hid (hx.out.trans (by repeat (with_reducible first | assumption | exact Ext.refl _ | refine Ext.drew ?_ | refine Ext.drewN ?_ _ | refine Ext.alloc ?_ _ | refine xS ?_ _ | refine xT ?_ (by assumption))))⟩
          case measure => simp [intOf]; omega
         ·have hb : Hid (BT i o = false) := hid hb0.out
          go_wp2_with fail
          go_roundw
          case rel => exact ⟨o + 1, by omega, by go_num, hid (fun j hj => by
           by_cases e : j = o
           ·subst e; exact hb.out
           ·exact hB.out j (by omega)), hid (hx.out.trans (by repeat (with_reducible first | assumption | exact Ext.refl _ | refine Ext.drew ?_ | refine Ext.drewN ?_ _ | refine Ext.alloc ?_ _ | refine xS ?_ _ | refine xT ?_ (by assumption))))⟩
          case measure => simp [intOf]; omega
        ·cases mo
         ·have hb : Hid (BT i o = false) := hid hb0.out
          go_wp2_with fail
          go_roundw
          case rel => exact ⟨o + 1, by omega, by go_num, hid (fun j hj => by
           by_cases e : j = o
           ·subst e; exact hb.out
           ·exact hB.out j (by omega)), hid (hx.out.trans (by repeat (with_reducible first | assumption | exact Ext.refl _ | refine Ext.drew ?_ | refine Ext.drewN ?_ _ | refine Ext.alloc ?_ _ | refine xS ?_ _ | refine xT ?_ (by assumption))))⟩
          case measure => simp [intOf]; omega
         ·have hb : BT i o = true := hb0.out
          have hr := hid (hyes.out i hil hS.out ((hsp.out i).2 ⟨o, hol, hb⟩))
          clear hb
          go_wp2_with fail
          go_ret
          exact ⟨by rw [hr.out]; rfl, X.out.trans (hx.out.trans (by repeat (with_reducible first | assumption | exact Ext.refl _ | refine Ext.drew ?_ | refine Ext.drewN ?_ _ | refine Ext.alloc ?_ _ | refine xS ?_ _ | refine xT ?_ (by assumption))))⟩
    ·have hom : o = M := by omega
     have hnl : ¬ (o : Int) < (M : Int) := by omega
     have hs : Hid (SP i = false) := hid (by
      cases e : SP i
      ·rfl
      ·obtain ⟨o', h1, h2⟩ := (hsp.out i).1 e
       rw [hB.out o' (by omega)] at h2; cases h2)
     clear hom
     go_wp2_with fail
     go_roundw
     case rel => exact ⟨i + 1, by omega, by go_num, hid (fun j hj => by
      by_cases e : j = i
      ·subst e; exact hs.out
      ·exact hS.out j (by omega)), hid (hx.out.trans (by repeat (with_reducible first | assumption | exact Ext.refl _ | refine Ext.drew ?_ | refine Ext.drewN ?_ _ | refine Ext.alloc ?_ _ | refine xS ?_ _ | refine xT ?_ (by assumption))))⟩
     case measure => simp [intOf]; omega
  ·have hiM : i = M := by omega
   have hnl : ¬ (i : Int) < (M : Int) := by omega
   have hr := hid (hno.out (fun j hj => hS.out j (by omega)))
   clear hiM
   go_wp2_with fail
   go_ret
   exact ⟨by rw [hr.out]; rfl, X.out.trans (hx.out.trans (by repeat (with_reducible first | assumption | exact Ext.refl _ | refine Ext.drew ?_ | refine Ext.drewN ?_ _ | refine Ext.alloc ?_ _ | refine xS ?_ _ | refine xT ?_ (by assumption))))⟩

end Go.Proofs.Ytommhgcgaclflaa
