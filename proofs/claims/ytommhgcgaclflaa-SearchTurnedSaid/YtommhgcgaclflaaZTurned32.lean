/- Texts of one proof, laid together: Par, Mor, Per, Mov, Usd. -/
import Derived.Test.YtommhgcgaclflaaZB17
import Derived.Test.YtommhgcgaclflaaZB6
import Derived.Test.YtommhgcgaclflaaZB15
import Derived.Test.YtommhgcgaclflaaZB14
namespace Go.Proofs.Ytommhgcgaclflaa
set_option linter.unusedVariables false
set_option linter.unusedSimpArgs false
set_option linter.unusedSectionVars false
set_option linter.unnecessarySimpa false
open Go Go.RowKit Game

def prow (t : List (List Int)) (r : Nat) (C : List Nat) : Nat → List Int
 | 0 => []
 | k + 1 => prow t r C k ++ [ent t r (C.getD k 0)]
theorem prow_len (t : List (List Int)) (r : Nat) (C : List Nat) (n : Nat) : (prow t r C n).length = n := by induction n <;> simp [prow, *]
theorem prow_nth (t : List (List Int)) (r : Nat) (C : List Nat) : ∀ n k, k < n → nth (prow t r C n) k = ent t r (C.getD k 0)
 | 0, k, h => by omega
 | n + 1, k, h => by
  have hl := prow_len t r C n
  unfold prow
  by_cases e : k < n
  ·rw [nth_append_left (by omega)]; exact prow_nth t r C n k e
  ·obtain rfl : k = n := by omega
   rw [nth_append_right (by omega), hl, Nat.sub_self]; simp [nth]
def ptabN (t : List (List Int)) (R C : List Nat) : Nat → List (List Int)
 | 0 => []
 | k + 1 => ptabN t R C k ++ [prow t (R.getD k 0) C C.length]
theorem ptabN_len (t : List (List Int)) (R C : List Nat) (n : Nat) : (ptabN t R C n).length = n := by induction n <;> simp [ptabN, *]
theorem ptabN_row (t : List (List Int)) (R C : List Nat) : ∀ n k, k < n → row (ptabN t R C n) k = prow t (R.getD k 0) C C.length
 | 0, k, h => by omega
 | n + 1, k, h => by
  have hl := ptabN_len t R C n
  unfold ptabN
  by_cases e : k < n
  ·rw [row_append_left (by omega)]; exact ptabN_row t R C n k e
  ·obtain rfl : k = n := by omega
   rw [row_append_right (by omega), hl, Nat.sub_self]; rfl
def ptab (t : List (List Int)) (R C : List Nat) : List (List Int) := ptabN t R C R.length
theorem ptab_len (t : List (List Int)) (R C : List Nat) : (ptab t R C).length = R.length := ptabN_len t R C _
theorem ptab_row {t : List (List Int)} {R C : List Nat} {i : Nat} (h : i < R.length) : row (ptab t R C) i = prow t (R.getD i 0) C C.length := ptabN_row t R C _ i h
theorem ptab_ent {t : List (List Int)} {R C : List Nat} {i k : Nat} (h : i < R.length) (hk : k < C.length) : ent (ptab t R C) i k = ent t (R.getD i 0) (C.getD k 0) := by
 unfold ent; rw [ptab_row h]; exact prow_nth t _ C _ k hk
theorem ptab_wid {t : List (List Int)} {R C : List Nat} (h : 0 < R.length) : wid (ptab t R C) = C.length := by
 unfold wid; rw [ptab_row h, prow_len]
theorem ptab_out {t : List (List Int)} {R C : List Nat} {i k : Nat} (h : ¬ (i < R.length ∧ k < C.length)) : ent (ptab t R C) i k = 0 := by
 unfold ent
 by_cases g : i < R.length
 ·rw [ptab_row g, nth_ge (by rw [prow_len]; omega)]
 ·rw [row_ge (by rw [ptab_len]; omega)]; simp [nth]
theorem ptab_vld {t : List (List Int)} (v : VldT t) {R C : List Nat} (r1 : 1 ≤ R.length) (r4 : R.length ≤ 4) (c1 : 1 ≤ C.length) (c4 : C.length ≤ 4) : VldT (ptab t R C) := by
 have hw : wid (ptab t R C) = C.length := ptab_wid (by omega)
 refine ⟨by rw [ptab_len]; omega, by rw [ptab_len]; omega, by omega, by omega, fun i hi => ?_, fun i k => ?_, fun i k => ?_⟩
 ·rw [ptab_len] at hi; rw [hw, ptab_row hi, prow_len]
 ·by_cases g : i < R.length ∧ k < C.length
  ·rw [ptab_ent g.1 g.2]; exact v.lo _ _
  ·rw [ptab_out g]; omega
 ·by_cases g : i < R.length ∧ k < C.length
  ·rw [ptab_ent g.1 g.2]; exact v.hi _ _
  ·rw [ptab_out g]; omega
theorem getD_lt {l : List Nat} {m i : Nat} (hb : ∀ x ∈ l, x < m) (h : i < l.length) : l.getD i 0 < m := hb _ (by rw [List.getD_eq_getElem?_getD, List.getElem?_eq_getElem h]; exact List.getElem_mem h)
theorem turn_ptab {t : List (List Int)} {R C : List Nat} (r1 : 1 ≤ R.length) (hR : ∀ x ∈ R, x < t.length) (hC : ∀ x ∈ C, x < wid t) : turn (ptab t R C) = ptab (turn t) C R := by
 have hw : wid (ptab t R C) = C.length := ptab_wid (by omega)
 refine row_ext (by rw [turn_len, hw, ptab_len]) fun k hk => ?_
 rw [turn_len, hw] at hk
 rw [turn_row (by rw [hw]; exact hk), ptab_row hk]
 refine nth_ext (by rw [colN_len, prow_len, ptab_len]) fun i hi => ?_
 rw [colN_len, ptab_len] at hi
 rw [colN_nth _ _ _ _ (by rw [ptab_len]; exact hi), prow_nth _ _ _ _ _ hi, ptab_ent hi hk, turn_ent (getD_lt hC hk) (getD_lt hR hi)]
theorem ss_lt {l : List Nat} (h : l.Pairwise (· < ·)) {i j : Nat} (hi : i < j) (hj : j < l.length) : l.getD i 0 < l.getD j 0 := by
 rw [List.getD_eq_getElem?_getD, List.getD_eq_getElem?_getD, List.getElem?_eq_getElem hj, List.getElem?_eq_getElem (by omega)]
 exact List.pairwise_iff_getElem.1 h i j (by omega) hj hi
theorem range_getD {n k : Nat} (h : k < n) : (List.range n).getD k 0 = k := by simp [List.getD_eq_getElem?_getD, h]
theorem btn_ptab {t : List (List Int)} {R C : List Nat} (hs : R.Pairwise (· < ·)) {i o : Nat} (hi : i < R.length) (ho : o < R.length) :
 btn (ptab t R C) (List.range C.length) i o = btn t C (R.getD i 0) (R.getD o 0) := by
 unfold btn
 have e1 : geTo (ptab t R C) i o (List.range C.length) (List.range C.length).length = geTo t (R.getD i 0) (R.getD o 0) C C.length := by
  rw [Bool.eq_iff_iff, geTo_iff, geTo_iff, List.length_range]
  constructor
  ·intro h k hk
   have := h k hk
   rwa [range_getD hk, ptab_ent hi hk, ptab_ent ho hk] at this
  ·intro h k hk
   have := h k hk
   rwa [range_getD hk, ptab_ent hi hk, ptab_ent ho hk]
 have e3 : decide (o < i) = decide (R.getD o 0 < R.getD i 0) := by
  rw [decide_eq_decide]
  constructor
  ·intro h; exact ss_lt hs h hi
  ·intro h
   rcases Nat.lt_trichotomy o i with g | g | g
   ·exact g
   ·subst g; omega
   ·have := ss_lt hs g ho; omega
 have e4 : decide (o ≠ i) = decide (R.getD o 0 ≠ R.getD i 0) := by
  rw [decide_eq_decide]
  constructor
  ·intro h
   rcases Nat.lt_or_gt_of_ne h with g | g
   ·have := ss_lt hs g hi; omega
   ·have := ss_lt hs g ho; omega
  ·intro h e; subst e; exact h rfl
 have e2 : mrTo (ptab t R C) i o (List.range C.length) (decide (o < i)) (List.range C.length).length = mrTo t (R.getD i 0) (R.getD o 0) C (decide (R.getD o 0 < R.getD i 0)) C.length := by
  rw [← e3, Bool.eq_iff_iff, mrTo_iff, mrTo_iff, List.length_range]
  constructor
  ·rintro (h | ⟨k, hk, h⟩)
   ·exact .inl h
   ·rw [range_getD hk, ptab_ent hi hk, ptab_ent ho hk] at h; exact .inr ⟨k, hk, h⟩
  ·rintro (h | ⟨k, hk, h⟩)
   ·exact .inl h
   ·exact .inr ⟨k, hk, by rw [range_getD hk, ptab_ent hi hk, ptab_ent ho hk]; exact h⟩
 rw [e1, e2, e4]
theorem list_range {R : List Nat} : R = (List.range R.length).map fun i => R.getD i 0 := by
 refine List.ext_getElem (by simp) fun i h1 h2 => ?_
 simp [List.getD_eq_getElem?_getD, h1]
theorem spB_ptab {t : List (List Int)} {R C : List Nat} (hs : R.Pairwise (· < ·)) {i : Nat} (hi : i < R.length) :
 spB (ptab t R C) (List.range R.length) (List.range C.length) i = spB t R C (R.getD i 0) := by
 unfold spB
 rw [Bool.eq_iff_iff, List.any_eq_true, List.any_eq_true]
 constructor
 ·rintro ⟨o, ho, h⟩
  rw [List.mem_range] at ho
  rw [btn_ptab hs hi ho] at h
  exact ⟨_, by rw [List.getD_eq_getElem?_getD, List.getElem?_eq_getElem ho]; exact List.getElem_mem ho, h⟩
 ·rintro ⟨x, hx, h⟩
  obtain ⟨o, ho, rfl⟩ := List.getElem_of_mem hx
  refine ⟨o, List.mem_range.2 ho, ?_⟩
  rw [btn_ptab hs hi ho]
  rwa [List.getD_eq_getElem?_getD (l := R) (i := o), List.getElem?_eq_getElem ho]
def spI (s : List (List Int)) : Nat := (List.range s.length).findIdx (spB s (List.range s.length) (List.range (wid s)))
theorem findIdx_congr {f g : Nat → Bool} {l : List Nat} (h : ∀ x ∈ l, f x = g x) : l.findIdx f = l.findIdx g := by
 induction l with
 | nil => rfl
 | cons a l ih =>
  rw [List.findIdx_cons, List.findIdx_cons, h a (by simp), ih fun x hx => h x (by simp [hx])]
theorem spI_ptab {t : List (List Int)} {R C : List Nat} (r1 : 1 ≤ R.length) (hs : R.Pairwise (· < ·)) : spI (ptab t R C) = R.findIdx (spB t R C) := by
 unfold spI
 rw [ptab_len, ptab_wid (by omega)]
 conv => rhs; rw [list_range (R := R)]
 rw [List.findIdx_map, ← list_range]
 exact findIdx_congr fun i hi => spB_ptab hs (List.mem_range.1 hi)

end Go.Proofs.Ytommhgcgaclflaa
namespace Go.Proofs.Ytommhgcgaclflaa
set_option linter.unusedVariables false
set_option linter.unusedSimpArgs false
set_option linter.unusedSectionVars false
set_option linter.unnecessarySimpa false
open Go Go.RowKit Game

theorem leF_trans {a b c : Int × Int} (ha : 0 < a.2) (hb : 0 < b.2) (hc : 0 < c.2) (h : leF a b) (k : leF b c) : leF a c := ratio_trans hb ha hc h k
theorem val_mono {t x : List (List Int)} (v : VldT t) (vx : VldT x) (h : ∀ p, Pln t p → ∃ q, Pln x q ∧ leF (suP t p) (suP x q)) : leF (val t) (val x) := by
 obtain ⟨q, h1, h2⟩ := h _ (bestL_vld v).pln
 rw [bestL_su v] at h2
 exact leF_trans (val_pos v) (su_pos h1.ps) (val_pos vx) h2 (val_le vx h1)
theorem val_up {t x : List (List Int)} (v : VldT t) (vx : VldT x) (hl : x.length = t.length) (f : Nat → Nat) (hf : ∀ k, k < wid x → f k < wid t) (he : ∀ i k, i < t.length → k < wid x → ent t i (f k) ≤ ent x i k) : leF (val t) (val x) := by
 refine val_mono v vx fun p hp => ⟨p, ⟨hp.len.trans hl.symm, hp.nn, hp.ps⟩, ?_⟩
 rw [su_le hp.ps hp.ps]
 refine Int.mul_le_mul_of_nonneg_right ?_ (by have := hp.ps; omega)
 unfold lst_
 obtain ⟨k, hk, e⟩ := mnTo_at (agn x p) (n := wid x) (by have := vx.n1; omega)
 rw [← e]
 have h1 := mnTo_le (f := agn t p) (hf k hk)
 refine Int.le_trans h1 ?_
 unfold agn ag
 refine sm_le fun i hi => ?_
 rw [hp.len] at hi
 exact Int.mul_le_mul_of_nonneg_left (he i k hi hk) (hp.nn i)
theorem val_row {t x : List (List Int)} (v : VldT t) (vx : VldT x) {i : Nat} (hl : x.length + 1 = t.length) (hi : i ≤ x.length) (hw : wid x = wid t) (he : ∀ j k, j < x.length → k < wid x → ent x j k = ent t (sk i j) k) : leF (val x) (val t) := by
 refine val_mono vx v fun q hq => ?_
 have hsk : ∀ j, j < x.length → sk i j < t.length ∧ sk i j ≠ i := fun j hj => by unfold sk; split <;> omega
 let g : Nat → Int := fun j => if j = i then 0 else if j < i then nth q j else nth q (j - 1)
 have hg : ∀ j, g (sk i j) = nth q j := fun j => by
  show (if sk i j = i then 0 else if sk i j < i then nth q (sk i j) else nth q (sk i j - 1)) = _
  unfold sk
  by_cases h : j < i
  ·rw [if_pos h, if_neg (by omega), if_pos h]
  ·rw [if_neg h, if_neg (by omega), if_neg (by omega)]; congr 1
 have hgi : g i = 0 := if_pos rfl
 have hs : ∀ A : Nat → Int, sm t.length (fun j => nth (mkL t.length g) j * A j) = sm x.length fun j => nth q j * A (sk i j) := fun A => by
  rw [← hl, sm_ins _ hi, mkL_nth _ (by omega), hgi, Int.zero_mul, Int.zero_add]
  refine sm_congr fun j hj => ?_
  have h1 := (hsk j hj).1
  rw [mkL_nth _ (by omega), hg j]
 have hps : psum (mkL t.length g) = psum q := by
  unfold psum
  rw [mkL_len, hq.len]
  have := hs fun _ => 1
  simp only [Int.mul_one] at this
  exact this
 have hag : ∀ k, k < wid x → agn t (mkL t.length g) k = agn x q k := fun k hk => by
  unfold agn ag
  rw [mkL_len, hq.len, hs fun j => ent t j k]
  exact sm_congr fun j hj => by rw [he j k hj hk]
 have hpl : Pln t (mkL t.length g) := by
  refine ⟨mkL_len _ _, fun j => ?_, by rw [hps]; exact hq.ps⟩
  rcases Nat.lt_or_ge j t.length with h | h
  ·rw [mkL_nth _ h]
   show 0 ≤ (if j = i then 0 else if j < i then nth q j else nth q (j - 1))
   split
   ·omega
   ·split <;> exact hq.nn _
  ·rw [nth_ge (by rw [mkL_len]; exact h)]; omega
 refine ⟨_, hpl, ?_⟩
 rw [su_le hq.ps hpl.ps, hps]
 have : lst_ t (mkL t.length g) = lst_ x q := by
  unfold lst_
  rw [hw]
  exact mnTo_congr (by have := v.n1; omega) fun k hk => hag k (by rw [hw]; exact hk)
 rw [this]; exact Int.le_refl _

end Go.Proofs.Ytommhgcgaclflaa
namespace Go.Proofs.Ytommhgcgaclflaa
set_option linter.unusedVariables false
set_option linter.unusedSimpArgs false
set_option linter.unusedSectionVars false
set_option linter.unnecessarySimpa false
open Go Go.RowKit Game

def extF (R : List Nat) (q : List Int) (j : Nat) : Int := sm R.length fun i => if R.getD i 0 = j then nth q i else 0
def extL (m : Nat) (R : List Nat) (q : List Int) : List Int := mkL m (extF R q)
theorem ext_sm {m : Nat} {R : List Nat} {q : List Int} (hR : ∀ x ∈ R, x < m) (A : Nat → Int) : sm m (fun j => nth (extL m R q) j * A j) = sm R.length fun i => nth q i * A (R.getD i 0) := by
 have h1 : sm m (fun j => nth (extL m R q) j * A j) = sm m (fun j => sm R.length fun i => if R.getD i 0 = j then nth q i * A j else 0) := sm_congr fun j hj => by
  unfold extL; rw [mkL_nth _ hj]; unfold extF
  rw [Int.mul_comm, ← sm_mul]
  exact sm_congr fun i _ => by split <;> grind
 rw [h1, sm_swap]
 refine sm_congr fun i hi => ?_
 have hb := getD_lt hR hi
 rw [sm_split _ hb, sm_zero]
 ·rw [if_pos rfl]; omega
 ·intro j hj
  by_cases e : j = R.getD i 0
  ·rw [if_pos e]
  ·rw [if_neg e, if_neg (fun h => e h.symm)]
theorem extF_nn {R : List Nat} {q : List Int} (h : ∀ i, 0 ≤ nth q i) (j : Nat) : 0 ≤ extF R q j := sm_nonneg fun i _ => by
 try dsimp only
 split
 ·exact h i
 ·omega
theorem extF_at {R : List Nat} {q : List Int} (h : ∀ i, 0 ≤ nth q i) {i : Nat} (hi : i < R.length) : nth q i ≤ extF R q (R.getD i 0) := by
 have := sm_one (n := R.length) (f := fun k => if R.getD k 0 = R.getD i 0 then nth q k else 0) (fun k _ => by (try dsimp only); split; exact h k; omega) hi
 try dsimp only at this
 rw [if_pos rfl] at this
 exact this
theorem ext_psum {m : Nat} {R : List Nat} {q : List Int} (hR : ∀ x ∈ R, x < m) (hq : q.length = R.length) : psum (extL m R q) = psum q := by
 have h := ext_sm (q := q) hR fun _ => 1
 simp only [Int.mul_one] at h
 unfold psum
 rw [hq, ← h]
 congr 1
 exact mkL_len _ _
structure Prt (t : List (List Int)) (R C : List Nat) : Prop where
 r1 : 1 ≤ R.length
 r4 : R.length ≤ 4
 c1 : 1 ≤ C.length
 c4 : C.length ≤ 4
 rb : ∀ x ∈ R, x < t.length
 cb : ∀ x ∈ C, x < wid t
theorem Prt.vld {t : List (List Int)} {R C : List Nat} (h : Prt t R C) (v : VldT t) : VldT (ptab t R C) := ptab_vld v h.r1 h.r4 h.c1 h.c4
theorem Prt.wid {t : List (List Int)} {R C : List Nat} (h : Prt t R C) : Go.Proofs.Ytommhgcgaclflaa.wid (ptab t R C) = C.length := ptab_wid (by have := h.r1; omega)
theorem Prt.turn {t : List (List Int)} {R C : List Nat} (h : Prt t R C) (v : VldT t) : Prt (Go.Proofs.Ytommhgcgaclflaa.turn t) C R :=
 ⟨h.c1, h.c4, h.r1, h.r4, fun x hx => by rw [turn_len]; exact h.cb x hx, fun x hx => by rw [turn_wid (by have := v.n1; omega)]; exact h.rb x hx⟩
theorem at_of_mem {l : List Nat} {x : Nat} (h : x ∈ l) : ∃ i, i < l.length ∧ l.getD i 0 = x := by
 obtain ⟨i, hi, e⟩ := List.getElem_of_mem h
 exact ⟨i, hi, by rw [List.getD_eq_getElem?_getD, List.getElem?_eq_getElem hi]; exact e⟩
theorem mn_cov {f : Nat → Int} {n : Nat} {C : List Nat} (hb : ∀ x ∈ C, x < n) (hc : ∀ k, k < n → k ∈ C) (h0 : 0 < n) : mnTo (fun l => f (C.getD l 0)) C.length = mnTo f n := by
 have c0 : 0 < C.length := by
  obtain ⟨i, hi, _⟩ := at_of_mem (hc 0 h0)
  omega
 obtain ⟨i, hi, e⟩ := mnTo_at (fun l => f (C.getD l 0)) c0
 obtain ⟨k, hk, e2⟩ := mnTo_at f h0
 obtain ⟨l, hl, e3⟩ := at_of_mem (hc k hk)
 have h1 := mnTo_le (f := f) (getD_lt hb hi)
 have h2 := mnTo_le (f := fun l => f (C.getD l 0)) hl
 try dsimp only at h2 e
 rw [e3] at h2
 omega
theorem ext_tie {t : List (List Int)} {R C : List Nat} (v : VldT t) (h : Prt t R C) (hC : ∀ k, k < wid t → k ∈ C) {q : List Int} (hl : q.length = R.length) :
 lst_ t (extL t.length R q) = lst_ (ptab t R C) q ∧ psum (extL t.length R q) = psum q := by
 refine ⟨?_, ext_psum h.rb hl⟩
 have n1 := v.n1
 unfold lst_
 rw [h.wid, ← mn_cov (f := agn t (extL t.length R q)) h.cb hC (by omega)]
 refine mnTo_congr (by have := h.c1; omega) fun k hk => ?_
 unfold agn ag
 rw [hl, show (extL t.length R q).length = t.length from mkL_len _ _, ext_sm h.rb fun j => ent t j (C.getD k 0)]
 exact sm_congr fun i hi => by rw [ptab_ent hi hk]
theorem ext_pln {t : List (List Int)} {R C : List Nat} (h : Prt t R C) {q : List Int} (hq : Pln (ptab t R C) q) : Pln t (extL t.length R q) := by
 have hl : q.length = R.length := by rw [hq.len, ptab_len]
 refine ⟨mkL_len _ _, fun j => ?_, by rw [ext_psum h.rb hl]; exact hq.ps⟩
 rcases Nat.lt_or_ge j t.length with g | g
 ·unfold extL; rw [mkL_nth _ g]; exact extF_nn hq.nn j
 ·rw [nth_ge (by unfold extL; rw [mkL_len]; exact g)]; omega
theorem su_tie {t s : List (List Int)} {p q : List Int} (hp : 0 < psum p) (h1 : lst_ t p = lst_ s q) (h2 : psum p = psum q) : suP t p = suP s q := (su_eq hp (by omega)).2 (by rw [h1, h2])
theorem val_sub {t : List (List Int)} {R C : List Nat} (v : VldT t) (h : Prt t R C) (hC : ∀ k, k < wid t → k ∈ C) : leF (val (ptab t R C)) (val t) := by
 refine val_mono (h.vld v) v fun q hq => ?_
 obtain ⟨e1, e2⟩ := ext_tie v h hC (q := q) (by rw [hq.len, ptab_len])
 refine ⟨_, ext_pln h hq, ?_⟩
 rw [su_tie hq.ps e1.symm e2.symm]
 exact Int.le_refl _
theorem leF_neg {a b : Int × Int} : leF (-a.1, a.2) (-b.1, b.2) ↔ leF b a := by
 unfold leF
 try dsimp only
 rw [Int.neg_mul, Int.neg_mul]
 omega
theorem val_sup {t : List (List Int)} {R C : List Nat} (v : VldT t) (h : Prt t R C) (hR : ∀ k, k < t.length → k ∈ R) : leF (val t) (val (ptab t R C)) := by
 have h1 := val_sub (turn_vld v) (h.turn v) (fun k hk => hR k (by rwa [turn_wid (by have := v.n1; omega)] at hk))
 rw [← turn_ptab h.r1 h.rb h.cb, val_turn v, val_turn (h.vld v)] at h1
 exact leF_neg.1 h1
theorem val_anti {t s : List (List Int)} (v : VldT t) (vs : VldT s) (h : leF (val t) (val s)) (k : leF (val s) (val t)) : val t = val s := by
 rw [← bestL_su v, ← bestL_su vs] at h k ⊢
 exact leF_anti (bestL_vld v).ps (bestL_vld vs).ps h k
theorem val_perm {t : List (List Int)} {R C : List Nat} (v : VldT t) (h : Prt t R C) (hR : ∀ k, k < t.length → k ∈ R) (hC : ∀ k, k < wid t → k ∈ C) : val (ptab t R C) = val t :=
 val_anti (h.vld v) v (val_sub v h hC) (val_sup v h hR)
def resL (R : List Nat) (p : List Int) : List Int := mkL R.length fun i => nth p (R.getD i 0)
theorem ext_res {m : Nat} {R : List Nat} {p : List Int} (hd : ∀ i k, i < R.length → k < R.length → R.getD i 0 = R.getD k 0 → i = k) (hs : ∀ j, j < m → nth p j ≠ 0 → j ∈ R) (hp : p.length = m) : extL m R (resL R p) = p := by
 refine nth_ext (by unfold extL; rw [mkL_len, hp]) fun j hj => ?_
 unfold extL at hj ⊢
 rw [mkL_len] at hj
 rw [mkL_nth _ hj]
 unfold extF
 by_cases hm : j ∈ R
 ·obtain ⟨i, hi, e⟩ := at_of_mem hm
  rw [sm_split _ hi, sm_zero, if_pos e]
  ·unfold resL; rw [mkL_nth _ hi, e]; omega
  ·intro k hk
   by_cases g : k = i
   ·rw [if_pos g]
   ·rw [if_neg g, if_neg fun e2 => g (hd k i hk hi (e2.trans e.symm))]
 ·rw [sm_zero]
  ·by_cases g : nth p j = 0
   ·exact g.symm
   ·exact absurd (hs j hj g) hm
  ·intro k hk
   rw [if_neg fun e => hm (by rw [← e, List.getD_eq_getElem?_getD, List.getElem?_eq_getElem hk]; exact List.getElem_mem hk)]
theorem res_tie {t : List (List Int)} {R C : List Nat} (v : VldT t) (h : Prt t R C) (hC : ∀ k, k < wid t → k ∈ C) (hd : ∀ i k, i < R.length → k < R.length → R.getD i 0 = R.getD k 0 → i = k)
 {p : List Int} (hp : Pln t p) (hs : ∀ j, j < t.length → nth p j ≠ 0 → j ∈ R) : Pln (ptab t R C) (resL R p) ∧ suP (ptab t R C) (resL R p) = suP t p := by
 have hl : (resL R p).length = R.length := mkL_len _ _
 obtain ⟨e1, e2⟩ := ext_tie v h hC hl
 rw [ext_res hd hs hp.len] at e1 e2
 refine ⟨⟨by rw [hl, ptab_len], fun i => ?_, by rw [← e2]; exact hp.ps⟩, (su_tie hp.ps e1 e2).symm⟩
 rcases Nat.lt_or_ge i R.length with g | g
 ·unfold resL; rw [mkL_nth _ g]; exact hp.nn _
 ·rw [nth_ge (by rw [hl]; exact g)]; omega
theorem val_used {t : List (List Int)} {R C : List Nat} (v : VldT t) (h : Prt t R C) (hC : ∀ k, k < wid t → k ∈ C) (hd : ∀ i k, i < R.length → k < R.length → R.getD i 0 = R.getD k 0 → i = k)
 {p : List Int} (hp : BestP t p) (hs : ∀ j, j < t.length → nth p j ≠ 0 → j ∈ R) : val (ptab t R C) = val t := by
 obtain ⟨h1, h2⟩ := res_tie v h hC hd hp.1 hs
 refine val_anti (h.vld v) v (val_sub v h hC) ?_
 rw [← hp.2, ← h2]
 exact val_le (h.vld v) h1
theorem used_perm {t : List (List Int)} {R C : List Nat} (v : VldT t) (h : Prt t R C) (hR : ∀ k, k < t.length → k ∈ R) (hC : ∀ k, k < wid t → k ∈ C) (hd : ∀ i k, i < R.length → k < R.length → R.getD i 0 = R.getD k 0 → i = k)
 {i : Nat} (hi : i < R.length) : usedP (ptab t R C) i = usedP t (R.getD i 0) := by
 have hv := val_perm v h hR hC
 rw [Bool.eq_iff_iff, usedP_iff (h.vld v) (by rw [ptab_len]; exact hi), usedP_iff v (getD_lt h.rb hi)]
 constructor
 ·rintro ⟨q, hq, hn⟩
  obtain ⟨e1, e2⟩ := ext_tie v h hC (q := q) (by rw [hq.1.len, ptab_len])
  refine ⟨_, ⟨ext_pln h hq.1, ?_⟩, ?_⟩
  ·rw [su_tie (ext_pln h hq.1).ps e1 e2, hq.2, hv]
  ·have h1 := extF_at (R := R) hq.1.nn hi
   unfold extL
   rw [mkL_nth _ (getD_lt h.rb hi)]
   omega
 ·rintro ⟨p, hp, hn⟩
  obtain ⟨h1, h2⟩ := res_tie v h hC hd hp.1 (fun j hj _ => hR j hj)
  refine ⟨_, ⟨h1, by rw [h2, hp.2, hv]⟩, ?_⟩
  unfold resL
  rw [mkL_nth _ hi]
  exact hn
theorem used_ans {t : List (List Int)} (v : VldT t) {i : Nat} (hi : i < t.length) (hu : usedP t i = true) {k : List Int} (hk : BestP (turn t) k) : agn (turn t) k i = lst_ (turn t) k := by
 obtain ⟨p, hp, hn⟩ := (usedP_iff v hi).1 hu
 have n1 := v.n1
 have hl : (turn t).length = wid t := turn_len t
 have hw : wid (turn t) = t.length := turn_wid (by omega)
 have e := hk.2
 rw [val_turn v, ← hp.2] at e
 obtain ⟨a1, a2, a3⟩ := rat_spec (lst_ t p) hp.1.ps
 obtain ⟨b1, b2, b3⟩ := rat_spec (lst_ (turn t) k) hk.1.ps
 have e1 : ratN (lst_ (turn t) k) (psum k) = - ratN (lst_ t p) (psum p) := congrArg Prod.fst e
 have e2 : ratD (lst_ (turn t) k) (psum k) = ratD (lst_ t p) (psum p) := congrArg Prod.snd e
 rw [e1] at b1
 rw [e2] at b2
 have hz : lst_ t p * psum k + lst_ (turn t) k * psum p = 0 := by
  rw [a1, a2, b1, b2]
  grind
 have hpair := ag_pair (ent t) t.length (wid t) (nth p) (nth k)
 have f1 : ∀ j, j < wid t → lst_ t p ≤ ag (ent t) t.length (nth p) j := fun j hj => by
  rw [show ag (ent t) t.length (nth p) j = agn t p j by unfold agn; rw [hp.1.len]]
  exact mnTo_le (f := agn t p) hj
 have eA : ∀ r, r < t.length → agn (turn t) k r = ag (tr (ent t)) (wid t) (nth k) r := fun r hr => by
  unfold agn ag
  rw [hk.1.len, hl]
  exact sm_congr fun j hj => by rw [turn_ent hj hr]; rfl
 have f2 : ∀ r, r < t.length → lst_ (turn t) k ≤ ag (tr (ent t)) (wid t) (nth k) r := fun r hr => by
  have := mnTo_le (f := agn (turn t) k) (n := wid (turn t)) (by rw [hw]; exact hr)
  rw [eA r hr] at this
  exact this
 rw [eA i hi]
 have s1 : lst_ t p * psum k ≤ sm (wid t) fun j => nth k j * ag (ent t) t.length (nth p) j := by
  unfold psum
  rw [hk.1.len, hl, ← sm_mul]
  exact sm_le fun j hj => by rw [Int.mul_comm]; exact Int.mul_le_mul_of_nonneg_left (f1 j hj) (hk.1.nn j)
 have s2 : lst_ (turn t) k * psum p + sm t.length (fun r => nth p r * (ag (tr (ent t)) (wid t) (nth k) r - lst_ (turn t) k)) = sm t.length fun r => nth p r * ag (tr (ent t)) (wid t) (nth k) r := by
  unfold psum
  rw [hp.1.len, ← sm_mul, ← sm_add]
  exact sm_congr fun r _ => by grind
 have s3 := sm_one (n := t.length) (f := fun r => nth p r * (ag (tr (ent t)) (wid t) (nth k) r - lst_ (turn t) k)) (fun r hr => Int.mul_nonneg (hp.1.nn r) (by have := f2 r hr; omega)) hi
 try dsimp only at s3
 have s4 : nth p i * (ag (tr (ent t)) (wid t) (nth k) i - lst_ (turn t) k) ≤ 0 := by omega
 have s5 := f2 i hi
 rcases Int.lt_or_le (lst_ (turn t) k) (ag (tr (ent t)) (wid t) (nth k) i) with g | g
 ·exfalso
  have := Int.mul_pos hn (show 0 < ag (tr (ent t)) (wid t) (nth k) i - lst_ (turn t) k by omega)
  omega
 ·omega

end Go.Proofs.Ytommhgcgaclflaa
namespace Go.Proofs.Ytommhgcgaclflaa
set_option linter.unusedVariables false
set_option linter.unusedSimpArgs false
set_option linter.unusedSectionVars false
set_option linter.unnecessarySimpa false
open Go Go.RowKit Game

def rotL (m c : Nat) : List Nat := (List.range m).map fun i => (i + (m - c)) % m
theorem rot_len (m c : Nat) : (rotL m c).length = m := by simp [rotL]
theorem rot_at {m c i : Nat} (h : i < m) : (rotL m c).getD i 0 = (i + (m - c)) % m := by simp [rotL, List.getD_eq_getElem?_getD, h]
theorem rot_lt {m c : Nat} : ∀ x ∈ rotL m c, x < m := fun x hx => by
 simp only [rotL, List.mem_map, List.mem_range] at hx
 obtain ⟨i, hi, rfl⟩ := hx
 exact Nat.mod_lt _ (by omega)
theorem rot_mem : ∀ m, m ≤ 4 → ∀ c, c < m → ∀ k, k < m → k ∈ rotL m c := by decide +kernel
theorem rot_inj : ∀ m, m ≤ 4 → ∀ c, c < m → ∀ i, i < m → ∀ k, k < m → (i + (m - c)) % m = (k + (m - c)) % m → i = k := by decide +kernel
theorem rot_back : ∀ m, m ≤ 4 → ∀ c, c < m → ∀ i, i < m → ∀ j, j < m → ((i + c) % m = j ↔ i = (j + (m - c)) % m) := by decide +kernel
def rotT (t : List (List Int)) (c d : Nat) : List (List Int) := ptab t (rotL t.length c) (rotL (wid t) d)
theorem rot_prt {t : List (List Int)} (v : VldT t) (c d : Nat) : Prt t (rotL t.length c) (rotL (wid t) d) :=
 ⟨by rw [rot_len]; exact v.m1, by rw [rot_len]; exact v.m4, by rw [rot_len]; exact v.n1, by rw [rot_len]; exact v.n4, rot_lt, rot_lt⟩
theorem rotT_vld {t : List (List Int)} (v : VldT t) (c d : Nat) : VldT (rotT t c d) := (rot_prt v c d).vld v
theorem rotT_len (t : List (List Int)) (c d : Nat) : (rotT t c d).length = t.length := by unfold rotT; rw [ptab_len, rot_len]
theorem rotT_wid {t : List (List Int)} (v : VldT t) (c d : Nat) : wid (rotT t c d) = wid t := by unfold rotT; rw [(rot_prt v c d).wid, rot_len]
theorem rotT_val {t : List (List Int)} (v : VldT t) {c d : Nat} (hc : c < t.length) (hd : d < wid t) : val (rotT t c d) = val t :=
 val_perm v (rot_prt v c d) (rot_mem _ v.m4 c hc) (rot_mem _ v.n4 d hd)
theorem rotT_turn {t : List (List Int)} (v : VldT t) (c d : Nat) : turn (rotT t c d) = rotT (turn t) d c := by
 unfold rotT
 rw [turn_ptab (by rw [rot_len]; exact v.m1) rot_lt rot_lt, turn_len, turn_wid (by have := v.n1; omega)]
theorem rotT_ent {t : List (List Int)} {c d i k : Nat} (hi : i < t.length) (hk : k < wid t) : ent (rotT t c d) i k = ent t ((i + (t.length - c)) % t.length) ((k + (wid t - d)) % wid t) := by
 unfold rotT
 rw [ptab_ent (by rw [rot_len]; exact hi) (by rw [rot_len]; exact hk), rot_at hi, rot_at hk]
theorem rotT_used {t : List (List Int)} (v : VldT t) {c d : Nat} (hc : c < t.length) (hd : d < wid t) {i : Nat} (hi : i < t.length) : usedP (rotT t c d) i = usedP t ((i + (t.length - c)) % t.length) := by
 unfold rotT
 rw [used_perm v (rot_prt v c d) (rot_mem _ v.m4 c hc) (rot_mem _ v.n4 d hd) _ (by rw [rot_len]; exact hi), rot_at hi]
 intro i k hi hk e
 rw [rot_len] at hi hk
 rw [rot_at hi, rot_at hk] at e
 exact rot_inj _ v.m4 c hc i hi k hk e
def mvB (l : List Nat) (c n : Nat) : Nat → Nat
 | 0 => 0
 | k + 1 => mvB l c n k ||| 2 ^ ((l.getD k 0 + c) % n)
theorem mvB_lt (l : List Nat) (c : Nat) {n : Nat} (n1 : 1 ≤ n) (n4 : n ≤ 4) : ∀ k, mvB l c n k < 16
 | 0 => by simp [mvB]
 | k + 1 => by
  have h1 := mvB_lt l c n1 n4 k
  have h2 : (l.getD k 0 + c) % n < n := Nat.mod_lt _ (by omega)
  have h3 : ∀ b, b < 16 → ∀ j, j < 4 → b ||| 2 ^ j < 16 := by decide +kernel
  exact h3 _ h1 _ (by omega)
theorem mvB_bit (l : List Nat) (c n j : Nat) : ∀ k, (mvB l c n k).testBit j = true ↔ ∃ i, i < k ∧ (l.getD i 0 + c) % n = j
 | 0 => by simp [mvB]
 | k + 1 => by
  simp only [mvB]
  rw [Nat.testBit_or, Bool.or_eq_true, mvB_bit l c n j k, Nat.testBit_two_pow]
  simp only [decide_eq_true_eq]
  constructor
  ·rintro (⟨i, hi, e⟩ | e)
   ·exact ⟨i, by omega, e⟩
   ·exact ⟨k, by omega, e⟩
  ·rintro ⟨i, hi, e⟩
   by_cases h : i = k
   ·rw [h] at e; exact .inr e
   ·exact .inl ⟨i, by omega, e⟩
theorem bitsTo_congr {a b : Nat} : ∀ k, (∀ i, i < k → a.testBit i = b.testBit i) → bitsTo a k = bitsTo b k
 | 0, _ => rfl
 | k + 1, h => by
  simp only [bitsTo]
  rw [h k (by omega), bitsTo_congr k fun i hi => h i (by omega)]
theorem mem_lst {b i : Nat} : i ∈ lst b ↔ i < 4 ∧ b.testBit i = true := by simp [lst]
theorem moved_used {t : List (List Int)} (v : VldT t) {c d : Nat} (hc : c < t.length) (hd : d < wid t) :
 bitsTo (mvB (lst (usedB t)) c t.length (lst (usedB t)).length) t.length = bitsTo (usedB (rotT t c d)) 4 := by
 have m4 := v.m4
 rw [usedB_m (rotT_vld v c d), rotT_len]
 refine bitsTo_congr _ fun j hj => ?_
 rw [usedB_bit _ (by omega), rotT_used v hc hd hj, Bool.eq_iff_iff, mvB_bit]
 constructor
 ·rintro ⟨i, hi, e⟩
  have hm : (lst (usedB t)).getD i 0 ∈ lst (usedB t) := by rw [List.getD_eq_getElem?_getD, List.getElem?_eq_getElem hi]; exact List.getElem_mem hi
  obtain ⟨h4, hb⟩ := mem_lst.1 hm
  rw [usedB_bit _ h4] at hb
  have hlt : (lst (usedB t)).getD i 0 < t.length := by
   rcases Nat.lt_or_ge ((lst (usedB t)).getD i 0) t.length with g | g
   ·exact g
   ·rw [usedP_out g] at hb; cases hb
  rw [← (rot_back _ m4 c hc _ hlt j hj).1 e]
  exact hb
 ·intro h
  have hlt : (j + (t.length - c)) % t.length < t.length := Nat.mod_lt _ (by omega)
  obtain ⟨i, hi, e⟩ := at_of_mem (mem_lst.2 ⟨(by omega : (j + (t.length - c)) % t.length < 4), by rw [usedB_bit _ (by omega)]; exact h⟩ : _ ∈ lst (usedB t))
  exact ⟨i, hi, by rw [e]; exact (rot_back _ m4 c hc _ hlt j hj).2 rfl⟩

end Go.Proofs.Ytommhgcgaclflaa
namespace Go.Proofs.Ytommhgcgaclflaa
set_option linter.unusedVariables false
set_option linter.unusedSimpArgs false
set_option linter.unusedSectionVars false
set_option linter.unnecessarySimpa false
open Go Go.RowKit Game

def usL (t : List (List Int)) : List Nat := lst (usedB t)
theorem us_nats (t : List (List Int)) : bitsTo (usedB t) 4 = nats (usL t) := bitsTo_lst _ (usedB_lt t)
theorem us_mem {t : List (List Int)} (v : VldT t) {i : Nat} : i ∈ usL t ↔ i < t.length ∧ usedP t i = true := by
 have m4 := v.m4
 unfold usL
 rw [mem_lst]
 constructor
 ·rintro ⟨h4, hb⟩
  rw [usedB_bit _ h4] at hb
  rcases Nat.lt_or_ge i t.length with g | g
  ·exact ⟨g, hb⟩
  ·rw [usedP_out g] at hb; cases hb
 ·rintro ⟨h, hu⟩
  exact ⟨by omega, by rw [usedB_bit _ (by omega)]; exact hu⟩
theorem us_best {t : List (List Int)} (v : VldT t) {i : Nat} (h : 0 < nth (bestL t) i) : i ∈ usL t := by
 have hi : i < t.length := by
  rcases Nat.lt_or_ge i t.length with g | g
  ·exact g
  ·rw [nth_ge (by rw [(bestL_vld v).len]; exact g)] at h; omega
 exact (us_mem v).2 ⟨hi, (usedP_iff v hi).2 ⟨_, bestL_best v, h⟩⟩
theorem us_ne {t : List (List Int)} (v : VldT t) : 1 ≤ (usL t).length := by
 have h := (bestL_vld v).ps
 unfold psum at h
 obtain ⟨i, _, hi⟩ := sm_pos_ex h
 obtain ⟨j, hj, _⟩ := at_of_mem (us_best v hi)
 omega
theorem us_prt {t : List (List Int)} (v : VldT t) : Prt t (usL t) (List.range (wid t)) :=
 ⟨us_ne v, lst_len4 _, by rw [List.length_range]; exact v.n1, by rw [List.length_range]; exact v.n4, fun x hx => ((us_mem v).1 hx).1, fun x hx => List.mem_range.1 hx⟩
theorem us_inj (t : List (List Int)) : ∀ i k, i < (usL t).length → k < (usL t).length → (usL t).getD i 0 = (usL t).getD k 0 → i = k := by
 intro i k hi hk e
 have hs : (usL t).Pairwise (· < ·) := lst_ss _
 rcases Nat.lt_trichotomy i k with g | g | g
 ·have := ss_lt hs g hk; omega
 ·exact g
 ·have := ss_lt hs g hi; omega
theorem us_val {t : List (List Int)} (v : VldT t) : val (ptab t (usL t) (List.range (wid t))) = val t :=
 val_used v (us_prt v) (fun k hk => List.mem_range.2 hk) (us_inj t) (bestL_best v) fun j _ hn => us_best v (by have := (bestL_vld v).nn j; omega)
theorem us_prt2 {t : List (List Int)} (v : VldT t) : Prt t (List.range t.length) (usL (turn t)) := by
 have h := (us_prt (turn_vld v)).turn (turn_vld v)
 rw [turn_turn v, turn_wid (by have := v.n1; omega)] at h
 exact h
theorem us_val2 {t : List (List Int)} (v : VldT t) : val (ptab t (List.range t.length) (usL (turn t))) = val t := by
 have h := us_prt2 v
 have e := us_val (turn_vld v)
 rw [turn_wid (by have := v.n1; omega), ← turn_ptab h.r1 h.rb h.cb, val_turn v, val_turn (h.vld v)] at e
 have e1 := congrArg Prod.fst e
 have e2 := congrArg Prod.snd e
 dsimp only at e1 e2
 exact Prod.ext (by omega) e2
theorem ans_at {f : Nat → Int} {mn : Int} {i : Nat} (he : f i = mn) : ∀ k, i < k → ∃ j, j < (ansTo f mn k).length ∧ nth (ansTo f mn k) j = (i : Int)
 | 0, h => by omega
 | k + 1, h => by
  simp only [ansTo]
  by_cases e : i = k
  ·subst e
   rw [if_pos he]
   exact ⟨(ansTo f mn i).length, by simp, by rw [nth_append_right (by omega), Nat.sub_self]; simp [nth]⟩
  ·obtain ⟨j, hj, e2⟩ := ans_at he k (by omega)
   split
   ·exact ⟨j, by simp; omega, by rw [nth_append_left hj]; exact e2⟩
   ·exact ⟨j, hj, e2⟩
theorem ans_spec (f : Nat → Int) (mn : Int) : ∀ k, (∀ j, j < (ansTo f mn k).length → 0 ≤ nth (ansTo f mn k) j ∧ nth (ansTo f mn k) j < (k : Int)) ∧ ∀ j, j + 1 < (ansTo f mn k).length → nth (ansTo f mn k) j < nth (ansTo f mn k) (j + 1)
 | 0 => by simp [ansTo]
 | k + 1 => by
  obtain ⟨h1, h2⟩ := ans_spec f mn k
  simp only [ansTo]
  split
  ·refine ⟨fun j hj => ?_, fun j hj => ?_⟩
   ·rw [List.length_append, List.length_singleton] at hj
    by_cases e : j < (ansTo f mn k).length
    ·rw [nth_append_left e]; have := h1 j e; omega
    ·rw [nth_append_right (by omega), show j - (ansTo f mn k).length = 0 by omega]; simp [nth]; omega
   ·rw [List.length_append, List.length_singleton] at hj
    have hj2 : j < (ansTo f mn k).length := by omega
    rw [nth_append_left hj2]
    by_cases e : j + 1 < (ansTo f mn k).length
    ·rw [nth_append_left e]; exact h2 j e
    ·rw [nth_append_right (by omega), show j + 1 - (ansTo f mn k).length = 0 by omega]
     have := (h1 j hj2).2
     simpa [nth] using this
  ·exact ⟨fun j hj => by have := h1 j hj; omega, h2⟩
theorem us_ans {t : List (List Int)} (v : VldT t) {i : Nat} (h : i ∈ usL t) : ∃ j, j < (ansL t (bestL (turn t))).length ∧ nth (ansL t (bestL (turn t))) j = (i : Int) := by
 obtain ⟨hi, hu⟩ := (us_mem v).1 h
 exact ans_at (used_ans v hi hu (bestL_best (turn_vld v))) _ hi
theorem us_ansOf {t : List (List Int)} (v : VldT t) : ansOf t (bestL (turn t)) = ansL t (bestL (turn t)) ∧ boundE t (bestL (turn t)) = 0 := by
 have h : boundE t (bestL (turn t)) = 0 := boundE_ok.2 ⟨v, by have h := bestL_vld (turn_vld v); rwa [turn_len] at h⟩
 exact ⟨if_pos h, h⟩

end Go.Proofs.Ytommhgcgaclflaa
