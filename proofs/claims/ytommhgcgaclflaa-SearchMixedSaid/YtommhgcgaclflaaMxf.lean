/- What SearchMixed says of mixed plans: plain laws. -/
import Derived.Test.YtommhgcgaclflaaZMixed35
import Derived.Test.YtommhgcgaclflaaPld
namespace Go.Proofs.Ytommhgcgaclflaa
set_option linter.unusedVariables false
set_option linter.unusedSimpArgs false
set_option linter.unusedSectionVars false
set_option linter.unnecessarySimpa false
open Go Go.RowKit Game

theorem mixL_out {m : Nat} {p q : List Int} {i : Nat} (h : m ≤ i) : nth (mixL m p q) i = 0 := nth_ge (by rw [mixL_len]; exact h)
theorem mix_vld {m : Nat} {p q : List Int} (hp : VldP p m) (hq : VldP q m) (bp : ∀ i, nth p i ≤ 50000000) (bq : ∀ i, nth q i ≤ 50000000) : VldP (mixL m p q) m := by
 refine ⟨mixL_len _ _ _, fun i => ?_, fun i => ?_, by rw [mix_sum hp.len hq.len]; have := hp.ps; have := hq.ps; omega⟩
 ·rcases Nat.lt_or_ge i m with g | g
  ·rw [mixL_nth g]; have := hp.nn i; have := hq.nn i; omega
  ·rw [mixL_out g]; omega
 ·rcases Nat.lt_or_ge i m with g | g
  ·rw [mixL_nth g]; have := bp i; have := bq i; omega
  ·rw [mixL_out g]; omega
def capL (m : Nat) (p q : List Int) : List Int := mkL m fun i => min 100000000 (nth p i + nth q i)
theorem cap_vld {m : Nat} {p q : List Int} (hp : VldP p m) (hq : VldP q m) : VldP (capL m p q) m := by
 have hb : ∀ i, 0 ≤ nth (capL m p q) i ∧ nth (capL m p q) i ≤ 100000000 := fun i => by
  rcases Nat.lt_or_ge i m with g | g
  ·unfold capL; rw [mkL_nth _ g]; have := hp.nn i; have := hq.nn i; omega
  ·rw [nth_ge (by unfold capL; rw [mkL_len]; exact g)]; omega
 refine ⟨mkL_len _ _, fun i => (hb i).1, fun i => (hb i).2, ?_⟩
 have h1 := hp.ps
 unfold psum at h1 ⊢
 rw [hp.len] at h1
 obtain ⟨i, hi, h2⟩ := sm_pos_ex h1
 have h3 : 0 < nth (capL m p q) i := by
  unfold capL; rw [mkL_nth _ hi]; have := hq.nn i; omega
 rw [show (capL m p q).length = m from mkL_len _ _]
 exact sm_pos (fun j _ => (hb j).1) hi h3
theorem cap_mix {m : Nat} {p q : List Int} (h : ∀ i, i < m → nth p i + nth q i ≤ 100000000) : capL m p q = mixL m p q := by
 unfold capL mixL
 exact mkL_congr fun i hi => by have := h i hi; omega
theorem part_sum {m : Nat} {q : List Int} (hq : VldP q m) {i : Nat} (hi : i < m) : nth q i ≤ psum q := by
 unfold psum
 rw [hq.len]
 exact sm_one (fun j _ => hq.nn j) hi
theorem cap_best {t : List (List Int)} (v : VldT t) {p : List Int} (hp : VldP p t.length) (bp : ∀ i, nth p i ≤ 65535) (ep : suP t p = val t) (hs : psum (bestL t) ≤ 99934464) : suP t (capL t.length p (bestL t)) = val t := by
 have hq := bestL_vld v
 rw [cap_mix fun i hi => by have := bp i; have := part_sum hq hi; omega]
 exact mix_best v hp.pln hq.pln ep (bestL_su v)
theorem pln_bd {m : Nat} {l : List Int} (h : ∀ i, 0 ≤ nth l i ∧ nth l i ≤ 65535) (i : Nat) : 0 ≤ nth (pln m l) i ∧ nth (pln m l) i ≤ 65535 := by
 unfold pln
 rcases Nat.lt_or_ge i m with g | g
 ·split
  ·rw [mkL_nth _ g]; (try dsimp only); split
   ·omega
   ·exact plN_bd h i
  ·rw [mkL_nth _ g]; exact plN_bd h i
 ·split <;> (rw [nth_mkL_out g]; omega)
theorem su_den {t : List (List Int)} {p : List Int} (vp : VldP p t.length) (m4 : t.length ≤ 4) (hB : ∀ i, nth p i ≤ 131070) : sureD t p ≤ 524280 := by
 have h1 : psum p ≤ 524280 := by
  have := (sm_bd (n := p.length) (f := nth p) (B := 131070) fun i _ => ⟨vp.nn i, hB i⟩).2
  have := vp.len
  unfold psum; omega
 have h2 : sureD t p ≤ psum p := rat_le (a := lst_ t p) vp.ps
 omega

end Go.Proofs.Ytommhgcgaclflaa
