/- Texts of one proof, laid together: Eok, Emb, Emc, Emd, Eme, Qi. -/
import Derived.Test.YtpnfhcnnodolbaaZY26
import Derived.Test.YtpnfhcnnodolbaaZY10
import Derived.Test.YtpnfhcnnodolbaaZY7
import Derived.Test.YtpnfhcnnodolbaaZY2
import Derived.Test.YtpnfhcnnodolbaaZMoreA34
import Derived.Test.YtpnfhcnnodolbaaZY25
import Derived.Test.YtpnfhcnnodolbaaZY11
import Derived.Test.YtpnfhcnnodolbaaZY4
import Derived.Test.YtpnfhcnnodolbaaZY18
import Derived.Test.YtpnfhcnnodolbaaZY17
import Derived.Test.YtpnfhcnnodolbaaZY16
import Derived.Test.YtpnfhcnnodolbaaZY8
import Derived.Test.YtpnfhcnnodolbaaZMoreA35
import Derived.Test.YtpnfhcnnodolbaaZY12
import Derived.Test.YtpnfhcnnodolbaaZY3
import Derived.Test.YtpnfhcnnodolbaaZMoreA36
import Derived.Test.YtpnfhcnnodolbaaZY22
import Derived.Test.YtpnfhcnnodolbaaZY20
import Derived.Test.YtpnfhcnnodolbaaZY21
import Derived.Test.YtpnfhcnnodolbaaZY9
import Derived.Test.YtpnfhcnnodolbaaZY5
import Derived.Test.YtpnfhcnnodolbaaZY13
import Derived.Test.YtpnfhcnnodolbaaZY19
import Derived.Test.YtpnfhcnnodolbaaZY1
set_option linter.unusedVariables false
set_option linter.unusedSimpArgs false
set_option linter.unusedSectionVars false
set_option linter.unnecessarySimpa false
set_option maxRecDepth 100000
namespace Go.Proofs.Ytpnfhcnnodolbaa
open Go Go.RowKit Game
def FrmI (n : Nat) (A C : Nat → Int) (m : Nat) (x : List Int) : Prop :=
 (∃ i, i < m ∧ x = putL n [i] [1]) ∨ (∃ i k, k < i ∧ i < m ∧ (x = putL n [i, k] [A k, -A i] ∨ x = putL n [i, k] [C k, -C i])) ∨
 (∃ i k j, j < k ∧ k < i ∧ i < m ∧ x = putL n [i, k, j] [A k * C j - C k * A j, A j * C i - C j * A i, A i * C k - C i * A k])
theorem cnJ_frm {n : Nat} {A C : Nat → Int} {i k : Nat} {x : List Int} : ∀ {j : Nat}, x ∈ cnJ n A C i k j → ∃ q, q < j ∧ x = putL n [i, k, q] [A k * C q - C k * A q, A q * C i - C q * A i, A i * C k - C i * A k]
 | 0, h => by simp [cnJ] at h
 | j + 1, h => by
  simp only [cnJ, List.mem_append, List.mem_singleton] at h
  rcases h with h | h
  ·obtain ⟨q, a, b⟩ := cnJ_frm h; exact ⟨q, by omega, b⟩
  ·exact ⟨j, by omega, h⟩
theorem cnK_frm {n : Nat} {A C : Nat → Int} {i : Nat} {x : List Int} : ∀ {k : Nat}, x ∈ cnK n A C i k → (∃ q, q < k ∧ (x = putL n [i, q] [A q, -A i] ∨ x = putL n [i, q] [C q, -C i])) ∨ (∃ q j, j < q ∧ q < k ∧ x = putL n [i, q, j] [A q * C j - C q * A j, A j * C i - C j * A i, A i * C q - C i * A q])
 | 0, h => by simp [cnK] at h
 | k + 1, h => by
  simp only [cnK, List.mem_append, List.mem_cons, List.not_mem_nil, or_false] at h
  rcases h with (h | h | h) | h
  ·rcases cnK_frm h with ⟨q, a, b⟩ | ⟨q, j, a, b, c⟩
   ·exact .inl ⟨q, by omega, b⟩
   ·exact .inr ⟨q, j, a, by omega, c⟩
  ·exact .inl ⟨k, by omega, .inl h⟩
  ·exact .inl ⟨k, by omega, .inr h⟩
  ·obtain ⟨q, a, b⟩ := cnJ_frm h
   exact .inr ⟨k, q, a, by omega, b⟩
theorem cnI_frm {n : Nat} {A C : Nat → Int} {x : List Int} : ∀ {m : Nat}, x ∈ cnI n A C m → FrmI n A C m x
 | 0, h => by simp [cnI] at h
 | i + 1, h => by
  simp only [cnI, List.mem_append, List.mem_cons, List.not_mem_nil, or_false] at h
  rcases h with (h | h) | h
  ·rcases cnI_frm h with ⟨q, a, b⟩ | ⟨q, k, a, b, c⟩ | ⟨q, k, j, a, b, c, d⟩
   ·exact .inl ⟨q, by omega, b⟩
   ·exact .inr (.inl ⟨q, k, a, by omega, c⟩)
   ·exact .inr (.inr ⟨q, k, j, a, b, by omega, d⟩)
  ·exact .inl ⟨i, by omega, h⟩
  ·rcases cnK_frm h with ⟨q, a, b⟩ | ⟨q, j, a, b, c⟩
   ·exact .inr (.inl ⟨i, q, a, by omega, b⟩)
   ·exact .inr (.inr ⟨i, q, j, a, b, by omega, c⟩)
theorem lh_zero {p : List Int} : ∀ {K : Nat}, (∀ k, k < K → nth p k = 0) → lowN p K = 0 ∧ highN p K = 0
 | 0, _ => ⟨rfl, rfl⟩
 | K + 1, h => by
  obtain ⟨a, b⟩ := lh_zero (K := K) fun k hk => h k (by omega)
  have := h K (by omega)
  simp only [lowN, highN, a, b, this]
  simp
theorem psum_pos {x : List Int} (h : ∀ i, 0 ≤ nth x i) {i : Nat} (hi : 0 < nth x i) : 0 < psum x := by
 have h0 := psum_nn h
 by_cases e : psum x = 0
 ·have h1 := allIn_iff.1 ((psum_zero h).1 e)
  by_cases g : i < x.length
  ·have := inR_iff.1 (h1 i g); omega
  ·rw [nth_ge (by omega)] at hi; omega
 ·omega
theorem putL_out {n : Nat} {t : List Nat} {p : List Int} (n1 : 1 ≤ n) (h : (putL n t p).length = n) : putL n t p = outN n t p p.length ∧ ∃ k, k < p.length ∧ nth p k ≠ 0 := by
 unfold putL at h ⊢
 by_cases g : (lowN p p.length < 0 ∧ 0 < highN p p.length) ∨ (lowN p p.length = 0 ∧ highN p p.length = 0)
 ·rw [if_pos g] at h; simp at h; omega
 ·rw [if_neg g]
  refine ⟨rfl, ?_⟩
  refine Classical.byContradiction fun hc => g (.inr (lh_zero fun k hk => ?_))
  exact Classical.byContradiction fun hk0 => hc ⟨k, hk, hk0⟩
theorem absI_pos {x : Int} (h : x ≠ 0) : 0 < absI x := by unfold absI; split <;> omega
theorem out_at {n : Nat} {t : List Nat} {p : List Int} (ht : ∀ k, k < p.length → t.getD k 0 < n) (hd : ∀ j k, j < k → k < p.length → t.getD j 0 ≠ t.getD k 0) :
 ∀ K, K ≤ p.length → ∀ k, k < K → nth (outN n t p K) (t.getD k 0) = absI (nth p k)
 | 0, _, k, hk => by omega
 | K + 1, hK, k, hk => by
  simp only [outN]
  rw [nth_set_]
  by_cases e : k = K
  ·subst e
   rw [if_pos ⟨rfl, by rw [outN_len]; exact ht k (by omega)⟩]
  ·rw [if_neg (fun h => hd k K (by omega) (by omega) h.1.symm)]
   exact out_at ht hd K (by omega) k (by omega)
theorem putL_pos {n : Nat} {t : List Nat} {p : List Int} (n1 : 1 ≤ n) (h : (putL n t p).length = n) (hp : Prt (putL n t p)) (ht : ∀ k, k < p.length → t.getD k 0 < n) (hd : ∀ j k, j < k → k < p.length → t.getD j 0 ≠ t.getD k 0) : 0 < psum (putL n t p) := by
 obtain ⟨e, k, hk, hk0⟩ := putL_out n1 h
 refine psum_pos (fun i => (hp i).1) (i := t.getD k 0) ?_
 rw [e, out_at ht hd _ (Nat.le_refl _) k hk]
 exact absI_pos hk0
theorem frm_pos {n : Nat} {A C : Nat → Int} {x : List Int} (n1 : 1 ≤ n) (hf : FrmI n A C n x) (hl : x.length = n) (hp : Prt x) : 0 < psum x := by
 rcases hf with ⟨i, hi, rfl⟩ | ⟨i, k, hk, hi, rfl | rfl⟩ | ⟨i, k, j, hj, hk, hi, rfl⟩
 ·refine putL_pos n1 hl hp (fun q hq => ?_) (fun a b hab hb => ?_)
  ·have : q = 0 := by simpa using hq
   subst this; simpa using hi
  ·simp at hb; omega
 ·refine putL_pos n1 hl hp (fun q hq => ?_) (fun a b hab hb => ?_)
  ·rcases q with _ | _ | q <;> simp at hq ⊢ <;> omega
  ·rcases b with _ | _ | b
   ·omega
   ·obtain rfl : a = 0 := by omega
    simp; omega
   ·simp at hb; omega
 ·refine putL_pos n1 hl hp (fun q hq => ?_) (fun a b hab hb => ?_)
  ·rcases q with _ | _ | q <;> simp at hq ⊢ <;> omega
  ·rcases b with _ | _ | b
   ·omega
   ·obtain rfl : a = 0 := by omega
    simp; omega
   ·simp at hb; omega
 ·refine putL_pos n1 hl hp (fun q hq => ?_) (fun a b hab hb => ?_)
  ·rcases q with _ | _ | _ | q <;> simp at hq ⊢ <;> omega
  ·rcases b with _ | _ | _ | b
   ·omega
   ·obtain rfl : a = 0 := by omega
    simp; omega
   ·have : a = 0 ∨ a = 1 := by omega
    rcases this with rfl | rfl <;> simp <;> omega
   ·simp at hb; omega
theorem edF_mem {n : Nat} {G : List Int → Bool} {L : List (List Int)} {x : List Int} : ∀ {k : Nat}, k ≤ L.length → x ∈ edF n G L k → x ∈ L ∧ x.length = n ∧ G x = true
 | 0, _, h => by simp [edF] at h
 | k + 1, hk, h => by
  simp only [edF] at h
  split at h
  ·rcases List.mem_append.1 h with h1 | h1
   ·exact edF_mem (by omega) h1
   ·rename_i g
    rw [List.mem_singleton] at h1
    rw [h1]
    exact ⟨by rw [row_lt (by omega)]; exact List.getElem_mem _, g⟩
  ·exact edF_mem (by omega) h
theorem edg_ok {l : List Met} (v : VldM l) {u c : Int} (hu : 0 ≤ u ∧ u ≤ 1000) (hc : 0 ≤ c ∧ c ≤ 1000) {s : Bool} {x : List Int} (h : x ∈ edg l u c s) : Xok l x ∧ isG l u c s x = true ∧ FrmI l.length (exA l u c s) (exC l u c s) l.length x := by
 obtain ⟨h1, h2, h3⟩ := edF_mem (Nat.le_refl _) h
 have hf := cnI_frm h1
 have hp := cnI_prt (exA_bd v hu s) (exC_bd v hc s) _ x h1
 exact ⟨⟨hp, h2, frm_pos v.n1 hf h2 hp⟩, h3, hf⟩
def SgnP (m : Nat) (f : Nat → Int) : Prop := ((∀ k, k < m → 0 ≤ f k) ∨ (∀ k, k < m → f k ≤ 0)) ∧ ∃ k, k < m ∧ f k ≠ 0
theorem nrmY_abs {m : Nat} {f : Nat → Int} (h : SgnP m f) {k : Nat} (hk : k < m) : nrmY m f k = absI (f k) := by
 obtain ⟨hs, q, hq, hq0⟩ := h
 have hg := fun k (hk : k < m) => mxTo_ge (f := f) hk
 obtain ⟨j, hj, ej⟩ := mxTo_at f (show 0 < m by omega)
 unfold nrmY absI
 rcases hs with hs | hs
 ·have h1 := hg q hq; have h2 := hs q hq; have h3 := hs k hk
  rw [if_neg (by omega), if_neg (by omega)]
 ·have h1 := hs j hj; have h3 := hs k hk
  rw [if_pos (by omega)]
  show - f k = _
  split <;> omega
theorem keepY_iff {m : Nat} (m1 : 1 ≤ m) {f : Nat → Int} : keepY m f = true ↔ SgnP m f := by
 constructor
 ·intro h
  unfold keepY at h
  simp only [Bool.not_eq_true', Bool.or_eq_false_iff, decide_eq_false_iff_not] at h
  obtain ⟨h1, h2⟩ := h
  have g1 := fun k (hk : k < m) => mnTo_le (f := nrmY m f) hk
  obtain ⟨j, hj, ej⟩ := mxTo_at (nrmY m f) m1
  have hn : ∀ k, k < m → 0 ≤ nrmY m f k := fun k hk => by have := g1 k hk; omega
  refine ⟨?_, j, hj, fun e0 => ?_⟩
  ·by_cases g : mxTo f m ≤ 0
   ·right; intro k hk; have := mxTo_ge (f := f) hk; omega
   ·left; intro k hk
    have := hn k hk
    unfold nrmY at this
    rwa [if_neg g] at this
  ·rw [← ej] at h2
   apply h2
   unfold nrmY
   split
   ·show - f j = 0; omega
   ·exact e0
 ·intro h
  have ha := fun k (hk : k < m) => nrmY_abs h hk
  obtain ⟨q, hq, hq0⟩ := h.2
  obtain ⟨i, hi, ei⟩ := mnTo_at (nrmY m f) m1
  have g2 := mxTo_ge (f := nrmY m f) hq
  rw [ha q hq] at g2
  have g3 := absI_pos hq0
  have g4 : 0 ≤ nrmY m f i := by rw [ha i hi]; unfold absI; split <;> omega
  unfold keepY
  simp only [Bool.not_eq_true', Bool.or_eq_false_iff, decide_eq_false_iff_not]
  omega
theorem low_neg {p : List Int} : ∀ {K : Nat}, lowN p K < 0 → ∃ k, k < K ∧ nth p k < 0
 | 0, h => by simp [lowN] at h
 | K + 1, h => by
  simp only [lowN] at h
  by_cases g : nth p K < lowN p K
  ·rw [if_pos g] at h; exact ⟨K, by omega, h⟩
  ·rw [if_neg g] at h; obtain ⟨k, a, b⟩ := low_neg h; exact ⟨k, by omega, b⟩
theorem low_le_at {p : List Int} : ∀ {K : Nat} {k : Nat}, k < K → lowN p K ≤ nth p k
 | 0, k, h => by omega
 | K + 1, k, h => by
  simp only [lowN]
  by_cases e : k = K
  ·subst e; split <;> omega
  ·have := low_le_at (p := p) (K := K) (k := k) (by omega)
   split <;> omega
theorem high_pos {p : List Int} : ∀ {K : Nat}, 0 < highN p K → ∃ k, k < K ∧ 0 < nth p k
 | 0, h => by simp [highN] at h
 | K + 1, h => by
  simp only [highN] at h
  by_cases g : highN p K < nth p K
  ·rw [if_pos g] at h; exact ⟨K, by omega, h⟩
  ·rw [if_neg g] at h; obtain ⟨k, a, b⟩ := high_pos h; exact ⟨k, by omega, b⟩
theorem high_ge_at {p : List Int} : ∀ {K : Nat} {k : Nat}, k < K → nth p k ≤ highN p K
 | 0, k, h => by omega
 | K + 1, k, h => by
  simp only [highN]
  by_cases e : k = K
  ·subst e; split <;> omega
  ·have := high_ge_at (p := p) (K := K) (k := k) (by omega)
   split <;> omega
theorem putL_iff {n : Nat} {t : List Nat} {p : List Int} (n1 : 1 ≤ n) : (putL n t p).length = n ↔ SgnP p.length (nth p) := by
 have hl := low_le p p.length
 have hh := high_ge p p.length
 constructor
 ·intro h
  obtain ⟨_, k, hk, hk0⟩ := putL_out n1 h
  refine ⟨?_, k, hk, hk0⟩
  unfold putL at h
  by_cases g : (lowN p p.length < 0 ∧ 0 < highN p p.length) ∨ (lowN p p.length = 0 ∧ highN p p.length = 0)
  ·rw [if_pos g] at h; simp at h; omega
  ·by_cases g1 : lowN p p.length < 0
   ·right; intro q hq; have := high_ge_at (p := p) hq; omega
   ·left; intro q hq; have := low_le_at (p := p) hq; omega
 ·rintro ⟨hs, k, hk, hk0⟩
  unfold putL
  rw [if_neg, outN_len]
  rintro (⟨h1, h2⟩ | ⟨h1, h2⟩)
  ·obtain ⟨i, hi, a⟩ := low_neg h1
   obtain ⟨j, hj, b⟩ := high_pos h2
   rcases hs with hs | hs
   ·have := hs i hi; omega
   ·have := hs j hj; omega
  ·have := low_le_at (p := p) hk
   have := high_ge_at (p := p) hk
   omega
theorem edF_in {n : Nat} {G : List Int → Bool} {L : List (List Int)} {x : List Int} (h2 : x.length = n) (h3 : G x = true) : ∀ {k : Nat} {i : Nat}, i < k → row L i = x → x ∈ edF n G L k
 | 0, i, h, _ => by omega
 | k + 1, i, h, hi => by
  simp only [edF]
  by_cases e : i = k
  ·subst e
   rw [hi, if_pos ⟨h2, h3⟩]
   simp
  ·have := edF_in (k := k) (i := i) h2 h3 (by omega) hi
   split
   ·exact List.mem_append_left _ this
   ·exact this
theorem cnJ_in {n : Nat} {A C : Nat → Int} {i k q : Nat} : ∀ {j : Nat}, q < j → putL n [i, k, q] [A k * C q - C k * A q, A q * C i - C q * A i, A i * C k - C i * A k] ∈ cnJ n A C i k j
 | 0, h => by omega
 | j + 1, h => by
  simp only [cnJ, List.mem_append, List.mem_singleton]
  by_cases e : q = j
  ·subst e; exact .inr rfl
  ·exact .inl (cnJ_in (by omega))
theorem cnK_in {n : Nat} {A C : Nat → Int} {i : Nat} {x : List Int} : ∀ {k : Nat}, ((∃ q, q < k ∧ (x = putL n [i, q] [A q, -A i] ∨ x = putL n [i, q] [C q, -C i])) ∨ (∃ q j, j < q ∧ q < k ∧ x = putL n [i, q, j] [A q * C j - C q * A j, A j * C i - C j * A i, A i * C q - C i * A q])) → x ∈ cnK n A C i k
 | 0, h => by rcases h with ⟨q, a, _⟩ | ⟨q, j, _, a, _⟩ <;> omega
 | k + 1, h => by
  simp only [cnK, List.mem_append, List.mem_cons, List.not_mem_nil, or_false]
  rcases h with ⟨q, a, b⟩ | ⟨q, j, a, b, c⟩
  ·by_cases e : q = k
   ·subst e; rcases b with b | b
    ·exact .inl (.inr (.inl b))
    ·exact .inl (.inr (.inr b))
   ·exact .inl (.inl (cnK_in (.inl ⟨q, by omega, b⟩)))
  ·by_cases e : q = k
   ·subst e; rw [c]; exact .inr (cnJ_in a)
   ·exact .inl (.inl (cnK_in (.inr ⟨q, j, a, by omega, c⟩)))
theorem cnI_in {n : Nat} {A C : Nat → Int} {x : List Int} : ∀ {m : Nat}, FrmI n A C m x → x ∈ cnI n A C m
 | 0, h => by rcases h with ⟨i, a, _⟩ | ⟨i, k, _, a, _⟩ | ⟨i, k, j, _, _, a, _⟩ <;> omega
 | m + 1, h => by
  simp only [cnI, List.mem_append, List.mem_cons, List.not_mem_nil, or_false]
  rcases h with ⟨i, a, b⟩ | ⟨i, k, a, b, c⟩ | ⟨i, k, j, a, b, c, d⟩
  ·by_cases e : i = m
   ·subst e; exact .inl (.inr b)
   ·exact .inl (.inl (cnI_in (.inl ⟨i, by omega, b⟩)))
  ·by_cases e : i = m
   ·subst e; exact .inr (cnK_in (.inl ⟨k, a, c⟩))
   ·exact .inl (.inl (cnI_in (.inr (.inl ⟨i, k, a, by omega, c⟩))))
  ·by_cases e : i = m
   ·subst e; exact .inr (cnK_in (.inr ⟨k, j, a, b, d⟩))
   ·exact .inl (.inl (cnI_in (.inr (.inr ⟨i, k, j, a, b, by omega, d⟩))))
theorem edg_in {l : List Met} {u c : Int} {s : Bool} {x : List Int} (hf : FrmI l.length (exA l u c s) (exC l u c s) l.length x) (h2 : x.length = l.length) (h3 : isG l u c s x = true) : x ∈ edg l u c s := by
 obtain ⟨i, hi, e⟩ := List.getElem_of_mem (cnI_in hf)
 exact edF_in h2 h3 hi (show row (cnI l.length (exA l u c s) (exC l u c s) l.length) i = x by rw [row_lt hi]; exact e)
theorem list_ext_nth {x y : List Int} (hl : x.length = y.length) (h : ∀ i, i < x.length → nth x i = nth y i) : x = y := by
 refine List.ext_getElem hl fun i h1 h2 => ?_
 have := h i h1
 rwa [nth_lt h1, nth_lt h2] at this
theorem out_else {n : Nat} {t : List Nat} {p : List Int} {i : Nat} (h : ∀ k, k < p.length → t.getD k 0 ≠ i) : ∀ K, K ≤ p.length → nth (outN n t p K) i = 0
 | 0, _ => by simp [outN, nth, List.getElem?_replicate]; split <;> rfl
 | K + 1, hK => by
  simp only [outN]
  rw [nth_set_, if_neg (fun e => h K (by omega) e.1)]
  exact out_else h K (by omega)
theorem mix_else {n : Nat} {t : List Nat} {x : List Int} {i : Nat} (h : ∀ k, k < t.length → t.getD k 0 ≠ i) : ∀ K, K ≤ t.length → nth (mixP n t x K) i = 0
 | 0, _ => by simp [mixP, nth, List.getElem?_replicate]; split <;> rfl
 | K + 1, hK => by
  simp only [mixP]
  rw [nth_set_, if_neg (fun e => h K (by omega) e.1)]
  exact mix_else h K (by omega)
theorem mix_at {n : Nat} {t : List Nat} {x : List Int} (ht : ∀ k, k < t.length → t.getD k 0 < n) (hd : ∀ j k, j < k → k < t.length → t.getD j 0 ≠ t.getD k 0) :
 ∀ K, K ≤ t.length → ∀ k, k < K → nth (mixP n t x K) (t.getD k 0) = nth x k
 | 0, _, k, hk => by omega
 | K + 1, hK, k, hk => by
  simp only [mixP]
  rw [nth_set_]
  by_cases e : k = K
  ·subst e
   rw [if_pos ⟨rfl, by rw [mixP_len]; exact ht k (by omega)⟩]
  ·rw [if_neg (fun h => hd k K (by omega) (by omega) h.1.symm)]
   exact mix_at ht hd K (by omega) k (by omega)
theorem mix_put {n : Nat} {t t' : List Nat} {x p : List Int} (n1 : 1 ≤ n) (hx : x.length = t.length) (hp : p.length = t'.length)
 (ht : ∀ k, k < t.length → t.getD k 0 < n) (hd : ∀ j k, j < k → k < t.length → t.getD j 0 ≠ t.getD k 0) (ht' : ∀ k, k < t'.length → t'.getD k 0 < n) (hd' : ∀ j k, j < k → k < t'.length → t'.getD j 0 ≠ t'.getD k 0)
 (hs : SgnP p.length (nth p)) (hto : ∀ k, k < t.length → ∃ k', k' < t'.length ∧ t'.getD k' 0 = t.getD k 0 ∧ nth x k = absI (nth p k')) (hfro : ∀ k', k' < t'.length → ∃ k, k < t.length ∧ t.getD k 0 = t'.getD k' 0) :
 mixP n t x t.length = putL n t' p := by
 have hlen := (putL_iff (t := t') n1).2 hs
 obtain ⟨e, _⟩ := putL_out n1 hlen
 refine list_ext_nth (by rw [mixP_len, hlen]) fun i hi => ?_
 rw [e]
 by_cases g : ∃ k, k < t.length ∧ t.getD k 0 = i
 ·obtain ⟨k, hk, rfl⟩ := g
  obtain ⟨k', hk', e1, e2⟩ := hto k hk
  rw [mix_at ht hd _ (Nat.le_refl _) k hk, e2, ← e1, hp]
  have := out_at (n := n) (t := t') (p := p) (by rw [hp]; exact ht') (by rw [hp]; exact hd') p.length (Nat.le_refl _) k' (by omega)
  rw [← hp]; exact this.symm
 ·rw [mix_else (fun k hk e => g ⟨k, hk, e⟩) _ (Nat.le_refl _), out_else (fun k' hk' e => ?_) _ (Nat.le_refl _)]
  obtain ⟨k, hk, e'⟩ := hfro k' (by omega)
  exact g ⟨k, hk, by omega⟩
theorem exA_ov (l : List Met) (u c : Int) (s : Bool) (i : Nat) : exA l u c s i = - ovr l u c s i 1 := by
 unfold exA ovr spr
 simp; omega
theorem exC_ov (l : List Met) (u c : Int) (s : Bool) (i : Nat) : exC l u c s i = - ovr l u c s i 2 := by
 unfold exC ovr spr
 simp; omega
theorem absI_neg (x : Int) : absI (-x) = absI x := by unfold absI; split <;> split <;> omega
def okT (n : Nat) (t : List Nat) : Bool := match t with
 | [i] => decide (i < n)
 | [a, b] => decide (a < b) && decide (b < n)
 | [a, b, c] => decide (a < b) && (decide (b < c) && decide (c < n))
 | _ => false
theorem chs_okT : ∀ n, n ≤ 6 → (chsL n (2 ^ n)).all (okT n) = true := by decide +kernel
theorem chs1 : ∀ n, n ≤ 6 → ∀ i, i < n → [i] ∈ chsL n (2 ^ n) := by decide +kernel
theorem chs2 : ∀ n, n ≤ 6 → ∀ b, b < n → ∀ a, a < b → [a, b] ∈ chsL n (2 ^ n) := by decide +kernel
theorem chs3B : ∀ n, n ≤ 6 → ((List.range n).all fun c => (List.range c).all fun b => (List.range b).all fun a => (chsL n (2 ^ n)).contains [a, b, c]) = true := by decide +kernel
theorem chs3 {n : Nat} (n6 : n ≤ 6) {a b c : Nat} (hc : c < n) (hb : b < c) (ha : a < b) : [a, b, c] ∈ chsL n (2 ^ n) := by
 have h1 := List.all_eq_true.1 (chs3B n n6) c (List.mem_range.2 hc)
 have h2 := List.all_eq_true.1 h1 b (List.mem_range.2 hb)
 have h3 := List.all_eq_true.1 h2 a (List.mem_range.2 ha)
 simpa using h3
theorem mk_nth {m : Nat} {f : Nat → Int} {k : Nat} (h : k < m) : nth (mkL m f) k = f k := mkL_nth f h
theorem eqP1 {n i : Nat} (hi : i < n) {f : Nat → Int} (h : SgnP 1 f) (f0 : f 0 = 1) : mixP n [i] (mkL 1 (nrmY 1 f)) 1 = putL n [i] [1] := by
 refine mix_put (t := [i]) (t' := [i]) (by omega) (mkL_len _ _) rfl (fun k hk => ?_) (fun j k hj hk => ?_) (fun k hk => ?_) (fun j k hj hk => ?_) ⟨.inl fun k hk => ?_, 0, by decide, by decide⟩ (fun k hk => ⟨0, by simp, ?_, ?_⟩) (fun k hk => ⟨0, by simp, ?_⟩)
 ·obtain rfl : k = 0 := by simpa using hk
  simpa using hi
 ·simp at hk; omega
 ·obtain rfl : k = 0 := by simpa using hk
  simpa using hi
 ·simp at hk; omega
 ·obtain rfl : k = 0 := by simpa using hk
  decide
 ·obtain rfl : k = 0 := by simpa using hk
  rfl
 ·obtain rfl : k = 0 := by simpa using hk
  rw [mk_nth (by decide), nrmY_abs h (by decide), f0]; rfl
 ·obtain rfl : k = 0 := by simpa using hk
  rfl
theorem two_cases {P : Nat → Prop} (h0 : P 0) (h1 : P 1) : ∀ k, k < 2 → P k := fun k hk => by
 rcases k with _ | _ | k
 ·exact h0
 ·exact h1
 ·omega
theorem three_cases {P : Nat → Prop} (h0 : P 0) (h1 : P 1) (h2 : P 2) : ∀ k, k < 3 → P k := fun k hk => by
 rcases k with _ | _ | _ | k
 ·exact h0
 ·exact h1
 ·exact h2
 ·omega
theorem eqP2 {n a b : Nat} (hab : a < b) (hb : b < n) {f : Nat → Int} {p0 p1 : Int} (h : SgnP 2 f) (e0 : absI p0 = absI (f 1)) (e1 : absI p1 = absI (f 0)) (hs : SgnP 2 (nth [p0, p1])) : mixP n [a, b] (mkL 2 (nrmY 2 f)) 2 = putL n [b, a] [p0, p1] := by
 refine mix_put (t := [a, b]) (t' := [b, a]) (by omega) (mkL_len _ _) rfl (two_cases (by simp; omega) (by simpa using hb)) (fun j k hj hk => ?_) (two_cases (by simpa using hb) (by simp; omega)) (fun j k hj hk => ?_) hs
  (two_cases ⟨1, by simp, rfl, ?_⟩ ⟨0, by simp, rfl, ?_⟩) (two_cases ⟨1, by simp, rfl⟩ ⟨0, by simp, rfl⟩)
 ·have : j = 0 ∧ k = 1 := by simp at hk; omega
  obtain ⟨rfl, rfl⟩ := this
  simp; omega
 ·have : j = 0 ∧ k = 1 := by simp at hk; omega
  obtain ⟨rfl, rfl⟩ := this
  simp; omega
 ·rw [mk_nth (by decide), nrmY_abs h (by decide)]; exact e1.symm
 ·rw [mk_nth (by decide), nrmY_abs h (by decide)]; exact e0.symm
theorem eqP3 {n a b c : Nat} (hab : a < b) (hbc : b < c) (hc : c < n) {f : Nat → Int} {p0 p1 p2 : Int} (h : SgnP 3 f) (e0 : absI p0 = absI (f 2)) (e1 : absI p1 = absI (f 1)) (e2 : absI p2 = absI (f 0)) (hs : SgnP 3 (nth [p0, p1, p2])) : mixP n [a, b, c] (mkL 3 (nrmY 3 f)) 3 = putL n [c, b, a] [p0, p1, p2] := by
 refine mix_put (t := [a, b, c]) (t' := [c, b, a]) (by omega) (mkL_len _ _) rfl (three_cases (by simp; omega) (by simp; omega) (by simpa using hc)) (fun j k hj hk => ?_) (three_cases (by simpa using hc) (by simp; omega) (by simp; omega)) (fun j k hj hk => ?_) hs
  (three_cases ⟨2, by simp, rfl, ?_⟩ ⟨1, by simp, rfl, ?_⟩ ⟨0, by simp, rfl, ?_⟩) (three_cases ⟨2, by simp, rfl⟩ ⟨1, by simp, rfl⟩ ⟨0, by simp, rfl⟩)
 ·have : (j = 0 ∧ k = 1) ∨ (j = 0 ∧ k = 2) ∨ (j = 1 ∧ k = 2) := by simp at hk; omega
  rcases this with ⟨rfl, rfl⟩ | ⟨rfl, rfl⟩ | ⟨rfl, rfl⟩ <;> simp <;> omega
 ·have : (j = 0 ∧ k = 1) ∨ (j = 0 ∧ k = 2) ∨ (j = 1 ∧ k = 2) := by simp at hk; omega
  rcases this with ⟨rfl, rfl⟩ | ⟨rfl, rfl⟩ | ⟨rfl, rfl⟩ <;> simp <;> omega
 ·rw [mk_nth (by decide), nrmY_abs h (by decide)]; exact e2.symm
 ·rw [mk_nth (by decide), nrmY_abs h (by decide)]; exact e1.symm
 ·rw [mk_nth (by decide), nrmY_abs h (by decide)]; exact e0.symm
theorem sgn2 {f : Nat → Int} {p0 p1 : Int} (e0 : p0 = f 1) (e1 : p1 = f 0) : SgnP 2 (nth [p0, p1]) ↔ SgnP 2 f := by
 have n0 : nth [p0, p1] 0 = f 1 := e0
 have n1 : nth [p0, p1] 1 = f 0 := e1
 constructor
 ·rintro ⟨hs, k, hk, h0⟩
  refine ⟨hs.imp (fun g => two_cases (by have := g 1 (by decide); omega) (by have := g 0 (by decide); omega)) (fun g => two_cases (by have := g 1 (by decide); omega) (by have := g 0 (by decide); omega)), ?_⟩
  rcases k with _ | _ | k
  ·exact ⟨1, by decide, by omega⟩
  ·exact ⟨0, by decide, by simp only [Nat.zero_add] at h0; omega⟩
  ·omega
 ·rintro ⟨hs, k, hk, h0⟩
  refine ⟨hs.imp (fun g => two_cases (by have := g 1 (by decide); omega) (by have := g 0 (by decide); omega)) (fun g => two_cases (by have := g 1 (by decide); omega) (by have := g 0 (by decide); omega)), ?_⟩
  rcases k with _ | _ | k
  ·exact ⟨1, by decide, by omega⟩
  ·exact ⟨0, by decide, by simp only [Nat.zero_add] at h0; omega⟩
  ·omega
theorem sgn3 {f : Nat → Int} {p0 p1 p2 : Int} (e0 : p0 = - f 2) (e1 : p1 = - f 1) (e2 : p2 = - f 0) : SgnP 3 (nth [p0, p1, p2]) ↔ SgnP 3 f := by
 have n0 : nth [p0, p1, p2] 0 = - f 2 := e0
 have n1 : nth [p0, p1, p2] 1 = - f 1 := e1
 have n2 : nth [p0, p1, p2] 2 = - f 0 := e2
 constructor
 ·rintro ⟨hs, k, hk, h0⟩
  refine ⟨?_, ?_⟩
  ·rcases hs with g | g
   ·exact .inr (three_cases (by have := g 2 (by decide); omega) (by have := g 1 (by decide); omega) (by have := g 0 (by decide); omega))
   ·exact .inl (three_cases (by have := g 2 (by decide); omega) (by have := g 1 (by decide); omega) (by have := g 0 (by decide); omega))
  rcases k with _ | _ | _ | k
  ·exact ⟨2, by decide, by omega⟩
  ·exact ⟨1, by decide, by simp only [Nat.zero_add] at h0; omega⟩
  ·exact ⟨0, by decide, by simp only [Nat.zero_add, Nat.reduceAdd] at h0; omega⟩
  ·omega
 ·rintro ⟨hs, k, hk, h0⟩
  refine ⟨?_, ?_⟩
  ·rcases hs with g | g
   ·exact .inr (three_cases (by have := g 2 (by decide); omega) (by have := g 1 (by decide); omega) (by have := g 0 (by decide); omega))
   ·exact .inl (three_cases (by have := g 2 (by decide); omega) (by have := g 1 (by decide); omega) (by have := g 0 (by decide); omega))
  rcases k with _ | _ | _ | k
  ·exact ⟨2, by decide, by omega⟩
  ·exact ⟨1, by decide, by simp only [Nat.zero_add] at h0; omega⟩
  ·exact ⟨0, by decide, by simp only [Nat.zero_add, Nat.reduceAdd] at h0; omega⟩
  ·omega
theorem ptL_at {ov : Nat → Nat → Int} {t : List Nat} {k : Nat} (hk : k < (ptL ov t).length) : ∃ j, j < cndN t ∧ keepY t.length (cndY ov t j) = true ∧ row (ptL ov t) k = mkL t.length (nrmY t.length (cndY ov t j)) := by
 have hk2 : k < (kptL t.length (cndY ov t) (cndN t)).length := by unfold ptL at hk; rwa [List.length_map] at hk
 have hm := List.getElem_mem hk2
 obtain ⟨h1, h2⟩ := List.mem_filter.1 hm
 refine ⟨_, List.mem_range.1 h1, h2, ?_⟩
 rw [row_lt hk]
 simp only [ptL, List.getElem_map]
theorem ptL_in {ov : Nat → Nat → Int} {t : List Nat} {j : Nat} (hj : j < cndN t) (hs : keepY t.length (cndY ov t j) = true) : ∃ k, k < (ptL ov t).length ∧ row (ptL ov t) k = mkL t.length (nrmY t.length (cndY ov t j)) := by
 have hm : mkL t.length (nrmY t.length (cndY ov t j)) ∈ ptL ov t := List.mem_map.2 ⟨j, List.mem_filter.2 ⟨List.mem_range.2 hj, hs⟩, rfl⟩
 obtain ⟨k, hk, e⟩ := List.getElem_of_mem hm
 exact ⟨k, hk, by rw [row_lt hk]; exact e⟩
theorem edgT_in {G : List Int → Bool} {N : Nat} {t : List Nat} {X : List (List Int)} {q : Nat} (hg : G (mixP N t (row X q) t.length) = true) : ∀ {k : Nat}, q < k → mixP N t (row X q) t.length ∈ edgT G N t X k
 | 0, h => by omega
 | k + 1, h => by
  simp only [edgT]
  by_cases e : q = k
  ·subst e; rw [if_pos hg]; simp
  ·have := edgT_in (k := k) hg (by omega)
   split
   ·exact List.mem_append_left _ this
   ·exact this
theorem edP_in {l : List Met} {u c : Int} {s : Bool} {t : List Nat} {j : Nat} (ht : t ∈ chsL l.length (2 ^ l.length)) (hj : j < cndN t) (hs : SgnP t.length (cndY (ovr l u c s) t j)) (h1 : 1 ≤ t.length) (hg : goodG l u c s (mixP l.length t (mkL t.length (nrmY t.length (cndY (ovr l u c s) t j))) t.length) = true) :
 mixP l.length t (mkL t.length (nrmY t.length (cndY (ovr l u c s) t j))) t.length ∈ edP l u c s := by
 obtain ⟨k, hk, e⟩ := ptL_in (ov := ovr l u c s) hj ((keepY_iff h1).2 hs)
 rw [← e] at hg ⊢
 exact List.mem_flatMap.2 ⟨t, ht, edgT_in hg hk⟩
theorem frm1 {l : List Met} {u c : Int} {s : Bool} {i : Nat} (j : Nat) (hi : i < l.length) (h : SgnP 1 (cndY (ovr l u c s) [i] j)) : mixP l.length [i] (mkL 1 (nrmY 1 (cndY (ovr l u c s) [i] j))) 1 = putL l.length [i] [1] :=
 eqP1 hi h (by simp [cndY])
theorem f2_at (ov : Nat → Nat → Int) (a b j : Nat) : cndY ov [a, b] j 0 = ov b (j + 1) ∧ cndY ov [a, b] j 1 = - ov a (j + 1) := by simp [cndY]
theorem f3_at (ov : Nat → Nat → Int) (a b c j : Nat) : cndY ov [a, b, c] j 0 = triP ov b c ∧ cndY ov [a, b, c] j 1 = triP ov c a ∧ cndY ov [a, b, c] j 2 = triP ov a b := by simp [cndY]
theorem p3_at (l : List Met) (u c : Int) (s : Bool) (a b d : Nat) : exA l u c s b * exC l u c s a - exC l u c s b * exA l u c s a = - triP (ovr l u c s) a b ∧ exA l u c s a * exC l u c s d - exC l u c s a * exA l u c s d = - triP (ovr l u c s) d a ∧ exA l u c s d * exC l u c s b - exC l u c s d * exA l u c s b = - triP (ovr l u c s) b d := by
 simp only [exA_ov, exC_ov, triP]
 refine ⟨by grind, by grind, by grind⟩
theorem edP_sub {l : List Met} (v : VldM l) {u c : Int} (hu : 0 ≤ u ∧ u ≤ 1000) (hc : 0 ≤ c ∧ c ≤ 1000) {s : Bool} {x : List Int} (h : x ∈ edP l u c s) : x ∈ edg l u c s := by
 obtain ⟨ok, hg⟩ := edP_ok v hu hc h
 obtain ⟨t, k, ht, hk, hx, _⟩ := edP_mem h
 have hG : isG l u c s x = true := by unfold goodG at hg; rw [Bool.and_eq_true] at hg; exact hg.2
 refine edg_in ?_ ok.len hG
 have hok := List.all_eq_true.1 (chs_okT l.length v.n6) t ht
 obtain ⟨j, hj, hs, e⟩ := ptL_at hk
 rw [e] at hx
 match t, hok with
 | [i], hok =>
  have hi : i < l.length := by simpa [okT] using hok
  have h1 := (keepY_iff (m := 1) (by decide)).1 hs
  exact .inl ⟨i, hi, by rw [hx]; exact frm1 j hi h1⟩
 | [a, b], hok =>
  have hab : a < b ∧ b < l.length := by simpa [okT] using hok
  have h1 := (keepY_iff (m := 2) (by decide)).1 hs
  have hj2 : j = 0 ∨ j = 1 := by have : j < 2 := hj; omega
  have hf := f2_at (ovr l u c s) a b j
  refine .inr (.inl ⟨b, a, hab.1, hab.2, ?_⟩)
  rcases hj2 with rfl | rfl
  ·left
   have e0 : exA l u c s a = cndY (ovr l u c s) [a, b] 0 1 := by rw [hf.2, exA_ov]
   have e1 : - exA l u c s b = cndY (ovr l u c s) [a, b] 0 0 := by rw [hf.1, exA_ov]; simp
   rw [hx]
   exact eqP2 hab.1 hab.2 h1 (by rw [e0]) (by rw [e1]) ((sgn2 e0 e1).2 h1)
  ·right
   have e0 : exC l u c s a = cndY (ovr l u c s) [a, b] 1 1 := by rw [hf.2, exC_ov]
   have e1 : - exC l u c s b = cndY (ovr l u c s) [a, b] 1 0 := by rw [hf.1, exC_ov]; simp
   rw [hx]
   exact eqP2 hab.1 hab.2 h1 (by rw [e0]) (by rw [e1]) ((sgn2 e0 e1).2 h1)
 | [a, b, d], hok =>
  have hab : a < b ∧ b < d ∧ d < l.length := by simpa [okT] using hok
  have h1 := (keepY_iff (m := 3) (by decide)).1 hs
  have hf := f3_at (ovr l u c s) a b d j
  have hp := p3_at l u c s a b d
  refine .inr (.inr ⟨d, b, a, hab.1, hab.2.1, hab.2.2, ?_⟩)
  have e0 : exA l u c s b * exC l u c s a - exC l u c s b * exA l u c s a = - cndY (ovr l u c s) [a, b, d] j 2 := by rw [hf.2.2]; exact hp.1
  have e1 : exA l u c s a * exC l u c s d - exC l u c s a * exA l u c s d = - cndY (ovr l u c s) [a, b, d] j 1 := by rw [hf.2.1]; exact hp.2.1
  have e2 : exA l u c s d * exC l u c s b - exC l u c s d * exA l u c s b = - cndY (ovr l u c s) [a, b, d] j 0 := by rw [hf.1]; exact hp.2.2
  rw [hx]
  exact eqP3 hab.1 hab.2.1 hab.2.2 h1 (by rw [e0, absI_neg]) (by rw [e1, absI_neg]) (by rw [e2, absI_neg]) ((sgn3 e0 e1 e2).2 h1)
theorem edg_sub {l : List Met} (v : VldM l) {u c : Int} (hu : 0 ≤ u ∧ u ≤ 1000) (hc : 0 ≤ c ∧ c ≤ 1000) {s : Bool} {x : List Int} (h : x ∈ edg l u c s) : x ∈ edP l u c s := by
 obtain ⟨ok, hG, hF⟩ := edg_ok v hu hc h
 have hg : goodG l u c s x = true := by unfold goodG; rw [hG, decide_eq_true ok.pos]; rfl
 have n1 := v.n1
 rcases hF with ⟨i, hi, rfl⟩ | ⟨b, a, hab, hb, hx⟩ | ⟨d, b, a, hab, hbd, hd, rfl⟩
 ·have h1 : SgnP 1 (cndY (ovr l u c s) [i] 0) := ⟨.inl fun k hk => by simp [cndY], 0, by decide, by simp [cndY]⟩
  have e := frm1 0 hi h1
  have := edP_in (t := [i]) (j := 0) (l := l) (u := u) (c := c) (s := s) (chs1 _ v.n6 i hi) (by simp [cndN]) h1 (by simp) (by rw [show [i].length = 1 from rfl, e]; exact hg)
  rwa [show [i].length = 1 from rfl, e] at this
 ·have go : ∀ j p0 p1, j < 2 → p0 = cndY (ovr l u c s) [a, b] j 1 → p1 = cndY (ovr l u c s) [a, b] j 0 → x = putL l.length [b, a] [p0, p1] → x ∈ edP l u c s := fun j p0 p1 hj e0 e1 hx => by
   have hS := (putL_iff (t := [b, a]) (p := [p0, p1]) n1).1 (by rw [← hx]; exact ok.len)
   have h1 : SgnP 2 (cndY (ovr l u c s) [a, b] j) := (sgn2 e0 e1).1 hS
   have e := eqP2 hab hb h1 (by rw [e0]) (by rw [e1]) hS
   have := edP_in (t := [a, b]) (j := j) (l := l) (u := u) (c := c) (s := s) (chs2 _ v.n6 b hb a hab) hj h1 (by simp) (by rw [show [a, b].length = 2 from rfl, e, ← hx]; exact hg)
   rwa [show [a, b].length = 2 from rfl, e, ← hx] at this
  rcases hx with hx | hx
  ·exact go 0 _ _ (by decide) (by rw [(f2_at (ovr l u c s) a b 0).2, exA_ov]) (by rw [(f2_at (ovr l u c s) a b 0).1, exA_ov]; simp) hx
  ·exact go 1 _ _ (by decide) (by rw [(f2_at (ovr l u c s) a b 1).2, exC_ov]) (by rw [(f2_at (ovr l u c s) a b 1).1, exC_ov]; simp) hx
 ·have hf := f3_at (ovr l u c s) a b d 0
  have hp := p3_at l u c s a b d
  have e0 : exA l u c s b * exC l u c s a - exC l u c s b * exA l u c s a = - cndY (ovr l u c s) [a, b, d] 0 2 := by rw [hf.2.2]; exact hp.1
  have e1 : exA l u c s a * exC l u c s d - exC l u c s a * exA l u c s d = - cndY (ovr l u c s) [a, b, d] 0 1 := by rw [hf.2.1]; exact hp.2.1
  have e2 : exA l u c s d * exC l u c s b - exC l u c s d * exA l u c s b = - cndY (ovr l u c s) [a, b, d] 0 0 := by rw [hf.1]; exact hp.2.2
  have hS := (putL_iff (t := [d, b, a]) n1).1 ok.len
  have h1 : SgnP 3 (cndY (ovr l u c s) [a, b, d] 0) := (sgn3 e0 e1 e2).1 hS
  have e := eqP3 hab hbd hd h1 (by rw [e0, absI_neg]) (by rw [e1, absI_neg]) (by rw [e2, absI_neg]) hS
  have := edP_in (t := [a, b, d]) (j := 0) (l := l) (u := u) (c := c) (s := s) (chs3 v.n6 hd hbd hab) (by simp [cndN]) h1 (by simp) (by rw [show [a, b, d].length = 3 from rfl, e]; exact hg)
  rwa [show [a, b, d].length = 3 from rfl, e] at this
def lrE (l : List Met) (u c : Int) (s : Bool) : Int := if ¬ chkB l u c = 0 then chkB l u c else if (edg l u c s).length = 0 then 17 else 0
end Go.Proofs.Ytpnfhcnnodolbaa
