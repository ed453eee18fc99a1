/- Texts of one proof, laid together: Pc, EqR, Qa. -/
import Derived.Test.YtpnfhcnnodolbaaZY10
import Derived.Test.YtpnfhcnnodolbaaZY18
import Derived.Test.YtpnfhcnnodolbaaZY9
import Derived.Test.YtpnfhcnnodolbaaZY5
import Derived.Test.YtpnfhcnnodolbaaZY19
set_option linter.unusedVariables false
set_option linter.unusedSimpArgs false
set_option linter.unusedSectionVars false
set_option linter.unnecessarySimpa false
set_option maxRecDepth 100000
namespace Go.Proofs.Ytpnfhcnnodolbaa
open Go Go.RowKit Game
def hasG (l : List Met) (s : Bool) (x : List Int) (i k : Nat) : Int := sm i fun a => nth x a * rwM (mtl l a) s k
theorem hasG_zero (l : List Met) (s : Bool) (x : List Int) (k : Nat) : hasG l s x 0 k = 0 := rfl
theorem hasG_step (l : List Met) (s : Bool) (x : List Int) (i k : Nat) : hasG l s x (i + 1) k = hasG l s x i k + nth x i * rwM (mtl l i) s k := rfl
theorem rwM_bd {l : List Met} (v : VldM l) (s : Bool) (i k : Nat) : -1000 ≤ rwM (mtl l i) s k ∧ rwM (mtl l i) s k ≤ 1000 := by
 have h1 := badL_bd v s i
 have h2 := goodC_bd v s i
 unfold rwM; split
 ·omega
 ·split <;> omega
theorem mul_bd1 {a b A B : Int} (a0 : 0 ≤ a) (a1 : a ≤ A) (b0 : -B ≤ b) (b1 : b ≤ B) (hB : 0 ≤ B) : -(A * B) ≤ a * b ∧ a * b ≤ A * B := by
 have h1 := Int.mul_le_mul_of_nonneg_left b1 a0
 have h2 := Int.mul_le_mul_of_nonneg_left b0 a0
 have h3 := Int.mul_le_mul_of_nonneg_right a1 hB
 rw [Int.mul_neg] at h2
 omega
theorem hasG_bd {l : List Met} (v : VldM l) (s : Bool) {x : List Int} (hx : ∀ i, 0 ≤ nth x i ∧ nth x i ≤ 10000000) (k : Nat) : ∀ i : Nat, -(10000000000 * (i : Int)) ≤ hasG l s x i k ∧ hasG l s x i k ≤ 10000000000 * (i : Int)
 | 0 => by rw [hasG_zero]; omega
 | i + 1 => by
  have ih := hasG_bd v s hx k i
  rw [hasG_step]
  have h := rwM_bd v s i k
  have := mul_bd1 (B := 1000) (hx i).1 (hx i).2 h.1 h.2 (by omega)
  omega
theorem hasG0 (l : List Met) (s : Bool) (x : List Int) (i : Nat) : hasG l s x i 0 = sm i (nth x) := by unfold hasG; exact sm_congr fun a _ => by simp [rwM]
theorem hasG1 (l : List Met) (s : Bool) (x : List Int) (i : Nat) : hasG l s x i 1 = - ledN l s x i := by
 unfold hasG ledN
 rw [← sm_neg]
 exact sm_congr fun a _ => by simp [rwM]; grind
theorem hasG2 (l : List Met) (s : Bool) (x : List Int) (i : Nat) : hasG l s x i 2 = copN l s x i := by unfold hasG copN; exact sm_congr fun a _ => by simp [rwM]
def mixG (l : List Met) (s : Bool) (x : List Int) (i j k : Nat) : Int := if k < j then hasG l s x (i + 1) k else hasG l s x i k
theorem mixG_zero (l : List Met) (s : Bool) (x : List Int) (i k : Nat) : mixG l s x i 0 k = hasG l s x i k := by unfold mixG; rw [if_neg (by omega)]
theorem mixG_at (l : List Met) (s : Bool) (x : List Int) (i j : Nat) : mixG l s x i j j = hasG l s x i j := by unfold mixG; rw [if_neg (by omega)]
theorem mixG_end (l : List Met) (s : Bool) (x : List Int) (i k : Nat) (h : k < 3) : mixG l s x i 3 k = hasG l s x (i + 1) k := by unfold mixG; rw [if_pos h]
theorem mixG_step (l : List Met) (s : Bool) (x : List Int) (i j k : Nat) : mixG l s x i (j + 1) k = if k = j then hasG l s x (i + 1) j else mixG l s x i j k := by
 unfold mixG
 by_cases h : k = j
 ·subst h; rw [if_pos (by omega), if_pos rfl]
 ·rw [if_neg h]
  by_cases g : k < j
  ·rw [if_pos (by omega), if_pos g]
  ·rw [if_neg (by omega), if_neg g]
def goodG (l : List Met) (u c : Int) (s : Bool) (x : List Int) : Bool := decide (0 < psum x) && isG l u c s x
theorem elemI64i : ∃ i, Try.prog.info? 2 = some i ∧ i.size = 1 := by
 obtain ⟨i, h1, _, h2, _⟩ := elemI64
 exact ⟨i, h1, h2⟩
theorem eq3 (x0 x1 x2 : Int) (w : World) : ∃ b : Bool, (Op.equalIn 10000 120 (.agg #[.int .i64 x0, .int .i64 x1, .int .i64 x2]) (.agg #[.int .i64 0, .int .i64 0, .int .i64 0])).run Try.prog w = .ok b w ∧ (b = true ↔ x0 = 0 ∧ x1 = 0 ∧ x2 = 0) := by
 obtain ⟨ii, hi1, hi2⟩ := elemI64i
 have he := run_eqArr (P := Try.prog) w (t := 120) (k := .i64) Try.underlying120 Try.underlying2 (i := ii) hi1 hi2 #[.int .i64 x0, .int .i64 x1, .int .i64 x2] #[.int .i64 0, .int .i64 0, .int .i64 0] (fun j => nth [x0, x1, x2] j) (fun _ => 0) (by
  intro j hj
  have : j = 0 ∨ j = 1 ∨ j = 2 := by omega
  rcases this with rfl | rfl | rfl <;> exact ⟨rfl, rfl⟩)
 refine ⟨_, he, ?_⟩
 rw [all_range_true]
 constructor
 ·intro h
  have q0 := h 0 (by omega); have q1 := h 1 (by omega); have q2 := h 2 (by omega)
  simp [nth] at q0 q1 q2
  exact ⟨q0, q1, q2⟩
 ·rintro ⟨rfl, rfl, rfl⟩ j hj
  have : j = 0 ∨ j = 1 ∨ j = 2 := by omega
  rcases this with rfl | rfl | rfl <;> rfl
theorem eq3_yes (w : World) : (Op.equalIn 10000 120 (.agg #[.int .i64 0, .int .i64 0, .int .i64 0]) (.agg #[.int .i64 0, .int .i64 0, .int .i64 0])).run Try.prog w = .ok true w := by
 obtain ⟨b, h, hb⟩ := eq3 0 0 0 w
 rw [h, hb.2 ⟨rfl, rfl, rfl⟩]
theorem eq3_no (x0 x1 x2 : Int) (h : ¬ (x0 = 0 ∧ x1 = 0 ∧ x2 = 0)) (w : World) : (Op.equalIn 10000 120 (.agg #[.int .i64 x0, .int .i64 x1, .int .i64 x2]) (.agg #[.int .i64 0, .int .i64 0, .int .i64 0])).run Try.prog w = .ok false w := by
 obtain ⟨b, h1, hb⟩ := eq3 x0 x1 x2 w
 rw [h1, Bool.eq_false_iff.2 (fun e => h (hb.1 e))]
set_option maxHeartbeats 4000000 in
theorem good_any (l : List Met) (v : VldM l) (u c : Int) (hu : 0 ≤ u ∧ u ≤ 1000) (hc : 0 ≤ c ∧ c ≤ 1000) (s : Bool) (x : List Int) (hx : ∀ i, 0 ≤ nth x i ∧ nth x i ≤ 10000000) (hlx : x.length = l.length) (D : Nat) (a2 : Option Addr) (c2 : Nat) (w : World) (hP : Pot w D l u c s) (hI : Ints w a2 x) :
 Calls Try.prog 67 #[(.pointer (some ⟨D, 0, none⟩)), .slice a2 x.length c2] w fun e w' => e = .returned (.bool (goodG l u c s x)) ∧ Ext w w' := by
 have n1 := v.n1; have n6 := v.n6
 obtain ⟨b, off, cap, e3, hb, hcc⟩ := hP.rows (by omega)
 obtain ⟨b2, o2, rfl, hb2, hpc⟩ := hI.at (by omega)
 have hrow : Hid (∀ W, Ext w W → ∀ i, i < l.length → ∀ k, k < 3 → W.cell? ⟨b, off + i * 3 + k, none⟩ = some (.int .i64 (rwM (mtl l i) s k))) := hid fun W hW i hi k hk => by
  obtain ⟨j0, j1, j2⟩ := hcc i hi
  have : k = 0 ∨ k = 1 ∨ k = 2 := by omega
  rcases this with rfl | rfl | rfl
  ·exact hW.cell j0
  ·exact hW.cell j1
  ·exact hW.cell j2
 have hcell : Hid (∀ W, Ext w W → ∀ i, i < l.length → W.cell? ⟨b, off + i * 3, none⟩ = some (.int .i64 (rwM (mtl l i) s 0)) ∧ W.cell? ⟨b, off + i * 3 + 1, none⟩ = some (.int .i64 (rwM (mtl l i) s 1)) ∧ W.cell? ⟨b, off + i * 3 + 2, none⟩ = some (.int .i64 (rwM (mtl l i) s 2))) := hid fun W hW i hi => ⟨hrow.out W hW i hi 0 (by omega), hrow.out W hW i hi 1 (by omega), hrow.out W hW i hi 2 (by omega)⟩
 have HP := hid hpc
 have e1 := hP.t0
 have e2 := hP.t1
 have hDl := hP.lt
 have hbd := hid (fun k i => hasG_bd v s hx k i)
 have hrb := hid (fun i k => rwM_bd v s i k)
 have hxb := hid hx
 have hst := hid (fun i k => hasG_step l s x i k)
 have hmz := hid (fun i k => mixG_zero l s x i k)
 have hma := hid (fun i j => mixG_at l s x i j)
 have hme := hid (fun i k h => mixG_end l s x i k h)
 have hms := hid (fun i j k => mixG_step l s x i j k)
 have hz0 : Hid (∀ k, 0 = hasG l s x 0 k) := hid fun k => rfl
 -- the end, in plain words
 have hno : Hid (hasG l s x l.length 0 = 0 → hasG l s x l.length 1 = 0 ∧ hasG l s x l.length 2 = 0 ∧ goodG l u c s x = false) := hid fun h => by
  have hp : psum x = 0 := by unfold psum; rw [hlx, ← hasG0 l s]; exact h
  have hall : ∀ i, i < l.length → nth x i = 0 := fun i hi => by
   have := sm_one (n := x.length) (f := nth x) (fun i _ => (hx i).1) (i := i) (by omega)
   have h2 := (hx i).1
   unfold psum at hp
   omega
  refine ⟨?_, ?_, ?_⟩
  ·unfold hasG; exact sm_zero fun i hi => by rw [hall i hi]; simp
  ·unfold hasG; exact sm_zero fun i hi => by rw [hall i hi]; simp
  ·unfold goodG; rw [hp]; rfl
 have hyes : Hid (hasG l s x l.length 0 ≠ 0 → goodG l u c s x = (decide (- hasG l s x l.length 0 * u ≤ hasG l s x l.length 1) && decide (hasG l s x l.length 0 * c ≤ hasG l s x l.length 2))) := hid fun h => by
  have hp : psum x = hasG l s x l.length 0 := by unfold psum; rw [hlx, ← hasG0 l s]
  have h0 : 0 ≤ psum x := psum_nn fun i => (hx i).1
  unfold goodG isG
  rw [hasG1, hasG2, ← hp]
  rw [decide_eq_true (show 0 < psum x by omega), Bool.true_and]
  have q1 : (ledN l s x l.length ≤ u * psum x) ↔ (-psum x * u ≤ - ledN l s x l.length) := by
   have : -psum x * u = - (u * psum x) := by grind
   omega
  have q2 : (c * psum x ≤ copN l s x l.length) ↔ (psum x * c ≤ copN l s x l.length) := by rw [Int.mul_comm]
  rw [decide_eq_decide.2 q1, decide_eq_decide.2 q2]
 have hbu : Hid (∀ z : Int, 0 ≤ z → z ≤ 60000000 → (-z * u ≤ 0 ∧ -60000000000 ≤ -z * u) ∧ (0 ≤ z * c ∧ z * c ≤ 60000000000)) := hid fun z z0 z1 => by
  have a1 := mul_bd1 (B := 1000) z0 z1 (by omega : -1000 ≤ u) hu.2 (by omega)
  have a2 := mul_bd1 (B := 1000) z0 z1 (by omega : -1000 ≤ c) hc.2 (by omega)
  have a3 := Int.mul_nonneg z0 hu.1
  have a4 := Int.mul_nonneg z0 hc.1
  have a5 : -z * u = -(z * u) := by grind
  omega
 have hz9 : Hid (0 ≤ hasG l s x l.length 0 ∧ hasG l s x l.length 0 ≤ 60000000) := hid (by
  rw [hasG0]
  have := sm_bd (n := l.length) (f := nth x) (B := 10000000) fun i _ => hx i
  omega)
 obtain ⟨G, hG⟩ : ∃ G, hasG l s x = G := ⟨_, rfl⟩
 obtain ⟨M, hM⟩ : ∃ M, mixG l s x = M := ⟨_, rfl⟩
 obtain ⟨V, hV⟩ : ∃ V, (fun i k => rwM (mtl l i) s k) = V := ⟨_, rfl⟩
 have hVe : ∀ i k, rwM (mtl l i) s k = V i k := fun i k => by rw [← hV]
 obtain ⟨R, hR⟩ : ∃ R, goodG l u c s x = R := ⟨_, rfl⟩
 have hrow : Hid (∀ W, Ext w W → ∀ i, i < l.length → ∀ k, k < 3 → W.cell? ⟨b, off + i * 3 + k, none⟩ = some (.int .i64 (V i k))) := hid fun W hW i hi k hk => by rw [← hVe]; exact hrow.out W hW i hi k hk
 have hcell : Hid (∀ W, Ext w W → ∀ i, i < l.length → W.cell? ⟨b, off + i * 3, none⟩ = some (.int .i64 (V i 0)) ∧ W.cell? ⟨b, off + i * 3 + 1, none⟩ = some (.int .i64 (V i 1)) ∧ W.cell? ⟨b, off + i * 3 + 2, none⟩ = some (.int .i64 (V i 2))) := hid fun W hW i hi => ⟨hrow.out W hW i hi 0 (by omega), hrow.out W hW i hi 1 (by omega), hrow.out W hW i hi 2 (by omega)⟩
 have hst : Hid (∀ i k, G (i + 1) k = G i k + nth x i * V i k) := hid fun i k => by rw [← hVe, ← hG]; exact hst.out i k
 have hrb : Hid (∀ i k, -1000 ≤ V i k ∧ V i k ≤ 1000) := hid fun i k => by rw [← hVe]; exact hrb.out i k
 rw [hG] at hbd hmz hma hme hms hz0 hno hyes hz9
 rw [hM] at hmz hma hme hms
 rw [hR] at hno hyes ⊢
 rw [hlx]
 obtain ⟨N, hN⟩ : ∃ N, l.length = N := ⟨_, rfl⟩
 rw [hN] at hrow hcell hno hyes hz9 e3 n1 n6 ⊢
 have HP : Hid (∀ i, i < N → w.cell? ⟨b2, o2 + i, none⟩ = some (.int .i64 (nth x i))) := hid fun i hi => HP.out i (by omega)
 clear hpc hcc hP hI hx hlx v hG hM hV hVe hR hN hu hc
 obtain ⟨w0, hw0⟩ : ∃ w0, w0 = w.alloc (.cells #[.int .i64 0, .int .i64 0, .int .i64 0] 120) := ⟨_, rfl⟩
 have three : ∀ k, k < 3 → k = 0 ∨ k = 1 ∨ k = 2 := fun k hk => by omega
 have hA : Arr3 w0 w.heap.size (fun _ => 0) := by
  rw [hw0]
  refine ⟨fun k hk => ?_, fun k hk => ?_, by simp⟩
  ·rcases three k hk with rfl | rfl | rfl <;> simp [go_sem]
  ·simp [go_sem]
 have x0 : Ext w w0 := by rw [hw0]; exact exE
 have hcl : ∀ ty, (Builtin.clear_ #[25] ty #[.slice (some ⟨w.heap.size, 0, none⟩) 3 3]).run Try.prog (w.alloc (.cells #[.int .i64 0, .int .i64 0, .int .i64 0] 120)) = .ok (.tuple #[]) (w.alloc (.cells #[.int .i64 0, .int .i64 0, .int .i64 0] 120)) := by
  intro ty
  have hz := hA.c
  have hf := hA.f
  rw [hw0] at hz hf
  rw [Lib.run_clear_slice _ 25 2 ty (.int .i64 0) Try.underlying25 (fun w => by kernel_rfl) rfl rfl _ _ 3 3 (by omega) (fun j hj => by rw [Nat.zero_add, hz j hj]; rfl) (fun j hj => by rw [Nat.zero_add]; exact hf j hj)]
  rw [setCells_self]
  intro j u hu
  obtain ⟨hj, rfl⟩ := List.getElem?_eq_some_iff.1 hu
  rw [Nat.zero_add, hz j (by simpa using hj)]
  simp only [List.getElem_replicate]
 go_enter Try.func67, Try.ntmps67
 go_wp2_with fail
 rw [← hw0]
 clear hcl hw0
 obtain ⟨X, hX⟩ : ∃ X, X = w.heap.size := ⟨_, rfl⟩
 rw [← hX] at hA ⊢
 have hXw : w.heap.size ≤ X := by omega
 replace hX := hid hX
 have hA0 : Hid (Arr3 w0 X (G 0)) := hid (hA.congr fun k _ => hz0.out k)
 have E3 := hid e3
 have E1 := hid e1
 have E2 := hid e2
 clear hA e3 e1 e2
 go_loopw [13] (fun i wr => ∃ i0 : Nat, i0 ≤ N ∧ i = .int .i64 i0 ∧ Hid (Arr3 wr X (G i0)) ∧ Hid (Ext w wr)) (fun i _ => (N - intOf i).toNat)
 case atStart => exact ⟨0, by omega, rfl, hA0, hid x0⟩
 case round =>
  obtain ⟨i, hi, rfl, hA, hw⟩ := hrel
  have hw1 := hw.out
  have e0 := hw1.cell E3.out
  by_cases hlt : i < N
  ·have pp := hw1.cell (HP.out i hlt)
   obtain ⟨j0, j1, j2⟩ := hcell.out wr hw1 i hlt
   have bi := hxb.out i
   have hiI : (i : Int) < (N : Int) := by omega
   have t6 := Go.IntWalk.i64_in ((i : Int) + 1) (by omega)
   have hst2 := hid (hst.out i)
   have hbd2 := hid (fun k => hbd.out k i)
   have hrb2 := hid (hrb.out i)
   have hmz2 := hid (hmz.out i)
   have hma2 := hid (hma.out i)
   have hme2 := hid (hme.out i)
   have hms2 := hid (hms.out i)
   obtain ⟨y, hy⟩ : ∃ y, nth x i = y := ⟨_, rfl⟩
   obtain ⟨Gi, hGi⟩ : ∃ z, G i = z := ⟨_, rfl⟩
   obtain ⟨Gj, hGj⟩ : ∃ z, G (i + 1) = z := ⟨_, rfl⟩
   obtain ⟨Mi, hMi⟩ : ∃ z, M i = z := ⟨_, rfl⟩
   obtain ⟨Vi, hVi⟩ : ∃ z, V i = z := ⟨_, rfl⟩
   rw [hy] at pp bi hst2
   rw [hGi] at hA hst2 hbd2 hmz2 hma2
   rw [hGj] at hst2 hme2 hms2
   rw [hMi] at hmz2 hma2 hme2 hms2
   rw [hVi] at j0 j1 j2 hst2 hrb2
   replace hGj := hid hGj
   obtain ⟨v0, hv0⟩ : ∃ z, Vi 0 = z := ⟨_, rfl⟩
   obtain ⟨v1, hv1⟩ : ∃ z, Vi 1 = z := ⟨_, rfl⟩
   obtain ⟨v2, hv2⟩ : ∃ z, Vi 2 = z := ⟨_, rfl⟩
   have hsel : Hid (∀ k, k < 3 → (#[Value.int .i64 v0, .int .i64 v1, .int .i64 v2] : Array Value)[k]? = some (.int .i64 (Vi k))) := hid fun k hk => by
    rcases three k hk with rfl | rfl | rfl
    ·simp [hv0]
    ·simp [hv1]
    ·simp [hv2]
   rw [hv0] at j0
   rw [hv1] at j1
   rw [hv2] at j2
   have hA1 : Hid (Arr3 wr X (Mi 0)) := hid (hA.out.congr fun k _ => (hmz2.out k).symm)
   have HW := hid hw1
   clear hy hGi hMi hVi hv0 hv1 hv2 hw1 hA hmz2
   go_wp2_with fail
   go_loopw [25] (fun j wr => ∃ j0 : Nat, j0 ≤ 3 ∧ j = .int .i64 j0 ∧ Hid (Arr3 wr X (Mi j0)) ∧ Hid (Ext w wr)) (fun j _ => (3 - intOf j).toNat)
   case atStart => exact ⟨0, by omega, rfl, hA1, HW⟩
   case round =>
    obtain ⟨j, hj, rfl, hA2, hv⟩ := hrel
    by_cases hjl : j < 3
    ·have q2 := hA2.out.c j hjl
     have q3 := hA2.out.f j hjl
     have hsl := hsel.out j hjl
     rw [hma2.out j] at q2
     have hs9 := hid (hst2.out j)
     have b1 := hbd2.out j
     have b3 := hrb2.out j
     have hmx := hid (fun k => hms2.out j k)
     obtain ⟨q, hq⟩ : ∃ q, Vi j = q := ⟨_, rfl⟩
     obtain ⟨z, hz⟩ : ∃ z, Gi j = z := ⟨_, rfl⟩
     rw [hq] at hsl b3 hs9
     rw [hz] at q2 b1 hs9
     have b2 := mul_bd1 (B := 1000) bi.1 bi.2 b3.1 b3.2 (by omega)
     have z1 := Go.IntWalk.i64_in (y * q) (by omega)
     have z2 := Go.IntWalk.i64_in (z + y * q) (by omega)
     have z3 := Go.IntWalk.i64_in ((j : Int) + 1) (by omega)
     have hjI : (j : Int) < 3 := by omega
     have hix : ∀ W, (Instr.index 120 (.agg #[.int .i64 v0, .int .i64 v1, .int .i64 v2]) (.int .i64 (j : Int))).run Try.prog W = .ok (.int .i64 q) W := fun W => by
      rcases three j hjl with rfl | rfl | rfl <;> (simp at hsl; subst hsl; kernel_rfl)
     clear hsl
     have hXl := hA2.out.l
     replace hq := hid hq
     replace hz := hid hz
     clear b1 b2 b3
     go_wp2_with fail
     go_roundw
     case rel => exact ⟨j + 1, by omega, by go_num, hid ((hA2.out.set (j := j) hjl (z + y * q)).congr fun k hk => by rw [hmx.out k, hs9.out]), hid (by have := hv.out; exact exE)⟩
     case measure => simp [intOf]; omega
    ·have hj3 : j = 3 := by omega
     subst hj3
     have hA3 : Hid (Arr3 wr X Gj) := hid (hA2.out.congr fun k hk => hme2.out k hk)
     clear hA2
     go_wp2_with fail
     go_roundw
     case rel => exact ⟨i + 1, by omega, by go_num, by rw [hGj.out]; exact hA3, hv⟩
     case measure => simp [intOf]; omega
  ·have hiN : i = N := by omega
   rw [hiN] at hA
   have hnn : ¬ (N : Int) < (N : Int) := by omega
   have q0 := hA.out.c 0 (by omega)
   have q1 := hA.out.c 1 (by omega)
   have q2 := hA.out.c 2 (by omega)
   have hXl := hA.out.l
   have e5 := hw1.cell E1.out
   have e6 := hw1.cell E2.out
   have hb0 := hz9.out
   have hb1 := hbd.out 1 N
   have hb2 := hbd.out 2 N
   rw [hiN]
   obtain ⟨z0, h0⟩ : ∃ z, G N 0 = z := ⟨_, rfl⟩
   obtain ⟨z1, h1⟩ : ∃ z, G N 1 = z := ⟨_, rfl⟩
   obtain ⟨z2, h2⟩ : ∃ z, G N 2 = z := ⟨_, rfl⟩
   rw [h0] at q0 hno hyes hb0
   rw [h1] at q1 hno hyes hb1
   rw [h2] at q2 hno hyes hb2
   clear hA hiN hi h0 h1 h2 hlt
   by_cases hz : z0 = 0
   ·obtain ⟨rfl, rfl, hf⟩ := hno.out hz
    subst hz
    replace hf := hid hf
    have hq := eq3_yes
    go_wp2_with fail
    go_ret
    exact ⟨ret_bool hf.out.symm, by have := hw.out; exact exE⟩
   ·have hf := hid (hyes.out hz)
    have hq := eq3_no z0 z1 z2 (fun h => hz h.1)
    have bu := hbu.out z0 hb0.1 hb0.2
    have t1 := Go.IntWalk.i64_in (-z0) (by omega)
    have t2 := Go.IntWalk.i64_in (-z0 * u) (by omega)
    have t3 := Go.IntWalk.i64_in (z0 * c) (by omega)
    replace hz := hid hz
    clear bu hb0 hb1 hb2
    cases g1 : decide (-z0 * u ≤ z1) with
    | false =>
     rw [g1, Bool.false_and] at hf
     go_wp2_with fail
     go_quiet (fail)
     go_wp2_with fail
     go_ret
     exact ⟨ret_bool hf.out.symm, by have := hw.out; exact exE⟩
    | true =>
     rw [g1, Bool.true_and] at hf
     go_wp2_with fail
     go_quiet (fail)
     go_wp2_with fail
     go_ret
     exact ⟨ret_bool hf.out.symm, by have := hw.out; exact exE⟩
open Go Go.RowKit
theorem run_eqRatio (a b c d : Int) (w : World) : (Op.equalIn 10000 29 (.agg #[.int .i64 a, .int .i64 b]) (.agg #[.int .i64 c, .int .i64 d])).run Try.prog w = .ok (decide (a = c ∧ b = d)) w := by
 have hp : Try.prog.plainKey 2 = true := by kernel_rfl
 rw [show (10000 : Nat) = 9998 + 1 + 1 from rfl, run_equalIn_agg w (9998 + 1) 29 _ _ (by unfold Program.fieldsOf; rw [Try.underlying29]) (by kernel_rfl)]
 unfold Program.fieldsOf
 rw [Try.underlying29]
 have q : ∀ (xs : Array Value) (off : Nat) (v : Value) (w : World), xs[off]? = some v → (part 2 xs off).run Try.prog w = .ok v w := fun xs off v w h => run_part_plain w hp h
 have hi : ∀ (x y : Int) (w : World), (Op.equalIn (9998 + 1) 2 (.int .i64 x) (.int .i64 y)).run Try.prog w = .ok (x == y) w := fun x y w => run_equalIn_int w 9998 2 .i64 .i64 x y Try.underlying2
 simp only [Op.eqFields]
 rw [if_pos (by decide), if_pos (by decide)]
 simp only [Sem.run_bind, q #[.int .i64 a, .int .i64 b] 0 (.int .i64 a) w rfl, q #[.int .i64 c, .int .i64 d] 0 (.int .i64 c) w rfl, Result.andThen_ok, hi]
 by_cases h1 : a = c
 ·subst h1
  simp only [beq_self_eq_true, Bool.not_true, Bool.false_eq_true, if_false, Sem.run_bind, q #[.int .i64 a, .int .i64 b] 1 (.int .i64 b) w rfl, q #[.int .i64 a, .int .i64 d] 1 (.int .i64 d) w rfl, Result.andThen_ok, hi]
  by_cases h2 : b = d
  ·subst h2; simp
  ·simp [h2]
 ·simp [h1]
set_option maxHeartbeats 4000000 in
theorem costC_any (l : List Met) (q : FitM l) (hl : l.length ≤ 1000) (a : Option Addr) (cap : Nat) (x : List Int) (hq : ∀ i, I64 (nth x i)) (hlx : x.length ≤ 1000) (a2 : Option Addr) (c2 : Nat) (w : World) (hM : Mts w a l) (hI : Ints w a2 x) :
 Calls Try.prog 19 #[.slice a l.length cap, .slice a2 x.length c2] w fun e w' => e = .returned (.tuple #[.agg #[.int .i64 (costNE l x), .int .i64 (costDE l x)], .int .i64 (costE l x)]) ∧ Ext w w' := by
 replace hM := hid hM
 replace hI := hid hI
 have hc1 := hid (fun W hW => checkMetals_any l q hl a cap W hW)
 have hc2 := hid (fun W hW => mixed_any a cap x l.length hl hq hlx a2 c2 W hW)
 clear q hq
 go_enter Try.func19, Try.ntmps19
 go_wp2_with fail
 refine name_c (fun w0 hw0 => ?_)
 have X := hid (show Ext w w0 by rw [hw0]; exact exE)
 have x : Ext w w0 := X.out
 replace hM := hid (hM.out.ext x)
 replace hI := hid (hI.out.ext x)
 have rb := hid (show Bx2 w0 (w.heap.size) (0) (0) from ⟨by rw [hw0]; simp [go_sem], by rw [hw0]; simp [go_sem], by rw [hw0]; simp [go_sem], by rw [hw0]; simp [go_sem]⟩)
 clear x hw0
 obtain ⟨B0, hB0⟩ : ∃ B, w.heap.size = B := ⟨_, rfl⟩
 rw [hB0] at rb ⊢
 have hBB : w.heap.size ≤ B0 := by omega
 replace hB0 := hid hB0
 refine (hc1.out _ (hM.out.ext (show Ext w0 _ from exE))).mono ?_; rintro e u1 ⟨rfl, hE⟩
 have x : Ext w0 u1 := exE
 replace hM := hid (hM.out.ext x)
 replace hI := hid (hI.out.ext x)
 replace rb := hid (rb.out.ext x)
 replace X := hid (X.out.trans x)
 clear x hE
 by_cases g : ¬ chkM l = 0
 ·have g1 : (chkM l != 0) = true := by simpa using g
  replace g := hid g
  obtain ⟨yrb0, yrb1, yrb2, yrb3⟩ := rb.out
  go_wp2_with fail
  refine bodyPost_ret (v := .tuple #[.agg #[.int .i64 0, .int .i64 0], .int .i64 (chkM l)]) ?_ rfl ?_
  ·simp [results, Try.results19, go_sem, *]
  ·exact ⟨by obtain ⟨h1, h2, h3⟩ := cost_1 (x := x) g.out; rw [h1, h2, h3], by have := X.out; exact exE⟩
 replace g := hid (Decidable.not_not.1 g)
 rw [g.out]
 go_wp2_with fail
 refine (hc2.out _ (hI.out.ext (show Ext u1 _ from exE))).mono ?_; rintro e u3 ⟨rfl, hE⟩
 have x : Ext u1 u3 := exE
 replace hM := hid (hM.out.ext x)
 replace hI := hid (hI.out.ext x)
 replace rb := hid (rb.out.ext x)
 replace X := hid (X.out.trans x)
 clear x hE
 by_cases g2 : ¬ mixE x l.length = 0
 ·have g21 : (mixE x l.length != 0) = true := by simpa using g2
  replace g2 := hid g2
  obtain ⟨yrb0, yrb1, yrb2, yrb3⟩ := rb.out
  go_wp2_with fail
  refine bodyPost_ret (v := .tuple #[.agg #[.int .i64 0, .int .i64 0], .int .i64 (mixE x l.length)]) ?_ rfl ?_
  ·simp [results, Try.results19, go_sem, *]
  ·exact ⟨by obtain ⟨h1, h2, h3⟩ := cost_2 g.out g2.out; rw [h1, h2, h3], by have := X.out; exact exE⟩
 replace g2 := hid (Decidable.not_not.1 g2)
 rw [g2.out]
 have v := chkM_ok.1 g.out
 have vx := mixE_ok.1 g2.out
 have hc3 := hid (fun W h1 => newPot_any l v a cap 0 0 true W h1)
 have hc4 := hid (fun D W h1 h2 => costP_any l v 0 0 true x (vldx_bd vx) vx.len vx.ps D a2 c2 W h1 h2)
 clear v vx
 go_wp2_with fail
 refine (hc3.out _ (hM.out.ext (show Ext u3 _ from exE))).mono ?_; rintro e u4 ⟨D, rfl, hP, hE⟩
 have x : Ext u3 u4 := exE
 replace hM := hid (hM.out.ext x)
 replace hI := hid (hI.out.ext x)
 replace rb := hid (rb.out.ext x)
 replace X := hid (X.out.trans x)
 have hP := hid hP
 clear x hE
 have hp := hid (cost_3 g.out g2.out)
 obtain ⟨N, eN⟩ : ∃ N, ratN (costN l x l.length) (psum x) = N := ⟨_, rfl⟩
 obtain ⟨De, eD⟩ : ∃ N, ratD (costN l x l.length) (psum x) = N := ⟨_, rfl⟩
 rw [eN, eD] at hp hc4
 clear eN eD
 go_wp2_with fail
 refine (hc4.out D _ (hP.out.ext (show Ext u4 _ from exE)) (hI.out.ext (show Ext u4 _ from exE))).mono ?_; rintro e u5 ⟨rfl, hE⟩
 have x : Ext u4 u5 := exE
 replace rb := hid (rb.out.ext x)
 replace X := hid (X.out.trans x)
 clear x hE
 obtain ⟨yrb0, yrb1, yrb2, yrb3⟩ := rb.out
 go_wp2_with fail
 refine bodyPost_ret (v := .tuple #[.agg #[.int .i64 N, .int .i64 De], .int .i64 0]) ?_ rfl ?_
 ·simp [results, Try.results19, go_sem, *]
 ·exact ⟨by obtain ⟨h1, h2, h3⟩ := hp.out; rw [h1, h2, h3], by have := X.out; exact exE⟩
set_option maxHeartbeats 4000000 in
theorem deserves_any (l : List Met) (q : FitM l) (hl : l.length ≤ 1000) (a : Option Addr) (cap : Nat) (u c : Int) (iu : I64 u) (ic : I64 c) (s : Bool) (x : List Int) (hq : ∀ i, I64 (nth x i)) (hlx : x.length ≤ 1000) (a2 : Option Addr) (c2 : Nat) (w : World) (hM : Mts w a l) (hI : Ints w a2 x) :
 Calls Try.prog 27 #[.slice a l.length cap, (.agg #[.int .i64 (u), .int .i64 (c)]), .bool s, .slice a2 x.length c2] w fun e w' => e = .returned (.int .i64 (desE l u c s x)) ∧ Ext w w' := by
 have ho := hid (fun W (x : Ext w W) => open_any l q hl a cap u c iu ic s W (hM.ext x))
 have hc2 := hid (fun W hW => mixed_any a cap x l.length hl hq hlx a2 c2 W hW)
 have hI := hid hI
 have hN : Hid (desE l u c s x = if ¬ chkB l u c = 0 then chkB l u c else if ¬ mixE x l.length = 0 then mixE x l.length else if isG l u c s x = true then 0 else 17) := hid rfl
 clear q hM
 go_enter Try.func27, Try.ntmps27
 go_wp2_with fail
 refine (ho.out _ exE).mono ?_
 rintro e w1 (⟨hch, D, rfl, hP, hE⟩ | ⟨hch, rfl, hE⟩)
 ·have X1 := hid (show Ext w w1 from exE)
  have hP := hid hP
  rw [if_neg (show ¬ ¬ chkB l u c = 0 by rw [hch]; decide)] at hN
  have hch := hid hch
  clear hE ho
  go_wp2_with fail
  refine (hc2.out _ (hI.out.ext (X1.out.trans (show Ext w1 _ from exE)))).mono ?_; rintro e w2 ⟨rfl, hE⟩
  have x12 : Ext w1 w2 := exE
  have hP := hid (hP.out.ext x12)
  have X2 := hid (X1.out.trans x12)
  clear hE
  by_cases g2 : ¬ mixE x l.length = 0
  ·have g21 : (mixE x l.length != 0) = true := by simpa using g2
   rw [if_pos g2] at hN
   replace g2 := hid g2
   go_wp2_with fail
   go_ret
   exact ⟨ret_int hN.out.symm, X2.out⟩
  ·rw [if_neg g2] at hN
   replace g2 := Decidable.not_not.1 g2
   rw [g2]
   have vx := mixE_ok.1 g2
   have hv := chkB_ok hch.out
   have hgd := hid (fun W h1 h2 => good_any l hv.1 u c hv.2.1 hv.2.2 s x (vldx_bd vx) vx.len D a2 c2 W h1 h2)
   have hge : goodG l u c s x = isG l u c s x := by unfold goodG; rw [decide_eq_true vx.ps]; rfl
   rw [hge] at hgd
   replace g2 := hid g2
   clear vx hv hge
   obtain ⟨G, hG⟩ : ∃ G, isG l u c s x = G := ⟨_, rfl⟩
   rw [hG] at hgd hN
   clear hG
   cases G with
   | false =>
    rw [if_neg (by decide)] at hN
    go_wp2_with fail
    refine (hgd.out _ (hP.out.ext (show Ext w2 _ from exE)) (hI.out.ext (X2.out.trans (show Ext w2 _ from exE)))).mono ?_; rintro e w3 ⟨rfl, hE⟩
    have X3 := hid (X2.out.trans (show Ext w2 w3 from exE))
    go_wp2_with fail
    go_ret
    exact ⟨ret_int hN.out.symm, X3.out⟩
   | true =>
    rw [if_pos rfl] at hN
    go_wp2_with fail
    refine (hgd.out _ (hP.out.ext (show Ext w2 _ from exE)) (hI.out.ext (X2.out.trans (show Ext w2 _ from exE)))).mono ?_; rintro e w3 ⟨rfl, hE⟩
    have X3 := hid (X2.out.trans (show Ext w2 w3 from exE))
    go_wp2_with fail
    go_ret
    exact ⟨ret_int hN.out.symm, X3.out⟩
 ·have X1 := hid (show Ext w w1 from exE)
  have g1 : (chkB l u c != 0) = true := by simpa using hch
  rw [if_pos hch] at hN
  replace hch := hid hch
  clear hE ho
  go_wp2_with fail
  go_ret
  exact ⟨ret_int hN.out.symm, X1.out⟩
end Go.Proofs.Ytpnfhcnnodolbaa
