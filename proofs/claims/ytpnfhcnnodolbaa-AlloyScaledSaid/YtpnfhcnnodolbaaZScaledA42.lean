/- Texts of one proof, laid together: Owm, Scl2, LaL. -/
import Derived.Test.YtpnfhcnnodolbaaZScaledA40
import Derived.Test.YtpnfhcnnodolbaaZScaledA39
import Derived.Test.YtpnfhcnnodolbaaZY26
import Derived.Test.YtpnfhcnnodolbaaZY10
import Derived.Test.YtpnfhcnnodolbaaZY7
import Derived.Test.YtpnfhcnnodolbaaZY2
import Derived.Test.YtpnfhcnnodolbaaZScaledA34
import Derived.Test.YtpnfhcnnodolbaaZY25
import Derived.Test.YtpnfhcnnodolbaaZY11
import Derived.Test.YtpnfhcnnodolbaaZY4
import Derived.Test.YtpnfhcnnodolbaaZScaledA35
import Derived.Test.YtpnfhcnnodolbaaZY18
import Derived.Test.YtpnfhcnnodolbaaZY17
import Derived.Test.YtpnfhcnnodolbaaZY16
import Derived.Test.YtpnfhcnnodolbaaZY8
import Derived.Test.YtpnfhcnnodolbaaZScaledA36
import Derived.Test.YtpnfhcnnodolbaaZY12
import Derived.Test.YtpnfhcnnodolbaaZY3
import Derived.Test.YtpnfhcnnodolbaaZScaledA37
import Derived.Test.YtpnfhcnnodolbaaZY22
import Derived.Test.YtpnfhcnnodolbaaZY20
import Derived.Test.YtpnfhcnnodolbaaZY21
import Derived.Test.YtpnfhcnnodolbaaZY9
import Derived.Test.YtpnfhcnnodolbaaZY5
import Derived.Test.YtpnfhcnnodolbaaZY13
import Derived.Test.YtpnfhcnnodolbaaZY19
import Derived.Test.YtpnfhcnnodolbaaZY1
import Derived.Test.YtpnfhcnnodolbaaZY30
import Derived.Test.YtpnfhcnnodolbaaZY28
import Derived.Test.YtpnfhcnnodolbaaZY23
import Derived.Test.YtpnfhcnnodolbaaZY14
import Derived.Test.YtpnfhcnnodolbaaZY27
import Derived.Test.YtpnfhcnnodolbaaZY6
import Derived.Laws.OwnMore
import Derived.Test.YtpnfhcnnodolbaaZY32
import Derived.Test.YtpnfhcnnodolbaaZY31
import Derived.Test.YtpnfhcnnodolbaaZY29
import Derived.Test.YtpnfhcnnodolbaaZY33
import Derived.Test.YtpnfhcnnodolbaaZScaledA41
set_option linter.unusedVariables false
set_option linter.unusedSimpArgs false
set_option linter.unusedSectionVars false
set_option linter.unnecessarySimpa false
set_option maxRecDepth 100000
namespace Go.Proofs.Ytpnfhcnnodolbaa
open Go Go.RowKit Game
theorem cellsG_set {k n i r : Nat} (f : Nat → Nat → Value) (hi : i < n) (hr : r < k) (u : Value) : (cellsG k f n).set (i * k + r) u = cellsG k (fun j q => if j = i ∧ q = r then u else f j q) n := by
 refine List.ext_getElem? fun j => ?_
 rw [List.getElem?_set, cellsG_len]
 have hk : 0 < k := by omega
 rcases Nat.lt_or_ge j (n * k) with hj | hj
 ·rw [cellsG_at f hj, cellsG_at _ hj]
  have e := Nat.div_add_mod j k
  by_cases g : i * k + r = j
  ·subst g
   rw [if_pos rfl, if_pos (at_lt hi hr), at_div hr, at_mod hr, if_pos ⟨rfl, rfl⟩]
  ·rw [if_neg g, if_neg]
   rintro ⟨h1, h2⟩
   rw [h1, h2, Nat.mul_comm] at e
   exact g e
 ·rw [List.getElem?_eq_none (by rw [cellsG_len]; exact hj), List.getElem?_eq_none (l := cellsG k (fun j q => if j = i ∧ q = r then u else f j q) n) (by rw [cellsG_len]; exact hj)]
  have := at_lt hi hr
  rw [if_neg (by omega)]
theorem OwnG.setC {w : World} {base : Nat} {e : TypeId} {k b cap n : Nat} {f : Nat → Nat → Value} (h : OwnG w base e k (.slice (some ⟨b, 0, none⟩) n cap) f n) {i r : Nat} (hi : i < n) (hr : r < k) (u : Value) :
 OwnG (w.setCell ⟨b, i * k + r, none⟩ u) base e k (.slice (some ⟨b, 0, none⟩) n cap) (fun j q => if j = i ∧ q = r then u else f j q) n := by
 have := World.ownsRow.stored h (i * k + r) u
 rw [cellsG_set f hi hr] at this
 exact this.1
theorem OwnG.cong_f {w : World} {base : Nat} {e : TypeId} {k n : Nat} {v : Value} {f g : Nat → Nat → Value} (h : OwnG w base e k v f n) (hg : ∀ i r, i < n → r < k → g i r = f i r) : OwnG w base e k v g n := by
 unfold OwnG at h ⊢
 first | (rw [cellsG_congr hg]; exact h) | (rw [← cellsG_congr hg]; exact h)
theorem own_met {w : World} {base : Nat} {e : TypeId} {b cap n : Nat} {F : Nat → Met} (h : OwnG w base e 5 (.slice (some ⟨b, 0, none⟩) n cap) (fun i r => mtV (F i) r) n) {i : Nat} (hi : i < n) (m : Met) :
 OwnG (((((w.setCell ⟨b, i * 5, none⟩ (.int .i64 m.p)).setCell ⟨b, i * 5 + 1, none⟩ (.int .i64 m.ll)).setCell ⟨b, i * 5 + 2, none⟩ (.int .i64 m.lh)).setCell ⟨b, i * 5 + 3, none⟩ (.int .i64 m.cl)).setCell ⟨b, i * 5 + 4, none⟩ (.int .i64 m.ch)) base e 5 (.slice (some ⟨b, 0, none⟩) n cap) (fun j r => mtV (if j = i then m else F j) r) n := by
 have h0 := OwnG.setC h hi (r := 0) (by decide) (.int .i64 m.p)
 have h1 := OwnG.setC h0 hi (r := 1) (by decide) (.int .i64 m.ll)
 have h2 := OwnG.setC h1 hi (r := 2) (by decide) (.int .i64 m.lh)
 have h3 := OwnG.setC h2 hi (r := 3) (by decide) (.int .i64 m.cl)
 have h4 := OwnG.setC h3 hi (r := 4) (by decide) (.int .i64 m.ch)
 refine OwnG.cong_f h4 fun j r hj hr => ?_
 by_cases e : j = i
 ·subst e
  match r, hr with
  | 0, _ => simp [mtV]
  | 1, _ => simp [mtV]
  | 2, _ => simp [mtV]
  | 3, _ => simp [mtV]
  | 4, _ => simp [mtV]
 ·simp [e]
theorem own_price {w : World} {base : Nat} {e : TypeId} {b cap n : Nat} {F : Nat → Met} (h : OwnG w base e 5 (.slice (some ⟨b, 0, none⟩) n cap) (fun i r => mtV (F i) r) n) {i : Nat} (hi : i < n) (y : Int) :
 OwnG (w.setCell ⟨b, i * 5, none⟩ (.int .i64 y)) base e 5 (.slice (some ⟨b, 0, none⟩) n cap) (fun j r => mtV (if j = i then ⟨y, (F i).ll, (F i).lh, (F i).cl, (F i).ch⟩ else F j) r) n := by
 have h0 := OwnG.setC h hi (r := 0) (by decide) (.int .i64 y)
 refine OwnG.cong_f h0 fun j r hj hr => ?_
 by_cases e : j = i
 ·subst e
  match r, hr with
  | 0, _ => simp [mtV]
  | 1, _ => simp [mtV]
  | 2, _ => simp [mtV]
  | 3, _ => simp [mtV]
  | 4, _ => simp [mtV]
 ·simp [e]
theorem mts_cells {w : World} {b off : Nat} {l : List Met} (h : ∀ i, i < l.length → Mtc w b (off + i * 5) (mtl l i)) : ∀ i, i < l.length → ∀ r, r < 5 → w.cell? ⟨b, off + i * 5 + r, none⟩ = some (mtV (mtl l i) r) := by
 intro i hi r hr
 obtain ⟨h0, h1, h2, h3, h4⟩ := h i hi
 match r, hr with
 | 0, _ => simpa [mtV] using h0
 | 1, _ => simpa [mtV] using h1
 | 2, _ => simpa [mtV] using h2
 | 3, _ => simpa [mtV] using h3
 | 4, _ => simpa [mtV] using h4
def fxM (l : List Met) (k d : Int) (j i : Nat) : Met := if i < j then ⟨k * (mtl l i).p + d, (mtl l i).ll, (mtl l i).lh, (mtl l i).cl, (mtl l i).ch⟩ else mtl l i
def gyM (l : List Met) (n s j i : Nat) : Met := if (i + (n - s)) % n < j then mtl l ((i + (n - s)) % n) else mtl l i
theorem fx_at (l : List Met) (k d : Int) (j : Nat) : fxM l k d j j = mtl l j := if_neg (Nat.lt_irrefl _)
theorem fx_step (l : List Met) (k d : Int) (j i : Nat) : (if i = j then (⟨k * (mtl l j).p + d, (mtl l j).ll, (mtl l j).lh, (mtl l j).cl, (mtl l j).ch⟩ : Met) else fxM l k d j i) = fxM l k d (j + 1) i := by
 unfold fxM
 by_cases e : i = j
 ·subst e; rw [if_pos rfl, if_pos (by omega)]
 ·rw [if_neg e]
  by_cases h : i < j
  ·rw [if_pos h, if_pos (by omega)]
  ·rw [if_neg h, if_neg (by omega)]
theorem gy_step {l : List Met} {n s : Nat} (n6 : n ≤ 6) (hs : s < n) {j i : Nat} (hj : j < n) (hi : i < n) : (if i = (j + s) % n then mtl l j else gyM l n s j i) = gyM l n s (j + 1) i := by
 unfold gyM
 by_cases e : i = (j + s) % n
 ·rw [if_pos e]
  have : (i + (n - s)) % n = j := by rw [e]; exact rotB n n6 s hs j hj
  rw [this, if_pos (by omega)]
 ·rw [if_neg e]
  have hne : (i + (n - s)) % n ≠ j := fun h => e (by rw [← h]; exact (rotA n n6 s hs i hi).symm)
  by_cases h : (i + (n - s)) % n < j
  ·rw [if_pos h, if_pos (by omega)]
  ·rw [if_neg h, if_neg (by omega)]
theorem fx_end {W : World} {l : List Met} {k d : Int} {n b c q : Nat} (hn : l.length = n) (h : OwnG W b 68 5 (.slice (some ⟨c, 0, none⟩) n q) (fun i r => mtV (fxM l k d n i) r) n) : Mts W (some ⟨c, 0, none⟩) (prM l k d) := by
 obtain ⟨a9, c9, e9, h9⟩ := mts_own (f := fxM l k d n) (l := prM l k d) h (by rw [prM_len]; exact hn) (fun i hi => by rw [prM_at k d (by omega)]; unfold fxM; rw [if_pos hi])
 cases e9; exact h9
theorem gy_end {W : World} {l : List Met} {n s b c q : Nat} (hn : l.length = n) (h : OwnG W b 68 5 (.slice (some ⟨c, 0, none⟩) n q) (fun i r => mtV (gyM l n s n i) r) n) : Mts W (some ⟨c, 0, none⟩) (rotM l s) := by
 obtain ⟨a9, c9, e9, h9⟩ := mts_own (f := gyM l n s n) (l := rotM l s) h (by rw [rotM_len]; exact hn) (fun i hi => by rw [rotM_at s (by omega), hn]; unfold gyM; rw [if_pos (Nat.mod_lt _ (by omega))])
 cases e9; exact h9
theorem pr_fit {l : List Met} (v : VldM l) {k d : Int} (hk : 1 ≤ k ∧ k ≤ 4) (hd : 0 ≤ d ∧ d ≤ 65535) : FitM (prM l k d) := fun i => by
 by_cases h : i < l.length
 ·rw [prM_at k d h]
  have a := v.pr i; have b := v.le i; have c := v.co i
  have e : k = 1 ∨ k = 2 ∨ k = 3 ∨ k = 4 := by omega
  refine ⟨?_, ⟨by show _ ≤ (mtl l i).ll; omega, by show (mtl l i).ll ≤ _; omega⟩, ⟨by show _ ≤ (mtl l i).lh; omega, by show (mtl l i).lh ≤ _; omega⟩, ⟨by show _ ≤ (mtl l i).cl; omega, by show (mtl l i).cl ≤ _; omega⟩, ⟨by show _ ≤ (mtl l i).ch; omega, by show (mtl l i).ch ≤ _; omega⟩⟩
  rcases e with rfl | rfl | rfl | rfl
  ·exact ⟨by show _ ≤ 1 * (mtl l i).p + d; omega, by show 1 * (mtl l i).p + d ≤ _; omega⟩
  ·exact ⟨by show _ ≤ 2 * (mtl l i).p + d; omega, by show 2 * (mtl l i).p + d ≤ _; omega⟩
  ·exact ⟨by show _ ≤ 3 * (mtl l i).p + d; omega, by show 3 * (mtl l i).p + d ≤ _; omega⟩
  ·exact ⟨by show _ ≤ 4 * (mtl l i).p + d; omega, by show 4 * (mtl l i).p + d ≤ _; omega⟩
 ·rw [mtl_ge (by rw [prM_len]; omega)]; exact ⟨⟨by decide, by decide⟩, ⟨by decide, by decide⟩, ⟨by decide, by decide⟩, ⟨by decide, by decide⟩, ⟨by decide, by decide⟩⟩
set_option maxHeartbeats 16000000 in
theorem alloyScaled_any (l : List Met) (q : FitM l) (a : Option Addr) (cap : Nat) (u c : Int) (s : Bool) (tm d wi la : Int) (w : World) (hM : Mts w a l) (hl : l.length ≤ 9223372036854775807) (iu : I64 u) (ic : I64 c) (htm : 0 ≤ tm ∧ tm ≤ 255) (hd : 0 ≤ d ∧ d ≤ 65535) (iwi : 0 ≤ wi ∧ wi ≤ 255) (ila : 0 ≤ la ∧ la ≤ 255) :
 Calls Try.prog 13 #[.slice a l.length cap, (.agg #[.int .i64 (u), .int .i64 (c)]), .bool s, .int .u8 tm, .int .u16 d, .int .u8 wi, .int .u8 la] w fun e w' => e = .returned (.bool true) ∧ Ext w w' := by
 have hf := hid (fun W (x : Ext w W) => fineL_any l q hl a cap u c W (hM.ext x))
 by_cases g : chkB l u c = 0
 case neg =>
  rw [decide_eq_false g] at hf
  replace g := hid g
  clear hM
  go_enter Try.func13, Try.ntmps13
  go_wp2_with fail
  refine (hf.out _ exE).mono ?_; rintro e w1 ⟨rfl, hE⟩
  have x1 := hid (show Ext w w1 from exE)
  go_wp2_with fail
  refine (works_any _).mono ?_; rintro e w2 ⟨rfl, hE2⟩
  go_wp2_with fail
  go_ret
  exact ⟨rfl, by have := x1.out; exact exE⟩
 rw [decide_eq_true g] at hf
 obtain ⟨v, hu, hc⟩ := chkB_ok g
 have n1 := v.n1; have n6 := v.n6
 have hl2 : l.length ≤ 1000 := by omega
 have hcm : chkM l = 0 := by by_cases h : chkM l = 0; exact h; (unfold chkB at g; rw [if_neg h] at g; exact absurd g h)
 obtain ⟨K, hK0⟩ : ∃ K : Nat, wi = (K : Int) := ⟨wi.toNat, by omega⟩
 subst hK0
 obtain ⟨J, hJ0⟩ : ∃ K : Nat, la = (K : Int) := ⟨la.toNat, by omega⟩
 subst hJ0
 have n0 : 0 < l.length := by omega
 have hml := Nat.mod_lt K n0
 have hsl := Nat.mod_lt J n0
 have hm1 : ((K : Int)).tmod (l.length : Int) = ((K % l.length : Nat) : Int) := by rw [Int.tmod_eq_emod_of_nonneg (by omega)]; rfl
 have hs1 : ((J : Int)).tmod (l.length : Int) = ((J % l.length : Nat) : Int) := by rw [Int.tmod_eq_emod_of_nonneg (by omega)]; rfl
 obtain ⟨M, hMd⟩ : ∃ M, K % l.length = M := ⟨_, rfl⟩
 obtain ⟨S, hSd⟩ : ∃ M, J % l.length = M := ⟨_, rfl⟩
 rw [hMd] at hml hm1
 rw [hSd] at hsl hs1
 obtain ⟨k, hkd⟩ : ∃ z, 1 + tm % 4 = z := ⟨_, rfl⟩
 have hk1 : 1 ≤ k ∧ k ≤ 4 := by omega
 have hr0 : tm.tmod 4 = k - 1 := by rw [Int.tmod_eq_emod_of_nonneg (by omega)]; omega
 have rl := rot_least (u := u) (c := c) g hsl s
 have hR := rl.1
 have vr := rotM_vld v S
 have rs := rot_share (u := u) (c := c) (s := S) (i := M) g hsl hml s
 have hRl := Nat.mod_lt (M + S) n0
 obtain ⟨R, hRd⟩ : ∃ z, (M + S) % l.length = z := ⟨_, rfl⟩
 rw [hRd] at rs hRl
 have hRt : Hid (((M : Int) + (S : Int)).tmod (l.length : Int) = (R : Int)) := hid (by rw [Int.tmod_eq_emod_of_nonneg (by omega), ← hRd]; rfl)
 have hL := hid (fun W h => leastL_any l q g a cap iu ic s W h)
 have hLy := hid (fun a2 c2 W h => by have := leastL_any (rotM l S) (vld_fit vr) hR a2 c2 iu ic s W h; rw [rotM_len, rl.2.1, rl.2.2.1, rl.2.2.2] at this; exact this)
 have hS := hid (fun W h => by have := share_any l q hl2 a cap u c iu ic s (M : Int) ⟨by omega, by omega⟩ W h; rw [she_che g s hml] at this; exact this)
 have hSy := hid (fun a2 c2 W h => by have := share_any (rotM l S) (vld_fit vr) (by rw [rotM_len]; exact hl2) a2 c2 u c iu ic s (R : Int) ⟨by omega, by omega⟩ W h; rw [she_che hR s (by rw [rotM_len]; exact hRl), rl.2.1, rs, rotM_len] at this; exact this)
 have hFx := hid (fun a2 c2 W h => by have := fineL_any (prM l k d) (pr_fit v hk1 hd) (by rw [prM_len]; omega) a2 c2 u c W h; rw [prM_len] at this; exact this)
 have hLx := hid (fun (hP : chkB (prM l k d) u c = 0) a2 c2 W h => by have := leastL_any (prM l k d) (pr_fit v hk1 hd) hP a2 c2 iu ic s W h; rw [prM_len, (pr_least (b := s) hk1.1 g hP).1] at this; exact this)
 have hpe := hid (fun (hP : chkB (prM l k d) u c = 0) (h : cheE l u c s = 0) => (pr_least (b := s) hk1.1 g hP).2 h)
 have hzz := hid (fun (hP : chkB (prM l k d) u c = 0) (h : ¬ cheE l u c s = 0) => lst_zero (prM l k d) u c s (by rw [(pr_least (b := s) hk1.1 g hP).1]; exact h))
 have hok := hid (lst_ok (u := u) (c := c) g s)
 have hct := hid (che_two (u := u) (c := c) g s)
 have hpr := hid (fun i => v.pr i)
 have hwx : Hid (∀ W b q b2, OwnG W b 68 5 (.slice (some ⟨b2, 0, none⟩) l.length q) (fun i r => mtV (fxM l k d l.length i) r) l.length → Mts W (some ⟨b2, 0, none⟩) (prM l k d)) := hid fun W b q b2 h => fx_end rfl h
 have hwy : Hid (∀ W b q b2, OwnG W b 68 5 (.slice (some ⟨b2, 0, none⟩) l.length q) (fun i r => mtV (gyM l l.length S l.length i) r) l.length → Mts W (some ⟨b2, 0, none⟩) (rotM l S)) := hid fun W b q b2 h => gy_end rfl h
 obtain ⟨bm, om, hae, hbm, hmc⟩ := hM.at n0
 subst hae
 have hcl := hid (mts_cells hmc)
 clear hbm hmc
 replace hM := hid hM
 replace g := hid g
 clear q v hu hc hcm hl2 rl hR vr rs hMd hSd hRd hkd
 have hin := hid (And.intro iwi ila)
 replace htm := hid htm; replace hd := hid hd
 clear iwi ila
 obtain ⟨n, hn⟩ : ∃ n, l.length = n := ⟨_, rfl⟩
 rw [hn] at hf n1 n6 n0 hml hsl hm1 hs1 hRl hRt hL hLy hS hSy hFx hLx hwx hwy hcl ⊢
 replace hn := hid hn
 obtain ⟨CP, hCP⟩ : ∃ z, chkB (prM l k d) u c = z := ⟨_, rfl⟩
 obtain ⟨PN, hPN⟩ : ∃ z, lstN (prM l k d) u c s = z := ⟨_, rfl⟩
 obtain ⟨PD, hPD⟩ : ∃ z, lstD (prM l k d) u c s = z := ⟨_, rfl⟩
 rw [hCP, hPN, hPD] at hLx
 rw [hCP, hPN, hPD] at hpe hzz
 rw [hCP] at hFx
 clear hCP hPN hPD
 obtain ⟨b, hbd⟩ : ∃ z, decide (cheE l u c s = 0) = z := ⟨_, rfl⟩
 rw [hbd] at hL hLy hLx
 replace hbd := hid hbd
 generalize lstN l u c s = N at *
 generalize lstD l u c s = D at *
 generalize cheE l u c s = EC at *
 generalize nth (shX l u c s (M : Int)) 0 = A0 at *
 generalize nth (shX l u c s (M : Int)) 1 = A1 at *
 generalize nth (shX l u c s (M : Int)) 2 = A2 at *
 generalize nth (shX l u c s (M : Int)) 3 = A3 at *
 generalize prM l k d = XM at *
 generalize rotM l S = YM at *
 have hn2 : (0 : Int) < (n : Int) := by omega
 have e4 : ¬ (n : Int) = 0 := by omega
 have e4n : ¬ n = 0 := by omega
 have e0 : ((n : Int) == 0) = false := by rw [beq_eq_false_iff_ne]; omega
 have e3 : (n : Int) ≠ 0 := by omega
 go_enter Try.func13, Try.ntmps13
 go_wp2_with fail
 refine (hf.out _ exE).mono ?_; rintro e w1 ⟨rfl, hE⟩
 have X := hid (show Ext w w1 from exE)
 have t := hid (show C2 w1 w.heap.size (u) (c) from ⟨hE.cell (p := ⟨w.heap.size, 0, none⟩) (v := .int .i64 (u)) (by simp [go_sem]), hE.cell (p := ⟨w.heap.size, 1, none⟩) (v := .int .i64 (c)) (by simp [go_sem])⟩)
 replace hM := hid (hM.out.ext X.out)
 obtain ⟨T, hT⟩ : ∃ T, w.heap.size = T := ⟨_, rfl⟩
 rw [hT] at t ⊢
 clear hE hf hT
 go_upto_region 4 with (fail)
 refine name_wp (fun v1 hv => ?_)
 have x1 : Ext w1 v1 := by rw [hv]; exact exE
 replace X := hid (X.out.trans x1); replace hM := hid (hM.out.ext x1); replace t := hid (t.out.ext x1)
 clear hv x1
 refine wp_mono (stL4 e4 hm1 hs1 hin.out.1 hin.out.2 (by omega) (by omega)) ?_
 rintro e a' v80 ⟨rfl, zR', zS', zT', zU', zV', zW', zX', zY', rfl, x⟩
 replace X := hid (X.out.trans x); replace hM := hid (hM.out.ext x); replace t := hid (t.out.ext x)
 clear x
 go_upto_region 5 with (fail)
 refine name_wp (fun v2 hv => ?_)
 have x1 : Ext v80 v2 := by rw [hv]; exact exE
 replace X := hid (X.out.trans x1); replace hM := hid (hM.out.ext x1); replace t := hid (t.out.ext x1)
 clear hv x1
 refine wp_mono (stL5 hr0 hk1 hd.out) ?_
 rintro e a' v81 ⟨rfl, zZ', uA', uB', uC', uD', uE', rfl, x⟩
 replace X := hid (X.out.trans x); replace hM := hid (hM.out.ext x); replace t := hid (t.out.ext x)
 clear x
 go_upto_region 6 with (fail)
 refine name_wp (fun v3 hv => ?_)
 have x1 : Ext v81 v3 := by rw [hv]; exact exE
 replace X := hid (X.out.trans x1); replace hM := hid (hM.out.ext x1); replace t := hid (t.out.ext x1)
 clear hv x1
 have hcv := hid (fun i hi r hr => X.out.cell (hcl.out i hi r hr))
 have lbm := cell_lt (hcv.out 0 n0 0 (by decide))
 dsimp only at lbm
 go_wp2_with (first | (at_builtin; refine wpList_plain rfl (fun K hK => ?_); refine appG_wp _ _ _ rfl 68 5 40 Try.underlying22 elemMt (by decide) v3.heap.size (fun i r => mtV (mtl l i) r) 0 _ rfl bm om n cap (fun i r => mtV (mtl l i) r) rfl (OwnG.ext (OwnG.made v3 (Nat.le_refl _) _ _ _) exE) (fun i hi r hr => (show Ext v3 _ from exE).cell (hcv.out i hi r hr)) n0 (fun _ _ _ _ => rfl) (by omega) (by decide) (by simp) (fun i r => mtV (mtl l i) r) (fun _ _ h _ => absurd h (by omega)) (fun i r hi _ => by rw [Nat.zero_add]) ?_; intro bx cx wx ownx g8 at8 hbx ext8; have ownx := hid ownx; have hEx := hid (ext8 v3 exE (Nat.le_refl _)); replace hbx := hid hbx; clear g8 at8 ext8; rw [Nat.zero_add] at ownx; try rw [Nat.zero_add]; refine hK _ _ ?_) | (at_builtin; refine wpList_plain rfl (fun K hK => ?_); refine appG_wp _ _ _ rfl 68 5 40 Try.underlying22 elemMt (by decide) wx.heap.size (fun i r => mtV (mtl l i) r) 0 _ rfl bm om n cap (fun i r => mtV (mtl l i) r) rfl (OwnG.ext (OwnG.made wx (Nat.le_refl _) _ _ _) exE) (fun i hi r hr => (show Ext v3 _ from hEx.out.trans exE).cell (hcv.out i hi r hr)) n0 (fun _ _ _ _ => rfl) (by omega) (by decide) (by simp) (fun i r => mtV (mtl l i) r) (fun _ _ h _ => absurd h (by omega)) (fun i r hi _ => by rw [Nat.zero_add]) ?_; intro by_ cy wy owny g8 at8 hby ext8; have owny := hid owny; have hEy := hid (ext8 wx exE (Nat.le_refl _)); replace hby := hid hby; clear g8 at8 ext8; rw [Nat.zero_add] at owny; try rw [Nat.zero_add]; refine hK _ _ ?_))
 have hxy := hid (hEx.out.trans hEy.out)
 have hB2 := hid (Nat.le_trans (Ext.size hEx.out) hby.out)
 have ox := hid (OwnG.ext ownx.out hEy.out)
 have hlx : Hid (bx < by_) := hid (by have h1 := (OwnG.facts ownx.out n0 (r := 0) (by decide)).2.2.2; have h2 := hby.out; omega)
 clear ownx hEx hEy lbm
 go_loopw [22] (fun i wr => ∃ j : Nat, j ≤ n ∧ i = .int .i64 j ∧ Hid (OwnG wr v3.heap.size 68 5 (.slice (some ⟨bx, 0, none⟩) n cx) (fun i r => mtV (fxM l k d j i) r) n) ∧ Hid (OwnG wr wx.heap.size 68 5 (.slice (some ⟨by_, 0, none⟩) n cy) (fun i r => mtV (gyM l n S j i) r) n) ∧ Hid (Ext v3 wr)) (fun i _ => (n - intOf i).toNat)
 case atStart => exact ⟨0, by omega, rfl, hid (OwnG.ext (OwnG.cong_f ox.out fun i r _ _ => by unfold fxM; rw [if_neg (by omega)]) exE), hid (OwnG.ext (OwnG.cong_f owny.out fun i r _ _ => by unfold gyM; rw [if_neg (by omega)]) exE), hid (hxy.out.trans exE)⟩
 case round =>
  obtain ⟨j, hj, rfl, hox, hoy, hxx⟩ := hrel
  by_cases hjl : j < n
  ·have hjI : (j : Int) < (n : Int) := by omega
   have hcm := fun r hr => hcv.out j hjl r hr
   have fa := hid (fx_at l k d j)
   have fs := hid (fx_step l k d j)
   have gs := hid (fun i hi => gy_step (l := l) n6 hsl (j := j) (i := i) hjl hi)
   have hp := hpr.out j
   have hrt := Nat.mod_lt (j + S) n0
   have htm2 : ((j : Int) + (S : Int)).tmod (n : Int) = (((j + S) % n : Nat) : Int) := by rw [Int.tmod_eq_emod_of_nonneg (by omega)]; rfl
   obtain ⟨R2, hR2⟩ : ∃ z, (j + S) % n = z := ⟨_, rfl⟩
   rw [hR2] at hrt htm2 gs
   replace hR2 := hid hR2
   have y0 := OwnG.facts hox.out hjl (r := 0) (by decide)
   have ylx := y0.2.2.2
   have z0 := y0.2.1; replace y0 := y0.1
   rw [fa.out] at y0
   obtain ⟨mj, hmj⟩ : ∃ z, mtl l j = z := ⟨_, rfl⟩
   rw [hmj] at hcm fa fs gs hp y0
   obtain ⟨mp, m1, m2, m3, m4⟩ := mj
   replace hmj := hid hmj
   dsimp only at fs hp
   have c0 := hcm 0 (by decide); have c1 := hcm 1 (by decide); have c2 := hcm 2 (by decide); have c3 := hcm 3 (by decide); have c4 := hcm 4 (by decide)
   clear hcm
   simp only [mtV, if_true, Nat.add_zero] at y0 c0 c1 c2 c3 c4 z0
   simp at c1 c2 c3 c4
   replace c0 := hid c0; replace c1 := hid c1; replace c2 := hid c2; replace c3 := hid c3; replace c4 := hid c4
   have hd2 := hd.out
   have hkp : 0 ≤ k * mp ∧ k * mp ≤ 4000 := ⟨Int.mul_nonneg (by omega) hp.1, by have := Int.mul_le_mul_of_nonneg_right hk1.2 hp.1; omega⟩
   obtain ⟨kp, hkp2⟩ : ∃ z, k * mp = z := ⟨_, rfl⟩
   rw [hkp2] at hkp fs
   have w1 : IntKind.i64.wrap (k * mp) = kp := by rw [hkp2]; exact Go.IntWalk.i64_in kp (by omega)
   have w2 := Go.IntWalk.i64_in (kp + d) (by omega)
   have w3 := Go.IntWalk.i64_in ((j : Int) + 1) (by omega)
   have w4 := Go.IntWalk.i64_in ((j : Int) + (S : Int)) (by omega)
   have w5 := Go.IntWalk.i64_in (R2 : Int) (by omega)
   replace hkp2 := hid hkp2
   have hrI : (R2 : Int) < (n : Int) := by omega
   have hjn : 0 ≤ (j : Int) := by omega
   go_upto_region 11 with (fail)
   refine name_wp (fun v1 hv => ?_)
   have ox1 := hid (show OwnG v1 v3.heap.size 68 5 (.slice (some ⟨bx, 0, none⟩) n cx) (fun i r => mtV (fxM l k d (j + 1) i) r) n by rw [hv]; exact OwnG.ext (OwnG.cong_f (own_price hox.out hjl (kp + d)) fun i r hi hr => by rw [fa.out, ← fs.out]) exE)
   have oy1 := hid (show OwnG v1 wx.heap.size 68 5 (.slice (some ⟨by_, 0, none⟩) n cy) (fun i r => mtV (gyM l n S j i) r) n by rw [hv]; exact OwnG.ext (OwnG.put hoy.out (p := ⟨bx, j * 5, none⟩) (by have := hlx.out; simp [Value.ownBlock]; omega) _) exE)
   have x1 : Ext v3 v1 := by rw [hv]; have h1 := hxx.out; have h2 := hbx.out; exact exE
   clear hv y0 z0 hox hoy ylx w1 w2
   have y0 := OwnG.facts oy1.out hrt (r := 0) (by decide)
   have y1 := OwnG.facts oy1.out hrt (r := 1) (by decide)
   have y2 := OwnG.facts oy1.out hrt (r := 2) (by decide)
   have y3 := OwnG.facts oy1.out hrt (r := 3) (by decide)
   have y4 := OwnG.facts oy1.out hrt (r := 4) (by decide)
   have yl := y0.2.2.2
   have z0 := y0.2.1; replace y0 := y0.1
   have z1 := y1.2.1; replace y1 := y1.1
   have z2 := y2.2.1; replace y2 := y2.1
   have z3 := y3.2.1; replace y3 := y3.1
   have z4 := y4.2.1; replace y4 := y4.1
   simp only [Nat.add_zero] at y0 z0
   refine wp_mono (Q := calmS _) ?_ calmS_of
   refine wp_region_held_drew (S := fun w' => Ext v3 w') (by kernel_rfl) (x1.trans exE) fun hHeld => ?_
   try simp only [List.append_eq, List.cons_append, List.nil_append]
   (refine tkA (i := 0) (v := ?_) rfl (fun _ _ _ h => h) (Or.inl ⟨by rfl, ?yl⟩) (by assumption) ?_; (case yl => ((intro w hSw; (try dsimp only at hSw);  go_simp); with_reducible rfl)); (try simp only [sxA, sxB, sxC, Act.put, sxD, sxE, sxF]))
   (refine tkA (i := 1) (v := ?_) rfl (fun _ _ _ h => h) (Or.inl ⟨by rfl, ?yl⟩) (by assumption) ?_; (case yl => ((intro w hSw; (try dsimp only at hSw);  go_simp); with_reducible rfl)); (try simp only [sxA, sxB, sxC, Act.put, sxD, sxE, sxF]))
   (refine tkA (i := 2) (v := ?_) rfl (fun _ _ _ h => h) (Or.inl ⟨by rfl, ?yl⟩) (by assumption) ?_; (case yl => ((intro w hSw; (try dsimp only at hSw);  go_simp); with_reducible rfl)); (try simp only [sxA, sxB, sxC, Act.put, sxD, sxE, sxF]))
   (refine tkA (i := 3) (v := ?_) rfl (fun _ _ _ h => h) (Or.inl ⟨by rfl, ?yl⟩) (by assumption) ?_; (case yl => ((intro w hSw; (try dsimp only at hSw);  go_simp); with_reducible rfl)); (try simp only [sxA, sxB, sxC, Act.put, sxD, sxE, sxF]))
   (refine tkA (i := 4) (v := ?_) rfl (fun _ _ _ h => h) (Or.inl ⟨by rfl, ?yl⟩) (by assumption) ?_; (case yl => ((intro w hSw; (try dsimp only at hSw);  go_simp); with_reducible rfl)); (try simp only [sxA, sxB, sxC, Act.put, sxD, sxE, sxF]))
   (refine tkA (i := 5) (v := ?_) rfl (fun _ _ _ h => h) (Or.inl ⟨by rfl, ?yl⟩) (by assumption) ?_; (case yl => ((intro w hSw; (try dsimp only at hSw);  go_simp); with_reducible rfl)); (try simp only [sxA, sxB, sxC, Act.put, sxD, sxE, sxF]))
   (refine tkA (i := 6) (v := ?_) rfl (fun _ _ _ h => h) (Or.inl ⟨by rfl, ?yl⟩) (by assumption) ?_; (case yl => ((intro w hSw; (try dsimp only at hSw);  go_simp); with_reducible rfl)); (try simp only [sxA, sxB, sxC, Act.put, sxD, sxE, sxF]))
   (refine tkA (i := 7) (v := ?_) rfl (fun _ _ _ h => h) (Or.inl ⟨by rfl, ?yl⟩) (by assumption) ?_; (case yl => ((intro w hSw; (try dsimp only at hSw);  go_simp); with_reducible rfl)); (try simp only [sxA, sxB, sxC, Act.put, sxD, sxE, sxF]))
   (refine tkA (i := 8) (v := ?_) rfl (fun _ _ _ h => h) (Or.inl ⟨by rfl, ?yl⟩) (by assumption) ?_; (case yl => ((intro w hSw; (try dsimp only at hSw);  go_simp); with_reducible rfl)); (try simp only [sxA, sxB, sxC, Act.put, sxD, sxE, sxF]))
   (refine tkA (i := 9) (v := ?_) rfl (fun _ _ _ h => h) (Or.inl ⟨by rfl, ?yl⟩) (by assumption) ?_; (case yl => ((intro w hSw; (try dsimp only at hSw); have kk0 := hSw.cell c0.out; have kk1 := hSw.cell c1.out; have kk2 := hSw.cell c2.out; have kk3 := hSw.cell c3.out; have kk4 := hSw.cell c4.out; go_simp); with_reducible rfl)); (try simp only [sxA, sxB, sxC, Act.put, sxD, sxE, sxF]))
   (refine tkA (i := 10) (v := ?_) rfl (fun _ _ _ h => h) (Or.inl ⟨by rfl, ?yl⟩) (by assumption) ?_; (case yl => ((intro w hSw; (try dsimp only at hSw);  go_simp); with_reducible rfl)); (try simp only [sxA, sxB, sxC, Act.put, sxD, sxE, sxF]))
   (refine wpAnyH_ready (rs := [11]) (by kernel_rfl) (by simp) ?_; refine AllReadyH.cons (o := _) rfl (fun K hK => ?_) AllReadyH.nil)
   go_simp
   obtain ⟨w6, hw6⟩ : ∃ w6, w6 = ((((v1.setCell ⟨by_, R2 * 5, none⟩ (.int .i64 mp)).setCell ⟨by_, R2 * 5 + 1, none⟩ (.int .i64 m1)).setCell ⟨by_, R2 * 5 + 2, none⟩ (.int .i64 m2)).setCell ⟨by_, R2 * 5 + 3, none⟩ (.int .i64 m3)).setCell ⟨by_, R2 * 5 + 4, none⟩ (.int .i64 m4) := ⟨_, rfl⟩
   have oy2 := hid (show OwnG w6 wx.heap.size 68 5 (.slice (some ⟨by_, 0, none⟩) n cy) (fun i r => mtV (gyM l n S (j + 1) i) r) n by rw [hw6]; exact OwnG.cong_f (own_met oy1.out hrt ⟨mp, m1, m2, m3, m4⟩) fun i r hi hr => by rw [← gs.out i hi])
   have ox2 := hid (show OwnG w6 v3.heap.size 68 5 (.slice (some ⟨bx, 0, none⟩) n cx) (fun i r => mtV (fxM l k d (j + 1) i) r) n by rw [hw6]; have h9 : (Value.slice (some ⟨bx, 0, none⟩) n cx).ownBlock ≠ some by_ := (by have := hlx.out; simp [Value.ownBlock]; omega); exact OwnG.put (OwnG.put (OwnG.put (OwnG.put (OwnG.put ox1.out h9 _) h9 _) h9 _) h9 _) h9 _)
   have x6 : Ext v3 w6 := by rw [hw6]; have h2 : v3.heap.size ≤ by_ := hB2.out; exact exE
   rw [← hw6]
   clear hw6
   refine hK.out _ _ (x6.trans exE) (fun hHeld => ?_)
   clear hK K
   (try simp only [sxA, sxB, sxC, Act.put, sxD, sxE, sxF])
   refine wpAnyH_done (by kernel_rfl) ?_ _
   simp only [calmS]
   go_wp2_with fail
   go_roundw
   case rel => exact ⟨j + 1, by omega, by go_num, hid (OwnG.ext ox2.out exE), hid (OwnG.ext oy2.out exE), hid (x6.trans exE)⟩
   case measure => simp [intOf]; omega
  ·have hjn : j = n := by omega
   have hnn : ¬ (n : Int) < (n : Int) := by omega
   rw [hjn] at hox hoy ⊢
   clear hjn hj hjl
   skip
   have hXm := hid (hwx.out _ _ _ _ hox.out)
   have hYm := hid (hwy.out _ _ _ _ hoy.out)
   have xq := hxx.out
   replace X := hid (X.out.trans xq); replace hM := hid (hM.out.ext xq); replace t := hid (t.out.ext xq)
   clear xq hox hoy hxx hcv
   obtain ⟨o0, o1⟩ := t.out; have lo0 := cell_lt o0; dsimp only at lo0
   go_wp2_with fail
   refine name_c (fun v4 hv => ?_)
   have x1 : Ext wr v4 := by rw [hv]; exact exE
   replace X := hid (X.out.trans x1); replace hM := hid (hM.out.ext x1); replace t := hid (t.out.ext x1); replace hXm := hid (hXm.out.ext x1)
   replace hYm := hid (hYm.out.ext x1)
   clear o0 o1 lo0
   clear hv x1
   refine (hL.out _ hM.out).mono ?_; rintro e u5 ⟨rfl, hE⟩
   replace X := hid (X.out.trans hE); replace hM := hid (hM.out.ext hE); replace t := hid (t.out.ext hE); replace hXm := hid (hXm.out.ext hE)
   replace hYm := hid (hYm.out.ext hE)
   clear hE
   obtain ⟨o0, o1⟩ := t.out; have lo0 := cell_lt o0; dsimp only at lo0
   go_wp2_with fail
   refine name_c (fun v6 hv => ?_)
   have x1 : Ext u5 v6 := by rw [hv]; exact exE
   have b23 := hid (show C2 v6 u5.heap.size (N) (D) from ⟨by rw [hv]; simp [go_sem], by rw [hv]; simp [go_sem]⟩)
   replace X := hid (X.out.trans x1); replace hM := hid (hM.out.ext x1); replace t := hid (t.out.ext x1); replace hXm := hid (hXm.out.ext x1)
   replace hYm := hid (hYm.out.ext x1)
   clear o0 o1 lo0
   clear hv x1
   obtain ⟨Bb23, hBn⟩ : ∃ z, u5.heap.size = z := ⟨_, rfl⟩
   rw [hBn] at b23 ⊢
   clear hBn
   refine (hLy.out _ _ _ hYm.out).mono ?_; rintro e u7 ⟨rfl, hE⟩
   replace X := hid (X.out.trans hE); replace hM := hid (hM.out.ext hE); replace t := hid (t.out.ext hE); replace hXm := hid (hXm.out.ext hE)
   replace hYm := hid (hYm.out.ext hE); replace b23 := hid (b23.out.ext hE)
   clear hE
   obtain ⟨o0, o1⟩ := t.out; have lo0 := cell_lt o0; dsimp only at lo0
   go_wp2_with fail
   refine name_c (fun v8 hv => ?_)
   have x1 : Ext u7 v8 := by rw [hv]; exact exE
   have b26 := hid (show C2 v8 u7.heap.size (N) (D) from ⟨by rw [hv]; simp [go_sem], by rw [hv]; simp [go_sem]⟩)
   have bz := hid (show Bx2 v8 u7.heap.size N D from ⟨by rw [hv]; simp [go_sem], by rw [hv]; simp [go_sem], by rw [hv]; simp [go_sem], by rw [hv]; simp [go_sem]⟩)
   have hq1 := hid (Ext.size X.out)
   have hq2 := hid (show Bb23 < u7.heap.size from cell_lt b23.out.1)
   replace X := hid (X.out.trans x1); replace hM := hid (hM.out.ext x1); replace t := hid (t.out.ext x1); replace hXm := hid (hXm.out.ext x1)
   replace hYm := hid (hYm.out.ext x1); replace b23 := hid (b23.out.ext x1)
   clear o0 o1 lo0
   clear hv x1
   obtain ⟨Bb26, hBn⟩ : ∃ z, u7.heap.size = z := ⟨_, rfl⟩
   rw [hBn] at b26 bz hq1 hq2 ⊢
   clear hBn
   refine (hS.out _ hM.out).mono ?_; rintro e u9 ⟨rfl, hE⟩
   replace X := hid (X.out.trans hE); replace hM := hid (hM.out.ext hE); replace t := hid (t.out.ext hE); replace hXm := hid (hXm.out.ext hE)
   replace hYm := hid (hYm.out.ext hE); replace b23 := hid (b23.out.ext hE); replace b26 := hid (b26.out.ext hE); replace bz := hid (bz.out.ext hE)
   clear hE
   go_upto_region 15 with (fail)
   refine name_wp (fun v10 hv => ?_)
   have x1 : Ext u9 v10 := by rw [hv]; exact exE
   have b29 := hid (show C2 v10 u9.heap.size (A0) (A1) from ⟨by rw [hv]; simp [go_sem], by rw [hv]; simp [go_sem]⟩)
   have b30 := hid (show C2 v10 (u9.heap.size + 1) (A2) (A3) from ⟨by rw [hv]; simp [go_sem], by rw [hv]; simp [go_sem]⟩)
   replace X := hid (X.out.trans x1); replace hM := hid (hM.out.ext x1); replace t := hid (t.out.ext x1); replace hXm := hid (hXm.out.ext x1)
   replace hYm := hid (hYm.out.ext x1); replace b23 := hid (b23.out.ext x1); replace b26 := hid (b26.out.ext x1); replace bz := hid (bz.out.ext x1)
   clear hv x1
   obtain ⟨Bb29, hBn⟩ : ∃ z, u9.heap.size = z := ⟨_, rfl⟩
   rw [hBn] at b29 b30 ⊢
   clear hBn
   refine wp_mono (stL15 rfl e4 (Go.IntWalk.i64_in ((M : Int) + (S : Int)) (by omega)) hRt.out (Go.IntWalk.i64_in (R : Int) (by omega)) (fun W h => hSy.out _ _ W (hYm.out.ext h)) t.out.1 t.out.2) ?_
   rintro e a' v90 ⟨rfl, B32, B33, v9_, rfl, x, c13_0, c13_1, fz13_0, fz13_1, z13, c14_0, c14_1, fz14_0, fz14_1, z14, n14_13⟩
   have b32 := hid (show C2 v90 B32 A0 A1 from ⟨c13_0, c13_1⟩)
   have b33 := hid (show C2 v90 B33 A2 A3 from ⟨c14_0, c14_1⟩)
   replace X := hid (X.out.trans x); replace hM := hid (hM.out.ext x); replace t := hid (t.out.ext x); replace hXm := hid (hXm.out.ext x)
   replace hYm := hid (hYm.out.ext x); replace b23 := hid (b23.out.ext x); replace b26 := hid (b26.out.ext x); replace bz := hid (bz.out.ext x)
   replace b29 := hid (b29.out.ext x); replace b30 := hid (b30.out.ext x)
   clear x c13_0 c13_1 c14_0 c14_1 fz13_0 fz13_1 z13 fz14_0 fz14_1 z14 n14_13
   go_upto_region 16 with (fail)
   refine name_wp (fun v11 hv => ?_)
   have x1 : Ext v90 v11 := by rw [hv]; exact exE
   replace X := hid (X.out.trans x1); replace hM := hid (hM.out.ext x1); replace t := hid (t.out.ext x1); replace hXm := hid (hXm.out.ext x1)
   replace hYm := hid (hYm.out.ext x1); replace b23 := hid (b23.out.ext x1); replace b26 := hid (b26.out.ext x1); replace bz := hid (bz.out.ext x1)
   replace b29 := hid (b29.out.ext x1); replace b30 := hid (b30.out.ext x1); replace b32 := hid (b32.out.ext x1); replace b33 := hid (b33.out.ext x1)
   clear hv x1
   refine wp_mono (stL16 b23.out.1 b23.out.2 b26.out.1 b26.out.2 b29.out.1 b29.out.2 b32.out.1 b32.out.2 b30.out.1 b30.out.2 b33.out.1 b33.out.2) ?_
   rintro e a' v91 ⟨rfl, qA', qB', qC', qD', qE', qF', qG', qH', qI', qJ', qK', qL', qM', qN', qO', qP', qQ', qR', qS', qT', qU', qV', qW', qX', qY', qZ', rA', rB', rC', rD', rfl, x⟩
   replace X := hid (X.out.trans x); replace hM := hid (hM.out.ext x); replace t := hid (t.out.ext x); replace hXm := hid (hXm.out.ext x)
   replace hYm := hid (hYm.out.ext x); replace b23 := hid (b23.out.ext x); replace b26 := hid (b26.out.ext x); replace bz := hid (bz.out.ext x)
   replace b29 := hid (b29.out.ext x); replace b30 := hid (b30.out.ext x); replace b32 := hid (b32.out.ext x); replace b33 := hid (b33.out.ext x)
   clear x
   obtain ⟨o0, o1⟩ := t.out; have lo0 := cell_lt o0; dsimp only at lo0
   go_wp2_with fail
   refine name_c (fun v12 hv => ?_)
   have x1 : Ext v91 v12 := by rw [hv]; exact exE
   replace X := hid (X.out.trans x1); replace hM := hid (hM.out.ext x1); replace t := hid (t.out.ext x1); replace hXm := hid (hXm.out.ext x1)
   replace hYm := hid (hYm.out.ext x1); replace b23 := hid (b23.out.ext x1); replace b26 := hid (b26.out.ext x1); replace bz := hid (bz.out.ext x1)
   replace b29 := hid (b29.out.ext x1); replace b30 := hid (b30.out.ext x1); replace b32 := hid (b32.out.ext x1); replace b33 := hid (b33.out.ext x1)
   clear o0 o1 lo0
   clear hv x1
   refine (hFx.out _ _ _ hXm.out).mono ?_; rintro e u13 ⟨rfl, hE⟩
   replace X := hid (X.out.trans hE); replace hM := hid (hM.out.ext hE); replace t := hid (t.out.ext hE); replace hXm := hid (hXm.out.ext hE)
   replace hYm := hid (hYm.out.ext hE); replace b23 := hid (b23.out.ext hE); replace b26 := hid (b26.out.ext hE); replace bz := hid (bz.out.ext hE)
   replace b29 := hid (b29.out.ext hE); replace b30 := hid (b30.out.ext hE); replace b32 := hid (b32.out.ext hE); replace b33 := hid (b33.out.ext hE)
   clear hE
   by_cases gP : CP = 0
   ·subst gP
    rw [decide_eq_true rfl]
    obtain ⟨o0, o1⟩ := t.out; have lo0 := cell_lt o0; dsimp only at lo0
    go_wp2_with fail
    refine name_c (fun v14 hv => ?_)
    have x1 : Ext u13 v14 := by rw [hv]; exact exE
    replace X := hid (X.out.trans x1); replace hM := hid (hM.out.ext x1); replace t := hid (t.out.ext x1); replace hXm := hid (hXm.out.ext x1)
    replace hYm := hid (hYm.out.ext x1); replace b23 := hid (b23.out.ext x1); replace b26 := hid (b26.out.ext x1); replace bz := hid (bz.out.ext x1)
    replace b29 := hid (b29.out.ext x1); replace b30 := hid (b30.out.ext x1); replace b32 := hid (b32.out.ext x1); replace b33 := hid (b33.out.ext x1)
    clear o0 o1 lo0
    clear hv x1
    refine (hLx.out (by trivial) _ _ _ hXm.out).mono ?_; rintro e u15 ⟨rfl, hE⟩
    replace X := hid (X.out.trans hE); replace hM := hid (hM.out.ext hE); replace t := hid (t.out.ext hE); replace hXm := hid (hXm.out.ext hE)
    replace hYm := hid (hYm.out.ext hE); replace b23 := hid (b23.out.ext hE); replace b26 := hid (b26.out.ext hE); replace bz := hid (bz.out.ext hE)
    replace b29 := hid (b29.out.ext hE); replace b30 := hid (b30.out.ext hE); replace b32 := hid (b32.out.ext hE); replace b33 := hid (b33.out.ext hE)
    clear hE
    obtain ⟨z0, z1, f0, f1⟩ := bz.out
    have lz := cell_lt z0; dsimp only at lz
    go_upto_region 21 with (fail)
    refine name_wp (fun vF hv => ?_)
    have bz2 := hid (show Bx2 vF Bb26 PN PD by rw [hv]; exact Bx2.ext (Bx2.store ⟨z0, z1, f0, f1⟩ _ _) exE)
    have b23F := hid (show C2 vF Bb23 N D by have h9 : Bb23 ≠ Bb26 := (by have := hq2.out; omega); rw [hv]; exact C2.ext (w := (u15.setCell ⟨Bb26, 0, none⟩ (.int .i64 PN)).setCell ⟨Bb26, 1, none⟩ (.int .i64 PD)) ⟨box_put h9 (box_put h9 b23.out.1), box_put h9 (box_put h9 b23.out.2)⟩ exE)
    have XF := hid (show Ext w vF by rw [hv]; have h1 := X.out; have h2 := hq1.out; exact exE)
    clear hv z0 z1 f0 f1 lz
    rcases hct.out with gE | gE
    ·have hbt : b = true := by rw [← hbd.out, gE]; rfl
     subst hbt
     have ko := hok.out gE
     have kp := hpe.out (by trivial) gE
     have hdd := hd.out
     have kb : 0 ≤ k * N ∧ k * N ≤ 24000000000 := ⟨Int.mul_nonneg (by omega) ko.n0, by have h1 := ko.n1; have h2 := ko.d1; have := Int.mul_le_mul_of_nonneg_left (show N ≤ 6000000000 by omega) (show 0 ≤ k by omega); omega⟩
     have db : 0 ≤ d * D ∧ d * D ≤ 400000000000 := ⟨Int.mul_nonneg hdd.1 (by have := ko.d0; omega), by have h2 := ko.d1; have := Int.mul_le_mul_of_nonneg_left h2 hdd.1; omega⟩
     have hby9 := fun W => byR_any (k * N + d * D) D (by omega) (by omega) (by have := ko.d0; omega) (by have := ko.d1; omega) W
     rw [← kp.1, ← kp.2] at hby9
     refine wp_mono (stL21a rfl hby9 (Go.IntWalk.i64_in (k * N) (by omega)) (Go.IntWalk.i64_in (d * D) (by omega)) (Go.IntWalk.i64_in (k * N + d * D) (by omega)) b23F.out.1 b23F.out.2 bz2.out.1 bz2.out.2) ?_
     rintro e a' v95 ⟨rfl, v12_, v16_, v20_, rfl, x⟩
     replace XF := hid (XF.out.trans x)
     go_wp2_with fail
     go_ret
     exact ⟨rfl, XF.out⟩
    ·have hbt : b = false := by rw [← hbd.out, gE]; rfl
     subst hbt
     refine wp_mono (stL21b rfl) ?_
     rintro e a' v95 ⟨rfl, rfl, x⟩
     replace XF := hid (XF.out.trans x)
     go_wp2_with fail
     go_ret
     exact ⟨rfl, XF.out⟩
   ·rw [decide_eq_false gP]
    go_wp2_with fail
    refine (works_any _).mono ?_; rintro e w9 ⟨rfl, hE9⟩
    have X9 := hid (X.out.trans (show Ext u13 w9 from exE))
    go_wp2_with fail
    go_ret
    exact ⟨rfl, X9.out⟩
end Go.Proofs.Ytpnfhcnnodolbaa
