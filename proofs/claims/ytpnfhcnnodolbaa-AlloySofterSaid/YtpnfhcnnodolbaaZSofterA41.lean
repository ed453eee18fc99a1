/- Texts of one proof, laid together: Owm, LaSo. -/
import Derived.Test.YtpnfhcnnodolbaaZSofterA40
import Derived.Test.YtpnfhcnnodolbaaZSofterA39
import Derived.Test.YtpnfhcnnodolbaaZY26
import Derived.Test.YtpnfhcnnodolbaaZY10
import Derived.Test.YtpnfhcnnodolbaaZY7
import Derived.Test.YtpnfhcnnodolbaaZY2
import Derived.Test.YtpnfhcnnodolbaaZSofterA34
import Derived.Test.YtpnfhcnnodolbaaZY25
import Derived.Test.YtpnfhcnnodolbaaZY11
import Derived.Test.YtpnfhcnnodolbaaZY4
import Derived.Test.YtpnfhcnnodolbaaZSofterA35
import Derived.Test.YtpnfhcnnodolbaaZY18
import Derived.Test.YtpnfhcnnodolbaaZY17
import Derived.Test.YtpnfhcnnodolbaaZY16
import Derived.Test.YtpnfhcnnodolbaaZY8
import Derived.Test.YtpnfhcnnodolbaaZSofterA36
import Derived.Test.YtpnfhcnnodolbaaZY12
import Derived.Test.YtpnfhcnnodolbaaZY3
import Derived.Test.YtpnfhcnnodolbaaZSofterA37
import Derived.Test.YtpnfhcnnodolbaaZY22
import Derived.Test.YtpnfhcnnodolbaaZY20
import Derived.Test.YtpnfhcnnodolbaaZY21
import Derived.Test.YtpnfhcnnodolbaaZY9
import Derived.Test.YtpnfhcnnodolbaaZY5
import Derived.Test.YtpnfhcnnodolbaaZY13
import Derived.Test.YtpnfhcnnodolbaaZY19
import Derived.Test.YtpnfhcnnodolbaaZY1
import Derived.Test.YtpnfhcnnodolbaaZY30
import Derived.Test.YtpnfhcnnodolbaaZY28
import Derived.Test.YtpnfhcnnodolbaaZY23
import Derived.Test.YtpnfhcnnodolbaaZY14
import Derived.Test.YtpnfhcnnodolbaaZY27
import Derived.Test.YtpnfhcnnodolbaaZY6
import Derived.Laws.OwnMore
import Derived.Test.YtpnfhcnnodolbaaZY32
import Derived.Test.YtpnfhcnnodolbaaZY31
import Derived.Test.YtpnfhcnnodolbaaZY29
import Derived.Test.YtpnfhcnnodolbaaZY33
set_option linter.unusedVariables false
set_option linter.unusedSimpArgs false
set_option linter.unusedSectionVars false
set_option linter.unnecessarySimpa false
set_option maxRecDepth 100000
namespace Go.Proofs.Ytpnfhcnnodolbaa
open Go Go.RowKit Game
theorem cellsG_set {k n i r : Nat} (f : Nat → Nat → Value) (hi : i < n) (hr : r < k) (u : Value) : (cellsG k f n).set (i * k + r) u = cellsG k (fun j q => if j = i ∧ q = r then u else f j q) n := by
 refine List.ext_getElem? fun j => ?_
 rw [List.getElem?_set, cellsG_len]
 have hk : 0 < k := by omega
 rcases Nat.lt_or_ge j (n * k) with hj | hj
 ·rw [cellsG_at f hj, cellsG_at _ hj]
  have e := Nat.div_add_mod j k
  by_cases g : i * k + r = j
  ·subst g
   rw [if_pos rfl, if_pos (at_lt hi hr), at_div hr, at_mod hr, if_pos ⟨rfl, rfl⟩]
  ·rw [if_neg g, if_neg]
   rintro ⟨h1, h2⟩
   rw [h1, h2, Nat.mul_comm] at e
   exact g e
 ·rw [List.getElem?_eq_none (by rw [cellsG_len]; exact hj), List.getElem?_eq_none (l := cellsG k (fun j q => if j = i ∧ q = r then u else f j q) n) (by rw [cellsG_len]; exact hj)]
  have := at_lt hi hr
  rw [if_neg (by omega)]
theorem OwnG.setC {w : World} {base : Nat} {e : TypeId} {k b cap n : Nat} {f : Nat → Nat → Value} (h : OwnG w base e k (.slice (some ⟨b, 0, none⟩) n cap) f n) {i r : Nat} (hi : i < n) (hr : r < k) (u : Value) :
 OwnG (w.setCell ⟨b, i * k + r, none⟩ u) base e k (.slice (some ⟨b, 0, none⟩) n cap) (fun j q => if j = i ∧ q = r then u else f j q) n := by
 have := World.ownsRow.stored h (i * k + r) u
 rw [cellsG_set f hi hr] at this
 exact this.1
theorem OwnG.cong_f {w : World} {base : Nat} {e : TypeId} {k n : Nat} {v : Value} {f g : Nat → Nat → Value} (h : OwnG w base e k v f n) (hg : ∀ i r, i < n → r < k → g i r = f i r) : OwnG w base e k v g n := by
 unfold OwnG at h ⊢
 first | (rw [cellsG_congr hg]; exact h) | (rw [← cellsG_congr hg]; exact h)
theorem own_met {w : World} {base : Nat} {e : TypeId} {b cap n : Nat} {F : Nat → Met} (h : OwnG w base e 5 (.slice (some ⟨b, 0, none⟩) n cap) (fun i r => mtV (F i) r) n) {i : Nat} (hi : i < n) (m : Met) :
 OwnG (((((w.setCell ⟨b, i * 5, none⟩ (.int .i64 m.p)).setCell ⟨b, i * 5 + 1, none⟩ (.int .i64 m.ll)).setCell ⟨b, i * 5 + 2, none⟩ (.int .i64 m.lh)).setCell ⟨b, i * 5 + 3, none⟩ (.int .i64 m.cl)).setCell ⟨b, i * 5 + 4, none⟩ (.int .i64 m.ch)) base e 5 (.slice (some ⟨b, 0, none⟩) n cap) (fun j r => mtV (if j = i then m else F j) r) n := by
 have h0 := OwnG.setC h hi (r := 0) (by decide) (.int .i64 m.p)
 have h1 := OwnG.setC h0 hi (r := 1) (by decide) (.int .i64 m.ll)
 have h2 := OwnG.setC h1 hi (r := 2) (by decide) (.int .i64 m.lh)
 have h3 := OwnG.setC h2 hi (r := 3) (by decide) (.int .i64 m.cl)
 have h4 := OwnG.setC h3 hi (r := 4) (by decide) (.int .i64 m.ch)
 refine OwnG.cong_f h4 fun j r hj hr => ?_
 by_cases e : j = i
 ·subst e
  match r, hr with
  | 0, _ => simp [mtV]
  | 1, _ => simp [mtV]
  | 2, _ => simp [mtV]
  | 3, _ => simp [mtV]
  | 4, _ => simp [mtV]
 ·simp [e]
theorem mts_cells {w : World} {b off : Nat} {l : List Met} (h : ∀ i, i < l.length → Mtc w b (off + i * 5) (mtl l i)) : ∀ i, i < l.length → ∀ r, r < 5 → w.cell? ⟨b, off + i * 5 + r, none⟩ = some (mtV (mtl l i) r) := by
 intro i hi r hr
 obtain ⟨h0, h1, h2, h3, h4⟩ := h i hi
 match r, hr with
 | 0, _ => simpa [mtV] using h0
 | 1, _ => simpa [mtV] using h1
 | 2, _ => simpa [mtV] using h2
 | 3, _ => simpa [mtV] using h3
 | 4, _ => simpa [mtV] using h4
set_option maxHeartbeats 16000000 in
theorem alloySofter_any (l : List Met) (q : FitM l) (a : Option Addr) (cap : Nat) (u c : Int) (s : Bool) (p : List Int) (hp : ∀ i, 0 ≤ nth p i ∧ nth p i ≤ 65535) (ap : Option Addr) (cpp : Nat) (kl kc k : Int) (w : World) (hM : Mts w a l) (hl : l.length ≤ 9223372036854775807) (iu : I64 u) (ic : I64 c) (hP : Wrds w ap p) (hlp : p.length ≤ 9223372036854775807) (hkl0 : 0 ≤ kl ∧ kl ≤ 65535) (hkc0 : 0 ≤ kc ∧ kc ≤ 65535) (ik : 0 ≤ k ∧ k ≤ 255) :
 Calls Try.prog 10 #[.slice a l.length cap, (.agg #[.int .i64 (u), .int .i64 (c)]), .bool s, .slice ap p.length cpp, .int .u16 kl, .int .u16 kc, .int .u8 k] w fun e w' => e = .returned (.bool true) ∧ Ext w w' := by
 have hf := hid (fun W (x : Ext w W) => fineL_any l q hl a cap u c W (hM.ext x))
 by_cases g : chkB l u c = 0
 case neg =>
  rw [decide_eq_false g] at hf
  replace g := hid g
  clear hM hP
  go_enter Try.func10, Try.ntmps10
  go_wp2_with fail
  refine (hf.out _ exE).mono ?_; rintro e w1 ⟨rfl, hE⟩
  have x1 := hid (show Ext w w1 from exE)
  go_wp2_with fail
  refine (works_any _).mono ?_; rintro e w2 ⟨rfl, hE2⟩
  go_wp2_with fail
  go_ret
  exact ⟨rfl, by have := x1.out; exact exE⟩
 rw [decide_eq_true g] at hf
 by_cases gpp : 20 < p.length
 ·have gIp : (20 : Int) < (p.length : Int) := by omega
  replace g := hid g
  clear hM hP
  go_enter Try.func10, Try.ntmps10
  go_wp2_with fail
  refine (hf.out _ exE).mono ?_; rintro e w1 ⟨rfl, hE⟩
  have x1 := hid (show Ext w w1 from exE)
  go_wp2_with fail
  refine (works_any _).mono ?_; rintro e w2 ⟨rfl, hE2⟩
  go_wp2_with fail
  go_ret
  exact ⟨rfl, by have := x1.out; exact exE⟩
 have gIp : ¬ (20 : Int) < (p.length : Int) := by omega
 obtain ⟨v, hu, hc⟩ := chkB_ok g
 have n1 := v.n1; have n6 := v.n6
 have hl2 : l.length ≤ 1000 := by omega
 have hcm : chkM l = 0 := by by_cases h : chkM l = 0; exact h; (unfold chkB at g; rw [if_neg h] at g; exact absurd g h)
 have hmxx := hid (fun W (x : Ext w W) => mixedL_any l.length n6 p hp hlp ap cpp W (hP.ext x))
 have vxx := pln_vld (m := l.length) hp n1
 obtain ⟨x, hdfx⟩ : ∃ x, pln l.length p = x := ⟨_, rfl⟩
 rw [hdfx] at hmxx vxx
 have fx : Hid (∀ i, I64 (nth x i)) := hid fun i => ⟨by have := vxx.nn i; omega, by have := vxx.le i; omega⟩
 have xl := hid vxx.len
 have xl2 : x.length ≤ 1000 := by rw [xl.out]; omega
 obtain ⟨K, hK0⟩ : ∃ K : Nat, k = (K : Int) := ⟨k.toNat, by omega⟩
 subst hK0
 have n0 : 0 < l.length := by omega
 have hml := Nat.mod_lt K n0
 have hmod : ((K : Int)).tmod (l.length : Int) = ((K % l.length : Nat) : Int) := by rw [Int.tmod_eq_emod_of_nonneg (by omega)]; rfl
 obtain ⟨M, hMd⟩ : ∃ M, K % l.length = M := ⟨_, rfl⟩
 rw [hMd] at hml hmod
 obtain ⟨u2, hu2⟩ : ∃ z, (if 1000 < u + kl then 1000 else u + kl) = z := ⟨_, rfl⟩
 obtain ⟨c2, hc2⟩ : ∃ z, (if c - kc < 0 then 0 else c - kc) = z := ⟨_, rfl⟩
 have hu3 : (1000 < u + kl ∧ u2 = 1000) ∨ (u + kl < 1000 ∧ u2 = u + kl) ∨ (u + kl = 1000 ∧ u2 = 1000) := by split at hu2 <;> omega
 have hc3 : (c - kc < 0 ∧ c2 = 0) ∨ (0 < c - kc ∧ c2 = c - kc) ∨ (c - kc = 0 ∧ c2 = 0) := by split at hc2 <;> omega
 clear hu2 hc2
 have ru2 : (0 ≤ u2 ∧ u2 ≤ 1000) ∧ u ≤ u2 := by omega
 have rc2 : (0 ≤ c2 ∧ c2 ≤ 1000) ∧ c2 ≤ c := by omega
 have g2 := vld_chk v ru2.1 rc2.1
 have iu2 : I64 u2 := ⟨by omega, by omega⟩
 have ic2 : I64 c2 := ⟨by omega, by omega⟩
 have huc := hid (And.intro hu (And.intro hc (And.intro hkl0 hkc0)))
 replace hu3 := hid hu3; replace hc3 := hid hc3
 have hD1 := hid (fun a1 c1 W h1 h2 => by have := deserves_any l q hl2 a cap u c iu ic s x fx.out xl2 a1 c1 W h1 h2; rw [xl.out] at this; exact this)
 have hD2 := hid (fun a1 c1 W h1 h2 => by have := deserves_any l q hl2 a cap u2 c2 iu2 ic2 s x fx.out xl2 a1 c1 W h1 h2; rw [xl.out] at this; exact this)
 have hDt := hid (fun a1 c1 W h1 h2 => by have := deserves_any l q hl2 a cap u c iu ic true x fx.out xl2 a1 c1 W h1 h2; rw [xl.out] at this; exact this)
 have vn := narL_vld v M kl
 have hnl := hid (narL_len l M kl)
 have hDn := hid (fun a2 c2 a1 c1 W h1 h2 => by have := deserves_any (narL l M kl) (vld_fit vn) (by rw [narL_len]; exact hl2) a2 c2 u c iu ic true x fx.out xl2 a1 c1 W h1 h2; rw [xl.out, narL_len] at this; exact this)
 have hee : Hid ((desE l u c s x = 0 ∧ desE l u2 c2 s x = 0) ∨ desE l u c s x = 17) := hid (by rcases des_two (u := u) (c := c) g s vxx with h | h; exact .inl ⟨h, (gx_des g2 vxx).2 (gx_soft ru2.2 rc2.2 ((gx_des g vxx).1 h))⟩; exact .inr h)
 have hnn : Hid (desE l u c true x = 17 ∨ (desE l u c true x = 0 ∧ desE (narL l M kl) u c true x = 0)) := hid (by rcases des_two (u := u) (c := c) g true vxx with h | h; exact .inr ⟨h, des_nar g M kl vxx h⟩; exact .inl h)
 have hL1 := hid (fun W h => leastL_any l q g a cap iu ic s W h)
 have hL2 := hid (fun W h => leastL_any l q g2 a cap iu2 ic2 s W h)
 have lm := lst_mono (s := s) (s' := s) g g2 (fun x gx => ⟨x, gx_soft ru2.2 rc2.2 gx, Int.le_refl _⟩)
 have o1 := lst_ok g s
 have o2 := lst_ok g2 s
 have hcc : Hid ((decide (cheE l u c s = 0) = true ∧ decide (cheE l u2 c2 s = 0) = true ∧ (∀ W, Calls Try.prog 46 #[(.agg #[.int .i64 (lstN l u c s), .int .i64 (lstD l u c s)]), (.agg #[.int .i64 (lstN l u2 c2 s), .int .i64 (lstD l u2 c2 s)])] W fun e w' => e = .returned (.bool false) ∧ Ext W w')) ∨ decide (cheE l u c s = 0) = false) := hid (by
  by_cases e1 : cheE l u c s = 0
  ·have k1 := lm e1
   exact .inl ⟨decide_eq_true e1, decide_eq_true k1.1, fun W => by have := lessR_any _ _ _ _ (OkS.mul (o1 e1) (o2 k1.1)) (OkS.mul (o2 k1.1) (o1 e1)) W; rw [k1.2] at this; exact this⟩
  ·exact .inr (decide_eq_false e1))
 have hS1 := hid (fun W h => by have := share_any l q hl2 a cap u c iu ic s (M : Int) ⟨by omega, by omega⟩ W h; rw [she_che g s hml] at this; exact this)
 have hS2 := hid (fun W h => by have := share_any l q hl2 a cap u2 c2 iu2 ic2 s (M : Int) ⟨by omega, by omega⟩ W h; rw [she_che g2 s hml] at this; exact this)
 have hst : Hid (cheE l u c s = 0 → cheE l u2 c2 s = 0 ∧ OkS (nth (shX l u c s (M : Int)) 0) (nth (shX l u c s (M : Int)) 1) ∧ OkS (nth (shX l u c s (M : Int)) 2) (nth (shX l u c s (M : Int)) 3) ∧ OkS (nth (shX l u2 c2 s (M : Int)) 0) (nth (shX l u2 c2 s (M : Int)) 1) ∧ OkS (nth (shX l u2 c2 s (M : Int)) 2) (nth (shX l u2 c2 s (M : Int)) 3) ∧ lessB (nth (shX l u c s (M : Int)) 2) (nth (shX l u c s (M : Int)) 3) (nth (shX l u c s (M : Int)) 0) (nth (shX l u c s (M : Int)) 1) = false ∧ lessB (nth (shX l u c s (M : Int)) 0) (nth (shX l u c s (M : Int)) 1) (nth (shX l u2 c2 s (M : Int)) 0) (nth (shX l u2 c2 s (M : Int)) 1) = false ∧ lessB (nth (shX l u2 c2 s (M : Int)) 2) (nth (shX l u2 c2 s (M : Int)) 3) (nth (shX l u c s (M : Int)) 2) (nth (shX l u c s (M : Int)) 3) = false) := hid fun h => by
  have k1 := sh_all g hml h; have h2 := (lm h).1; have k2 := sh_all g2 hml h2; have k3 := sh_soft g g2 ru2.2 rc2.2 hml h h2
  exact ⟨h2, k1.o1, k1.o2, k2.o1, k2.o2, k1.le, k3.1, k3.2⟩
 have hKn := hid (fun a1 c1 W h1 h2 => knownL_any l v [kl] (fun i => by rcases i with _ | i; exact hkl0; simp [nth]) (by simp) a cap a1 c1 W h1 h2)
 unfold RetM at hKn
 have hKn : Hid (∀ a1 c1 W, Mts W a l → Wrds W a1 [kl] → Calls Try.prog 47 #[.slice a l.length cap, .slice a1 1 c1] W fun e w' => ∃ a9 c9, e = .returned (.slice a9 (knL l [kl]).length c9) ∧ Mts w' a9 (knL l [kl]) ∧ Ext W w') := hid (fun a1 c1 W h1 h2 => hKn.out a1 c1 W h1 h2)
 have hkl := hid (knL_len l [kl])
 have hkm := hid (show mtl (knL l [kl]) M = knM (mtl l M) kl by rw [knL_at _ hml]; unfold plN; simp [nth, Nat.mod_one])
 have hwn : Hid (∀ W a2 k2, OwnG W 0 68 5 (.slice a2 l.length k2) (fun j r => mtV (if j = M then knM (mtl l M) kl else mtl l j) r) l.length → Mts W a2 (narL l M kl)) := hid fun W a2 k2 h => by obtain ⟨a9, c9, e9, h9⟩ := mts_own (f := fun j => if j = M then knM (mtl l M) kl else mtl l j) h (narL_len l M kl) (fun j hj => narL_at M kl hj); cases e9; exact h9
 have hdc := hid (che_two g s)
 obtain ⟨bm, om, hae, hbm, hmc⟩ := hM.at n0
 subst hae
 have hcl := hid (mts_cells hmc)
 clear hbm hmc
 replace hM := hid hM
 replace g := hid g
 clear q v hu hc hcm vxx hdfx gpp hl2 o1 o2 lm g2 ru2 rc2 vn
 replace hP := hid hP
 replace hkl0 := hid hkl0; replace hkc0 := hid hkc0
 obtain ⟨n, hn⟩ : ∃ n, l.length = n := ⟨_, rfl⟩
 rw [hn] at hf hmxx n1 n6 n0 hml hmod xl hD1 hD2 hDt hDn hL1 hL2 hS1 hS2 hKn hwn hcl hnl hkl ⊢
 replace hn := hid hn
 replace hMd := hid hMd
 generalize lstN l u c s = N1 at *
 generalize lstD l u c s = D1 at *
 generalize lstN l u2 c2 s = N2 at *
 generalize lstD l u2 c2 s = D2 at *
 generalize cheE l u c s = EC at *
 generalize cheE l u2 c2 s = EX2 at *
 generalize desE l u c s x = E1 at *
 generalize desE l u2 c2 s x = E2 at *
 generalize desE l u c true x = Et at *
 generalize desE (narL l M kl) u c true x = En at *
 generalize nth (shX l u c s (M : Int)) 0 = A0 at *
 generalize nth (shX l u c s (M : Int)) 1 = A1 at *
 generalize nth (shX l u c s (M : Int)) 2 = A2 at *
 generalize nth (shX l u c s (M : Int)) 3 = A3 at *
 generalize nth (shX l u2 c2 s (M : Int)) 0 = S0 at *
 generalize nth (shX l u2 c2 s (M : Int)) 1 = S1 at *
 generalize nth (shX l u2 c2 s (M : Int)) 2 = S2 at *
 generalize nth (shX l u2 c2 s (M : Int)) 3 = S3 at *
 generalize narL l M kl = NL at *
 generalize knL l [kl] = KL at *
 rcases hdc.out with gE | gE
 ·obtain ⟨hE2, k1, k2, k3, k4, k5, k6, k7⟩ := hst.out gE
  have q1 := hid (fun W => smallL_any _ _ k1 W); have q2 := hid (fun W => smallL_any _ _ k2 W); have q3 := hid (fun W => smallL_any _ _ k3 W); have q4 := hid (fun W => smallL_any _ _ k4 W)
  have r1 := hid (fun W => by have := lessR_any _ _ _ _ (OkS.mul k1 k3) (OkS.mul k3 k1) W; rw [k6] at this; exact this); have r2 := hid (fun W => by have := lessR_any _ _ _ _ (OkS.mul k4 k2) (OkS.mul k2 k4) W; rw [k7] at this; exact this); have r3 := hid (fun W => by have := lessR_any _ _ _ _ (OkS.mul k2 k1) (OkS.mul k1 k2) W; rw [k5] at this; exact this)
  subst gE; subst hE2
  rw [show decide ((0 : Int) = 0) = true from rfl] at hL1 hL2 hcc
  have hcL : Hid (∀ W, Calls Try.prog 46 #[(.agg #[.int .i64 (N1), .int .i64 (D1)]), (.agg #[.int .i64 (N2), .int .i64 (D2)])] W fun e w' => e = .returned (.bool false) ∧ Ext W w') := hid (hcc.out.elim (fun h => h.2.2) (fun h => by cases h))
  clear hcc k1 k2 k3 k4 k5 k6 k7 hst hdc
  have hn2 : (0 : Int) < (n : Int) := by omega
  have e0 : ((n : Int) == 0) = false := by rw [beq_eq_false_iff_ne]; omega
  have e3 : (n : Int) ≠ 0 := by omega
  have e4 : ¬ (n : Int) = 0 := by omega
  have hiM : (M : Int) < (n : Int) := by omega
  go_enter Try.func10, Try.ntmps10
  go_wp2_with fail
  refine (hf.out _ exE).mono ?_; rintro e w1 ⟨rfl, hE⟩
  have X := hid (show Ext w w1 from exE)
  have t := hid (show C2 w1 w.heap.size (u) (c) from ⟨hE.cell (p := ⟨w.heap.size, 0, none⟩) (v := .int .i64 (u)) (by simp [go_sem]), hE.cell (p := ⟨w.heap.size, 1, none⟩) (v := .int .i64 (c)) (by simp [go_sem])⟩)
  replace hM := hid (hM.out.ext X.out)
  obtain ⟨T, hT⟩ : ∃ T, w.heap.size = T := ⟨_, rfl⟩
  rw [hT] at t ⊢
  clear hE hf hT
  go_upto_region 3 with (fail)
  refine name_wp (fun v1 hv => ?_)
  have x1 : Ext w1 v1 := by rw [hv]; exact exE
  replace X := hid (X.out.trans x1); replace hM := hid (hM.out.ext x1); replace t := hid (t.out.ext x1)
  clear hv x1
  refine wp_mono (stS3 t.out.1 t.out.2 huc.out.1 huc.out.2.1 huc.out.2.2.1 huc.out.2.2.2 hu3.out hc3.out) ?_
  rintro e a' v80 ⟨rfl, B15, zP', zQ', zR', zS', zT', zU', zV', zW', zX', zY', zZ', uA', uB', rfl, x, n0_⟩
  replace X := hid (X.out.trans x); replace hM := hid (hM.out.ext x); replace t := hid (t.out.ext x)
  have bx := hid n0_
  clear x n0_
  go_wp2_with fail
  refine name_c (fun v2 hv => ?_)
  have x1 : Ext v80 v2 := by rw [hv]; exact exE
  replace X := hid (X.out.trans x1); replace hM := hid (hM.out.ext x1); replace t := hid (t.out.ext x1); replace bx := hid (bx.out.ext x1)
  clear hv x1
  refine (hmxx.out _ X.out).mono ?_; rintro e u3 ⟨a1, k1, rfl, hI, hE⟩
  replace X := hid (X.out.trans hE); replace hM := hid (hM.out.ext hE); replace t := hid (t.out.ext hE); replace bx := hid (bx.out.ext hE)
  clear hE
  replace hI := hid hI
  rw [xl.out]
  obtain ⟨o0, o1⟩ := t.out; have lo0 := cell_lt o0; dsimp only at lo0
  go_wp2_with fail
  refine name_c (fun v4 hv => ?_)
  have x1 : Ext u3 v4 := by rw [hv]; exact exE
  replace X := hid (X.out.trans x1); replace hM := hid (hM.out.ext x1); replace t := hid (t.out.ext x1); replace bx := hid (bx.out.ext x1)
  replace hI := hid (hI.out.ext x1)
  clear o0 o1 lo0
  clear hv x1
  refine (hL1.out _ hM.out).mono ?_; rintro e u5 ⟨rfl, hE⟩
  replace X := hid (X.out.trans hE); replace hM := hid (hM.out.ext hE); replace t := hid (t.out.ext hE); replace bx := hid (bx.out.ext hE)
  replace hI := hid (hI.out.ext hE)
  clear hE
  obtain ⟨o0, o1⟩ := bx.out; have lo0 := cell_lt o0; dsimp only at lo0
  go_wp2_with fail
  refine name_c (fun v6 hv => ?_)
  have x1 : Ext u5 v6 := by rw [hv]; exact exE
  have b18 := hid (show C2 v6 u5.heap.size (N1) (D1) from ⟨by rw [hv]; simp [go_sem], by rw [hv]; simp [go_sem]⟩)
  replace X := hid (X.out.trans x1); replace hM := hid (hM.out.ext x1); replace t := hid (t.out.ext x1); replace bx := hid (bx.out.ext x1)
  replace hI := hid (hI.out.ext x1)
  clear o0 o1 lo0
  clear hv x1
  obtain ⟨Bb18, hBn⟩ : ∃ z, u5.heap.size = z := ⟨_, rfl⟩
  rw [hBn] at b18 ⊢
  clear hBn
  refine (hL2.out _ hM.out).mono ?_; rintro e u7 ⟨rfl, hE⟩
  replace X := hid (X.out.trans hE); replace hM := hid (hM.out.ext hE); replace t := hid (t.out.ext hE); replace bx := hid (bx.out.ext hE)
  replace hI := hid (hI.out.ext hE); replace b18 := hid (b18.out.ext hE)
  clear hE
  go_upto_region 8 with (fail)
  refine name_wp (fun v8 hv => ?_)
  have x1 : Ext u7 v8 := by rw [hv]; exact exE
  have b21 := hid (show C2 v8 u7.heap.size (N2) (D2) from ⟨by rw [hv]; simp [go_sem], by rw [hv]; simp [go_sem]⟩)
  replace X := hid (X.out.trans x1); replace hM := hid (hM.out.ext x1); replace t := hid (t.out.ext x1); replace bx := hid (bx.out.ext x1)
  replace hI := hid (hI.out.ext x1); replace b18 := hid (b18.out.ext x1)
  clear hv x1
  obtain ⟨Bb21, hBn⟩ : ∃ z, u7.heap.size = z := ⟨_, rfl⟩
  rw [hBn] at b21 ⊢
  clear hBn
  refine wp_mono (stS8 (fun W h => hD1.out _ _ W (hM.out.ext h) (hI.out.ext h)) (fun W h => hD2.out _ _ W (hM.out.ext h) (hI.out.ext h)) (.inl ⟨rfl, rfl, hcL.out⟩) hee.out t.out.1 t.out.2 bx.out.1 bx.out.2 b18.out.1 b18.out.2 b21.out.1 b21.out.2) ?_
  rintro e a' v81 ⟨rfl, iB', iC', iD', iE', iF', iG', iH', iI', iJ', iK', iL', iM', iN', iO', iP', iQ', iR', iS', iT', iU', iV', iW', iX', iY', iZ', oA', oB', oC', oD', oE', oF', oG', oH', rfl, x⟩
  replace X := hid (X.out.trans x); replace hM := hid (hM.out.ext x); replace t := hid (t.out.ext x); replace bx := hid (bx.out.ext x)
  replace hI := hid (hI.out.ext x); replace b18 := hid (b18.out.ext x); replace b21 := hid (b21.out.ext x)
  clear x
  obtain ⟨o0, o1⟩ := t.out; have lo0 := cell_lt o0; dsimp only at lo0
  go_wp2_with fail
  refine name_c (fun v9 hv => ?_)
  have x1 : Ext v81 v9 := by rw [hv]; exact exE
  replace X := hid (X.out.trans x1); replace hM := hid (hM.out.ext x1); replace t := hid (t.out.ext x1); replace bx := hid (bx.out.ext x1)
  replace hI := hid (hI.out.ext x1); replace b18 := hid (b18.out.ext x1); replace b21 := hid (b21.out.ext x1)
  clear o0 o1 lo0
  clear hv x1
  refine (hS1.out _ hM.out).mono ?_; rintro e u10 ⟨rfl, hE⟩
  replace X := hid (X.out.trans hE); replace hM := hid (hM.out.ext hE); replace t := hid (t.out.ext hE); replace bx := hid (bx.out.ext hE)
  replace hI := hid (hI.out.ext hE); replace b18 := hid (b18.out.ext hE); replace b21 := hid (b21.out.ext hE)
  clear hE
  obtain ⟨o0, o1⟩ := bx.out; have lo0 := cell_lt o0; dsimp only at lo0
  go_wp2_with fail
  refine name_c (fun v11 hv => ?_)
  have x1 : Ext u10 v11 := by rw [hv]; exact exE
  have b24 := hid (show C2 v11 u10.heap.size (A0) (A1) from ⟨by rw [hv]; simp [go_sem], by rw [hv]; simp [go_sem]⟩)
  have b25 := hid (show C2 v11 (u10.heap.size + 1) (A2) (A3) from ⟨by rw [hv]; simp [go_sem], by rw [hv]; simp [go_sem]⟩)
  replace X := hid (X.out.trans x1); replace hM := hid (hM.out.ext x1); replace t := hid (t.out.ext x1); replace bx := hid (bx.out.ext x1)
  replace hI := hid (hI.out.ext x1); replace b18 := hid (b18.out.ext x1); replace b21 := hid (b21.out.ext x1)
  clear o0 o1 lo0
  clear hv x1
  obtain ⟨Bb24, hBn⟩ : ∃ z, u10.heap.size = z := ⟨_, rfl⟩
  rw [hBn] at b24 b25 ⊢
  clear hBn
  refine (hS2.out _ hM.out).mono ?_; rintro e u12 ⟨rfl, hE⟩
  replace X := hid (X.out.trans hE); replace hM := hid (hM.out.ext hE); replace t := hid (t.out.ext hE); replace bx := hid (bx.out.ext hE)
  replace hI := hid (hI.out.ext hE); replace b18 := hid (b18.out.ext hE); replace b21 := hid (b21.out.ext hE); replace b24 := hid (b24.out.ext hE)
  replace b25 := hid (b25.out.ext hE)
  clear hE
  go_upto_region 13 with (fail)
  refine name_wp (fun v13 hv => ?_)
  have x1 : Ext u12 v13 := by rw [hv]; exact exE
  have b27 := hid (show C2 v13 u12.heap.size (S0) (S1) from ⟨by rw [hv]; simp [go_sem], by rw [hv]; simp [go_sem]⟩)
  have b28 := hid (show C2 v13 (u12.heap.size + 1) (S2) (S3) from ⟨by rw [hv]; simp [go_sem], by rw [hv]; simp [go_sem]⟩)
  replace X := hid (X.out.trans x1); replace hM := hid (hM.out.ext x1); replace t := hid (t.out.ext x1); replace bx := hid (bx.out.ext x1)
  replace hI := hid (hI.out.ext x1); replace b18 := hid (b18.out.ext x1); replace b21 := hid (b21.out.ext x1); replace b24 := hid (b24.out.ext x1)
  replace b25 := hid (b25.out.ext x1)
  clear hv x1
  obtain ⟨Bb27, hBn⟩ : ∃ z, u12.heap.size = z := ⟨_, rfl⟩
  rw [hBn] at b27 b28 ⊢
  clear hBn
  refine wp_mono (stS13 q1.out q2.out q3.out q4.out r1.out r2.out r3.out b24.out.1 b24.out.2 b25.out.1 b25.out.2 b27.out.1 b27.out.2 b28.out.1 b28.out.2) ?_
  rintro e a' v82 ⟨rfl, qC', qD', qE', qF', qG', qH', qI', qJ', qK', qL', qM', qN', qO', qP', qQ', qR', qS', qT', qU', qV', qW', qX', qY', qZ', rA', rB', rC', rD', rE', rF', rG', rH', rI', rJ', rK', rL', rM', rN', rO', rP', rfl, x⟩
  replace X := hid (X.out.trans x); replace hM := hid (hM.out.ext x); replace t := hid (t.out.ext x); replace bx := hid (bx.out.ext x)
  replace hI := hid (hI.out.ext x); replace b18 := hid (b18.out.ext x); replace b21 := hid (b21.out.ext x); replace b24 := hid (b24.out.ext x)
  replace b25 := hid (b25.out.ext x); replace b27 := hid (b27.out.ext x); replace b28 := hid (b28.out.ext x)
  clear x
  go_upto_region 15 with (fail)
  refine name_wp (fun v14 hv => ?_)
  have x1 : Ext v82 v14 := by rw [hv]; exact exE
  replace X := hid (X.out.trans x1); replace hM := hid (hM.out.ext x1); replace t := hid (t.out.ext x1); replace bx := hid (bx.out.ext x1)
  replace hI := hid (hI.out.ext x1); replace b18 := hid (b18.out.ext x1); replace b21 := hid (b21.out.ext x1); replace b24 := hid (b24.out.ext x1)
  replace b25 := hid (b25.out.ext x1); replace b27 := hid (b27.out.ext x1); replace b28 := hid (b28.out.ext x1)
  clear hv x1
  have hcv := hid (fun i hi r hr => X.out.cell (hcl.out i hi r hr))
  have lbm := cell_lt (hcv.out 0 n0 0 (by decide))
  dsimp only at lbm
  go_wp2_with (at_builtin; refine wpList_plain rfl (fun K hK => ?_); refine appG_wp _ _ _ rfl 68 5 40 Try.underlying22 elemMt (by decide) v14.heap.size (fun i r => mtV (mtl l i) r) 0 _ rfl bm om n cap (fun i r => mtV (mtl l i) r) rfl (OwnG.ext (OwnG.made v14 (Nat.le_refl _) _ _ _) exE) (fun i hi r hr => (show Ext v14 _ from exE).cell (hcv.out i hi r hr)) n0 (fun _ _ _ _ => rfl) (by omega) (by decide) (by simp) (fun i r => mtV (mtl l i) r) (fun _ _ h _ => absurd h (by omega)) (fun i r hi _ => by rw [Nat.zero_add]) ?_; intro b8 cp8 w8 own8 g8 at8 hb8 ext8; have own8 := hid own8; have hE8 := hid (ext8 v14 exE (Nat.le_refl _)); replace hb8 := hid hb8; clear g8 at8 ext8; rw [Nat.zero_add] at own8; try rw [Nat.zero_add]; refine hK _ _ ?_)
  refine name_c (fun va hv => ?_)
  have x9 : Ext w8 va := by rw [hv]; exact exE
  have hwl : Wrds va (some ⟨w8.heap.size, 0, none⟩) [kl] := fun i hi => by (have : i = 0 := by simpa using hi); subst this; exact ⟨_, _, rfl, by rw [hv]; simp [go_sem, nth]⟩
  clear hv
  have xB9 := hid (hE8.out.trans x9)
  refine (hKn.out _ _ _ (hM.out.ext xB9.out) hwl).mono ?_; rintro e vb ⟨a2, k2, rfl, hK, hE⟩
  have xB := hid (xB9.out.trans hE)
  have own := hid (OwnG.ext own8.out (x9.trans hE))
  clear hwl own8 hE8 x9 xB9 hE lbm
  obtain ⟨b2, o2, ha2, hkc⟩ := hK M (by rw [hkl.out]; exact hml)
  subst ha2
  rw [hkm.out] at hkc
  obtain ⟨q0, q1, q2, q3, q4⟩ := hkc
  obtain ⟨MP, hMP⟩ : ∃ z, knM (mtl l M) kl = z := ⟨_, rfl⟩
  rw [hMP] at q0 q1 q2 q3 q4 hkm hwn
  obtain ⟨mp, m1, m2, m3, m4⟩ := MP
  dsimp only at q0 q1 q2 q3 q4
  replace hMP := hid hMP
  clear hK
  have y0 := OwnG.facts own.out hml (r := 0) (by decide)
  have y1 := OwnG.facts own.out hml (r := 1) (by decide)
  have y2 := OwnG.facts own.out hml (r := 2) (by decide)
  have y3 := OwnG.facts own.out hml (r := 3) (by decide)
  have y4 := OwnG.facts own.out hml (r := 4) (by decide)
  have yl := y0.2.2.2
  have z0 := y0.2.1; replace y0 := y0.1
  have z1 := y1.2.1; replace y1 := y1.1
  have z2 := y2.2.1; replace y2 := y2.1
  have z3 := y3.2.1; replace y3 := y3.1
  have z4 := y4.2.1; replace y4 := y4.1
  dsimp only [Nat.add_zero] at y0 z0
  have lq := cell_lt q0; dsimp only at lq
  rw [hkl.out]
  skip
  rcases hnn.out with hE0 | ⟨hE0, hE1⟩
  ·rw [hE0] at hDt
   have ot := t.out.1; have ot1 := t.out.2
   replace ot := xB.out.cell ot; replace ot1 := xB.out.cell ot1
   have lt0 := cell_lt ot; dsimp only at lt0
   have lt9 := cell_lt t.out.1; dsimp only at lt9
   have hbb := hb8.out
   go_wp2_with fail
   refine name_c (fun vc hv => ?_)
   have own11 := hid (show OwnG vc v14.heap.size 68 5 (.slice (some ⟨b8, 0, none⟩) n cp8) (fun j r => mtV (if j = M then ⟨mp, m1, m2, m3, m4⟩ else mtl l j) r) n by rw [hv]; exact OwnG.ext (own_met own.out hml ⟨mp, m1, m2, m3, m4⟩) exE)
   have x1 : Ext v14 vc := by rw [hv]; have := xB.out; exact exE
   clear hv ot ot1 lt0 lt9 y0 y1 y2 y3 y4 z0 z1 z2 z3 z4 q0 q1 q2 q3 q4 lq yl xB own
   replace X := hid (X.out.trans x1); replace hM := hid (hM.out.ext x1); replace t := hid (t.out.ext x1); replace bx := hid (bx.out.ext x1)
   replace hI := hid (hI.out.ext x1); replace b18 := hid (b18.out.ext x1); replace b21 := hid (b21.out.ext x1); replace b24 := hid (b24.out.ext x1)
   replace b25 := hid (b25.out.ext x1); replace b27 := hid (b27.out.ext x1); replace b28 := hid (b28.out.ext x1)
   have hN := hid (hwn.out _ _ _ (OwnG.mono own11.out (Nat.zero_le _)))
   clear x1 own11
   refine (hDt.out _ _ _ hM.out hI.out).mono ?_; rintro e u15 ⟨rfl, hE⟩
   replace X := hid (X.out.trans hE); replace hM := hid (hM.out.ext hE); replace t := hid (t.out.ext hE); replace bx := hid (bx.out.ext hE)
   replace hI := hid (hI.out.ext hE); replace b18 := hid (b18.out.ext hE); replace b21 := hid (b21.out.ext hE); replace b24 := hid (b24.out.ext hE)
   replace b25 := hid (b25.out.ext hE); replace b27 := hid (b27.out.ext hE); replace b28 := hid (b28.out.ext hE); replace hN := hid (hN.out.ext hE)
   clear hE
   go_wp2_with fail
   refine (works_any _).mono ?_; rintro e w9 ⟨rfl, hE9⟩
   have X9 := hid (X.out.trans (show Ext u15 w9 from exE))
   go_wp2_with fail
   go_ret
   exact ⟨rfl, X9.out⟩
  ·rw [hE0] at hDt; rw [hE1] at hDn
   have ot := t.out.1; have ot1 := t.out.2
   replace ot := xB.out.cell ot; replace ot1 := xB.out.cell ot1
   have lt0 := cell_lt ot; dsimp only at lt0
   have lt9 := cell_lt t.out.1; dsimp only at lt9
   have hbb := hb8.out
   go_wp2_with fail
   refine name_c (fun vc hv => ?_)
   have own11 := hid (show OwnG vc v14.heap.size 68 5 (.slice (some ⟨b8, 0, none⟩) n cp8) (fun j r => mtV (if j = M then ⟨mp, m1, m2, m3, m4⟩ else mtl l j) r) n by rw [hv]; exact OwnG.ext (own_met own.out hml ⟨mp, m1, m2, m3, m4⟩) exE)
   have x1 : Ext v14 vc := by rw [hv]; have := xB.out; exact exE
   clear hv ot ot1 lt0 lt9 y0 y1 y2 y3 y4 z0 z1 z2 z3 z4 q0 q1 q2 q3 q4 lq yl xB own
   replace X := hid (X.out.trans x1); replace hM := hid (hM.out.ext x1); replace t := hid (t.out.ext x1); replace bx := hid (bx.out.ext x1)
   replace hI := hid (hI.out.ext x1); replace b18 := hid (b18.out.ext x1); replace b21 := hid (b21.out.ext x1); replace b24 := hid (b24.out.ext x1)
   replace b25 := hid (b25.out.ext x1); replace b27 := hid (b27.out.ext x1); replace b28 := hid (b28.out.ext x1)
   have hN := hid (hwn.out _ _ _ (OwnG.mono own11.out (Nat.zero_le _)))
   clear x1 own11
   refine (hDt.out _ _ _ hM.out hI.out).mono ?_; rintro e u15 ⟨rfl, hE⟩
   replace X := hid (X.out.trans hE); replace hM := hid (hM.out.ext hE); replace t := hid (t.out.ext hE); replace bx := hid (bx.out.ext hE)
   replace hI := hid (hI.out.ext hE); replace b18 := hid (b18.out.ext hE); replace b21 := hid (b21.out.ext hE); replace b24 := hid (b24.out.ext hE)
   replace b25 := hid (b25.out.ext hE); replace b27 := hid (b27.out.ext hE); replace b28 := hid (b28.out.ext hE); replace hN := hid (hN.out.ext hE)
   clear hE
   obtain ⟨o0, o1⟩ := t.out; have lo0 := cell_lt o0; dsimp only at lo0
   go_wp2_with fail
   refine name_c (fun v16 hv => ?_)
   have x1 : Ext u15 v16 := by rw [hv]; exact exE
   replace X := hid (X.out.trans x1); replace hM := hid (hM.out.ext x1); replace t := hid (t.out.ext x1); replace bx := hid (bx.out.ext x1)
   replace hI := hid (hI.out.ext x1); replace b18 := hid (b18.out.ext x1); replace b21 := hid (b21.out.ext x1); replace b24 := hid (b24.out.ext x1)
   replace b25 := hid (b25.out.ext x1); replace b27 := hid (b27.out.ext x1); replace b28 := hid (b28.out.ext x1); replace hN := hid (hN.out.ext x1)
   clear o0 o1 lo0
   clear hv x1
   refine (hDn.out _ _ _ _ _ hN.out hI.out).mono ?_; rintro e u17 ⟨rfl, hE⟩
   replace X := hid (X.out.trans hE); replace hM := hid (hM.out.ext hE); replace t := hid (t.out.ext hE); replace bx := hid (bx.out.ext hE)
   replace hI := hid (hI.out.ext hE); replace b18 := hid (b18.out.ext hE); replace b21 := hid (b21.out.ext hE); replace b24 := hid (b24.out.ext hE)
   replace b25 := hid (b25.out.ext hE); replace b27 := hid (b27.out.ext hE); replace b28 := hid (b28.out.ext hE); replace hN := hid (hN.out.ext hE)
   clear hE
   go_wp2_with fail
   refine (works_any _).mono ?_; rintro e w9 ⟨rfl, hE9⟩
   have X9 := hid (X.out.trans (show Ext u17 w9 from exE))
   go_wp2_with fail
   go_ret
   exact ⟨rfl, X9.out⟩
 ·subst gE
  rw [show decide ((17 : Int) = 0) = false from rfl] at hL1
  obtain ⟨bX, hbX⟩ : ∃ z, decide (EX2 = 0) = z := ⟨_, rfl⟩
  rw [hbX] at hL2
  clear hst hdc hbX hcc
  have hn2 : (0 : Int) < (n : Int) := by omega
  have e0 : ((n : Int) == 0) = false := by rw [beq_eq_false_iff_ne]; omega
  have e3 : (n : Int) ≠ 0 := by omega
  have e4 : ¬ (n : Int) = 0 := by omega
  have hiM : (M : Int) < (n : Int) := by omega
  go_enter Try.func10, Try.ntmps10
  go_wp2_with fail
  refine (hf.out _ exE).mono ?_; rintro e w1 ⟨rfl, hE⟩
  have X := hid (show Ext w w1 from exE)
  have t := hid (show C2 w1 w.heap.size (u) (c) from ⟨hE.cell (p := ⟨w.heap.size, 0, none⟩) (v := .int .i64 (u)) (by simp [go_sem]), hE.cell (p := ⟨w.heap.size, 1, none⟩) (v := .int .i64 (c)) (by simp [go_sem])⟩)
  replace hM := hid (hM.out.ext X.out)
  obtain ⟨T, hT⟩ : ∃ T, w.heap.size = T := ⟨_, rfl⟩
  rw [hT] at t ⊢
  clear hE hf hT
  go_upto_region 3 with (fail)
  refine name_wp (fun v1 hv => ?_)
  have x1 : Ext w1 v1 := by rw [hv]; exact exE
  replace X := hid (X.out.trans x1); replace hM := hid (hM.out.ext x1); replace t := hid (t.out.ext x1)
  clear hv x1
  refine wp_mono (stS3 t.out.1 t.out.2 huc.out.1 huc.out.2.1 huc.out.2.2.1 huc.out.2.2.2 hu3.out hc3.out) ?_
  rintro e a' v80 ⟨rfl, B15, zP', zQ', zR', zS', zT', zU', zV', zW', zX', zY', zZ', uA', uB', rfl, x, n0_⟩
  replace X := hid (X.out.trans x); replace hM := hid (hM.out.ext x); replace t := hid (t.out.ext x)
  have bx := hid n0_
  clear x n0_
  go_wp2_with fail
  refine name_c (fun v2 hv => ?_)
  have x1 : Ext v80 v2 := by rw [hv]; exact exE
  replace X := hid (X.out.trans x1); replace hM := hid (hM.out.ext x1); replace t := hid (t.out.ext x1); replace bx := hid (bx.out.ext x1)
  clear hv x1
  refine (hmxx.out _ X.out).mono ?_; rintro e u3 ⟨a1, k1, rfl, hI, hE⟩
  replace X := hid (X.out.trans hE); replace hM := hid (hM.out.ext hE); replace t := hid (t.out.ext hE); replace bx := hid (bx.out.ext hE)
  clear hE
  replace hI := hid hI
  rw [xl.out]
  obtain ⟨o0, o1⟩ := t.out; have lo0 := cell_lt o0; dsimp only at lo0
  go_wp2_with fail
  refine name_c (fun v4 hv => ?_)
  have x1 : Ext u3 v4 := by rw [hv]; exact exE
  replace X := hid (X.out.trans x1); replace hM := hid (hM.out.ext x1); replace t := hid (t.out.ext x1); replace bx := hid (bx.out.ext x1)
  replace hI := hid (hI.out.ext x1)
  clear o0 o1 lo0
  clear hv x1
  refine (hL1.out _ hM.out).mono ?_; rintro e u5 ⟨rfl, hE⟩
  replace X := hid (X.out.trans hE); replace hM := hid (hM.out.ext hE); replace t := hid (t.out.ext hE); replace bx := hid (bx.out.ext hE)
  replace hI := hid (hI.out.ext hE)
  clear hE
  obtain ⟨o0, o1⟩ := bx.out; have lo0 := cell_lt o0; dsimp only at lo0
  go_wp2_with fail
  refine name_c (fun v6 hv => ?_)
  have x1 : Ext u5 v6 := by rw [hv]; exact exE
  have b18 := hid (show C2 v6 u5.heap.size (N1) (D1) from ⟨by rw [hv]; simp [go_sem], by rw [hv]; simp [go_sem]⟩)
  replace X := hid (X.out.trans x1); replace hM := hid (hM.out.ext x1); replace t := hid (t.out.ext x1); replace bx := hid (bx.out.ext x1)
  replace hI := hid (hI.out.ext x1)
  clear o0 o1 lo0
  clear hv x1
  obtain ⟨Bb18, hBn⟩ : ∃ z, u5.heap.size = z := ⟨_, rfl⟩
  rw [hBn] at b18 ⊢
  clear hBn
  refine (hL2.out _ hM.out).mono ?_; rintro e u7 ⟨rfl, hE⟩
  replace X := hid (X.out.trans hE); replace hM := hid (hM.out.ext hE); replace t := hid (t.out.ext hE); replace bx := hid (bx.out.ext hE)
  replace hI := hid (hI.out.ext hE); replace b18 := hid (b18.out.ext hE)
  clear hE
  go_upto_region 8 with (fail)
  refine name_wp (fun v8 hv => ?_)
  have x1 : Ext u7 v8 := by rw [hv]; exact exE
  have b21 := hid (show C2 v8 u7.heap.size (N2) (D2) from ⟨by rw [hv]; simp [go_sem], by rw [hv]; simp [go_sem]⟩)
  replace X := hid (X.out.trans x1); replace hM := hid (hM.out.ext x1); replace t := hid (t.out.ext x1); replace bx := hid (bx.out.ext x1)
  replace hI := hid (hI.out.ext x1); replace b18 := hid (b18.out.ext x1)
  clear hv x1
  obtain ⟨Bb21, hBn⟩ : ∃ z, u7.heap.size = z := ⟨_, rfl⟩
  rw [hBn] at b21 ⊢
  clear hBn
  refine wp_mono (stS8 (fun W h => hD1.out _ _ W (hM.out.ext h) (hI.out.ext h)) (fun W h => hD2.out _ _ W (hM.out.ext h) (hI.out.ext h)) (.inr rfl) hee.out t.out.1 t.out.2 bx.out.1 bx.out.2 b18.out.1 b18.out.2 b21.out.1 b21.out.2) ?_
  rintro e a' v81 ⟨rfl, iB', iC', iD', iE', iF', iG', iH', iI', iJ', iK', iL', iM', iN', iO', iP', iQ', iR', iS', iT', iU', iV', iW', iX', iY', iZ', oA', oB', oC', oD', oE', oF', oG', oH', rfl, x⟩
  replace X := hid (X.out.trans x); replace hM := hid (hM.out.ext x); replace t := hid (t.out.ext x); replace bx := hid (bx.out.ext x)
  replace hI := hid (hI.out.ext x); replace b18 := hid (b18.out.ext x); replace b21 := hid (b21.out.ext x)
  clear x
  go_upto_region 15 with (fail)
  refine name_wp (fun v9 hv => ?_)
  have x1 : Ext v81 v9 := by rw [hv]; exact exE
  replace X := hid (X.out.trans x1); replace hM := hid (hM.out.ext x1); replace t := hid (t.out.ext x1); replace bx := hid (bx.out.ext x1)
  replace hI := hid (hI.out.ext x1); replace b18 := hid (b18.out.ext x1); replace b21 := hid (b21.out.ext x1)
  clear hv x1
  have hcv := hid (fun i hi r hr => X.out.cell (hcl.out i hi r hr))
  have lbm := cell_lt (hcv.out 0 n0 0 (by decide))
  dsimp only at lbm
  go_wp2_with (at_builtin; refine wpList_plain rfl (fun K hK => ?_); refine appG_wp _ _ _ rfl 68 5 40 Try.underlying22 elemMt (by decide) v9.heap.size (fun i r => mtV (mtl l i) r) 0 _ rfl bm om n cap (fun i r => mtV (mtl l i) r) rfl (OwnG.ext (OwnG.made v9 (Nat.le_refl _) _ _ _) exE) (fun i hi r hr => (show Ext v9 _ from exE).cell (hcv.out i hi r hr)) n0 (fun _ _ _ _ => rfl) (by omega) (by decide) (by simp) (fun i r => mtV (mtl l i) r) (fun _ _ h _ => absurd h (by omega)) (fun i r hi _ => by rw [Nat.zero_add]) ?_; intro b8 cp8 w8 own8 g8 at8 hb8 ext8; have own8 := hid own8; have hE8 := hid (ext8 v9 exE (Nat.le_refl _)); replace hb8 := hid hb8; clear g8 at8 ext8; rw [Nat.zero_add] at own8; try rw [Nat.zero_add]; refine hK _ _ ?_)
  refine name_c (fun va hv => ?_)
  have x9 : Ext w8 va := by rw [hv]; exact exE
  have hwl : Wrds va (some ⟨w8.heap.size, 0, none⟩) [kl] := fun i hi => by (have : i = 0 := by simpa using hi); subst this; exact ⟨_, _, rfl, by rw [hv]; simp [go_sem, nth]⟩
  clear hv
  have xB9 := hid (hE8.out.trans x9)
  refine (hKn.out _ _ _ (hM.out.ext xB9.out) hwl).mono ?_; rintro e vb ⟨a2, k2, rfl, hK, hE⟩
  have xB := hid (xB9.out.trans hE)
  have own := hid (OwnG.ext own8.out (x9.trans hE))
  clear hwl own8 hE8 x9 xB9 hE lbm
  obtain ⟨b2, o2, ha2, hkc⟩ := hK M (by rw [hkl.out]; exact hml)
  subst ha2
  rw [hkm.out] at hkc
  obtain ⟨q0, q1, q2, q3, q4⟩ := hkc
  obtain ⟨MP, hMP⟩ : ∃ z, knM (mtl l M) kl = z := ⟨_, rfl⟩
  rw [hMP] at q0 q1 q2 q3 q4 hkm hwn
  obtain ⟨mp, m1, m2, m3, m4⟩ := MP
  dsimp only at q0 q1 q2 q3 q4
  replace hMP := hid hMP
  clear hK
  have y0 := OwnG.facts own.out hml (r := 0) (by decide)
  have y1 := OwnG.facts own.out hml (r := 1) (by decide)
  have y2 := OwnG.facts own.out hml (r := 2) (by decide)
  have y3 := OwnG.facts own.out hml (r := 3) (by decide)
  have y4 := OwnG.facts own.out hml (r := 4) (by decide)
  have yl := y0.2.2.2
  have z0 := y0.2.1; replace y0 := y0.1
  have z1 := y1.2.1; replace y1 := y1.1
  have z2 := y2.2.1; replace y2 := y2.1
  have z3 := y3.2.1; replace y3 := y3.1
  have z4 := y4.2.1; replace y4 := y4.1
  dsimp only [Nat.add_zero] at y0 z0
  have lq := cell_lt q0; dsimp only at lq
  rw [hkl.out]
  skip
  rcases hnn.out with hE0 | ⟨hE0, hE1⟩
  ·rw [hE0] at hDt
   have ot := t.out.1; have ot1 := t.out.2
   replace ot := xB.out.cell ot; replace ot1 := xB.out.cell ot1
   have lt0 := cell_lt ot; dsimp only at lt0
   have lt9 := cell_lt t.out.1; dsimp only at lt9
   have hbb := hb8.out
   go_wp2_with fail
   refine name_c (fun vc hv => ?_)
   have own11 := hid (show OwnG vc v9.heap.size 68 5 (.slice (some ⟨b8, 0, none⟩) n cp8) (fun j r => mtV (if j = M then ⟨mp, m1, m2, m3, m4⟩ else mtl l j) r) n by rw [hv]; exact OwnG.ext (own_met own.out hml ⟨mp, m1, m2, m3, m4⟩) exE)
   have x1 : Ext v9 vc := by rw [hv]; have := xB.out; exact exE
   clear hv ot ot1 lt0 lt9 y0 y1 y2 y3 y4 z0 z1 z2 z3 z4 q0 q1 q2 q3 q4 lq yl xB own
   replace X := hid (X.out.trans x1); replace hM := hid (hM.out.ext x1); replace t := hid (t.out.ext x1); replace bx := hid (bx.out.ext x1)
   replace hI := hid (hI.out.ext x1); replace b18 := hid (b18.out.ext x1); replace b21 := hid (b21.out.ext x1)
   have hN := hid (hwn.out _ _ _ (OwnG.mono own11.out (Nat.zero_le _)))
   clear x1 own11
   refine (hDt.out _ _ _ hM.out hI.out).mono ?_; rintro e u10 ⟨rfl, hE⟩
   replace X := hid (X.out.trans hE); replace hM := hid (hM.out.ext hE); replace t := hid (t.out.ext hE); replace bx := hid (bx.out.ext hE)
   replace hI := hid (hI.out.ext hE); replace b18 := hid (b18.out.ext hE); replace b21 := hid (b21.out.ext hE); replace hN := hid (hN.out.ext hE)
   clear hE
   go_wp2_with fail
   refine (works_any _).mono ?_; rintro e w9 ⟨rfl, hE9⟩
   have X9 := hid (X.out.trans (show Ext u10 w9 from exE))
   go_wp2_with fail
   go_ret
   exact ⟨rfl, X9.out⟩
  ·rw [hE0] at hDt; rw [hE1] at hDn
   have ot := t.out.1; have ot1 := t.out.2
   replace ot := xB.out.cell ot; replace ot1 := xB.out.cell ot1
   have lt0 := cell_lt ot; dsimp only at lt0
   have lt9 := cell_lt t.out.1; dsimp only at lt9
   have hbb := hb8.out
   go_wp2_with fail
   refine name_c (fun vc hv => ?_)
   have own11 := hid (show OwnG vc v9.heap.size 68 5 (.slice (some ⟨b8, 0, none⟩) n cp8) (fun j r => mtV (if j = M then ⟨mp, m1, m2, m3, m4⟩ else mtl l j) r) n by rw [hv]; exact OwnG.ext (own_met own.out hml ⟨mp, m1, m2, m3, m4⟩) exE)
   have x1 : Ext v9 vc := by rw [hv]; have := xB.out; exact exE
   clear hv ot ot1 lt0 lt9 y0 y1 y2 y3 y4 z0 z1 z2 z3 z4 q0 q1 q2 q3 q4 lq yl xB own
   replace X := hid (X.out.trans x1); replace hM := hid (hM.out.ext x1); replace t := hid (t.out.ext x1); replace bx := hid (bx.out.ext x1)
   replace hI := hid (hI.out.ext x1); replace b18 := hid (b18.out.ext x1); replace b21 := hid (b21.out.ext x1)
   have hN := hid (hwn.out _ _ _ (OwnG.mono own11.out (Nat.zero_le _)))
   clear x1 own11
   refine (hDt.out _ _ _ hM.out hI.out).mono ?_; rintro e u10 ⟨rfl, hE⟩
   replace X := hid (X.out.trans hE); replace hM := hid (hM.out.ext hE); replace t := hid (t.out.ext hE); replace bx := hid (bx.out.ext hE)
   replace hI := hid (hI.out.ext hE); replace b18 := hid (b18.out.ext hE); replace b21 := hid (b21.out.ext hE); replace hN := hid (hN.out.ext hE)
   clear hE
   obtain ⟨o0, o1⟩ := t.out; have lo0 := cell_lt o0; dsimp only at lo0
   go_wp2_with fail
   refine name_c (fun v11 hv => ?_)
   have x1 : Ext u10 v11 := by rw [hv]; exact exE
   replace X := hid (X.out.trans x1); replace hM := hid (hM.out.ext x1); replace t := hid (t.out.ext x1); replace bx := hid (bx.out.ext x1)
   replace hI := hid (hI.out.ext x1); replace b18 := hid (b18.out.ext x1); replace b21 := hid (b21.out.ext x1); replace hN := hid (hN.out.ext x1)
   clear o0 o1 lo0
   clear hv x1
   refine (hDn.out _ _ _ _ _ hN.out hI.out).mono ?_; rintro e u12 ⟨rfl, hE⟩
   replace X := hid (X.out.trans hE); replace hM := hid (hM.out.ext hE); replace t := hid (t.out.ext hE); replace bx := hid (bx.out.ext hE)
   replace hI := hid (hI.out.ext hE); replace b18 := hid (b18.out.ext hE); replace b21 := hid (b21.out.ext hE); replace hN := hid (hN.out.ext hE)
   clear hE
   go_wp2_with fail
   refine (works_any _).mono ?_; rintro e w9 ⟨rfl, hE9⟩
   have X9 := hid (X.out.trans (show Ext u12 w9 from exE))
   go_wp2_with fail
   go_ret
   exact ⟨rfl, X9.out⟩
end Go.Proofs.Ytpnfhcnnodolbaa
