/- Texts of one proof, laid together: Range, Keep. -/
import Derived.Test.YtpnfhcnnodolbaaZB2
import Derived.RangeFuncWrites
import Derived.RangeFuncCalls
namespace Go.Proofs.Ytpnfhcnnodolbaa
set_option linter.unusedVariables false
set_option linter.unusedSimpArgs false
set_option linter.unusedSectionVars false
set_option linter.unnecessarySimpa false
open Go Go.RowKit
variable {F : Fence} {n : Nat} {P : Program}

def Stays {β : Type} (B : Nat) (J : β → World → Prop) : Prop := ∀ s A C row, J s A → World.grownBy A C row → (∀ r, row = some r → B ≤ r) → J s C
theorem Stays.alloc {β : Type} {B : Nat} {J : β → World → Prop} (h : Stays B J) {s : β} {W : World} (o : Obj) (k : J s W) : J s (W.alloc o) :=
 h s W _ none k (World.grownBy_alloc W o none) (fun _ e => by cases e)
theorem Stays.put {β : Type} {B : Nat} {J : β → World → Prop} (h : Stays B J) {s : β} {W : World} {l : Nat} (o : Obj) (hl : B ≤ l) (k : J s W) : J s (W.putObj l o) :=
 h s W _ (some l) k (grownBy_putObj' W l o) (fun _ e => by cases e; exact hl)
theorem Stays.mono {β : Type} {B B' : Nat} {J : β → World → Prop} (h : Stays B J) (hb : B ≤ B') : Stays B' J :=
 fun s A C row k hg hr => h s A C row k hg fun r e => Nat.le_trans hb (hr r e)
theorem stays_ext {β : Type} {w : World} {B : Nat} (hb : w.heap.size ≤ B) : Stays (β := β) B (fun _ W => Ext w W) :=
 fun _ _ _ _ k hg hr => k.grown hg fun r e => Nat.le_trans hb (hr r e)
theorem Stays.and {β : Type} {B : Nat} {J K : β → World → Prop} (h : Stays B J) (k : Stays B K) : Stays B (fun s W => J s W ∧ K s W) :=
 fun s A C row q hg hr => ⟨h s A C row q.1 hg hr, k s A C row q.2 hg hr⟩

structure KeepC (W W' : World) : Prop where
 size : W.heap.size ≤ W'.heap.size
 same : ∀ (k : Nat) (o : Obj), W.heap[k]? = some o → o.isCells = true → W'.heap[k]? = some o
theorem KeepC.refl (W : World) : KeepC W W := ⟨Nat.le_refl _, fun _ _ h _ => h⟩
theorem KeepC.trans {A B C : World} (h : KeepC A B) (k : KeepC B C) : KeepC A C := ⟨Nat.le_trans h.size k.size, fun i o hi ho => k.same i o (h.same i o hi ho) ho⟩
theorem KeepC.of_ext {A B : World} (h : Ext A B) : KeepC A B := ⟨Ext.size h, fun _ _ hi _ => h.heap hi⟩
theorem KeepC.put {W : World} {l : Nat} {o : Obj} (o' : Obj) (h : W.heap[l]? = some o) (ho : o.isCells = false) : KeepC W (W.putObj l o') :=
 ⟨by simp, fun k o2 hk h2 => by
  by_cases e : k = l
  ·subst e; rw [h] at hk; cases hk; rw [ho] at h2; cases h2
  ·exact (World.putObj_heap_other e).trans hk⟩

def Yields {α : Type} (F : Fence) (n : Nat) (P : Program) (g : Nat) (lb : Array Value) (encs : α → Array Value) (G : List α → α → Prop) (S Sp : List α → Prop) (w : World) : Prop :=
 ∀ (l : Nat) (J Jx : List α → World → Prop) (W : World), Ext w W → Stays W.heap.size J →
  (∀ pre x W1, G pre x → J pre W1 → YieldAt F (n - 1) P l (encs x) W1 fun e W' =>
   (e = .returned (.bool true) ∧ J (pre ++ [x]) W' ∧ KeepC W1 W') ∨ (e = .returned (.bool false) ∧ Jx (pre ++ [x]) W')) →
  J [] W →
  CallsIn F n P g (#[.func (.yield l) #[] #[]] ++ lb) W fun e W' => (∃ v, e = .returned v) ∧ ((∃ xs, S xs ∧ J xs W') ∨ (∃ pre, Sp pre ∧ Jx pre W'))

def roundOut {α : Type} (B : Nat) (I : List α → World → Prop) (Ix : Code → List α → World → Prop) (xs : List α) (W : World) : Exit → Act → World → Prop
 | .normal, _, W' => KeepsFrom B W W' ∧ KeepC W W' ∧ I xs W'
 | .ret, _, W' => KeepsFrom B W W' ∧ Ix .ret xs W'
 | .exit id, _, W' => KeepsFrom B W W' ∧ Ix (.exit id) xs W'
 | .goto t, _, W' => KeepsFrom B W W' ∧ Ix (.goto t) xs W'
 | .panic _, _, _ => False
 | .outgrown, _, _ => False

theorem range_yields {α : Type} {g : Operand} {ps : Array Tmp} {assign body : Code} {Q : Exit → Act → World → Prop} {a : Act} {w w0 : World}
 (hro : F.round = none) (h1 : 1 ≤ n) {gf : Nat} {lb : Array Value} (hg : a.eval g = .func (.func gf) #[] lb) (hF : F.fn gf) (eg : ∀ args w, (callFunc gf args).run P w = .ok (.enter gf args) w)
 {encs : α → Array Value} {G : List α → α → Prop} {S Sp : List α → Prop} (hy : Yields F (n - 1) P gf lb encs G S Sp w0) (hw0 : Ext w0 w) (hps : ∀ x, (encs x).size = ps.size)
 (I : List α → World → Prop) (Ix : Code → List α → World → Prop) (hI : Stays w.heap.size I) (hIx : ∀ c s W r o, w.heap.size ≤ r → r ≤ w.heap.size + 1 → Ix c s W → Ix c s (W.putObj r o)) (h0 : I [] w)
 (hround : ∀ (l : Nat) (pre : List α) (x : α) (W : World), G pre x → I pre W → w.heap.size ≤ l → l < W.heap.size →
  assign.wpIn (F.inRound l) (n - 1 - 1) P (Exit.then (fun a₁ W₁ => KeepsFrom w.heap.size W W₁ ∧ KeepC W W₁ ∧
   ∀ o, body.wpIn (F.inRound l) (n - 1 - 1) P (roundOut w.heap.size I Ix (pre ++ [x]) (W₁.putObj l o)) a₁ (W₁.putObj l o)) (fun _ _ _ => False))
   { tmps := (ps.zip (encs x)).foldl (fun t (p, v) => t.setIfInBounds p v) a.tmps, defers := [] } W)
 (hdone : ∀ (D : Nat) (xs : List α) (W : World), w.heap.size ≤ D → S xs → I xs W → W.heap[D]? = some (.deferred (some [])) → Q .normal { a with defers := { target := .collected D, args := #[] } :: a.defers } W)
 (hstop : ∀ (D : Nat) (c : Code) (pre : List α) (W : World), w.heap.size ≤ D → Sp pre → Ix c pre W → W.heap[D]? = some (.deferred (some [])) → c.wpIn F n P Q { a with defers := { target := .collected D, args := #[] } :: a.defers } W) :
 (Code.rangeFunc g ps assign body).wpIn F n P Q a w := by
 refine wpIn_rangeFunc fun fn hfn => ?_
 rw [hro]
 have hD := World.alloc_heap_new w (.deferred (some []))
 generalize hD1 : w.alloc (.deferred (some [])) = D1 at hD
 have hs1 : D1.heap.size = w.heap.size + 1 := by rw [← hD1]; simp
 have x1 : Ext w D1 := by rw [← hD1]; exact (Ext.refl w).alloc _
 have i1 : I [] D1 := by rw [← hD1]; exact hI.alloc _ h0
 let rec0 : LoopState → Option Code → Loop := fun st pe => { state := st, pending := pe, fn, tmps := a.tmps, params := ps, assign, body, defers := w.heap.size }
 have hL := World.alloc_heap_new D1 (.loop (rec0 .ready none))
 have hD2 : (D1.alloc (.loop (rec0 .ready none))).heap[w.heap.size]? = some (.deferred (some [])) := (Below.heap_alloc _ _ _ (by omega)).trans hD
 have x2 : Ext w (D1.alloc (.loop (rec0 .ready none))) := x1.alloc _
 have i2 := hI.alloc (.loop (rec0 .ready none)) i1
 have hs2 : (D1.alloc (.loop (rec0 .ready none))).heap.size = w.heap.size + 2 := by simp [hs1]
 have hrun : (Instr.enterLoop fn a.tmps ps assign body none).run P w = .ok (w.heap.size + 1, [{ target := .collected w.heap.size, args := #[] }]) (D1.alloc (.loop (rec0 .ready none))) := by
  rw [← hD1]; exact run_enterLoop_outer (P := P) (w := w) fn a.tmps ps assign body
 rw [hs1] at hL
 generalize D1.alloc (.loop (rec0 .ready none)) = W1 at hL hD2 x2 i2 hs2 hrun
 refine ⟨w.heap.size + 1, [{ target := .collected w.heap.size, args := #[] }], W1, { target := .fn (.func gf) lb, args := #[.func (.yield (w.heap.size + 1)) #[] #[]] }, W1, gf,
  #[.func (.yield (w.heap.size + 1)) #[] #[]] ++ lb, W1, hrun, ?_, ?_, ?_, fun _ => h1, ?_⟩
 ·simp only [resolve, hg]
  simp [go_sem]
 ·intro f' hf'
  simp [Target.leads] at hf'
  exact hf' ▸ hF
 ·simp [invoke, go_sem, eg]
 have hb : ∀ {J : List α → World → Prop}, Stays w.heap.size J → ∀ c, Stays W1.heap.size (fun pre W => J pre W ∧ W.heap[w.heap.size + 1]? = some (.loop c) ∧ W.heap[w.heap.size]? = some (.deferred (some []))) := by
  intro J hJ c s A C row hs hgr hr
  have g1 := (Array.getElem?_eq_some_iff.1 hs.2.1).1
  have g2 := (Array.getElem?_eq_some_iff.1 hs.2.2).1
  refine ⟨hJ.mono (by omega) s A C row hs.1 hgr hr, (hgr.block _ g1 fun e => ?_).trans hs.2.1, (hgr.block _ g2 fun e => ?_).trans hs.2.2⟩
  ·have := hr _ e.symm; omega
  ·have := hr _ e.symm; omega
 refine (hy (w.heap.size + 1) (fun pre W => I pre W ∧ W.heap[w.heap.size + 1]? = some (.loop (rec0 .ready none)) ∧ W.heap[w.heap.size]? = some (.deferred (some [])))
  (fun pre W => ∃ c, Ix c pre W ∧ W.heap[w.heap.size + 1]? = some (.loop (rec0 .done (some c))) ∧ W.heap[w.heap.size]? = some (.deferred (some [])))
  W1 (hw0.trans x2) (hb hI _) ?round ⟨i2, hL, hD2⟩).mono ?after
 case round =>
  rintro pre x W hG ⟨hi, hl, hk⟩
  have hlt := (Array.getElem?_eq_some_iff.1 hl).1
  refine ⟨fn, _, assign, body, run_yield hl (hps x), roundIn_of_wpIn hfn (wpIn_mono (hround _ pre x W hG hi (by omega) hlt) ?_)⟩
  rintro e a₁ Wa hq
  cases e with
  | normal =>
   obtain ⟨k1, k2, hbd⟩ := hq
   have hl1 := k1.same _ _ (by omega) hl rfl
   have hk1 := k1.same _ _ (Nat.le_refl _) hk rfl
   have hlt1 := (Array.getElem?_eq_some_iff.1 hl1).1
   refine ⟨_, run_beginRound hl1 rfl, wpIn_mono (hbd _) ?_⟩
   have hl2 := World.putObj_heap_same (o := .loop { rec0 .ready none with state := .busy }) hlt1
   have hk2 : (Wa.putObj (w.heap.size + 1) (.loop { rec0 .ready none with state := .busy })).heap[w.heap.size]? = some (.deferred (some [])) := (World.putObj_heap_other (by omega)).trans hk1
   have kc2 := KeepC.put (.loop { rec0 .ready none with state := .busy }) hl1 rfl
   generalize Wa.putObj (w.heap.size + 1) (.loop { rec0 .ready none with state := .busy }) = Wb at hl2 hk2 kc2
   have fin : ∀ (jump : Option Code) (W3 : World), KeepsFrom w.heap.size Wb W3 →
    (Instr.endRound (w.heap.size + 1) jump).run P W3 = .ok (.bool jump.isNone) (W3.putObj (w.heap.size + 1) (.loop (rec0 (if jump.isNone then .ready else .done) jump))) ∧
    W3.heap[w.heap.size + 1]? = some (.loop { rec0 .ready none with state := .busy }) ∧
    (W3.putObj (w.heap.size + 1) (.loop (rec0 (if jump.isNone then .ready else .done) jump))).heap[w.heap.size + 1]? = some (.loop (rec0 (if jump.isNone then .ready else .done) jump)) ∧
    (W3.putObj (w.heap.size + 1) (.loop (rec0 (if jump.isNone then .ready else .done) jump))).heap[w.heap.size]? = some (.deferred (some [])) := fun jump W3 k3 =>
    have hl3 := k3.same _ _ (by omega) hl2 rfl
    ⟨run_endRound jump hl3, hl3, World.putObj_heap_same (Array.getElem?_eq_some_iff.1 hl3).1, (World.putObj_heap_other (by omega)).trans (k3.same _ _ (Nat.le_refl _) hk2 rfl)⟩
   rintro e2 a3 W3 hp
   cases e2 with
   | normal =>
    obtain ⟨k3, kc3, hi3⟩ := hp
    obtain ⟨r1, r2, r3, r4⟩ := fin none W3 k3
    exact ⟨_, _, r1, .inl ⟨rfl, ⟨hI.put _ (by omega) hi3, r3, r4⟩, ((k2.trans kc2).trans kc3).trans (KeepC.put _ r2 rfl)⟩⟩
   | ret =>
    obtain ⟨r1, r2, r3, r4⟩ := fin (some .ret) W3 hp.1
    exact ⟨_, _, r1, .inr ⟨rfl, _, hIx _ _ _ _ _ (by omega) (by omega) hp.2, r3, r4⟩⟩
   | exit id =>
    obtain ⟨r1, r2, r3, r4⟩ := fin (some (.exit id)) W3 hp.1
    exact ⟨_, _, r1, .inr ⟨rfl, _, hIx _ _ _ _ _ (by omega) (by omega) hp.2, r3, r4⟩⟩
   | goto t =>
    obtain ⟨r1, r2, r3, r4⟩ := fin (some (.goto t)) W3 hp.1
    exact ⟨_, _, r1, .inr ⟨rfl, _, hIx _ _ _ _ _ (by omega) (by omega) hp.2, r3, r4⟩⟩
   | panic ch => exact hp.elim
   | outgrown => exact hp.elim
  | ret => exact hq.elim
  | exit id => exact hq.elim
  | goto t => exact hq.elim
  | panic ch => exact hq.elim
  | outgrown => exact hq.elim
 case after =>
  rintro e W2 ⟨⟨v, rfl⟩, (⟨xs, hS, hi, hl, hk⟩ | ⟨pre, hSp, c, hi, hl, hk⟩)⟩
  ·exact ⟨none, _, run_endLoop hl (by simp [rec0]), hdone _ xs _ (Nat.le_refl _) hS (hI.put _ (by omega) hi) ((World.putObj_heap_other (by omega)).trans hk)⟩
  ·exact ⟨some c, _, run_endLoop hl (by simp [rec0]), hstop _ c pre _ (Nat.le_refl _) hSp (hIx c _ _ _ _ (by omega) (by omega) hi) ((World.putObj_heap_other (by omega)).trans hk)⟩

end Go.Proofs.Ytpnfhcnnodolbaa
namespace Go.Proofs.Ytpnfhcnnodolbaa
set_option linter.unusedVariables false
set_option linter.unusedSimpArgs false
set_option linter.unusedSectionVars false
set_option linter.unnecessarySimpa false
open Go Go.RowKit

theorem frozen_kept {w w' : World} {p : Addr} {v : Value} (h : KeepC w w') (hc : w.cell? p = some v) : w'.frozen? p = w.frozen? p := by
 unfold World.cell? at hc
 cases e : w.heap[p.block]? with
 | none => simp [e] at hc
 | some o =>
  cases o with
  | cells a b c =>
   have := h.same _ _ e rfl
   simp [World.frozen?, e, this]
  | _ => simp [e] at hc
theorem KeepC.cell {w w' : World} {p : Addr} {v : Value} (h : KeepC w w') (hc : w.cell? p = some v) : w'.cell? p = some v := by
 have hc' := hc
 unfold World.cell? at hc
 cases e : w.heap[p.block]? with
 | none => simp [e] at hc
 | some o =>
  cases o with
  | cells a b c =>
   have := h.same _ _ e rfl
   rw [← hc']
   simp [World.cell?, e, this]
  | _ => simp [e] at hc
theorem grown_set (w : World) (p : Addr) (v : Value) : w.grownBy (w.setCell p v) (some p.block) :=
 ⟨rfl, rfl, rfl, by show w.heap.size ≤ (w.heap.modify _ _).size; rw [Array.size_modify]; exact Nat.le_refl _, fun k _ hk => Below.heap_setCell w p v k (fun e => hk (by rw [e]))⟩
theorem grown_drewN (w : World) (n : Nat) : w.grownBy (w.drewN n) none := ⟨rfl, rfl, rfl, Nat.le_refl _, fun _ _ _ => rfl⟩
theorem cellG {w w' : World} {b o : Nat} {v : Value} {l : Nat} (h : w.cell? ⟨b, o, none⟩ = some v) (g : w.grownBy w' (some l)) (hne : b ≠ l) : w'.cell? ⟨b, o, none⟩ = some v :=
 g.cell h (fun e => hne (Option.some.inj e))
theorem cell_put_eq {w : World} {p : Addr} {u v : Value} (h : w.cell? p = some u) : (w.setCell p v).cell? p = some v := World.cell?_setCell_same' _ _ _ (by rw [h]; rfl)
theorem grows_ext {w w' : World} (h : Ext w w') : w.grownBy w' none := ⟨Below.os h, Below.tape h, Below.output h, Below.size h, fun i hi _ => Below.block h i hi⟩
theorem grownBy_frozen {w w' : World} {b o : Nat} {l : Option Nat} (g : w.grownBy w' l) (hb : b < w.heap.size) (hne : some b ≠ l) : w'.frozen? ⟨b, o, none⟩ = w.frozen? ⟨b, o, none⟩ := by
 unfold World.frozen?
 rw [g.block b hb hne]

end Go.Proofs.Ytpnfhcnnodolbaa
