/- Texts of one proof, laid together: RangeN. -/
import Derived.Test.YtpnfhcnnodolbaaZY7
import Derived.Test.YtpnfhcnnodolbaaZY4
set_option linter.unusedVariables false
set_option linter.unusedSimpArgs false
set_option linter.unusedSectionVars false
set_option linter.unnecessarySimpa false
namespace Go.Proofs.Ytpnfhcnnodolbaa
open Go Go.RowKit
variable {F : Fence} {n : Nat} {P : Program}
structure KN (B : Nat) (A C : World) : Prop where
 os : C.os = A.os
 tape : C.tape = A.tape
 output : C.output = A.output
 size : A.heap.size ≤ C.heap.size
 same : ∀ k o, A.heap[k]? = some o → (k < B ∨ o.isCells = true) → C.heap[k]? = some o
theorem KN.refl (B : Nat) (A : World) : KN B A A := ⟨rfl, rfl, rfl, Nat.le_refl _, fun _ _ h _ => h⟩
theorem KN.trans {B : Nat} {A C D : World} (h : KN B A C) (k : KN B C D) : KN B A D :=
 ⟨k.os.trans h.os, k.tape.trans h.tape, k.output.trans h.output, Nat.le_trans h.size k.size, fun i o hi ho => k.same i o (h.same i o hi ho) ho⟩
theorem KN.le {B B' : Nat} {A C : World} (h : KN B A C) (hb : B' ≤ B) : KN B' A C :=
 ⟨h.os, h.tape, h.output, h.size, fun i o hi ho => h.same i o hi (ho.imp (fun g => by omega) id)⟩
theorem KN.of_ext {B : Nat} {A C : World} (h : Ext A C) : KN B A C := ⟨Below.os h, Below.tape h, Below.output h, Below.size h, fun k o hk _ => h.heap hk⟩
theorem KN.put {B : Nat} {W : World} {r : Nat} (o' : Obj) (hb : B ≤ r) (hc : ∀ o, W.heap[r]? = some o → o.isCells = false) : KN B W (W.putObj r o') := by
 have g := grownBy_putObj' W r o'
 refine ⟨g.os, g.tape, g.output, g.size, fun k o hk ho => ?_⟩
 have hne : k ≠ r := fun e => by
  subst e
  rcases ho with h | h
  ·omega
  ·rw [hc o hk] at h; cases h
 exact (g.block k (lt_of_heap hk) (fun e => hne (Option.some.inj e))).trans hk
theorem KN.ext {B : Nat} {X A C : World} (h : KN B A C) (x : Ext X A) (hb : X.heap.size ≤ B) : Ext X C :=
 Below.trans x ⟨h.os, h.tape, h.output, h.size, fun k hk => by
  have hlt : k < A.heap.size := Nat.lt_of_lt_of_le hk (Below.size x)
  obtain ⟨o, ho⟩ : ∃ o, A.heap[k]? = some o := ⟨_, Array.getElem?_eq_getElem hlt⟩
  rw [ho]; exact h.same k o ho (.inl (by omega))⟩
theorem KN.block {B : Nat} {A C : World} (h : KN B A C) {p : Nat} {a : Array Value} {t : TypeId} {f : Nat × Nat} (hc : A.heap[p]? = some (.cells a t f)) : C.heap[p]? = some (.cells a t f) := h.same p _ hc (.inr rfl)
theorem KN.cell {B : Nat} {A C : World} (h : KN B A C) {p : Addr} {v : Value} (hc : A.cell? p = some v) : C.cell? p = some v := by
 have hc' := hc
 unfold World.cell? at hc
 cases e : A.heap[p.block]? with
 | none => simp [e] at hc
 | some o =>
  cases o with
  | cells a b c =>
   rw [← hc']
   exact World.cell?_of_block ((h.block e).trans e.symm)
  | _ => simp [e] at hc
theorem KN.frozen {B : Nat} {A C : World} (h : KN B A C) {p : Addr} {v : Value} (hc : A.cell? p = some v) : C.frozen? p = A.frozen? p := by
 unfold World.cell? at hc
 cases e : A.heap[p.block]? with
 | none => simp [e] at hc
 | some o =>
  cases o with
  | cells a b c => exact World.frozen?_of_block ((h.block e).trans e.symm)
  | _ => simp [e] at hc
theorem KN.owns {B : Nat} {A C : World} (h : KN B A C) {base : Nat} {e : TypeId} {k n : Nat} {v : Value} {xs : List Value} (ho : A.ownsRow base e k v n xs) : C.ownsRow base e k v n xs := by
 obtain ⟨h1, h2 | ⟨g, cap, cur, hv, hb, hg, r⟩⟩ := ho
 ·exact ⟨h1, .inl h2⟩
 ·exact ⟨h1, .inr ⟨g, cap, cur, hv, hb, h.block hg, r⟩⟩
theorem KN.ints {B : Nat} {A C : World} (h : KN B A C) {a : Option Addr} {l : List Int} (hI : Ints A a l) : Ints C a l := fun i hi => let ⟨b, off, ha, hc⟩ := hI i hi; ⟨b, off, ha, h.cell hc⟩
structure KZ (B : Nat) (Z Z' : Nat → Prop) (A C : World) : Prop where
 size : A.heap.size ≤ C.heap.size
 z : ∀ k, Z' k → Z k ∨ A.heap.size ≤ k
 same : ∀ k o, B ≤ k → (¬ Z k ∨ o.isCells = false) → A.heap[k]? = some o → C.heap[k]? = some o
theorem KZ.refl (B : Nat) (Z : Nat → Prop) (A : World) : KZ B Z Z A A := ⟨Nat.le_refl _, fun _ h => .inl h, fun _ _ _ _ h => h⟩
theorem KZ.trans {B : Nat} {Z Z' Z'' : Nat → Prop} {A C D : World} (h : KZ B Z Z' A C) (k : KZ B Z' Z'' C D) : KZ B Z Z'' A D := by
 refine ⟨Nat.le_trans h.size k.size, fun i hi => ?_, fun i o hb hz hc => k.same i o hb (hz.imp (fun g h2 => ?_) id) (h.same i o hb hz hc)⟩
 ·rcases k.z i hi with h1 | h1
  ·exact h.z i h1
  ·exact .inr (Nat.le_trans h.size h1)
 ·rcases h.z i h2 with h1 | h1
  ·exact g h1
  ·have := lt_of_heap hc; omega
theorem KZ.le {B B' : Nat} {Z Z' : Nat → Prop} {A C : World} (h : KZ B Z Z' A C) (hb : B ≤ B') : KZ B' Z Z' A C := ⟨h.size, h.z, fun i o hi hz hc => h.same i o (Nat.le_trans hb hi) hz hc⟩
theorem KZ.of_ext {B : Nat} {Z : Nat → Prop} {A C : World} (h : Ext A C) : KZ B Z Z A C := ⟨h.size, fun _ h => .inl h, fun _ _ _ _ ho => h.heap ho⟩
theorem KZ.grown {B : Nat} {Z Z' : Nat → Prop} {A C : World} {row : Option Nat} (g : A.grownBy C row) (h : ∀ r, row = some r → r < B ∨ Z r ∧ ∀ o, A.heap[r]? = some o → o.isCells = true) (hz : ∀ k, Z' k → Z k ∨ A.heap.size ≤ k) : KZ B Z Z' A C := by
 refine ⟨g.size, hz, fun k o hk hzk ho => (g.block k (lt_of_heap ho) (fun e => ?_)).trans ho⟩
 rcases h k e.symm with h | ⟨h1, h2⟩
 ·omega
 ·rcases hzk with q | q
  ·exact q h1
  ·rw [h2 o ho] at q; cases q
theorem KZ.set {B : Nat} {Z : Nat → Prop} {W : World} (p : Addr) (v : Value) (h : p.block < B) : KZ B Z Z W (W.setCell p v) := KZ.grown (grown_set W p v) (fun r e => .inl (by cases e; exact h)) (fun _ h => .inl h)
theorem KZ.put {B : Nat} {Z : Nat → Prop} {W : World} {r : Nat} (o' : Obj) (h : r < B) : KZ B Z Z W (W.putObj r o') := KZ.grown (grownBy_putObj' W r o') (fun q e => .inl (by cases e; exact h)) (fun _ h => .inl h)
theorem KZ.keeps {B : Nat} {Z Z' : Nat → Prop} {A C : World} (h : KZ B Z Z' A C) : KeepsFrom B A C := ⟨h.size, fun k o hk ho hc => h.same k o hk (.inr hc) ho⟩
theorem KZ.cell {B : Nat} {Z Z' : Nat → Prop} {A C : World} (h : KZ B Z Z' A C) {k o : Nat} {v : Value} (hb : B ≤ k) (hz : ¬ Z k) (hc : A.cell? ⟨k, o, none⟩ = some v) : C.cell? ⟨k, o, none⟩ = some v := by
 have hc' := hc
 unfold World.cell? at hc
 cases e : A.heap[k]? with
 | none => simp [e] at hc
 | some ob =>
  rw [← hc']
  exact World.cell?_of_block ((h.same k ob hb (.inl hz) e).trans e.symm)
theorem KZ.ints {B : Nat} {Z Z' : Nat → Prop} {A C : World} (h : KZ B Z Z' A C) {a : Option Addr} {l : List Int} (hI : Ints A a l) (hn : ∀ b off, a = some ⟨b, off, none⟩ → B ≤ b ∧ ¬ Z b) : Ints C a l :=
 fun i hi => let ⟨b, off, ha, hc⟩ := hI i hi; ⟨b, off, ha, h.cell (hn b off ha).1 (hn b off ha).2 hc⟩
def StN {β : Type} (B : Nat) (J : β → World → Prop) : Prop := ∀ s A C, J s A → KN B A C → J s C
theorem StN.le {β : Type} {B B' : Nat} {J : β → World → Prop} (h : StN B J) (hb : B ≤ B') : StN B' J := fun s A C hs k => h s A C hs (k.le hb)
theorem StN.ext {β : Type} {B : Nat} {J : β → World → Prop} (h : StN B J) {s : β} {A C : World} (hs : J s A) (x : Ext A C) : J s C := h s A C hs (.of_ext x)
def StZ {α : Type} (B : Nat) (J : List α → (Nat → Prop) → World → Prop) : Prop := ∀ s Z A C, J s Z A → KN B A C → J s Z C
theorem StZ.ext {α : Type} {B : Nat} {J : List α → (Nat → Prop) → World → Prop} (h : StZ B J) {s : List α} {Z : Nat → Prop} {A C : World} (hs : J s Z A) (x : Ext A C) : J s Z C := h s Z A C hs (.of_ext x)
def YieldsZ {α : Type} (F : Fence) (n : Nat) (P : Program) (g : Nat) (lb : Array Value) (encs : α → Array Value) (G : List α → (Nat → Prop) → α → World → Prop) (S Sp : List α → Prop) (Nd : World → Prop) : Prop :=
 ∀ (l : Nat) (J : List α → (Nat → Prop) → World → Prop) (Jx : List α → World → Prop) (W : World), StZ W.heap.size J → StN W.heap.size Jx → (∀ pre Z W1, J pre Z W1 → Nd W1) → (∀ pre Z W1, J pre Z W1 → ∀ k, Z k → k < W1.heap.size) →
  (∀ pre Z x W1, G pre Z x W1 → J pre Z W1 → W.heap.size ≤ W1.heap.size → YieldAt F (n - 1) P l (encs x) W1 fun e W' =>
   (e = .returned (.bool true) ∧ ∃ Z', J (pre ++ [x]) Z' W' ∧ KZ W.heap.size Z Z' W1 W') ∨ (e = .returned (.bool false) ∧ Jx (pre ++ [x]) W' ∧ KeepsFrom W.heap.size W1 W')) →
  J [] (fun _ => False) W →
  CallsIn F n P g (#[.func (.yield l) #[] #[]] ++ lb) W fun e W' => (∃ v, e = .returned v) ∧ ((∃ xs Z, S xs ∧ J xs Z W' ∧ W.heap.size ≤ W'.heap.size) ∨ (∃ pre, Sp pre ∧ Jx pre W'))
def roundOutZ {α : Type} (B : Nat) (I : List α → (Nat → Prop) → World → Prop) (Ix : Code → List α → World → Prop) (xs : List α) (Z : Nat → Prop) (W : World) : Exit → Act → World → Prop
 | .normal, _, W' => ∃ Z', KZ B Z Z' W W' ∧ I xs Z' W'
 | .ret, _, W' => KeepsFrom B W W' ∧ Ix .ret xs W'
 | .exit id, _, W' => KeepsFrom B W W' ∧ Ix (.exit id) xs W'
 | .goto t, _, W' => KeepsFrom B W W' ∧ Ix (.goto t) xs W'
 | .panic _, _, _ => False
 | .outgrown, _, _ => False
theorem range_yieldsZ {α : Type} {g : Operand} {ps : Array Tmp} {assign body : Code} {Q : Exit → Act → World → Prop} {a : Act} {w : World}
 (hro : F.round = none) (h1 : 1 ≤ n) {gf : Nat} {lb : Array Value} (hg : a.eval g = .func (.func gf) #[] lb) (hF : F.fn gf) (eg : ∀ args w, (callFunc gf args).run P w = .ok (.enter gf args) w)
 {encs : α → Array Value} {G : List α → (Nat → Prop) → α → World → Prop} {S Sp : List α → Prop} {Nd : World → Prop} (hy : YieldsZ F (n - 1) P gf lb encs G S Sp Nd) (hps : ∀ x, (encs x).size = ps.size)
 (I : List α → (Nat → Prop) → World → Prop) (Ix : Code → List α → World → Prop) (hI : StZ w.heap.size I) (hIn : ∀ s Z W, I s Z W → Nd W) (hIz : ∀ s Z W, I s Z W → ∀ k, Z k → k < W.heap.size) (hIx : ∀ c, StN w.heap.size (Ix c)) (h0 : I [] (fun _ => False) w)
 (hround : ∀ (l : Nat) (pre : List α) (Z : Nat → Prop) (x : α) (W : World), G pre Z x W → I pre Z W → l = w.heap.size + 1 → (∃ r, W.heap[l]? = some (.loop r)) → w.heap.size + 2 ≤ W.heap.size →
  assign.wpIn (F.inRound l) (n - 1 - 1) P (Exit.then (fun a₁ W₁ => KZ w.heap.size Z Z W W₁ ∧
   ∀ o, body.wpIn (F.inRound l) (n - 1 - 1) P (roundOutZ w.heap.size I Ix (pre ++ [x]) Z (W₁.putObj l o)) a₁ (W₁.putObj l o)) (fun _ _ _ => False))
   { tmps := (ps.zip (encs x)).foldl (fun t (p, v) => t.setIfInBounds p v) a.tmps, defers := [] } W)
 (hdone : ∀ (D : Nat) (xs : List α) (Z : Nat → Prop) (W : World), D = w.heap.size → S xs → I xs Z W → w.heap.size ≤ W.heap.size → W.heap[D]? = some (.deferred (some [])) → Q .normal { a with defers := { target := .collected D, args := #[] } :: a.defers } W)
 (hstop : ∀ (D : Nat) (c : Code) (pre : List α) (W : World), D = w.heap.size → Sp pre → Ix c pre W → W.heap[D]? = some (.deferred (some [])) → c.wpIn F n P Q { a with defers := { target := .collected D, args := #[] } :: a.defers } W) :
 (Code.rangeFunc g ps assign body).wpIn F n P Q a w := by
 refine wpIn_rangeFunc fun fn hfn => ?_
 rw [hro]
 have hD := World.alloc_heap_new w (.deferred (some []))
 generalize hD1 : w.alloc (.deferred (some [])) = D1 at hD
 have hs1 : D1.heap.size = w.heap.size + 1 := by rw [← hD1]; simp
 have x1 : Ext w D1 := by rw [← hD1]; exact (Ext.refl w).alloc _
 have i1 : I [] (fun _ => False) D1 := by rw [← hD1]; exact hI.ext h0 ((Ext.refl w).alloc _)
 let rec0 : LoopState → Option Code → Loop := fun st pe => { state := st, pending := pe, fn, tmps := a.tmps, params := ps, assign, body, defers := w.heap.size }
 have hL := World.alloc_heap_new D1 (.loop (rec0 .ready none))
 have hD2 : (D1.alloc (.loop (rec0 .ready none))).heap[w.heap.size]? = some (.deferred (some [])) := (Below.heap_alloc _ _ _ (by omega)).trans hD
 have x2 : Ext w (D1.alloc (.loop (rec0 .ready none))) := x1.alloc _
 have i2 := hI.ext i1 ((Ext.refl D1).alloc (.loop (rec0 .ready none)))
 have hs2 : (D1.alloc (.loop (rec0 .ready none))).heap.size = w.heap.size + 2 := by simp [hs1]
 have hrun : (Instr.enterLoop fn a.tmps ps assign body none).run P w = .ok (w.heap.size + 1, [{ target := .collected w.heap.size, args := #[] }]) (D1.alloc (.loop (rec0 .ready none))) := by
  rw [← hD1]; exact run_enterLoop_outer (P := P) (w := w) fn a.tmps ps assign body
 rw [hs1] at hL
 generalize D1.alloc (.loop (rec0 .ready none)) = W1 at hL hD2 x2 i2 hs2 hrun
 refine ⟨w.heap.size + 1, [{ target := .collected w.heap.size, args := #[] }], W1, { target := .fn (.func gf) lb, args := #[.func (.yield (w.heap.size + 1)) #[] #[]] }, W1, gf,
  #[.func (.yield (w.heap.size + 1)) #[] #[]] ++ lb, W1, hrun, ?_, ?_, ?_, fun _ => h1, ?_⟩
 ·simp only [resolve, hg]
  simp [go_sem]
 ·intro f' hf'
  simp [Target.leads] at hf'
  exact hf' ▸ hF
 ·simp [invoke, go_sem, eg]
 have hb : ∀ c, StZ W1.heap.size (fun pre Z W => I pre Z W ∧ W.heap[w.heap.size + 1]? = some (.loop c) ∧ W.heap[w.heap.size]? = some (.deferred (some []))) := by
  intro c s Z A C hs hx
  exact ⟨hI s Z A C hs.1 (hx.le (by omega)), hx.same _ _ hs.2.1 (.inl (by omega)), hx.same _ _ hs.2.2 (.inl (by omega))⟩
 have hb2 : StN W1.heap.size (fun pre W => ∃ c, Ix c pre W ∧ W.heap[w.heap.size + 1]? = some (.loop (rec0 .done (some c))) ∧ W.heap[w.heap.size]? = some (.deferred (some []))) := by
  rintro s A C ⟨c, h1, h2, h3⟩ hx
  exact ⟨c, hIx c s A C h1 (hx.le (by omega)), hx.same _ _ h2 (.inl (by omega)), hx.same _ _ h3 (.inl (by omega))⟩
 refine (hy (w.heap.size + 1) (fun pre Z W => I pre Z W ∧ W.heap[w.heap.size + 1]? = some (.loop (rec0 .ready none)) ∧ W.heap[w.heap.size]? = some (.deferred (some [])))
  (fun pre W => ∃ c, Ix c pre W ∧ W.heap[w.heap.size + 1]? = some (.loop (rec0 .done (some c))) ∧ W.heap[w.heap.size]? = some (.deferred (some [])))
  W1 (hb _) hb2 (fun pre Z W h => hIn pre Z W h.1) (fun pre Z W h => hIz pre Z W h.1) ?round ⟨i2, hL, hD2⟩).mono ?after
 case round =>
  rintro pre Z x W hG ⟨hi, hl, hk⟩ hsz
  have hlt := (Array.getElem?_eq_some_iff.1 hl).1
  refine ⟨fn, _, assign, body, run_yield hl (hps x), roundIn_of_wpIn hfn (wpIn_mono (hround _ pre Z x W hG hi rfl ⟨_, hl⟩ (by omega)) ?_)⟩
  rintro e a₁ Wa hq
  cases e with
  | normal =>
   obtain ⟨kt1, hbd⟩ := hq
   have k1 := kt1.keeps
   have hl1 := k1.same _ _ (by omega) hl rfl
   have hk1 := k1.same _ _ (Nat.le_refl _) hk rfl
   have hlt1 := (Array.getElem?_eq_some_iff.1 hl1).1
   refine ⟨_, run_beginRound hl1 rfl, wpIn_mono (hbd _) ?_⟩
   have hl2 := World.putObj_heap_same (o := .loop { rec0 .ready none with state := .busy }) hlt1
   have hk2 : (Wa.putObj (w.heap.size + 1) (.loop { rec0 .ready none with state := .busy })).heap[w.heap.size]? = some (.deferred (some [])) := (World.putObj_heap_other (by omega)).trans hk1
   have kt2 : KZ (w.heap.size + 2) Z Z Wa (Wa.putObj (w.heap.size + 1) (.loop { rec0 .ready none with state := .busy })) := KZ.put _ (by omega)
   generalize Wa.putObj (w.heap.size + 1) (.loop { rec0 .ready none with state := .busy }) = Wb at hl2 hk2 kt2
   have fin : ∀ (jump : Option Code) (W3 : World), KeepsFrom w.heap.size Wb W3 →
    (Instr.endRound (w.heap.size + 1) jump).run P W3 = .ok (.bool jump.isNone) (W3.putObj (w.heap.size + 1) (.loop (rec0 (if jump.isNone then .ready else .done) jump))) ∧
    W3.heap[w.heap.size + 1]? = some (.loop { rec0 .ready none with state := .busy }) ∧
    (W3.putObj (w.heap.size + 1) (.loop (rec0 (if jump.isNone then .ready else .done) jump))).heap[w.heap.size + 1]? = some (.loop (rec0 (if jump.isNone then .ready else .done) jump)) ∧
    (W3.putObj (w.heap.size + 1) (.loop (rec0 (if jump.isNone then .ready else .done) jump))).heap[w.heap.size]? = some (.deferred (some [])) := fun jump W3 k3 =>
    have hl3 := k3.same _ _ (by omega) hl2 rfl
    ⟨run_endRound jump hl3, hl3, World.putObj_heap_same (Array.getElem?_eq_some_iff.1 hl3).1, (World.putObj_heap_other (by omega)).trans (k3.same _ _ (Nat.le_refl _) hk2 rfl)⟩
   have kfin : ∀ (jump : Option Code) (W3 : World), KeepsFrom w.heap.size Wb W3 → KeepsFrom W1.heap.size W (W3.putObj (w.heap.size + 1) (.loop (rec0 (if jump.isNone then .ready else .done) jump))) := fun jump W3 k3 => by
    refine ⟨?_, fun k o hk ho hc => ?_⟩
    ·have h1 := kt1.size
     have h2 := kt2.size
     have h3 := k3.size
     simp; omega
    ·have h1 := k1.same k o (by omega) ho hc
     have h2 := kt2.keeps.same k o (by omega) h1 hc
     have h3 := k3.same k o (by omega) h2 hc
     exact (World.putObj_heap_other (by omega)).trans h3
   rintro e2 a3 W3 hp
   cases e2 with
   | normal =>
    obtain ⟨Z', kt3, hi3⟩ := hp
    have k3 := kt3.keeps
    obtain ⟨r1, r2, r3, r4⟩ := fin none W3 k3
    exact ⟨_, _, r1, .inl ⟨rfl, Z', ⟨hI _ _ _ _ hi3 (KN.put _ (by omega) (fun o ho => by rw [r2] at ho; cases ho; rfl)), r3, r4⟩, (((kt1.le (by omega)).trans (kt2.trans (kt3.le (by omega)))).trans (KZ.put (B := w.heap.size + 2) _ (by omega))).le (by omega)⟩⟩
   | ret =>
    obtain ⟨r1, r2, r3, r4⟩ := fin (some .ret) W3 hp.1
    exact ⟨_, _, r1, .inr ⟨rfl, ⟨_, hIx _ _ _ _ hp.2 (KN.put _ (by omega) (fun o ho => by rw [r2] at ho; cases ho; rfl)), r3, r4⟩, kfin (some _) W3 hp.1⟩⟩
   | exit id =>
    obtain ⟨r1, r2, r3, r4⟩ := fin (some (.exit id)) W3 hp.1
    exact ⟨_, _, r1, .inr ⟨rfl, ⟨_, hIx _ _ _ _ hp.2 (KN.put _ (by omega) (fun o ho => by rw [r2] at ho; cases ho; rfl)), r3, r4⟩, kfin (some _) W3 hp.1⟩⟩
   | goto t =>
    obtain ⟨r1, r2, r3, r4⟩ := fin (some (.goto t)) W3 hp.1
    exact ⟨_, _, r1, .inr ⟨rfl, ⟨_, hIx _ _ _ _ hp.2 (KN.put _ (by omega) (fun o ho => by rw [r2] at ho; cases ho; rfl)), r3, r4⟩, kfin (some _) W3 hp.1⟩⟩
   | panic ch => exact hp.elim
   | outgrown => exact hp.elim
  | ret => exact hq.elim
  | exit id => exact hq.elim
  | goto t => exact hq.elim
  | panic ch => exact hq.elim
  | outgrown => exact hq.elim
 case after =>
  rintro e W2 ⟨⟨v, rfl⟩, (⟨xs, Z, hS, ⟨hi, hl, hk⟩, hsz⟩ | ⟨pre, hSp, c, hi, hl, hk⟩)⟩
  ·exact ⟨none, _, run_endLoop hl (by simp [rec0]), hdone _ xs Z _ rfl hS (hI _ _ _ _ hi (KN.put _ (by omega) (fun o ho => by rw [hl] at ho; cases ho; rfl))) (by simp; omega) ((World.putObj_heap_other (by omega)).trans hk)⟩
  ·exact ⟨some c, _, run_endLoop hl (by simp [rec0]), hstop _ c pre _ rfl hSp (hIx c _ _ _ hi (KN.put _ (by omega) (fun o ho => by rw [hl] at ho; cases ho; rfl))) ((World.putObj_heap_other (by omega)).trans hk)⟩
theorem roundIn_any {m m' : Nat} {P : Program} {l l' : Nat} {f : FuncId} {tmps : Array Value} {assign body : Code} {w : World} {R : Ending → World → Prop} (h : RoundIn Fence.wide m P l f tmps assign body w R) : RoundIn (Fence.wide.inRound l') m' P l f tmps assign body w R :=
 ⟨h.1, fun c cs _ => h.2 c cs (room_wide _)⟩
end Go.Proofs.Ytpnfhcnnodolbaa
