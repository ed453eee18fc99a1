/- Texts of one proof, laid together: Range, Keep. -/
import Derived.Test.YtpnfhcnnodolbaaZY2
import Derived.RangeFuncWrites
import Derived.RangeFuncCalls
set_option linter.unusedVariables false
set_option linter.unusedSimpArgs false
set_option linter.unusedSectionVars false
set_option linter.unnecessarySimpa false
namespace Go.Proofs.Ytpnfhcnnodolbaa
open Go Go.RowKit
variable {F : Fence} {n : Nat} {P : Program}
def Stays {β : Type} (B : Nat) (J : β → World → Prop) : Prop := ∀ s A C row, J s A → World.grownBy A C row → (∀ r, row = some r → B ≤ r) → J s C
theorem Stays.alloc {β : Type} {B : Nat} {J : β → World → Prop} (h : Stays B J) {s : β} {W : World} (o : Obj) (k : J s W) : J s (W.alloc o) :=
 h s W _ none k (World.grownBy_alloc W o none) (fun _ e => by cases e)
theorem Stays.put {β : Type} {B : Nat} {J : β → World → Prop} (h : Stays B J) {s : β} {W : World} {l : Nat} (o : Obj) (hl : B ≤ l) (k : J s W) : J s (W.putObj l o) :=
 h s W _ (some l) k (grownBy_putObj' W l o) (fun _ e => by cases e; exact hl)
theorem Stays.mono {β : Type} {B B' : Nat} {J : β → World → Prop} (h : Stays B J) (hb : B ≤ B') : Stays B' J :=
 fun s A C row k hg hr => h s A C row k hg fun r e => Nat.le_trans hb (hr r e)
theorem Stays.and {β : Type} {B : Nat} {J K : β → World → Prop} (h : Stays B J) (k : Stays B K) : Stays B (fun s W => J s W ∧ K s W) :=
 fun s A C row q hg hr => ⟨h s A C row q.1 hg hr, k s A C row q.2 hg hr⟩
structure KeepC (W W' : World) : Prop where
 size : W.heap.size ≤ W'.heap.size
 same : ∀ (k : Nat) (o : Obj), W.heap[k]? = some o → o.isCells = true → W'.heap[k]? = some o
theorem KeepC.refl (W : World) : KeepC W W := ⟨Nat.le_refl _, fun _ _ h _ => h⟩
theorem KeepC.trans {A B C : World} (h : KeepC A B) (k : KeepC B C) : KeepC A C := ⟨Nat.le_trans h.size k.size, fun i o hi ho => k.same i o (h.same i o hi ho) ho⟩
theorem KeepC.of_ext {A B : World} (h : Ext A B) : KeepC A B := ⟨Ext.size h, fun _ _ hi _ => h.heap hi⟩
theorem KeepC.put {W : World} {l : Nat} {o : Obj} (o' : Obj) (h : W.heap[l]? = some o) (ho : o.isCells = false) : KeepC W (W.putObj l o') :=
 ⟨by simp, fun k o2 hk h2 => by
  by_cases e : k = l
  ·subst e; rw [h] at hk; cases hk; rw [ho] at h2; cases h2
  ·exact (World.putObj_heap_other e).trans hk⟩
theorem KeepC.cell {w w' : World} {p : Addr} {v : Value} (h : KeepC w w') (hc : w.cell? p = some v) : w'.cell? p = some v := by
 have hc' := hc
 unfold World.cell? at hc
 cases e : w.heap[p.block]? with
 | none => simp [e] at hc
 | some o =>
  cases o with
  | cells a b c =>
   have := h.same _ _ e rfl
   rw [← hc']
   simp [World.cell?, e, this]
  | _ => simp [e] at hc
theorem grown_set (w : World) (p : Addr) (v : Value) : w.grownBy (w.setCell p v) (some p.block) :=
 ⟨rfl, rfl, rfl, by show w.heap.size ≤ (w.heap.modify _ _).size; rw [Array.size_modify]; exact Nat.le_refl _, fun k _ hk => Below.heap_setCell w p v k (fun e => hk (by rw [e]))⟩
theorem cell_put_eq {w : World} {p : Addr} {u v : Value} (h : w.cell? p = some u) : (w.setCell p v).cell? p = some v := World.cell?_setCell_same' _ _ _ (by rw [h]; rfl)
theorem grownBy_frozen {w w' : World} {b o : Nat} {l : Option Nat} (g : w.grownBy w' l) (hb : b < w.heap.size) (hne : some b ≠ l) : w'.frozen? ⟨b, o, none⟩ = w.frozen? ⟨b, o, none⟩ := by
 unfold World.frozen?
 rw [g.block b hb hne]
end Go.Proofs.Ytpnfhcnnodolbaa
