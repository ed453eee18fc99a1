/- A map whose keys are choices, and whose values are slices, as a list of keys and values. -/
import Derived.Test.YtommhgcgaclflaaZB2
import Derived.Test.YtommhgcgaclflaaProg
import Derived.Maps.RangeWalk
import Derived.Maps.OwnIn
import Derived.DeepKeys5
import Derived.RangeFuncOwn
namespace Go.Proofs.Ytommhgcgaclflaa
set_option linter.unusedVariables false
set_option linter.unusedSimpArgs false
set_option linter.unusedSectionVars false
set_option linter.unnecessarySimpa false
open Go Go.RowKit Go.Maps Go.ChangeMaps Go.MapKept Go.WideShapes
set_option maxRecDepth 100000

theorem laidOutP : laidOutB Try.prog = true := by kernel_rfl
theorem rowKey : (106 : TypeId) < Try.prog.types.size := of_decide_eq_true (by kernel_rfl)
theorem wideKey : (match Try.prog.underlying 106 with | some (.array _ _) | some (.struct _) => true | _ => false) = true := by rw [Try.underlying106]
theorem deepKey : Try.prog.keyTypeAt 3 106 = true := by kernel_rfl
theorem lawKey : WideMaps.KeyLaw Try.prog 106 := deep_law_laid (P := Try.prog) (k := 106) laidOutP (m := 3) (by omega) rowKey deepKey wideKey
theorem keyed : Keyed Try.prog 106 := Keyed.of_law lawKey
theorem keyType : Try.prog.keyType 106 = true := by kernel_rfl
theorem cellsKey : Try.prog.cellsOf 106 = 2 := by kernel_rfl
theorem cellsIntK : Try.prog.cellsOf 3 = 1 := by kernel_rfl
theorem typesSize : Try.prog.types.size + 1 = (Try.prog.types.size - 3) + 4 := by have : (3 : Nat) < Try.prog.types.size := of_decide_eq_true (by kernel_rfl); omega
theorem formedKey (a b : Value) : (Value.agg #[a, b]).formed Try.prog 106 = true := by simp [Value.formed, Try.underlying106, cellsKey]
theorem wf64 {x : Int} (h : I64 x) : (Lit.int .i64 x).wf = true := WalkArith.wf_i64 (by unfold I64 at h; omega)

def kv (x : Nat × Nat) : Value := .agg #[.int .i64 x.1, .int .i64 x.2]
structure K2 (x : Nat × Nat) : Prop where
 a : x.1 < 16
 b : x.2 < 16
noncomputable def klOf (x : Nat × Nat) : Lit := (keyOf Try.prog 106 (kv x)).getD (.bool false)
theorem klOf_spec {x : Nat × Nat} (h : K2 x) : keyOf Try.prog 106 (kv x) = some (klOf x) := by
 have e : ∃ kl, keyOf Try.prog 106 (kv x) = some kl := by
  have h0 := wf64 (x := (x.1 : Int)) ⟨by omega, by have := h.a; omega⟩
  have h1 := wf64 (x := (x.2 : Int)) ⟨by omega, by have := h.b; omega⟩
  unfold kv
  generalize (x.1 : Int) = a at *
  generalize (x.2 : Int) = b at *
  unfold keyOf
  rw [Try.underlying106]
  simp only [keyType, formedKey, Bool.and_true, if_true]
  have hs : ∀ n, (Try.prog.keyLits (n + 4) 106 [.int .i64 a, .int .i64 b]) = some [.int .i64 a, .int .i64 b] := by
   intro n
   simp [Program.keyLits, Try.underlying106, Try.underlying3, cellsKey, cellsIntK, h0, h1, List.range_succ]
  simp only [Value.cells]
  rw [typesSize, hs]
  exact ⟨_, rfl⟩
 obtain ⟨kl, e⟩ := e
 rw [klOf, e]; rfl
theorem klOf_inj {x y : Nat × Nat} (hx : K2 x) (hy : K2 y) (h : klOf x = klOf y) : x = y := by
 have e := keyed.inj (klOf_spec hx) (by rw [h]; exact klOf_spec hy)
 unfold kv at e
 simp only [Value.agg.injEq, Array.mk.injEq, List.cons.injEq, Value.int.injEq, true_and, and_true] at e
 exact Prod.ext (by omega) (by omega)
theorem klOf_key {x : Nat × Nat} (h : K2 x) : WideAt.IsKeyLit (klOf x) := keyed.key (klOf_spec h)
theorem same_iff {x y : Nat × Nat} (hx : K2 x) (hy : K2 y) : (klOf x).sameKey (klOf y) = decide (x = y) := by
 by_cases e : x = y
 ·subst e; simp [WideAt.sameKey_self (klOf_key hx)]
 ·simp only [e, decide_false]
  exact sameKey_ne fun h => e (klOf_inj hx hy h)

abbrev KV := (Nat × Nat) × Value
structure KL (l : List KV) : Prop where
 key : ∀ p ∈ l, K2 p.1
 nd : (l.map Prod.fst).Nodup
theorem KL.perm {l k : List KV} (h : KL l) (p : l.Perm k) : KL k :=
 ⟨fun q hq => h.key q (p.mem_iff.2 hq), (p.map _).nodup_iff.1 h.nd⟩
theorem KL.nil : KL [] := ⟨by simp, by simp⟩
theorem KL.app {l : List KV} (h : KL l) {x : Nat × Nat} {v : Value} (hx : K2 x) (hn : x ∉ l.map Prod.fst) : KL (l ++ [(x, v)]) := by
 refine ⟨fun p hp => ?_, ?_⟩
 ·rcases List.mem_append.1 hp with h' | h'
  ·exact h.key p h'
  ·rw [List.mem_singleton] at h'; subst h'; exact hx
 ·rw [List.map_append, List.nodup_append]
  refine ⟨h.nd, by simp, fun a ha b hb => ?_⟩
  rw [List.map_singleton, List.mem_singleton] at hb
  subst hb
  intro e; subst e; exact hn ha
theorem KL.sub {l k : List KV} (h : KL l) (p : k.Sublist l) : KL k :=
 ⟨fun q hq => h.key q (p.subset hq), h.nd.sublist (p.map _)⟩
theorem KL.uniq {l : List KV} (h : KL l) {p q : KV} (hp : p ∈ l) (hq : q ∈ l) (e : p.1 = q.1) : p = q := by
 induction l with
 | nil => cases hp
 | cons y l ih =>
  have hnd := h.nd
  rw [List.map_cons, List.nodup_cons] at hnd
  rcases List.mem_cons.1 hp with rfl | hp'
  ·rcases List.mem_cons.1 hq with rfl | hq'
   ·rfl
   ·exact absurd (List.mem_map.2 ⟨q, hq', e.symm⟩) hnd.1
  ·rcases List.mem_cons.1 hq with rfl | hq'
   ·exact absurd (List.mem_map.2 ⟨p, hp', e⟩) hnd.1
   ·exact ih (h.sub (List.sublist_cons_self _ _)) hp' hq'

def RV (v : Value) : Option (DataW Value × List MemPlace) := some (.held v, [])
noncomputable def entV (p : KV) : Lit × DataW Value := (klOf p.1, .held p.2)
def DL (D : DataW Value) (l : List KV) : Prop := ∃ es, D = .map es ∧ es.Perm (l.map entV)
theorem DL.perm {D : DataW Value} {l k : List KV} (h : DL D l) (p : l.Perm k) : DL D k :=
 let ⟨es, e, q⟩ := h; ⟨es, e, q.trans (p.map _)⟩
theorem DL.nil : DL (.map []) [] := ⟨[], rfl, by simp⟩
theorem DL.size {D : DataW Value} {l : List KV} (h : DL D l) : Maps.size D = l.length := by
 obtain ⟨es, rfl, p⟩ := h
 rw [Maps.size_eq, p.length_eq, List.length_map]
theorem DL.has {D : DataW Value} {l : List KV} (h : DL D l) (k : KL l) {x : Nat × Nat} (hx : K2 x) : Maps.has D (klOf x) = decide (x ∈ l.map Prod.fst) := by
 obtain ⟨es, rfl, p⟩ := h
 rw [Maps.has_eq, p.any_eq, List.any_map]
 rw [Bool.eq_iff_iff, List.any_eq_true, decide_eq_true_iff, List.mem_map]
 constructor
 ·rintro ⟨q, hq, e⟩
  simp only [Function.comp, entV, same_iff (k.key q hq) hx, decide_eq_true_iff] at e
  exact ⟨q, hq, e⟩
 ·rintro ⟨q, hq, rfl⟩
  exact ⟨q, hq, by simp [Function.comp, entV, same_iff hx hx]⟩
theorem DL.at {D : DataW Value} {l : List KV} (h : DL D l) (k : KL l) {p : KV} (hp : p ∈ l) (z : DataW Value) : D.atKey (klOf p.1) z = .held p.2 := by
 obtain ⟨es, rfl, q⟩ := h
 unfold DataW.atKey
 dsimp only
 cases e : es.find? (fun r => r.1.sameKey (klOf p.1)) with
 | none =>
  have := List.find?_eq_none.1 e (entV p) (q.mem_iff.2 (List.mem_map.2 ⟨p, hp, rfl⟩))
  simp [entV, same_iff (k.key p hp) (k.key p hp)] at this
 | some r =>
  have h1 := List.mem_of_find?_eq_some e
  have h2 := List.find?_some e
  obtain ⟨p', hp', rfl⟩ := List.mem_map.1 (q.mem_iff.1 h1)
  simp only [entV, same_iff (k.key p' hp') (k.key p hp), decide_eq_true_iff] at h2
  obtain rfl := k.uniq hp' hp h2
  rfl
theorem DL.miss {D : DataW Value} {l : List KV} (h : DL D l) (k : KL l) {x : Nat × Nat} (hx : K2 x) (hn : x ∉ l.map Prod.fst) (z : DataW Value) : D.atKey (klOf x) z = z := by
 obtain ⟨es, rfl, q⟩ := h
 unfold DataW.atKey
 dsimp only
 cases e : es.find? (fun r => r.1.sameKey (klOf x)) with
 | none => rfl
 | some r =>
  have h1 := List.mem_of_find?_eq_some e
  have h2 := List.find?_some e
  obtain ⟨p', hp', rfl⟩ := List.mem_map.1 (q.mem_iff.1 h1)
  simp only [entV, same_iff (k.key p' hp') hx, decide_eq_true_iff] at h2
  exact absurd (List.mem_map.2 ⟨p', hp', h2⟩) hn
theorem DL.put {D : DataW Value} {l : List KV} (h : DL D l) (k : KL l) {x : Nat × Nat} {v : Value} (hx : K2 x) (hn : x ∉ l.map Prod.fst) : DL (D.put (klOf x) (.held v)) (l ++ [(x, v)]) := by
 have hh := h.has k hx
 obtain ⟨es, rfl, q⟩ := h
 refine ⟨_, rfl, (insert_perm _ _).trans ?_⟩
 have e : es.filter (fun p => !p.1.sameKey (klOf x)) = es := by
  refine List.filter_eq_self.2 fun p hp => ?_
  rw [Maps.has_eq, decide_eq_false hn] at hh
  simpa using (List.any_eq_false.1 hh) p hp
 rw [e, List.map_append, List.map_singleton]
 exact (List.Perm.cons _ q).trans (List.perm_append_singleton _ _).symm
theorem DL.del {D : DataW Value} {l : List KV} (h : DL D l) (k : KL l) {x : Nat × Nat} (hx : K2 x) : DL (D.del (klOf x)) (l.filter fun p => p.1 ≠ x) := by
 obtain ⟨es, rfl, q⟩ := h
 refine ⟨_, rfl, (q.filter _).trans ?_⟩
 rw [List.filter_map]
 refine List.Perm.of_eq ?_
 congr 1
 refine List.filter_congr fun p hp => ?_
 simp [Function.comp, entV, same_iff (k.key p hp) hx]

def CM (w : World) (b c : Nat) (l : List KV) : Prop := KL l ∧ ∃ D, w.ownsMap Try.prog 106 RV b c D ∧ DL D l
theorem CM.kept {w w' : World} {b c : Nat} {l : List KV} {row : Option Nat} (h : CM w b c l) (hg : w.grownBy w' row) (hne : some b ≠ row) : CM w' b c l :=
 let ⟨k, D, o, d⟩ := h; ⟨k, D, o.kept hg hne, d⟩
theorem Ext.grows {w w' : World} (h : Ext w w') : w.grownBy w' none := ⟨Below.os h, Below.tape h, Below.output h, Below.size h, fun i hi _ => Below.block h i hi⟩
theorem CM.ext {w w' : World} {b c : Nat} {l : List KV} (h : CM w b c l) (k : Ext w w') : CM w' b c l := h.kept k.grows (by simp)
theorem CM.made (w : World) : CM (w.alloc (.map #[] 0)) w.heap.size 0 [] := ⟨KL.nil, _, World.ownsMap_made w _ _ _, DL.nil⟩
theorem CM.lt {w : World} {b c : Nat} {l : List KV} (h : CM w b c l) : b < w.heap.size := let ⟨_, _, o, _⟩ := h; o.lt
theorem CM.isMap {w : World} {b c : Nat} {l : List KV} (h : CM w b c l) : ∃ o, w.heap[b]? = some o ∧ o.isCells = false := by
 obtain ⟨_, _, ⟨es, cl, hb, _⟩, _⟩ := h
 exact ⟨_, hb, rfl⟩
theorem CM.perm {w : World} {b c : Nat} {l k : List KV} (h : CM w b c l) (p : l.Perm k) : CM w b c k :=
 let ⟨kk, D, o, d⟩ := h; ⟨kk.perm p, D, o, d.perm p⟩

theorem zeroSl (w : World) : (zeroValue 25).run Try.prog w = .ok (.slice none 0 0) w := by kernel_rfl
def lookV (l : List KV) (x : Nat × Nat) : Value := ((l.find? fun p => p.1 = x).map Prod.snd).getD (.slice none 0 0)
theorem lookV_at {l : List KV} (k : KL l) {p : KV} (hp : p ∈ l) : lookV l p.1 = p.2 := by
 unfold lookV
 cases e : l.find? (fun q => q.1 = p.1) with
 | none => have := List.find?_eq_none.1 e p hp; simp at this
 | some r =>
  have h1 := List.mem_of_find?_eq_some e
  have h2 := List.find?_some e
  obtain rfl := k.uniq h1 hp (by simpa using h2)
  rfl
theorem lookV_miss {l : List KV} {x : Nat × Nat} (hn : x ∉ l.map Prod.fst) : lookV l x = .slice none 0 0 := by
 unfold lookV
 rw [List.find?_eq_none.2 fun q hq => by
  simp only [decide_eq_true_eq]
  intro e; exact hn (List.mem_map.2 ⟨q, hq, e⟩)]
 rfl
theorem CM.look {w : World} {b c : Nat} {l : List KV} (h : CM w b c l) {x : Nat × Nat} (hx : K2 x) :
 (Instr.lookup 103 (.map (some b)) (kv x) false).run Try.prog w = .ok (lookV l x) w := by
 obtain ⟨k, D, own, d⟩ := h
 obtain ⟨v, ps, hrun, hv⟩ := own.lookup keyed Try.underlying103 (zeroSl w) (zd := .held (.slice none 0 0)) (zp := []) rfl (klOf_spec hx)
 have e : DataW.held v = D.atKey (klOf x) (.held (.slice none 0 0)) := by
  unfold RV at hv
  simp only [Option.some.injEq, Prod.mk.injEq] at hv
  exact hv.1
 rw [hrun]
 by_cases hm : x ∈ l.map Prod.fst
 ·obtain ⟨p, hp, rfl⟩ := List.mem_map.1 hm
  rw [d.at k hp] at e
  simp only [DataW.held.injEq] at e
  rw [lookV_at k hp, e]
 ·rw [d.miss k hx hm] at e
  simp only [DataW.held.injEq] at e
  rw [lookV_miss hm, e]

section ops
variable {F : Fence} {nF : Nat} {w : World} {ops : Array Oper} {rest : List Oper} {o : Oper} {a : Act} {Q : Exit → Act → World → Prop}

theorem putC_in {b c : Nat} {l : List KV} (hg : o.guard = none) (m x v : Operand) (hop : o.op = Op.mapUpdate 103 m x v)
 (hm : a.eval m = .map (some b)) (h : CM w b c l) (hc : c < 1000000) (y : Nat × Nat) (z : Value) (hy : K2 y) (hn : y ∉ l.map Prod.fst) (hx : a.eval x = kv y) (hv : a.eval v = z)
 (hK : ∀ w', CM w' b (c + 1) (l ++ [(y, z)]) → w.grownBy w' (some b) → wpListIn F nF Try.prog ops Q rest (a.put o.dst undef) w') : wpListIn F nF Try.prog ops Q (o :: rest) a w := by
 obtain ⟨k, D, own, d⟩ := h
 exact wpListIn_mapUpdate_own w hg m x v _ hop _ _ keyed Try.underlying103 _ b c D hm own (by unfold maxLen; omega) _ _ _ hx hv (klOf_spec hy) _ [] (rfl : RV z = some (.held z, []))
  fun w' o' g => hK w' ⟨k.app hy hn, _, o', d.put k hy hn⟩ g

def RT (w : World) (b r c : Nat) (l todo : List KV) : Prop :=
 KL l ∧ (∀ p ∈ todo, p ∈ l) ∧ (todo.map Prod.fst).Nodup ∧ ∃ D left cnt, w.ranges Try.prog 106 RV b r c D left cnt ∧ DL D l ∧
  (∀ x, K2 x → left (klOf x) = decide (x ∈ todo.map Prod.fst)) ∧ (∀ kl, left kl = true → ∃ p ∈ todo, kl = klOf p.1)
theorem RT.kept {w w' : World} {b r c : Nat} {l todo : List KV} {row : Option Nat} (h : RT w b r c l todo) (hg : w.grownBy w' row) (h1 : some b ≠ row) (h2 : some r ≠ row) : RT w' b r c l todo :=
 let ⟨k, s, nd, D, left, cnt, o, d⟩ := h; ⟨k, s, nd, D, left, cnt, o.kept hg h1 h2, d⟩
theorem RT.ext {w w' : World} {b r c : Nat} {l todo : List KV} (h : RT w b r c l todo) (k : Ext w w') : RT w' b r c l todo := h.kept k.grows (by simp) (by simp)
theorem RT.cm {w : World} {b r c : Nat} {l todo : List KV} (h : RT w b r c l todo) : CM w b c l := let ⟨k, _, _, D, _, _, o, d, _⟩ := h; ⟨k, D, o.owns, d⟩
theorem RT.ne {w : World} {b r c : Nat} {l todo : List KV} (h : RT w b r c l todo) : r ≠ b := let ⟨_, _, _, _, _, _, o, _⟩ := h; o.ne
theorem RT.lt {w : World} {b r c : Nat} {l todo : List KV} (h : RT w b r c l todo) : r < w.heap.size := let ⟨_, _, _, _, _, _, o, _⟩ := h; o.lt

theorem rangeC {b c : Nat} {l : List KV} (hg : o.guard = none) (m : Operand) (hop : o.op = Op.range 103 m) (hm : a.eval m = .map (some b)) (h : CM w b c l)
 (hK : ∀ w', RT w' b w.heap.size c l l → w.grownBy w' none → w'.heap.size = w.heap.size + 1 → wpList Try.prog ops Q rest (a.put o.dst (.pointer (some ⟨w.heap.size, 0, none⟩))) w') : wpList Try.prog ops Q (o :: rest) a w := by
 obtain ⟨k, D, own, d⟩ := h
 refine wpList_range_own w hg m _ hop _ _ keyed Try.underlying103 _ b c D hm own fun w' hr g s => hK w' ⟨k, fun _ h => h, k.nd, D, _, _, hr, d, fun x hx => d.has k hx, fun kl hkl => ?_⟩ g s
 obtain ⟨es, rfl, q⟩ := d
 obtain ⟨p, hp, hpk⟩ := List.any_eq_true.1 (show es.any (fun p => p.1.sameKey kl) = true from hkl)
 obtain ⟨p', hp', rfl⟩ := List.mem_map.1 (q.mem_iff.1 hp)
 exact ⟨p', hp', (WideAt.sameKey_eq hpk).symm⟩

theorem todo_split {l : List KV} (h : (l.map Prod.fst).Nodup) {p : KV} (hp : p ∈ l) : l.Perm (p :: l.filter fun q => q.1 ≠ p.1) := by
 induction l with
 | nil => cases hp
 | cons y l ih =>
  rw [List.map_cons, List.nodup_cons] at h
  by_cases e : y.1 = p.1
  ·have e2 : y = p := by
    rcases List.mem_cons.1 hp with h' | h'
    ·exact h'.symm
    ·exact absurd (List.mem_map.2 ⟨p, h', e.symm⟩) h.1
   subst e2
   rw [List.filter_cons_of_neg (by simp)]
   rw [List.filter_eq_self.2 fun q hq => by
    simp only [ne_eq, decide_not, Bool.not_eq_eq_eq_not, Bool.not_true, decide_eq_false_iff_not]
    intro e3; exact h.1 (List.mem_map.2 ⟨q, hq, e3⟩)]
  ·have hp' : p ∈ l := by
    rcases List.mem_cons.1 hp with h' | h'
    ·exact absurd (by rw [h']) e
    ·exact h'
   rw [List.filter_cons_of_pos (by simpa using e)]
   exact ((List.Perm.cons y (ih h.2 hp')).trans (List.Perm.swap _ _ _))

theorem strike {l todo : List KV} (k : KL l) (s : ∀ p ∈ todo, p ∈ l) {p : KV} (hp : p ∈ l) {left : Lit → Bool} (h1 : ∀ x, K2 x → left (klOf x) = decide (x ∈ todo.map Prod.fst)) (h2 : ∀ kl, left kl = true → ∃ p ∈ todo, kl = klOf p.1) :
 (∀ x, K2 x → (left (klOf x) && !(klOf x).sameKey (klOf p.1)) = decide (x ∈ (todo.filter fun q => q.1 ≠ p.1).map Prod.fst)) ∧ (∀ kl, (left kl && !kl.sameKey (klOf p.1)) = true → ∃ q ∈ todo.filter (fun q => q.1 ≠ p.1), kl = klOf q.1) := by
 have hpk := k.key p hp
 constructor
 ·intro x hx
  rw [h1 x hx, same_iff hx hpk, Bool.eq_iff_iff]
  simp only [Bool.and_eq_true, Bool.not_eq_true', decide_eq_true_iff, decide_eq_false_iff_not, List.mem_map, List.mem_filter]
  constructor
  ·rintro ⟨⟨q, hq, rfl⟩, h⟩
   exact ⟨q, ⟨hq, by simpa using h⟩, rfl⟩
  ·rintro ⟨q, ⟨hq, h⟩, rfl⟩
   exact ⟨⟨q, hq, rfl⟩, by simpa using h⟩
 ·intro kl h
  rw [Bool.and_eq_true] at h
  obtain ⟨q, hq, rfl⟩ := h2 kl h.1
  refine ⟨q, List.mem_filter.2 ⟨hq, ?_⟩, rfl⟩
  have := h.2
  rw [same_iff (k.key q (s q hq)) hpk] at this
  simpa using this

structure Came (w w' : World) (b r c : Nat) (l todo : List KV) (y : Nat × Nat) (z : Value) (todo' : List KV) : Prop where
 inl : (y, z) ∈ l
 ino : (y, z) ∈ todo
 perm : todo.Perm ((y, z) :: todo')
 rt : RT w' b r c l todo'
 less : w'.rangeLeft b r < w.rangeLeft b r
 grown : w.grownBy w' (some r)
 size : w'.heap.size = w.heap.size
 run : (Instr.entry (.pointer (some ⟨r, 0, none⟩))).run Try.prog w' = .ok (.tuple #[kv y, z]) w'
 key : K2 y

theorem nextC {b r c : Nat} {l todo : List KV} (hg : o.guard = none) (it : Operand) (hop : o.op = Op.next it false) (hit : a.eval it = .pointer (some ⟨r, 0, none⟩)) (h : RT w b r c l todo)
 (hDone : Hid (todo = []) → wpList Try.prog ops Q rest (a.put o.dst (.tuple #[.bool false])) w)
 (hMore : ∀ (y : Nat × Nat) (z : Value) (todo' : List KV) (w' : World), Came w w' b r c l todo y z todo' → wpList Try.prog ops Q rest (a.put o.dst (.tuple #[.bool true, kv y, z])) w') :
 wpList Try.prog ops Q (o :: rest) a w := by
 obtain ⟨k, s, nd, D, left, cnt, hr, d, h1, h2⟩ := h
 refine wpList_next_ranges w hg it hop _ keyed _ (fun v : Value => v) (fun v : Value => v) (fun key _ _ => ⟨key, rfl⟩) (fun v _ _ => ⟨v, rfl⟩) b r c D left cnt hit hr ?_ ?_
 ·intro _ hl
  refine hDone ?_
  cases todo with
  | nil => exact hid rfl
  | cons p todo =>
   have := h1 p.1 (k.key p (s p (by simp)))
   rw [hl] at this
   simp at this
 ·intro key v kl y w' cnt' hk hl hv hat hr' hlt hgr hsz hen
  obtain ⟨p, hp, rfl⟩ := h2 kl hl
  have hpk := k.key p (s p hp)
  obtain rfl := keyed.inj hk (klOf_spec hpk)
  have hy := hat .nil
  rw [d.at k (s p hp)] at hy
  unfold RV at hv
  simp only [Option.some.injEq] at hv
  subst hv
  simp only [DataW.held.injEq] at hy
  obtain rfl : v = p.2 := hy.symm
  obtain ⟨s1, s2⟩ := strike k s (s p hp) h1 h2
  refine hMore p.1 p.2 _ w' ⟨s p hp, hp, todo_split nd hp, ⟨k, fun q hq => s q (List.mem_filter.1 hq).1, nd.sublist (List.filter_sublist.map _), D, _, cnt', hr', d, s1, s2⟩, ?_, hgr, hsz, hen, hpk⟩
  rw [hr'.left_eq, hr.left_eq]
  exact hlt

structure Dropped (w w' : World) (b r c : Nat) (l todo : List KV) (y : Nat × Nat) : Prop where
 rt : RT w' b r c (l.filter fun q => q.1 ≠ y) (todo.filter fun q => q.1 ≠ y)
 le : w'.rangeLeft b r ≤ w.rangeLeft b r
 grown : w.grownBy w' (some b)

theorem dropC {b r c : Nat} {l todo : List KV} (hg : o.guard = none) (m x : Operand) (hop : o.op = Op.call { callee := Callee.builtin Builtin.delete, args := #[m, x], argTypes := #[103, 106] })
 (hm : a.eval m = .map (some b)) (h : RT w b r c l todo) (y : Nat × Nat) (z : Value) (hp : (y, z) ∈ l) (hx : a.eval x = kv y)
 (hK : ∀ w', Dropped w w' b r c l todo y → wpList Try.prog ops Q rest (a.put o.dst (.tuple #[])) w') : wpList Try.prog ops Q (o :: rest) a w := by
 obtain ⟨k, s, nd, D, left, cnt, hr, d, h1, h2⟩ := h
 refine wpList_delete_ranges w hg m x _ _ hop _ keyed Try.underlying103 _ b r c D left cnt hm hr _ _ hx (klOf_spec (k.key (y, z) hp)) fun w' cnt' hr' hle ht => ?_
 obtain ⟨s1, s2⟩ := strike k s hp h1 h2
 refine hK w' ⟨⟨k.sub List.filter_sublist, fun q hq => ?_, nd.sublist (List.filter_sublist.map _), _, _, cnt', hr', d.del k (k.key (y, z) hp), s1, s2⟩, by rw [hr'.left_eq, hr.left_eq]; exact hle, ?_⟩
 ·have := List.mem_filter.1 hq
  exact List.mem_filter.2 ⟨s q this.1, this.2⟩
 ·obtain ⟨es, clock, es', clock', hb, rfl⟩ := ht
  exact ⟨rfl, rfl, rfl, by simp [ChangeMaps.setBlock], fun i _ hi => heap_setBlock_other hb _ (fun e => hi (by rw [e]))⟩
end ops

end Go.Proofs.Ytommhgcgaclflaa
