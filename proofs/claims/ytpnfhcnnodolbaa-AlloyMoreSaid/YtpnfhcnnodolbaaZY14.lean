/- Texts of one proof, laid together: MapP. -/
import Derived.Test.YtpnfhcnnodolbaaZY2
import Derived.Test.YtpnfhcnnodolbaaProg
import Derived.Maps.RangeWalk
import Derived.Maps.OwnIn
import Derived.DeepKeys5
import Derived.RangeFuncOwn
import Derived.Sort.MapsRangeIn
import Derived.Maps.OwnSet
set_option linter.unusedVariables false
set_option linter.unusedSimpArgs false
set_option linter.unusedSectionVars false
set_option linter.unnecessarySimpa false
set_option maxRecDepth 100000
namespace Go.Proofs.Ytpnfhcnnodolbaa
open Go Go.RowKit Go.Maps Go.ChangeMaps Go.MapKept Go.WideShapes
theorem laidOutP : laidOutB Try.prog = true := by kernel_rfl
theorem rowKey : (45 : TypeId) < Try.prog.types.size := of_decide_eq_true (by kernel_rfl)
theorem wideKey : (match Try.prog.underlying 45 with | some (.array _ _) | some (.struct _) => true | _ => false) = true := by rw [Try.underlying45]
theorem deepKey : Try.prog.keyTypeAt 3 45 = true := by kernel_rfl
theorem lawKey : WideMaps.KeyLaw Try.prog 45 := deep_law_laid (P := Try.prog) (k := 45) laidOutP (m := 3) (by omega) rowKey deepKey wideKey
theorem keyed : Keyed Try.prog 45 := Keyed.of_law lawKey
theorem keyType : Try.prog.keyType 45 = true := by kernel_rfl
theorem cellsKey : Try.prog.cellsOf 45 = 4 := by kernel_rfl
theorem cellsInt : Try.prog.cellsOf 2 = 1 := by kernel_rfl
theorem typesSize : Try.prog.types.size + 1 = (Try.prog.types.size - 3) + 4 := by have : (3 : Nat) < Try.prog.types.size := of_decide_eq_true (by kernel_rfl); omega
theorem formedKey (a b c d : Value) : (Value.agg #[a, b, c, d]).formed Try.prog 45 = true := by simp [Value.formed, Try.underlying45, cellsKey]
theorem wf64 {x : Int} (h : I64 x) : (Lit.int .i64 x).wf = true := WalkArith.wf_i64 (by unfold I64 at h; omega)
def kv (x : List Int) : Value := .agg #[.int .i64 (nth x 0), .int .i64 (nth x 1), .int .i64 (nth x 2), .int .i64 (nth x 3)]
structure T4 (n : Nat) (x : List Int) : Prop where
 len : x.length = n
 n4 : n ≤ 4
 fit : ∀ i, I64 (nth x i)
noncomputable def klOf (x : List Int) : Lit := (keyOf Try.prog 45 (kv x)).getD (.bool false)
theorem klOf_spec {n : Nat} {x : List Int} (h : T4 n x) : keyOf Try.prog 45 (kv x) = some (klOf x) := by
 have e : ∃ kl, keyOf Try.prog 45 (kv x) = some kl := by
  have h0 := wf64 (h.fit 0); have h1 := wf64 (h.fit 1); have h2 := wf64 (h.fit 2); have h3 := wf64 (h.fit 3)
  unfold kv
  generalize nth x 0 = a at *
  generalize nth x 1 = b at *
  generalize nth x 2 = c at *
  generalize nth x 3 = d at *
  unfold keyOf
  rw [Try.underlying45]
  simp only [keyType, formedKey, Bool.and_true, if_true]
  have hs : ∀ n, (Try.prog.keyLits (n + 4) 45 [.int .i64 a, .int .i64 b, .int .i64 c, .int .i64 d]) = some [.int .i64 a, .int .i64 b, .int .i64 c, .int .i64 d] := by
   intro n
   simp [Program.keyLits, Try.underlying45, Try.underlying2, cellsKey, cellsInt, h0, h1, h2, h3, List.range_succ]
  simp only [Value.cells]
  rw [typesSize, hs]
  exact ⟨_, rfl⟩
 obtain ⟨kl, e⟩ := e
 rw [klOf, e]; rfl
theorem klOf_inj {n : Nat} {x y : List Int} (hx : T4 n x) (hy : T4 n y) (h : klOf x = klOf y) : x = y := by
 have e := keyed.inj (klOf_spec hx) (by rw [h]; exact klOf_spec hy)
 unfold kv at e
 simp only [Value.agg.injEq, Array.mk.injEq, List.cons.injEq, Value.int.injEq, true_and, and_true] at e
 refine nth_ext (by rw [hx.len, hy.len]) fun i hi => ?_
 have := hx.len; have := hx.n4
 match i, (show i < 4 by omega) with
 | 0, _ => exact e.1
 | 1, _ => exact e.2.1
 | 2, _ => exact e.2.2.1
 | 3, _ => exact e.2.2.2
theorem klOf_key {n : Nat} {x : List Int} (h : T4 n x) : WideAt.IsKeyLit (klOf x) := keyed.key (klOf_spec h)
theorem same_iff {n : Nat} {x y : List Int} (hx : T4 n x) (hy : T4 n y) : (klOf x).sameKey (klOf y) = decide (x = y) := by
 by_cases e : x = y
 ·subst e; simp [WideAt.sameKey_self (klOf_key hx)]
 ·simp only [e, decide_false]
  exact sameKey_ne fun h => e (klOf_inj hx hy h)
structure KL (n : Nat) (l : List (List Int × Int)) : Prop where
 key : ∀ p ∈ l, T4 n p.1
 fit : ∀ p ∈ l, I64 p.2
 nd : (l.map Prod.fst).Nodup
theorem KL.perm {n : Nat} {l k : List (List Int × Int)} (h : KL n l) (p : l.Perm k) : KL n k :=
 ⟨fun q hq => h.key q (p.mem_iff.2 hq), fun q hq => h.fit q (p.mem_iff.2 hq), (p.map _).nodup_iff.1 h.nd⟩
theorem KL.nil (n : Nat) : KL n [] := ⟨by simp, by simp, by simp⟩
theorem KL.app {n : Nat} {l : List (List Int × Int)} (h : KL n l) {x : List Int} {v : Int} (hx : T4 n x) (hv : I64 v) (hn : x ∉ l.map Prod.fst) : KL n (l ++ [(x, v)]) := by
 refine ⟨fun p hp => ?_, fun p hp => ?_, ?_⟩
 ·rcases List.mem_append.1 hp with h' | h'
  ·exact h.key p h'
  ·rw [List.mem_singleton] at h'; subst h'; exact hx
 ·rcases List.mem_append.1 hp with h' | h'
  ·exact h.fit p h'
  ·rw [List.mem_singleton] at h'; subst h'; exact hv
 ·rw [List.map_append, List.nodup_append]
  refine ⟨h.nd, by simp, fun a ha b hb => ?_⟩
  rw [List.map_singleton, List.mem_singleton] at hb
  subst hb
  intro e; subst e; exact hn ha
theorem KL.sub {n : Nat} {l k : List (List Int × Int)} (h : KL n l) (p : k.Sublist l) : KL n k :=
 ⟨fun q hq => h.key q (p.subset hq), fun q hq => h.fit q (p.subset hq), h.nd.sublist (p.map _)⟩
theorem KL.uniq {n : Nat} {l : List (List Int × Int)} (h : KL n l) {p q : List Int × Int} (hp : p ∈ l) (hq : q ∈ l) (e : p.1 = q.1) : p = q := by
 induction l with
 | nil => cases hp
 | cons y l ih =>
  have hnd := h.nd
  rw [List.map_cons, List.nodup_cons] at hnd
  rcases List.mem_cons.1 hp with rfl | hp'
  ·rcases List.mem_cons.1 hq with rfl | hq'
   ·rfl
   ·exact absurd (List.mem_map.2 ⟨q, hq', e.symm⟩) hnd.1
  ·rcases List.mem_cons.1 hq with rfl | hq'
   ·exact absurd (List.mem_map.2 ⟨p, hp', e⟩) hnd.1
   ·exact ih (h.sub (List.sublist_cons_self _ _)) hp' hq'
noncomputable def entP (p : List Int × Int) : Lit × DataW Unit := (klOf p.1, .lit (.int .i64 p.2))
def DL (D : DataW Unit) (l : List (List Int × Int)) : Prop := ∃ es, D = .map es ∧ es.Perm (l.map entP)
theorem DL.perm {D : DataW Unit} {l k : List (List Int × Int)} (h : DL D l) (p : l.Perm k) : DL D k :=
 let ⟨es, e, q⟩ := h; ⟨es, e, q.trans (p.map _)⟩
theorem DL.nil : DL (.map []) [] := ⟨[], rfl, by simp⟩
theorem DL.size {D : DataW Unit} {l : List (List Int × Int)} (h : DL D l) : Maps.size D = l.length := by
 obtain ⟨es, rfl, p⟩ := h
 rw [Maps.size_eq, p.length_eq, List.length_map]
theorem DL.has {D : DataW Unit} {n : Nat} {l : List (List Int × Int)} (h : DL D l) (k : KL n l) {x : List Int} (hx : T4 n x) : Maps.has D (klOf x) = decide (x ∈ l.map Prod.fst) := by
 obtain ⟨es, rfl, p⟩ := h
 rw [Maps.has_eq, p.any_eq, List.any_map]
 rw [Bool.eq_iff_iff, List.any_eq_true, decide_eq_true_iff, List.mem_map]
 constructor
 ·rintro ⟨q, hq, e⟩
  simp only [Function.comp, entP, same_iff (k.key q hq) hx, decide_eq_true_iff] at e
  exact ⟨q, hq, e⟩
 ·rintro ⟨q, hq, rfl⟩
  exact ⟨q, hq, by simp [Function.comp, entP, same_iff hx hx]⟩
theorem DL.at {D : DataW Unit} {n : Nat} {l : List (List Int × Int)} (h : DL D l) (k : KL n l) {p : List Int × Int} (hp : p ∈ l) (z : DataW Unit) : D.atKey (klOf p.1) z = .lit (.int .i64 p.2) := by
 obtain ⟨es, rfl, q⟩ := h
 unfold DataW.atKey
 dsimp only
 cases e : es.find? (fun r => r.1.sameKey (klOf p.1)) with
 | none =>
  have := List.find?_eq_none.1 e (entP p) (q.mem_iff.2 (List.mem_map.2 ⟨p, hp, rfl⟩))
  simp [entP, same_iff (k.key p hp) (k.key p hp)] at this
 | some r =>
  have h1 := List.mem_of_find?_eq_some e
  have h2 := List.find?_some e
  obtain ⟨p', hp', rfl⟩ := List.mem_map.1 (q.mem_iff.1 h1)
  simp only [entP, same_iff (k.key p' hp') (k.key p hp), decide_eq_true_iff] at h2
  obtain rfl := k.uniq hp' hp h2
  rfl
theorem DL.put {D : DataW Unit} {n : Nat} {l : List (List Int × Int)} (h : DL D l) (k : KL n l) {x : List Int} {v : Int} (hx : T4 n x) (hn : x ∉ l.map Prod.fst) : DL (D.put (klOf x) (.lit (.int .i64 v))) (l ++ [(x, v)]) := by
 have hh := h.has k hx
 obtain ⟨es, rfl, q⟩ := h
 refine ⟨_, rfl, (insert_perm _ _).trans ?_⟩
 have e : es.filter (fun p => !p.1.sameKey (klOf x)) = es := by
  refine List.filter_eq_self.2 fun p hp => ?_
  rw [Maps.has_eq, decide_eq_false hn] at hh
  simpa using (List.any_eq_false.1 hh) p hp
 rw [e, List.map_append, List.map_singleton]
 exact (List.Perm.cons _ q).trans (List.perm_append_singleton _ _).symm
theorem DL.del {D : DataW Unit} {n : Nat} {l : List (List Int × Int)} (h : DL D l) (k : KL n l) {x : List Int} (hx : T4 n x) : DL (D.del (klOf x)) (l.filter fun p => p.1 ≠ x) := by
 obtain ⟨es, rfl, q⟩ := h
 refine ⟨_, rfl, (q.filter _).trans ?_⟩
 rw [List.filter_map]
 refine List.Perm.of_eq ?_
 congr 1
 refine List.filter_congr fun p hp => ?_
 simp [Function.comp, entP, same_iff (k.key p hp) hx]
def TM (w : World) (b n c : Nat) (l : List (List Int × Int)) : Prop := KL n l ∧ ∃ D, w.ownsMap Try.prog 45 (plainElem Try.prog 3) b c D ∧ DL D l
theorem TM.kept {w w' : World} {b n c : Nat} {l : List (List Int × Int)} {row : Option Nat} (h : TM w b n c l) (hg : w.grownBy w' row) (hne : some b ≠ row) : TM w' b n c l :=
 let ⟨k, D, o, d⟩ := h; ⟨k, D, o.kept hg hne, d⟩
theorem Ext.grows {w w' : World} (h : Ext w w') : w.grownBy w' none := ⟨Below.os h, Below.tape h, Below.output h, Below.size h, fun i hi _ => Below.block h i hi⟩
theorem TM.ext {w w' : World} {b n c : Nat} {l : List (List Int × Int)} (h : TM w b n c l) (k : Ext w w') : TM w' b n c l := h.kept k.grows (by simp)
theorem TM.made (w : World) (n : Nat) : TM (w.alloc (.map #[] 0)) w.heap.size n 0 [] := ⟨KL.nil n, _, World.ownsMap_made w _ _ _, DL.nil⟩
theorem TM.lt {w : World} {b n c : Nat} {l : List (List Int × Int)} (h : TM w b n c l) : b < w.heap.size := let ⟨_, _, o, _⟩ := h; o.lt
theorem TM.isMap {w : World} {b n c : Nat} {l : List (List Int × Int)} (h : TM w b n c l) : ∃ o, w.heap[b]? = some o ∧ o.isCells = false := by
 obtain ⟨_, _, ⟨es, cl, hb, _⟩, _⟩ := h
 exact ⟨_, hb, rfl⟩
theorem TM.perm {w : World} {b n c : Nat} {l k : List (List Int × Int)} (h : TM w b n c l) (p : l.Perm k) : TM w b n c k :=
 let ⟨kk, D, o, d⟩ := h; ⟨kk.perm p, D, o, d.perm p⟩
section ops
variable {F : Fence} {nF : Nat} {w : World} {ops : Array Oper} {rest : List Oper} {o : Oper} {a : Act} {Q : Exit → Act → World → Prop}
theorem zeroInt (w : World) : (zeroValue 3).run Try.prog w = .ok (.int .i64 0) w := by kernel_rfl
theorem lenT {b n c : Nat} {l : List (List Int × Int)} (h : TM w b n c l) (ty : TypeId) : (Builtin.len_ #[133] ty #[.map (some b)]).run Try.prog w = .ok (.int .i64 l.length) w := by
 obtain ⟨k, D, own, d⟩ := h
 rw [own.len Try.underlying133, d.size]
def RT (w : World) (b r n c : Nat) (l todo : List (List Int × Int)) : Prop :=
 KL n l ∧ (∀ p ∈ todo, p ∈ l) ∧ (todo.map Prod.fst).Nodup ∧ ∃ D left cnt, w.ranges Try.prog 45 (plainElem Try.prog 3) b r c D left cnt ∧ DL D l ∧
  (∀ x, T4 n x → left (klOf x) = decide (x ∈ todo.map Prod.fst)) ∧ (∀ kl, left kl = true → ∃ p ∈ todo, kl = klOf p.1)
theorem RT.kept {w w' : World} {b r n c : Nat} {l todo : List (List Int × Int)} {row : Option Nat} (h : RT w b r n c l todo) (hg : w.grownBy w' row) (h1 : some b ≠ row) (h2 : some r ≠ row) : RT w' b r n c l todo :=
 let ⟨k, s, nd, D, left, cnt, o, d⟩ := h; ⟨k, s, nd, D, left, cnt, o.kept hg h1 h2, d⟩
theorem RT.ext {w w' : World} {b r n c : Nat} {l todo : List (List Int × Int)} (h : RT w b r n c l todo) (k : Ext w w') : RT w' b r n c l todo := h.kept k.grows (by simp) (by simp)
theorem RT.tm {w : World} {b r n c : Nat} {l todo : List (List Int × Int)} (h : RT w b r n c l todo) : TM w b n c l := let ⟨k, _, _, D, _, _, o, d, _⟩ := h; ⟨k, D, o.owns, d⟩
theorem RT.lt {w : World} {b r n c : Nat} {l todo : List (List Int × Int)} (h : RT w b r n c l todo) : r < w.heap.size := let ⟨_, _, _, _, _, _, o, _⟩ := h; o.lt
theorem rangeT {b n c : Nat} {l : List (List Int × Int)} (hg : o.guard = none) (m : Operand) (hop : o.op = Op.range 133 m) (hm : a.eval m = .map (some b)) (h : TM w b n c l)
 (hK : ∀ w', RT w' b w.heap.size n c l l → w.grownBy w' none → w'.heap.size = w.heap.size + 1 → wpList Try.prog ops Q rest (a.put o.dst (.pointer (some ⟨w.heap.size, 0, none⟩))) w') : wpList Try.prog ops Q (o :: rest) a w := by
 obtain ⟨k, D, own, d⟩ := h
 refine wpList_range_own w hg m _ hop _ _ keyed Try.underlying133 _ b c D hm own fun w' hr g s => hK w' ⟨k, fun _ h => h, k.nd, D, _, _, hr, d, fun x hx => d.has k hx, fun kl hkl => ?_⟩ g s
 obtain ⟨es, rfl, q⟩ := d
 obtain ⟨p, hp, hpk⟩ := List.any_eq_true.1 (show es.any (fun p => p.1.sameKey kl) = true from hkl)
 obtain ⟨p', hp', rfl⟩ := List.mem_map.1 (q.mem_iff.1 hp)
 exact ⟨p', hp', (WideAt.sameKey_eq hpk).symm⟩
theorem todo_split {n : Nat} {l : List (List Int × Int)} (h : (l.map Prod.fst).Nodup) {p : List Int × Int} (hp : p ∈ l) : l.Perm (p :: l.filter fun q => q.1 ≠ p.1) := by
 induction l with
 | nil => cases hp
 | cons y l ih =>
  rw [List.map_cons, List.nodup_cons] at h
  by_cases e : y.1 = p.1
  ·have e2 : y = p := by
    rcases List.mem_cons.1 hp with h' | h'
    ·exact h'.symm
    ·exact absurd (List.mem_map.2 ⟨p, h', e.symm⟩) h.1
   subst e2
   rw [List.filter_cons_of_neg (by simp)]
   rw [List.filter_eq_self.2 fun q hq => by
    simp only [ne_eq, decide_not, Bool.not_eq_eq_eq_not, Bool.not_true, decide_eq_false_iff_not]
    intro e3; exact h.1 (List.mem_map.2 ⟨q, hq, e3⟩)]
  ·have hp' : p ∈ l := by
    rcases List.mem_cons.1 hp with h' | h'
    ·exact absurd (by rw [h']) e
    ·exact h'
   rw [List.filter_cons_of_pos (by simpa using e)]
   exact ((List.Perm.cons y (ih h.2 hp')).trans (List.Perm.swap _ _ _))
theorem strike {n : Nat} {l todo : List (List Int × Int)} (k : KL n l) (s : ∀ p ∈ todo, p ∈ l) {p : List Int × Int} (hp : p ∈ l) {left : Lit → Bool} (h1 : ∀ x, T4 n x → left (klOf x) = decide (x ∈ todo.map Prod.fst)) (h2 : ∀ kl, left kl = true → ∃ p ∈ todo, kl = klOf p.1) :
 (∀ x, T4 n x → (left (klOf x) && !(klOf x).sameKey (klOf p.1)) = decide (x ∈ (todo.filter fun q => q.1 ≠ p.1).map Prod.fst)) ∧ (∀ kl, (left kl && !kl.sameKey (klOf p.1)) = true → ∃ q ∈ todo.filter (fun q => q.1 ≠ p.1), kl = klOf q.1) := by
 have hpk := k.key p hp
 constructor
 ·intro x hx
  rw [h1 x hx, same_iff hx hpk, Bool.eq_iff_iff]
  simp only [Bool.and_eq_true, Bool.not_eq_true', decide_eq_true_iff, decide_eq_false_iff_not, List.mem_map, List.mem_filter]
  constructor
  ·rintro ⟨⟨q, hq, rfl⟩, h⟩
   exact ⟨q, ⟨hq, by simpa using h⟩, rfl⟩
  ·rintro ⟨q, ⟨hq, h⟩, rfl⟩
   exact ⟨⟨q, hq, rfl⟩, by simpa using h⟩
 ·intro kl h
  rw [Bool.and_eq_true] at h
  obtain ⟨q, hq, rfl⟩ := h2 kl h.1
  refine ⟨q, List.mem_filter.2 ⟨hq, ?_⟩, rfl⟩
  have := h.2
  rw [same_iff (k.key q (s q hq)) hpk] at this
  simpa using this
structure Came (w w' : World) (b r n c : Nat) (l todo : List (List Int × Int)) (y : List Int) (z : Int) (todo' : List (List Int × Int)) : Prop where
 inl : (y, z) ∈ l
 ino : (y, z) ∈ todo
 perm : todo.Perm ((y, z) :: todo')
 rt : RT w' b r n c l todo'
 less : w'.rangeLeft b r < w.rangeLeft b r
 grown : w.grownBy w' (some r)
 size : w'.heap.size = w.heap.size
 run : (Instr.entry (.pointer (some ⟨r, 0, none⟩))).run Try.prog w' = .ok (.tuple #[kv y, .int .i64 z]) w'
 key : T4 n y
 val : I64 z
theorem nextT {b r n c : Nat} {l todo : List (List Int × Int)} (hg : o.guard = none) (it : Operand) (hop : o.op = Op.next it false) (hit : a.eval it = .pointer (some ⟨r, 0, none⟩)) (h : RT w b r n c l todo)
 (hDone : Hid (todo = []) → wpList Try.prog ops Q rest (a.put o.dst (.tuple #[.bool false])) w)
 (hMore : ∀ (y : List Int) (z : Int) (todo' : List (List Int × Int)) (w' : World), Came w w' b r n c l todo y z todo' → wpList Try.prog ops Q rest (a.put o.dst (.tuple #[.bool true, kv y, .int .i64 z])) w') :
 wpList Try.prog ops Q (o :: rest) a w := by
 obtain ⟨k, s, nd, D, left, cnt, hr, d, h1, h2⟩ := h
 refine wpList_next_ranges w hg it hop _ keyed _ (fun v : Value => v) (fun v : Value => v) (fun key _ _ => ⟨key, rfl⟩) (fun v _ _ => ⟨v, rfl⟩) b r c D left cnt hit hr ?_ ?_
 ·intro _ hl
  refine hDone ?_
  cases todo with
  | nil => exact hid rfl
  | cons p todo =>
   have := h1 p.1 (k.key p (s p (by simp)))
   rw [hl] at this
   simp at this
 ·intro key v kl y w' cnt' hk hl hv hat hr' hlt hgr hsz hen
  obtain ⟨p, hp, rfl⟩ := h2 kl hl
  have hpk := k.key p (s p hp)
  obtain rfl := keyed.inj hk (klOf_spec hpk)
  have hy := hat .nil
  rw [d.at k (s p hp)] at hy
  obtain ⟨z, rfl, hz, _⟩ := plainElem_int_inv Try.underlying3 hv
  subst hz
  simp only [DataW.lit.injEq, Lit.int.injEq, true_and] at hy
  subst hy
  obtain ⟨s1, s2⟩ := strike k s (s p hp) h1 h2
  refine hMore p.1 p.2 _ w' ⟨s p hp, hp, todo_split (n := n) nd hp, ⟨k, fun q hq => s q (List.mem_filter.1 hq).1, nd.sublist (List.filter_sublist.map _), D, _, cnt', hr', d, s1, s2⟩, ?_, hgr, hsz, hen, hpk, k.fit p (s p hp)⟩
  rw [hr'.left_eq, hr.left_eq]
  exact hlt
structure Dropped (w w' : World) (b r n c : Nat) (l todo : List (List Int × Int)) (y : List Int) : Prop where
 rt : RT w' b r n c (l.filter fun q => q.1 ≠ y) (todo.filter fun q => q.1 ≠ y)
 le : w'.rangeLeft b r ≤ w.rangeLeft b r
 grown : w.grownBy w' (some b)
theorem dropT {b r n c : Nat} {l todo : List (List Int × Int)} (hg : o.guard = none) (m x : Operand) (hop : o.op = Op.call { callee := Callee.builtin Builtin.delete, args := #[m, x], argTypes := #[133, 45] })
 (hm : a.eval m = .map (some b)) (h : RT w b r n c l todo) (y : List Int) (z : Int) (hp : (y, z) ∈ l) (hx : a.eval x = kv y)
 (hK : ∀ w', Dropped w w' b r n c l todo y → wpList Try.prog ops Q rest (a.put o.dst (.tuple #[])) w') : wpList Try.prog ops Q (o :: rest) a w := by
 obtain ⟨k, s, nd, D, left, cnt, hr, d, h1, h2⟩ := h
 refine wpList_delete_ranges w hg m x _ _ hop _ keyed Try.underlying133 _ b r c D left cnt hm hr _ _ hx (klOf_spec (k.key (y, z) hp)) fun w' cnt' hr' hle ht => ?_
 obtain ⟨s1, s2⟩ := strike k s hp h1 h2
 refine hK w' ⟨⟨k.sub List.filter_sublist, fun q hq => ?_, nd.sublist (List.filter_sublist.map _), _, _, cnt', hr', d.del k (k.key (y, z) hp), s1, s2⟩, by rw [hr'.left_eq, hr.left_eq]; exact hle, ?_⟩
 ·have := List.mem_filter.1 hq
  exact List.mem_filter.2 ⟨s q this.1, this.2⟩
 ·obtain ⟨es, clock, es', clock', hb, rfl⟩ := ht
  exact ⟨rfl, rfl, rfl, by simp [ChangeMaps.setBlock], fun i _ hi => heap_setBlock_other hb _ (fun e => hi (by rw [e]))⟩
theorem rangeT_in {b n c : Nat} {l : List (List Int × Int)} (hg : o.guard = none) (m : Operand) (hop : o.op = Op.range 133 m) (hm : a.eval m = .map (some b)) (h : TM w b n c l)
 (hK : ∀ w', RT w' b w.heap.size n c l l → w.grownBy w' none → w'.heap.size = w.heap.size + 1 → wpListIn F nF Try.prog ops Q rest (a.put o.dst (.pointer (some ⟨w.heap.size, 0, none⟩))) w') : wpListIn F nF Try.prog ops Q (o :: rest) a w := by
 obtain ⟨k, D, own, d⟩ := h
 refine wpListIn_range_own w hg m _ hop _ _ keyed Try.underlying133 _ b c D hm own fun w' hr g s => hK w' ⟨k, fun _ h => h, k.nd, D, _, _, hr, d, fun x hx => d.has k hx, fun kl hkl => ?_⟩ g s
 obtain ⟨es, rfl, q⟩ := d
 obtain ⟨p, hp, hpk⟩ := List.any_eq_true.1 (show es.any (fun p => p.1.sameKey kl) = true from hkl)
 obtain ⟨p', hp', rfl⟩ := List.mem_map.1 (q.mem_iff.1 hp)
 exact ⟨p', hp', (WideAt.sameKey_eq hpk).symm⟩
theorem nextT_in {b r n c : Nat} {l todo : List (List Int × Int)} (hg : o.guard = none) (it : Operand) (hop : o.op = Op.next it false) (hit : a.eval it = .pointer (some ⟨r, 0, none⟩)) (h : RT w b r n c l todo)
 (hDone : Hid (todo = []) → wpListIn F nF Try.prog ops Q rest (a.put o.dst (.tuple #[.bool false])) w)
 (hMore : ∀ (y : List Int) (z : Int) (todo' : List (List Int × Int)) (w' : World), Came w w' b r n c l todo y z todo' → wpListIn F nF Try.prog ops Q rest (a.put o.dst (.tuple #[.bool true, kv y, .int .i64 z])) w') :
 wpListIn F nF Try.prog ops Q (o :: rest) a w := by
 obtain ⟨k, s, nd, D, left, cnt, hr, d, h1, h2⟩ := h
 refine wpListIn_next_ranges w hg it hop _ keyed _ (fun v : Value => v) (fun v : Value => v) (fun key _ _ => ⟨key, rfl⟩) (fun v _ _ => ⟨v, rfl⟩) b r c D left cnt hit hr ?_ ?_
 ·intro _ hl
  refine hDone ?_
  cases todo with
  | nil => exact hid rfl
  | cons p todo =>
   have := h1 p.1 (k.key p (s p (by simp)))
   rw [hl] at this
   simp at this
 ·intro key v kl y w' cnt' hk hl hv hat hr' hlt hgr hsz hen
  obtain ⟨p, hp, rfl⟩ := h2 kl hl
  have hpk := k.key p (s p hp)
  obtain rfl := keyed.inj hk (klOf_spec hpk)
  have hy := hat .nil
  rw [d.at k (s p hp)] at hy
  obtain ⟨z, rfl, hz, _⟩ := plainElem_int_inv Try.underlying3 hv
  subst hz
  simp only [DataW.lit.injEq, Lit.int.injEq, true_and] at hy
  subst hy
  obtain ⟨s1, s2⟩ := strike k s (s p hp) h1 h2
  refine hMore p.1 p.2 _ w' ⟨s p hp, hp, todo_split (n := n) nd hp, ⟨k, fun q hq => s q (List.mem_filter.1 hq).1, nd.sublist (List.filter_sublist.map _), D, _, cnt', hr', d, s1, s2⟩, ?_, hgr, hsz, hen, hpk, k.fit p (s p hp)⟩
  rw [hr'.left_eq, hr.left_eq]
  exact hlt
end ops
theorem TM.lookI {w : World} {b n c : Nat} {l : List (List Int × Int)} (h : TM w b n c l) {p : List Int × Int} (hp : p ∈ l) : (Instr.lookup 133 (.map (some b)) (kv p.1) false).run Try.prog w = .ok (.int .i64 p.2) w := by
 obtain ⟨k, D, own, d⟩ := h
 obtain ⟨z, hrun, hat, _⟩ := own.lookup_int keyed Try.underlying133 Try.underlying3 (zeroInt w) (klOf_spec (k.key p hp))
 rw [d.at k hp] at hat
 simp only [DataW.lit.injEq, Lit.int.injEq, true_and] at hat
 rw [hrun, hat]
theorem TM.lookOk {w : World} {b n c : Nat} {l : List (List Int × Int)} (h : TM w b n c l) {x : List Int} (hx : T4 n x) : ∃ z, (Instr.lookup 133 (.map (some b)) (kv x) true).run Try.prog w = .ok (.tuple #[.int .i64 z, .bool (decide (x ∈ l.map Prod.fst))]) w := by
 obtain ⟨k, D, own, d⟩ := h
 obtain ⟨v, ps, hrun, hv⟩ := own.look_ok keyed Try.underlying133 (zeroInt w) (zd := .lit (.int .i64 0)) (zp := []) (plainElem_int Try.underlying3 (by decide)) (klOf_spec hx)
 obtain ⟨z, rfl, _, _⟩ := plainElem_int_inv Try.underlying3 hv
 exact ⟨z, by rw [hrun, d.has k hx]⟩
section ops2
variable {w : World} {ops : Array Oper} {rest : List Oper} {o : Oper} {a : Act} {Q : Exit → Act → World → Prop}
theorem putT {b n c : Nat} {l : List (List Int × Int)} (hg : o.guard = none) (m x v : Operand) (hop : o.op = Op.mapUpdate 133 m x v)
 (hm : a.eval m = .map (some b)) (h : TM w b n c l) (hc : c < 1000000) (y : List Int) (z : Int) (hy : T4 n y) (hz : I64 z) (hn : y ∉ l.map Prod.fst) (hx : a.eval x = kv y) (hv : a.eval v = .int .i64 z)
 (hK : ∀ w', TM w' b n (c + 1) (l ++ [(y, z)]) → w.grownBy w' (some b) → wpList Try.prog ops Q rest (a.put o.dst undef) w') : wpList Try.prog ops Q (o :: rest) a w := by
 obtain ⟨k, D, own, d⟩ := h
 exact wpList_mapUpdate_own w hg m x v _ hop _ _ keyed Try.underlying133 _ b c D hm own (by unfold maxLen; omega) _ _ _ hx hv (klOf_spec hy) _ [] (plainElem_int Try.underlying3 (wf64 hz))
  fun w' o' g => hK w' ⟨k.app hy hz hn, _, o', d.put k hy hn⟩ g
end ops2
theorem RT.same {w w' : World} {b r n c : Nat} {l todo : List (List Int × Int)} (h : RT w b r n c l todo) (h1 : w'.heap[b]? = w.heap[b]?) (h2 : w'.heap[r]? = w.heap[r]?) : RT w' b r n c l todo := by
 obtain ⟨k, s, nd, D, left, cnt, ⟨es, clock, since, seen, c0, hb, F, hs, hD, hr, rest⟩, d, e1, e2⟩ := h
 exact ⟨k, s, nd, D, left, cnt, ⟨es, clock, since, seen, c0, by rw [h1]; exact hb, F, hs, hD, by rw [h2]; exact hr, rest⟩, d, e1, e2⟩
theorem TM.same {w w' : World} {b n c : Nat} {l : List (List Int × Int)} (h : TM w b n c l) (h1 : w'.heap[b]? = w.heap[b]?) : TM w' b n c l := by
 obtain ⟨k, D, ⟨es, clock, hb, rest⟩, d⟩ := h
 exact ⟨k, D, ⟨es, clock, by rw [h1]; exact hb, rest⟩, d⟩
theorem RT.iter {w : World} {b r n c : Nat} {l todo : List (List Int × Int)} (h : RT w b r n c l todo) : ∃ o, w.heap[r]? = some o ∧ o.isCells = false := by
 obtain ⟨k, s, nd, D, left, cnt, ⟨es, clock, since, seen, c0, hb, F, hs, hD, hr, rest⟩, d, e1, e2⟩ := h
 exact ⟨_, hr, rfl⟩
end Go.Proofs.Ytpnfhcnnodolbaa
