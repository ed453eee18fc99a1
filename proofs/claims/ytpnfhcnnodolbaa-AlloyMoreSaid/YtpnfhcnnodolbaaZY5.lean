/- Texts of one proof, laid together: MemE. -/
import Derived.Test.YtpnfhcnnodolbaaZY2
import Derived.DeepKeys
set_option linter.unusedVariables false
set_option linter.unusedSimpArgs false
set_option linter.unusedSectionVars false
set_option linter.unnecessarySimpa false
namespace Go.Proofs.Ytpnfhcnnodolbaa
open Go Go.RowKit
theorem run_eqItems_ints {P : Program} {e : TypeId} {k : IntKind} (he : P.underlying e = some (.int k)) (d : Nat) (xs ys : Array Value) (f g : Nat → Int) (w : World) :
 ∀ is : List Nat, (∀ i, i ∈ is → xs[i * 1]? = some (.int k (f i)) ∧ ys[i * 1]? = some (.int k (g i))) → (Op.eqItems (d + 1) e 1 xs ys is).run P w = .ok (is.all fun i => f i == g i) w
 | [], _ => by simp [Op.eqItems]
 | i :: is, h => by
  have hp : P.plainKey e = true := by simp [Program.plainKey, he]
  obtain ⟨h1, h2⟩ := h i (by simp)
  simp only [Op.eqItems, Sem.run_bind, run_part_plain w hp h1, run_part_plain w hp h2, Result.andThen_ok, run_equalIn_int w d e k k (f i) (g i) he]
  cases hb : f i == g i with
  | false => simp [hb]
  | true =>
   simp only [Bool.not_true, Bool.false_eq_true, if_false, List.all_cons, hb, Bool.true_and]
   exact run_eqItems_ints he d xs ys f g w is fun j hj => h j (by simp [hj])
theorem run_eqArr {P : Program} (w : World) {t e : TypeId} {n : Nat} {k : IntKind} {i : TypeInfo} (ht : P.underlying t = some (.array n e)) (he : P.underlying e = some (.int k)) (hi : P.info? e = some i) (hs : i.size = 1)
 (xs ys : Array Value) (f g : Nat → Int) (h : ∀ j, j < n → xs[j]? = some (.int k (f j)) ∧ ys[j]? = some (.int k (g j))) :
 (Op.equalIn 10000 t (.agg xs) (.agg ys)).run P w = .ok ((List.range n).all fun j => f j == g j) w := by
 rw [show (10000 : Nat) = 9999 + 1 from rfl, run_equalIn_array w 9999 xs ys ht hi]
 have hc : P.cellsOf e = 1 := by simp [Program.cellsOf, hi, hs]
 rw [hc]
 exact run_eqItems_ints he 9998 xs ys f g w _ fun j hj => by simpa using h j (by simpa using hj)
theorem all_range_true {n : Nat} {p : Nat → Bool} : (List.range n).all p = true ↔ ∀ j, j < n → p j = true := by simp
end Go.Proofs.Ytpnfhcnnodolbaa
