/- Texts of one proof, laid together: Cpy. -/
import Derived.Test.YtpnfhcnnodolbaaZY2
import Derived.Laws.CopyOwn
set_option linter.unusedVariables false
set_option linter.unusedSimpArgs false
set_option linter.unusedSectionVars false
set_option linter.unnecessarySimpa false
namespace Go.Proofs.Ytpnfhcnnodolbaa
open Go Go.RowKit
theorem copyI_wp {P : Program} {w : World} {ops : Array Oper} {rest : List Oper} {o : Oper} {a : Act} {Q : Exit → Act → World → Prop} (hgd : o.guard = none) (d s : Operand) (t : TypeId)
 (ho : o.op = .call { callee := .builtin .copy, args := #[d, s], argTypes := #[t, t] }) (e : TypeId) (ht : P.underlying t = some (.slice e)) (he : ElemI P e) (base g n c : Nat) (l k : List Int)
 (hd : a.eval d = .slice (some ⟨g, 0, none⟩) n c) (ad : Option Addr) (m c2 : Nat) (hs : a.eval s = .slice ad m c2) (hn : n = l.length) (hm : m = k.length) (hlk : k.length = l.length) (h0 : 0 < k.length)
 (hown : OwnI w base e (.slice (some ⟨g, 0, none⟩) n c) l) (hI : Ints w ad k)
 (h : ∀ w', Ints w' (some ⟨g, 0, none⟩) k → w.grownBy w' (some g) → wpList P ops Q rest (a.put o.dst (goInt k.length)) w') : wpList P ops Q (o :: rest) a w := by
 obtain ⟨i, hi, hz, hsz, hby⟩ := he
 obtain ⟨b0, off0, rfl, _, hcell⟩ := hI.at h0
 subst hn
 subst hm
 obtain ⟨h1, h2 | ⟨g', cap', cur, hv, hb, hg, hnc, hcm, hcs, htk⟩⟩ := hown
 ·simp at h2
 ·simp only [Value.slice.injEq, Option.some.injEq, Addr.mk.injEq, and_true, true_and] at hv
  obtain ⟨rfl, rfl⟩ := hv
  have hcs2 : cur.size = c := by simpa using hcs
  have hkl : (k.map (Value.int .i64)).length = k.length := by simp
  have hh := h (w.setRow g (cur.toList.take 0 ++ ((k.map (Value.int .i64)) ++ cur.toList.drop (0 + (k.map (Value.int .i64)).length))).toArray) ?_ ?_
  ·rw [← hkl] at hh
   refine wpList_copy_own hgd d s t t ho e ht (by rw [hi]; simp [hsz]) g 0 l.length c ⟨b0, off0, none⟩ k.length c2 hd hs cur e hg (k.map (Value.int .i64)) (by rw [hkl, hlk]; exact (Nat.min_self _).symm) ?_ (by rw [hkl, hlk, Nat.zero_add, hcs2]; exact hnc) ?_ hh
   ·intro j u hj
    simp only [List.getElem?_map, Option.map_eq_some_iff] at hj
    obtain ⟨z, hz, rfl⟩ := hj
    obtain ⟨hj, rfl⟩ := List.getElem?_eq_some_iff.1 hz
    have := hcell j hj
    rw [nth_lt hj] at this
    unfold Addr.add
    split
    ·rename_i h0; subst h0; exact this
    ·exact this
   ·intro u hu
    simp at hu
    obtain ⟨z, _, rfl⟩ := hu
    rfl
  ·refine ints_row (setRow_heap w g cur _ e (0, 0) hg) fun i hi => ?_
   simp only [List.getElem?_toArray, List.take_zero, List.nil_append]
   rw [List.getElem?_append_left (by simpa using hi)]
   simp only [List.getElem?_map, nth, List.getD_eq_getElem?_getD]
   rw [List.getElem?_eq_getElem hi]; rfl
  ·exact ⟨rfl, rfl, rfl, by simp, fun k _ hk => setRow_other w g k _ (fun e => hk (by rw [e]))⟩
end Go.Proofs.Ytpnfhcnnodolbaa
