/- The order in which all truths come: the first place goes fastest. No program. -/
import Derived.Test.YtogglbhidlnijaaRefI
namespace Go.Proofs.Ytogglbhidlnijaa
set_option linter.unusedVariables false
set_option linter.unusedSimpArgs false
set_option linter.unusedSectionVars false
set_option linter.unnecessarySimpa false

def nxt : List (Int × Int) → List Int → Option (List Int)
  | r :: rs, h :: x => if h = r.2 then (nxt rs x).map (r.1 :: ·) else some ((h + 1) :: x)
  | _, _ => none
/-- All from one on. -/
def aft : List (Int × Int) → List Int → List (List Int)
  | r :: rs, h :: x => (upto h r.2).map (· :: x) ++ ((aft rs x).tail).flatMap fun y => (upto r.1 r.2).map (· :: y)
  | _, _ => [[]]
def lows (rs : List (Int × Int)) : List Int := rs.map Prod.fst
def allT (rs : List (Int × Int)) : List (List Int) := aft rs (lows rs)

theorem upto_cons {h hi : Int} (g : h ≤ hi) : upto h hi = h :: upto (h + 1) hi := by
  unfold upto
  rw [show (hi + 1 - h).toNat = (hi + 1 - (h + 1)).toNat + 1 by omega, List.range_succ_eq_map, List.map_cons, List.map_map]
  congr 1
  · simp
  · refine List.map_congr_left fun i _ => ?_
    simp [Function.comp]; omega
theorem upto_one (h : Int) : upto h h = [h] := by
  rw [upto_cons (Int.le_refl _), upto_nil (by omega)]

theorem okL.tail {r : Int × Int} {rs : List (Int × Int)} (h : okL (r :: rs)) : okL rs := fun x hx => h x (by simp [hx])
theorem okL.head {r : Int × Int} {rs : List (Int × Int)} (h : okL (r :: rs)) : okR r.1 r.2 := h r (by simp)
theorem nxt_isT {rs : List (Int × Int)} (ok : okL rs) : ∀ {x y : List Int}, IsT rs x → nxt rs x = some y → IsT rs y := by
  induction rs with
  | nil => intro x y h e; cases x <;> simp [nxt] at e
  | cons r rs ih =>
    intro x y h e
    cases x with
    | nil => simp [nxt] at e
    | cons a x =>
      have hr := ok.head
      unfold okR at hr
      have h1 : r.1 ≤ a ∧ a ≤ r.2 := h.1
      simp only [nxt] at e
      split at e
      · rw [Option.map_eq_some_iff] at e
        obtain ⟨z, hz, rfl⟩ := e
        exact ⟨⟨by omega, by omega⟩, ih ok.tail h.2 hz⟩
      · cases e
        exact ⟨⟨by omega, by omega⟩, h.2⟩
theorem aft_step {rs : List (Int × Int)} (ok : okL rs) : ∀ {x : List Int}, IsT rs x → aft rs x = x :: (match nxt rs x with | none => [] | some y => aft rs y) := by
  induction rs with
  | nil => intro x h; cases x with
    | nil => rfl
    | cons a x => simp [IsT] at h
  | cons r rs ih =>
    intro x h
    cases x with
    | nil => simp [IsT] at h
    | cons a x =>
      have h1 : r.1 ≤ a ∧ a ≤ r.2 := h.1
      have hx := ih ok.tail h.2
      simp only [aft, nxt]
      by_cases e : a = r.2
      · subst e
        rw [if_pos rfl, upto_one, hx]
        cases en : nxt rs x with
        | none => simp
        | some y =>
          have hy := ih ok.tail (nxt_isT ok.tail h.2 en)
          simp only [Option.map_some, aft]
          rw [List.map_singleton, List.singleton_append, List.tail_cons, hy, List.flatMap_cons]
          simp
      · rw [if_neg e, upto_cons (show a ≤ r.2 by omega)]
        simp [aft]
theorem lows_isT {rs : List (Int × Int)} (ok : okL rs) : IsT rs (lows rs) := by
  induction rs with
  | nil => trivial
  | cons r rs ih =>
    have := ok.head
    unfold okR at this
    exact ⟨⟨Int.le_refl _, by omega⟩, ih ok.tail⟩
theorem allT_cons {r : Int × Int} {rs : List (Int × Int)} (ok : okL rs) : allT (r :: rs) = (allT rs).flatMap fun y => (upto r.1 r.2).map (· :: y) := by
  show (upto r.1 r.2).map (· :: lows rs) ++ ((allT rs).tail).flatMap _ = _
  have h := aft_step ok (lows_isT ok)
  have e : allT rs = lows rs :: (allT rs).tail := by
    unfold allT
    rw [h]; rfl
  conv => rhs; rw [e, List.flatMap_cons]
theorem mem_allT {rs : List (Int × Int)} (ok : okL rs) : ∀ {x : List Int}, x ∈ allT rs ↔ IsT rs x := by
  induction rs with
  | nil => intro x; cases x <;> simp [allT, aft, IsT]
  | cons r rs ih =>
    intro x
    rw [allT_cons ok.tail]
    simp only [List.mem_flatMap, List.mem_map, mem_upto]
    constructor
    · rintro ⟨y, hy, h, hh, rfl⟩
      exact ⟨hh, (ih ok.tail).1 hy⟩
    · intro hx
      cases x with
      | nil => simp [IsT] at hx
      | cons h x => exact ⟨x, (ih ok.tail).2 hx.2, h, hx.1, rfl⟩

theorem nodup_flat {α β : Type} {f : α → List β} : ∀ {l : List α}, l.Nodup → (∀ x ∈ l, (f x).Nodup) → (∀ x ∈ l, ∀ y ∈ l, ∀ z, z ∈ f x → z ∈ f y → x = y) → (l.flatMap f).Nodup
  | [], _, _, _ => by simp
  | a :: l, h, h1, h2 => by
    rw [List.nodup_cons] at h
    rw [List.flatMap_cons, List.nodup_append]
    refine ⟨h1 a (by simp), nodup_flat h.2 (fun x hx => h1 x (by simp [hx])) (fun x hx y hy z hz hz' => h2 x (by simp [hx]) y (by simp [hy]) z hz hz'), fun u hu v hv e => ?_⟩
    subst e
    obtain ⟨y, hy, hz⟩ := List.mem_flatMap.1 hv
    have := h2 a (by simp) y (by simp [hy]) u hu hz
    subst this
    exact h.1 hy
theorem nodup_map {α β : Type} {f : α → β} (hf : ∀ x y, f x = f y → x = y) : ∀ {l : List α}, l.Nodup → (l.map f).Nodup
  | [], _ => by simp
  | a :: l, h => by
    rw [List.nodup_cons] at h
    rw [List.map_cons, List.nodup_cons]
    refine ⟨fun hm => ?_, nodup_map hf h.2⟩
    obtain ⟨y, hy, e⟩ := List.mem_map.1 hm
    have := hf _ _ e
    subst this
    exact h.1 hy
theorem upto_nodup (lo hi : Int) : (upto lo hi).Nodup := by
  unfold upto
  exact nodup_map (fun x y h => by simp at h; omega) List.nodup_range
theorem allT_nodup {rs : List (Int × Int)} (ok : okL rs) : (allT rs).Nodup := by
  induction rs with
  | nil => simp [allT, aft]
  | cons r rs ih =>
    rw [allT_cons ok.tail]
    refine nodup_flat (ih ok.tail) (fun y _ => nodup_map (fun a b h => by simpa using h) (upto_nodup _ _)) ?_
    intro x _ y _ z hx hy
    obtain ⟨a, _, rfl⟩ := List.mem_map.1 hx
    obtain ⟨b, _, e⟩ := List.mem_map.1 hy
    simp at e
    exact e.2.symm
theorem trs_nodup (rs : List (Int × Int)) : (trs rs).Nodup := by
  induction rs with
  | nil => simp [trs]
  | cons r rs ih =>
    refine nodup_flat (upto_nodup _ _) (fun y _ => nodup_map (fun a b h => by simpa using h) ih) ?_
    intro x _ y _ z hx hy
    obtain ⟨a, _, rfl⟩ := List.mem_map.1 hx
    obtain ⟨b, _, e⟩ := List.mem_map.1 hy
    simp at e
    exact e.1.symm
theorem allT_perm {rs : List (Int × Int)} (ok : okL rs) : (allT rs).Perm (trs rs) :=
  (List.perm_ext_iff_of_nodup (allT_nodup ok) (trs_nodup rs)).2 fun x => by rw [mem_allT ok, mem_trs]

/-- The odometer, place by place. -/
def zs (rs : List (Int × Int)) (x : List Int) : Nat → List Int
  | 0 => x
  | i + 1 => (zs rs x i).set i (pa rs i)
theorem zs_len (rs : List (Int × Int)) (x : List Int) (i : Nat) : (zs rs x i).length = x.length := by induction i <;> simp [zs, *]
theorem zs_nth (rs : List (Int × Int)) (x : List Int) : ∀ i j, j < x.length → nth (zs rs x i) j = if j < i then pa rs j else nth x j
  | 0, j, hj => by simp [zs]
  | i + 1, j, hj => by
    simp only [zs, nth_set, zs_len]
    have := zs_nth rs x i j hj
    by_cases e : i = j
    · subst e; rw [if_pos ⟨rfl, hj⟩, if_pos (by omega)]
    · rw [if_neg (fun h => e h.1), this]
      by_cases g : j < i
      · rw [if_pos g, if_pos (by omega)]
      · rw [if_neg g, if_neg (by omega)]
theorem pa_succ (r : Int × Int) (rs : List (Int × Int)) (i : Nat) : pa (r :: rs) (i + 1) = pa rs i := by simp [pa]
theorem pb_succ (r : Int × Int) (rs : List (Int × Int)) (i : Nat) : pb (r :: rs) (i + 1) = pb rs i := by simp [pb]
theorem pa_zero (r : Int × Int) (rs : List (Int × Int)) : pa (r :: rs) 0 = r.1 := by simp [pa]
theorem pb_zero (r : Int × Int) (rs : List (Int × Int)) : pb (r :: rs) 0 = r.2 := by simp [pb]
theorem zs_cons (r : Int × Int) (rs : List (Int × Int)) (h : Int) (x : List Int) : ∀ i, zs (r :: rs) (h :: x) (i + 1) = r.1 :: zs rs x i
  | 0 => by simp [zs, pa_zero]
  | i + 1 => by
    show (zs (r :: rs) (h :: x) (i + 1)).set (i + 1) (pa (r :: rs) (i + 1)) = _
    rw [zs_cons r rs h x i, pa_succ]
    simp [zs]
theorem nxt_none {rs : List (Int × Int)} : ∀ {x : List Int}, x.length = rs.length → (∀ j, j < rs.length → nth x j = pb rs j) → nxt rs x = none := by
  induction rs with
  | nil => intro x _ _; cases x <;> rfl
  | cons r rs ih =>
    intro x hl h
    cases x with
    | nil => rfl
    | cons a x =>
      have h0 := h 0 (by simp)
      rw [pb_zero, nth_zero] at h0
      rw [nxt, if_pos h0, ih (by simpa using hl) fun j hj => by have := h (j + 1) (by simpa using hj); rwa [nth_succ, pb_succ] at this]
      rfl
theorem nxt_some {rs : List (Int × Int)} : ∀ {x : List Int} {i : Nat}, x.length = rs.length → i < rs.length → (∀ j, j < i → nth x j = pb rs j) → nth x i ≠ pb rs i → nxt rs x = some ((zs rs x i).set i (nth x i + 1)) := by
  induction rs with
  | nil => intro x i _ hi; simp at hi
  | cons r rs ih =>
    intro x i hl hi h hn
    cases x with
    | nil => simp at hl
    | cons a x =>
      cases i with
      | zero =>
        rw [pb_zero, nth_zero] at hn
        rw [nxt, if_neg hn]
        simp [zs, nth_zero]
      | succ i =>
        have h0 := h 0 (by omega)
        rw [pb_zero, nth_zero] at h0
        rw [nth_succ, pb_succ] at hn
        rw [nxt, if_pos h0, ih (by simpa using hl) (by simpa using hi) (fun j hj => by have := h (j + 1) (by omega); rwa [nth_succ, pb_succ] at this) hn, zs_cons]
        simp [nth_succ]

theorem isT_fit {d : Dent} (v : VldD d) {x : List Int} (h : IsT d.rs x) : x.length = d.rs.length ∧ d.rs.length ≤ 4 ∧ ∀ i, 0 ≤ nth x i ∧ nth x i ≤ 100 := by
  have m := meas_vld v h
  exact ⟨h.len, v.n4, fun i => ⟨m.h0 i, m.h1 i⟩⟩

end Go.Proofs.Ytogglbhidlnijaa
