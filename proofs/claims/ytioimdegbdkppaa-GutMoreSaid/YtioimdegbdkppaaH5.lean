/- Deficits of lists of lots: as the program reckons them, and as they are. -/
import Derived.Test.YtioimdegbdkppaaH4
namespace Go.Proofs.Ytioimdegbdkppaa.DK
open Go
set_option linter.unusedVariables false

section
variable {d : Day} {f : Nat → Int}
/-- Can it take one of the lots? -/
def cov (d : Day) (f : Nat → Int) (xs : List Int) (s : Int × Int) : Bool := xs.any fun x => canB d f x s
def defV (d : Day) (f : Nat → Int) (xs : List Int) : Int := (xs.map fun x => crI d x.toNat).sum - gsum d fun s => cond (cov d f xs s) (rate d s) 0

theorem defS_spec : ∀ (l : List (Int × Int)) (q : Int) (S : Int × Int → Bool), (∀ s ∈ l, s ∈ grid d) →
    ((defS d l (q, S)).1 + gsum d (fun s => cond ((defS d l (q, S)).2 s) (rate d s) 0) = q + gsum d (fun s => cond (S s) (rate d s) 0)) ∧ ∀ s, (defS d l (q, S)).2 s = (S s || decide (s ∈ l))
  | [], q, S, _ => ⟨rfl, fun s => by simp [defS]⟩
  | x :: l, q, S, h => by
    have hx := h x (by simp)
    have hne : (x.1 == (-1) && x.2 == (-1)) = false := by
      have := mem_grid.1 hx
      have : x.1 ≠ -1 := by omega
      simp [this]
    have hl : ∀ s ∈ l, s ∈ grid d := fun s hs => h s (by simp [hs])
    cases hS : S x with
    | true =>
      rw [defS_no (by rw [hne, hS]; rfl)]
      obtain ⟨h1, h2⟩ := defS_spec l q S hl
      refine ⟨h1, fun s => ?_⟩
      rw [h2]
      by_cases e : s = x
      · subst e; simp [hS]
      · simp [e]
    | false =>
      rw [defS_yes (by rw [hne, hS]; rfl)]
      obtain ⟨h1, h2⟩ := defS_spec l (q - (d.wks.getD x.1.toNat default).rt) (updt S x true) hl
      refine ⟨?_, fun s => ?_⟩
      · rw [h1]
        have e : (fun s => cond (updt S x true s) (rate d s) 0) = updt (fun s => cond (S s) (rate d s) 0) x (rate d x) := by
          funext s
          unfold updt
          by_cases e : s = x
          · simp [e]
          · simp [e]
        rw [e, gsum_updt hx, hS]
        have hr : rate d x = (d.wks.getD x.1.toNat default).rt := rfl
        simp only [cond_false]; omega
      · rw [h2]
        unfold updt
        by_cases e : s = x
        · subst e; simp
        · simp [e]
theorem defK_spec {xs : List Int} : ∀ k, k ≤ xs.length →
    ((defK d f xs k).1 + gsum d (fun s => cond ((defK d f xs k).2 s) (rate d s) 0) = ((xs.take k).map fun x => crI d x.toNat).sum) ∧ ∀ s, s ∈ grid d → (defK d f xs k).2 s = cov d f (xs.take k) s
  | 0, _ => by
    refine ⟨?_, fun s _ => by simp [defK, cov]⟩
    rw [show (fun s => cond ((defK d f xs 0).2 s) (rate d s) 0) = fun _ => 0 from rfl, gsum_0]; simp [defK]
  | k + 1, hk => by
    obtain ⟨h1, h2⟩ := defK_spec (xs := xs) k (by omega)
    obtain ⟨h3, h4⟩ := defS_spec (d := d) (slotsA d f (xs.getD k default) 0) ((defK d f xs k).1 + (d.lots.getD (xs.getD k default).toNat default).cr) (defK d f xs k).2 (fun s hs => (slots_mem.1 hs).1)
    have et : xs.take (k + 1) = xs.take k ++ [xs.getD k default] := by
      rw [List.take_succ_eq_append_getElem (by omega)]
      simp [List.getD_eq_getElem?_getD, show k < xs.length from by omega]
    constructor
    · show (defS d (slotsA d f (xs.getD k default) 0) _).1 + gsum d (fun s => cond ((defS d (slotsA d f (xs.getD k default) 0) _).2 s) (rate d s) 0) = _
      rw [h3, et, List.map_append, List.sum_append]
      simp only [List.map_cons, List.map_nil, List.sum_cons, List.sum_nil]
      have hr : crI d (xs.getD k default).toNat = (d.lots.getD (xs.getD k default).toNat default).cr := rfl
      omega
    · intro s hs
      show (defS d (slotsA d f (xs.getD k default) 0) _).2 s = _
      rw [h4, h2 s hs, et]
      unfold cov
      rw [List.any_append]
      congr 1
      simp only [List.any_cons, List.any_nil, Bool.or_false]
      cases hc : canB d f (xs.getD k default) s with
      | true => exact decide_eq_true (slots_mem.2 ⟨hs, hc⟩)
      | false => exact decide_eq_false fun hm => by have := (slots_mem.1 hm).2; rw [hc] at this; cases this
theorem defF_eq (xs : List Int) : defF d f xs = defV d f xs := by
  obtain ⟨h1, h2⟩ := defK_spec (d := d) (f := f) (xs := xs) xs.length (Nat.le_refl _)
  rw [List.take_length] at h1 h2
  unfold defF defV
  have e : gsum d (fun s => cond ((defK d f xs xs.length).2 s) (rate d s) 0) = gsum d fun s => cond (cov d f xs s) (rate d s) 0 := gsum_congr fun s hs => by rw [h2 s hs]
  omega

/-- The lots A, as a list. -/
def lotsL (n : Nat) (A : Nat → Bool) : List Int := ((List.range n).filter A).map fun (i : Nat) => (i : Int)
theorem sum_lotsL (g : Nat → Int) (A : Nat → Bool) : ∀ n, ((lotsL n A).map fun x => g x.toNat).sum = fsum n fun i => cond (A i) (g i) 0
  | 0 => rfl
  | n + 1 => by
    rw [fsum_succ, ← sum_lotsL g A n]
    unfold lotsL
    rw [List.range_succ, List.filter_append, List.map_append, List.map_append, List.sum_append]
    congr 1
    cases h : A n <;> simp [h]
theorem cov_lotsL (A : Nat → Bool) (s : Int × Int) : cov d f (lotsL d.lots.length A) s = covA d f A s := by
  unfold cov covA lotsL
  rw [List.any_map, List.any_filter]
  rfl
theorem defV_lotsL (A : Nat → Bool) : defV d f (lotsL d.lots.length A) = defA d f (crI d) A := by
  unfold defV defA
  rw [sum_lotsL, gsum_congr (fun s _ => by rw [cov_lotsL])]

theorem ris_mem {n : Int} : ∀ (xs : List Int) (last : Int), risF n last xs = true → ∀ x ∈ xs, last < x ∧ x < n
  | i :: r, last, h, x, hx => by
    cases hb : inB i (last + 1) (n - 1) with
    | false => rw [risF, hb] at h; cases h
    | true =>
      rw [risF, hb] at h
      have h1 := inB_iff.1 hb
      rcases List.mem_cons.1 hx with rfl | hx
      · omega
      · have := ris_mem r i h x hx; omega
theorem ris_cons {n last i : Int} {r : List Int} : risF n last (i :: r) = true ↔ (last < i ∧ i < n) ∧ risF n i r = true := by
  rw [risF]
  cases hb : inB i (last + 1) (n - 1) with
  | false => exact ⟨fun h => (by cases h), fun h => by rw [inB_iff.2 (by omega)] at hb; cases hb⟩
  | true => have := inB_iff.1 hb; exact ⟨fun h => ⟨by omega, h⟩, fun h => h.2⟩
theorem ris_list {n : Nat} : ∀ (xs : List Int) (a : Nat), risF n ((a : Int) - 1) xs = true → xs = ((List.range' a (n - a)).filter fun (i : Nat) => decide ((i : Int) ∈ xs)).map fun (i : Nat) => (i : Int)
  | [], a, _ => by simp
  | i :: r, a, h => by
    obtain ⟨h1, h2⟩ := ris_cons.1 h
    obtain ⟨b, rfl⟩ := Int.eq_ofNat_of_zero_le (show 0 ≤ i by omega)
    have hm := ris_mem r _ h2
    have ih := ris_list r (b + 1) (by rw [show ((b + 1 : Nat) : Int) - 1 = (b : Int) from by omega]; exact h2)
    have e1 : List.range' a (n - a) = List.range' a (b - a) ++ (b :: List.range' (b + 1) (n - (b + 1))) := by
      rw [← range'_cons (by omega : b < n), show n - a = (b - a) + (n - b) from by omega, ← List.range'_append_1, show a + (b - a) = b from by omega]
    rw [e1, List.filter_append, List.map_append]
    have e2 : (List.range' a (b - a)).filter (fun (j : Nat) => decide ((j : Int) ∈ (b : Int) :: r)) = [] := by
      rw [List.filter_eq_nil_iff]
      intro j hj
      obtain ⟨k, hk, rfl⟩ := List.mem_range'.1 hj
      simp only [decide_eq_true_eq, List.mem_cons, not_or]
      refine ⟨by omega, fun hr => ?_⟩
      have := hm _ hr; omega
    rw [e2, List.filter_cons_of_pos (by simp)]
    simp only [List.map_nil, List.nil_append, List.map_cons, List.cons.injEq, true_and]
    refine ih.trans ?_
    congr 1
    refine List.filter_congr fun j hj => ?_
    obtain ⟨k, hk, rfl⟩ := List.mem_range'.1 hj
    have : ((b + 1 + 1 * k : Nat) : Int) ≠ (b : Int) := by omega
    rw [decide_eq_decide]
    exact ⟨fun h => List.mem_cons_of_mem _ h, fun h => (List.mem_cons.1 h).resolve_left this⟩
theorem ris_lotsL {n : Nat} {xs : List Int} (h : risF n (-1) xs = true) : xs = lotsL n fun i => decide ((i : Int) ∈ xs) := by
  have := ris_list xs 0 h
  rw [Nat.sub_zero, ← List.range_eq_range'] at this
  exact this
theorem ris_range {n : Nat} (A : Nat → Bool) : ∀ (k a : Nat), a + k = n → risF n ((a : Int) - 1) (((List.range' a k).filter A).map fun (i : Nat) => (i : Int)) = true
  | 0, a, _ => rfl
  | k + 1, a, h => by
    have ih := ris_range (n := n) A k (a + 1) (by omega)
    rw [show ((a + 1 : Nat) : Int) - 1 = (a : Int) from by omega] at ih
    rw [List.range'_succ]
    cases hA : A a with
    | true =>
      rw [List.filter_cons_of_pos (by simp [hA]), List.map_cons]
      exact ris_cons.2 ⟨by omega, ih⟩
    | false =>
      rw [List.filter_cons_of_neg (by simp [hA])]
      generalize (((List.range' (a + 1) k).filter A).map fun (i : Nat) => (i : Int)) = xs at ih
      cases xs with
      | nil => rfl
      | cons x r =>
        obtain ⟨h1, h2⟩ := ris_cons.1 ih
        exact ris_cons.2 ⟨by omega, h2⟩
theorem lotsL_ris (n : Nat) (A : Nat → Bool) : risF n (-1) (lotsL n A) = true := by
  have := ris_range (n := n) A n 0 (by omega)
  unfold lotsL
  rw [List.range_eq_range']
  exact this

/-- No lists have a greater deficit than what is lost, and one has this. -/
theorem done_defV (hv : dayV d = true) : (∀ xs, risF d.lots.length (-1) xs = true → defV d f xs ≤ (doneF d f d.lots.length).2) ∧ ∃ xs, risF d.lots.length (-1) xs = true ∧ defV d f xs = (doneF d f d.lots.length).2 := by
  have h := done_done (f := f) hv
  constructor
  · intro xs hx
    rw [ris_lotsL hx, defV_lotsL]
    exact h.max _
  · obtain ⟨A, hA⟩ := h.cut
    exact ⟨lotsL d.lots.length A, lotsL_ris _ _, by rw [defV_lotsL, hA]⟩
end
end Go.Proofs.Ytioimdegbdkppaa.DK
