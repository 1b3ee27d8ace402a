/- The reference's search through all sets of lots finds the same lots. -/
import Derived.Test.YtioimdegbdkppaaH6
namespace Go.Proofs.Ytioimdegbdkppaa.DK
open Go
set_option linter.unusedVariables false

/-- The lots whose bits are in a number. -/
def memL (n : Nat) (set : Int) : List Int := lotsL n fun k => bitB set (k : Int)
def better (n q : Int) (l ys : List Int) : Bool :=
  cond (decide (n > q)) true (cond (cond (n == q) (decide (q > 0)) false) (cond (decide ((l.length : Int) < ys.length)) true (cond ((l.length : Int) == ys.length) (befL l ys) false)) false)
theorem better_iff {n q : Int} {l ys : List Int} : better n q l ys = true ↔ q < n ∨ n = q ∧ 0 < q ∧ keyL l ys = true := by
  unfold better
  rw [keyL_iff]
  by_cases h1 : n > q
  · rw [decide_eq_true h1]; simp; omega
  · rw [decide_eq_false h1]
    by_cases h2 : n = q
    · subst h2
      by_cases h3 : n > 0
      · rw [decide_eq_true h3]
        by_cases h4 : l.length < ys.length
        · rw [decide_eq_true (show (l.length : Int) < ys.length by omega)]; simp; omega
        · rw [decide_eq_false (show ¬ (l.length : Int) < ys.length by omega)]
          by_cases h5 : l.length = ys.length
          · rw [h5]; simp [h3]
          · have : ((l.length : Int) == ys.length) = false := by simp; omega
            rw [this]; simp; omega
      · rw [decide_eq_false h3]; simp; omega
    · have : (n == q) = false := by simpa using h2
      rw [this]; simp; omega
def refStep (g : List Int → Int) (s : Int × List Int) (l : List Int) : Int × List Int := cond (better (g l) s.1 l s.2) (g l, l) s
def refK (d : Day) (f : Nat → Int) : Nat → Int × List Int
  | 0 => (0, [])
  | k + 1 => refStep (defV d f) (refK d f k) (memL d.lots.length ((k + 1 : Nat) : Int))
def refGreat (d : Day) (f : Nat → Int) : Int × List Int := refK d f (2 ^ d.lots.length - 1)

theorem bit_small : ∀ (s : Fin 256) (k : Fin 8), bitB (s.val : Int) (k.val : Int) = Nat.testBit s.val k.val := by decide +kernel
def numA (A : Nat → Bool) : Nat → Nat
  | 0 => 0
  | n + 1 => cond (A n) (2 ^ n + numA A n) (numA A n)
theorem numA_lt (A : Nat → Bool) : ∀ n, numA A n < 2 ^ n
  | 0 => by simp [numA]
  | n + 1 => by
    have := numA_lt A n
    rw [numA, Nat.pow_succ]
    cases A n <;> simp <;> omega
theorem numA_bit (A : Nat → Bool) : ∀ n i, Nat.testBit (numA A n) i = (decide (i < n) && A i)
  | 0, i => by simp [numA]
  | n + 1, i => by
    have hlt := numA_lt A n
    rw [numA]
    cases hA : A n with
    | true =>
      rw [cond_true]
      by_cases h : i = n
      · subst h
        rw [Nat.testBit_two_pow_add_eq, numA_bit A i i]; simp [hA]
      · by_cases h2 : i < n
        · rw [Nat.testBit_two_pow_add_gt h2, numA_bit A n i, decide_eq_true h2, decide_eq_true (show i < n + 1 by omega)]
        · rw [decide_eq_false (show ¬ i < n + 1 by omega), Bool.false_and]
          refine Nat.testBit_lt_two_pow (Nat.lt_of_lt_of_le (show 2 ^ n + numA A n < 2 ^ (n + 1) by rw [Nat.pow_succ]; omega) (Nat.pow_le_pow_right (by omega) (by omega)))
    | false =>
      rw [cond_false, numA_bit A n i]
      by_cases h : i = n
      · subst h; simp [hA]
      · by_cases h2 : i < n
        · rw [decide_eq_true h2, decide_eq_true (show i < n + 1 by omega)]
        · rw [decide_eq_false h2, decide_eq_false (show ¬ i < n + 1 by omega)]
theorem lotsL_congr {n : Nat} {A B : Nat → Bool} (h : ∀ i, i < n → A i = B i) : lotsL n A = lotsL n B := by
  unfold lotsL
  congr 1
  exact List.filter_congr fun i hi => h i (List.mem_range.1 hi)
theorem memL_ris (n : Nat) (set : Int) : risF n (-1) (memL n set) = true := lotsL_ris _ _
theorem memL_num {n : Nat} (h8 : n ≤ 8) {xs : List Int} (h : risF n (-1) xs = true) : ∃ s : Nat, s < 2 ^ n ∧ memL n s = xs ∧ (xs ≠ [] → 1 ≤ s) := by
  have e := ris_lotsL h
  have hlt := numA_lt (fun i => decide ((i : Int) ∈ xs)) n
  have h256 : 2 ^ n ≤ 256 := Nat.le_trans (Nat.pow_le_pow_right (by omega) h8) (by decide)
  have hm : memL n (numA (fun i => decide ((i : Int) ∈ xs)) n : Nat) = xs := by
    rw [e]
    unfold memL
    refine lotsL_congr fun i hi => ?_
    have := bit_small ⟨numA (fun i => decide ((i : Int) ∈ xs)) n, by omega⟩ ⟨i, by omega⟩
    simp only at this
    rw [← e, this, numA_bit, decide_eq_true hi, Bool.true_and]
  refine ⟨_, hlt, hm, fun hne => ?_⟩
  cases hz : numA (fun i => decide ((i : Int) ∈ xs)) n with
  | succ k => omega
  | zero =>
    exfalso; apply hne
    rw [← hm, hz]
    unfold memL lotsL
    rw [List.map_eq_nil_iff, List.filter_eq_nil_iff]
    intro i hi
    have hi2 := List.mem_range.1 hi
    have := bit_small ⟨0, by omega⟩ ⟨i, by omega⟩
    simp only at this
    rw [show ((0 : Nat) : Int) = 0 from rfl] at this
    rw [show ((0 : Nat) : Int) = 0 from rfl, this]
    simp
section
variable {d : Day} {f : Nat → Int}
structure RefI (d : Day) (f : Nat → Int) (k : Nat) (s : Int × List Int) : Prop where
  nn : 0 ≤ s.1
  ris : risF d.lots.length (-1) s.2 = true
  val : defV d f s.2 = s.1
  emp : s.1 = 0 → s.2 = []
  max : ∀ j : Nat, 1 ≤ j → j ≤ k → defV d f (memL d.lots.length j) ≤ s.1
  least : ∀ j : Nat, 1 ≤ j → j ≤ k → defV d f (memL d.lots.length j) = s.1 → 0 < s.1 → keyL (memL d.lots.length j) s.2 = false
theorem refK_inv : ∀ k, RefI d f k (refK d f k)
  | 0 => ⟨Int.le_refl _, rfl, defV_nil, fun _ => rfl, fun j h1 h2 => by omega, fun j h1 h2 => by omega⟩
  | k + 1 => by
    have h := refK_inv k
    rw [refK]
    generalize refK d f k = s at h
    unfold refStep
    cases hb : better (defV d f (memL d.lots.length ((k + 1 : Nat) : Int))) s.1 (memL d.lots.length ((k + 1 : Nat) : Int)) s.2 with
    | true =>
      rw [cond_true]
      rcases better_iff.1 hb with h1 | ⟨h1, h2, h3⟩
      · have hnn := h.nn
        refine ⟨by simp only; omega, memL_ris _ _, rfl, fun e => by simp only at e; omega, fun j hj1 hj2 => ?_, fun j hj1 hj2 he h0 => ?_⟩
        · by_cases e : j = k + 1
          · subst e; exact Int.le_refl _
          · have := h.max j hj1 (by omega); simp only; omega
        · by_cases e : j = k + 1
          · subst e; exact keyL_irr _
          · have := h.max j hj1 (by omega); simp only at he; omega
      · refine ⟨by simp only; omega, memL_ris _ _, rfl, fun e => by simp only at e; omega, fun j hj1 hj2 => ?_, fun j hj1 hj2 he h0 => ?_⟩
        · by_cases e : j = k + 1
          · subst e; exact Int.le_refl _
          · have := h.max j hj1 (by omega); simp only; omega
        · by_cases e : j = k + 1
          · subst e; exact keyL_irr _
          · simp only at he
            have h4 := h.least j hj1 (by omega) (by omega) (by omega)
            cases hk : keyL (memL d.lots.length j) (memL d.lots.length ((k + 1 : Nat) : Int)) with
            | false => rfl
            | true => have := keyL_trans hk h3; rw [h4] at this; cases this
    | false =>
      rw [cond_false]
      have hnb : ¬ (s.1 < defV d f (memL d.lots.length ((k + 1 : Nat) : Int)) ∨ defV d f (memL d.lots.length ((k + 1 : Nat) : Int)) = s.1 ∧ 0 < s.1 ∧ keyL (memL d.lots.length ((k + 1 : Nat) : Int)) s.2 = true) := fun hh => by
        rw [better_iff.2 hh] at hb; cases hb
      rw [not_or] at hnb
      refine ⟨h.nn, h.ris, h.val, h.emp, fun j hj1 hj2 => ?_, fun j hj1 hj2 he h0 => ?_⟩
      · by_cases e : j = k + 1
        · subst e; omega
        · exact h.max j hj1 (by omega)
      · by_cases e : j = k + 1
        · subst e
          cases hk : keyL (memL d.lots.length ((k + 1 : Nat) : Int)) s.2 with
          | false => rfl
          | true => exact absurd ⟨he, h0, hk⟩ hnb.2
        · exact h.least j hj1 (by omega) he h0
theorem refGreat_great (h8 : d.lots.length ≤ 8) : Great d f (refGreat d f).1 (refGreat d f).2 := by
  unfold refGreat
  have h := refK_inv (d := d) (f := f) (2 ^ d.lots.length - 1)
  generalize refK d f (2 ^ d.lots.length - 1) = s at h
  refine ⟨h.ris, h.val, fun xs hx => ?_, fun xs hx he => ?_⟩
  · obtain ⟨j, h1, h2, h3⟩ := memL_num h8 hx
    by_cases e : xs = []
    · subst e; rw [defV_nil]; exact h.nn
    · rw [← h2]; exact h.max j (h3 e) (by omega)
  · obtain ⟨j, h1, h2, h3⟩ := memL_num h8 hx
    by_cases e : xs = []
    · subst e
      have : s.1 = 0 := by rw [← he, defV_nil]
      rw [h.emp this]; exact keyL_irr _
    · have hnn := h.nn
      by_cases h0 : s.1 = 0
      · rw [h.emp h0]
        cases hk : keyL xs [] with
        | false => rfl
        | true =>
          rcases keyL_iff.1 hk with h | ⟨_, h⟩
          · simp at h
          · cases xs <;> simp [befL] at h
      · rw [← h2]; exact h.least j (h3 e) (by omega) (by rw [h2]; exact he) (by omega)
theorem refGreat_eq (hv : dayV d = true) : refGreat d f = ((doneF d f d.lots.length).2, (proofK d f d.lots.length).2) := by
  have h1 := refGreat_great (d := d) (f := f) (day_ok hv).2.2.2.1
  have h2 := proofK_great (d := d) (f := f)
  obtain ⟨h3, h4⟩ := h1.uniq h2
  have h5 := h1.lost hv
  exact Prod.ext h5 h4
end
end Go.Proofs.Ytioimdegbdkppaa.DK
