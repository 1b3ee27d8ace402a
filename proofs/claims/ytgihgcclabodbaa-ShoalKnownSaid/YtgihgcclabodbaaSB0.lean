/- Where a number stands in a list; lists that are alike. -/
import Derived.Test.YtgihgcclabodbaaKY
namespace Go.Proofs.Ytgihgcclabodbaa.DK
open Go
set_option linter.unusedVariables false

def placeG (x : Int) : Int → List Int → Int
  | _, [] => -1
  | k, y :: r => cond (y == x) k (placeG x (k + 1) r)
def placeI (xs : List Int) (x : Int) : Int := placeG x 0 xs
theorem placeG_hit {x : Int} {xs : List Int} {k : Nat} (hk : k < xs.length) (h : (xs.getD k default == x) = true) : placeG x (k : Int) (xs.drop k) = (k : Int) := by rw [drop_getD hk, placeG, h]; rfl
theorem placeG_step {x : Int} {xs : List Int} {k : Nat} (hk : k < xs.length) (h : (xs.getD k default == x) = false) : placeG x ((k + 1 : Nat) : Int) (xs.drop (k + 1)) = placeG x (k : Int) (xs.drop k) := by rw [drop_getD hk, placeG, h]; rfl
theorem placeG_in {x : Int} : ∀ (xs : List Int) (k : Int), 0 ≤ k → (x ∈ xs → 0 ≤ placeG x k xs) ∧ (x ∉ xs → placeG x k xs = -1)
  | [], k, _ => by simp [placeG]
  | y :: r, k, hk => by
    have ih := placeG_in (x := x) r (k + 1) (by omega)
    rw [placeG]
    by_cases e : y = x
    · subst e; simp; omega
    · have e2 : (y == x) = false := by simpa using e
      rw [e2, cond_false]
      simp only [List.mem_cons, Ne.symm e, false_or]
      exact ih
theorem placeI_neg (xs : List Int) (x : Int) : decide (placeI xs x < 0) = !decide (x ∈ xs) := by
  have h := placeG_in (x := x) xs 0 (by omega)
  by_cases hx : x ∈ xs
  · have := h.1 hx; rw [decide_eq_true hx, decide_eq_false (by unfold placeI; omega)]; rfl
  · have := h.2 hx; rw [decide_eq_false hx, decide_eq_true (by unfold placeI; omega)]; rfl
theorem take_same {xs ys : List Int} {k : Nat} (h : xs.take k = ys.take k) (h1 : k < xs.length) (h2 : k < ys.length) (e : xs.getD k default = ys.getD k default) : xs.take (k + 1) = ys.take (k + 1) := by
  have e1 : xs.getD k default = xs[k] := by simp [List.getD_eq_getElem?_getD, h1]
  have e2 : ys.getD k default = ys[k] := by simp [List.getD_eq_getElem?_getD, h2]
  rw [List.take_succ_eq_append_getElem h1, List.take_succ_eq_append_getElem h2, h, ← e1, ← e2, e]
end Go.Proofs.Ytgihgcclabodbaa.DK
