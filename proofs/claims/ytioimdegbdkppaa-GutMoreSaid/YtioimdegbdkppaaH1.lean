/- Until which hour a lot keeps: the reckoning hour by hour, and the reference's sum. -/
import Derived.Test.YtioimdegbdkppaaGT
namespace Go.Proofs.Ytioimdegbdkppaa.DK
open Go
set_option linter.unusedVariables false

theorem refGo_stuck {e : Sp → Int} {keep : Int} : ∀ (xs : List Sp) (h s u : Int), (∀ x ∈ xs, 0 ≤ e x) → keep < s → refGo e keep xs h s u = u
  | [], _, _, _, _, _ => rfl
  | x :: xs, h, s, u, he, hs => by
    have h0 := he x (by simp)
    rw [refGo, show decide (s + e x ≤ keep) = false from decide_eq_false (by omega)]
    exact refGo_stuck xs _ _ _ (fun y hy => he y (by simp [hy])) (by omega)
theorem keep_ref {e : Sp → Int} {keep la : Int} : ∀ (xs : List Sp) (h n u : Int), (∀ x ∈ xs, 0 ≤ e x) → la ≤ h → 0 ≤ n → keepGo e la xs h n u = refGo e keep xs h (keep - n) u
  | [], _, _, _, _, _, _ => rfl
  | x :: xs, h, n, u, he, hl, hn => by
    have h0 := he x (by simp)
    rw [keepGo, if_neg (by omega), refGo]
    by_cases hx : n - e x < 0
    · rw [if_pos hx, show decide (keep - n + e x ≤ keep) = false from decide_eq_false (by omega)]
      exact (refGo_stuck xs _ _ _ (fun y hy => he y (by simp [hy])) (by omega)).symm
    · rw [if_neg hx, show decide (keep - n + e x ≤ keep) = true from decide_eq_true (by omega), keep_ref (keep := keep) xs (h + 1) (n - e x) h (fun y hy => he y (by simp [hy])) (by omega) (by omega), show keep - (n - e x) = keep - n + e x from by omega]
      rfl
theorem keep_skip {e : Sp → Int} {la : Int} : ∀ (xs : List Sp) (h : Nat) (n u : Int), (h : Int) ≤ la → (la - h).toNat ≤ xs.length → keepGo e la xs h n u = keepGo e la (xs.drop (la - h).toNat) la n u
  | [], h, n, u, hl, hx => by
    have : (la - h).toNat = 0 := by simpa using hx
    rw [this]; rfl
  | x :: xs, h, n, u, hl, hx => by
    by_cases he : (h : Int) = la
    · rw [← he]; simp
    · rw [keepGo, if_pos (by omega)]
      have h1 : (la - h).toNat = (la - ((h + 1 : Nat) : Int)).toNat + 1 := by omega
      rw [h1, List.drop_succ_cons]
      have := keep_skip (e := e) (la := la) xs (h + 1) n u (by omega) (by simp at hx; omega)
      exact this
theorem until_eq {e : Sp → Int} {d : Day} (hv : dayV d = true) (he : ∀ x, spB x = true → 0 ≤ e x) {i : Nat} (hi : i < d.lots.length) : untilL e d.heat (d.lots.getD i default) = refUntil e d (d.lots.getD i default) := by
  have hl := lot_ok hv hi
  have hd := day_ok hv
  have hall : ∀ x ∈ d.heat, 0 ≤ e x := fun x hx => by
    simp only [dayV, Bool.and_eq_true, List.all_eq_true] at hv
    exact he x (hv.1.1.2 x hx)
  unfold untilL refUntil
  have h1 := keep_skip (e := e) (la := (d.lots.getD i default).la) d.heat 0 (d.lots.getD i default).ke ((d.lots.getD i default).la - 1) (by omega) (by omega)
  have h2 : ((d.lots.getD i default).la - ((0 : Nat) : Int)).toNat = (d.lots.getD i default).la.toNat := by omega
  rw [h2] at h1
  refine h1.trans ?_
  rw [keep_ref (keep := (d.lots.getD i default).ke) _ _ _ _ (fun x hx => hall x (List.mem_of_mem_drop hx)) (by omega) (by omega)]
  congr 1; omega
theorem sp_lo {x : Sp} (h : spB x = true) : 0 ≤ x.lo := by unfold spB at h; by_cases h1 : 0 ≤ x.lo <;> simp_all
theorem sp_hi {x : Sp} (h : spB x = true) : 0 ≤ x.hi := by unfold spB at h; by_cases h1 : 0 ≤ x.lo <;> by_cases h2 : x.lo ≤ x.hi <;> simp_all; omega
theorem refUntil_eq (d : Day) (lot : Int) : refUntilA d lot = gutUntil d lot := by
  unfold refUntilA gutUntil
  rw [refChk_eq]
  by_cases h : chk d ≠ 0
  · rw [if_pos h, if_pos h]
  · rw [if_neg h, if_neg h]
    have hv := chk_ok (d := d) (by simpa using h)
    by_cases h2 : inB lot 0 ((d.lots.length : Int) - 1) = true
    · rw [if_pos h2, if_pos h2]
      have h3 := inB_iff.1 h2
      have hi : lot.toNat < d.lots.length := by omega
      rw [← until_eq hv (fun x hx => sp_hi hx) hi, ← until_eq hv (fun x hx => sp_lo hx) hi]
      simp [untils, ufs, hi]
    · rw [if_neg h2, if_neg h2]
end Go.Proofs.Ytioimdegbdkppaa.DK
