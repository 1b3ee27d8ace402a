/- Tracks. -/
import Derived.Test.YtgihgcclabodbaaSLog
namespace Go.Proofs.Ytgihgcclabodbaa.DK
open Go
set_option linter.unusedVariables false

theorem rq_plB {s : Sea} {rs : List Rp} (hv : seaB s = true) (hr : rpsB s rs = true) {k : Nat} (hk : k < rs.length) : plB (((rqs s rs).getD k default).c, ((rqs s rs).getD k default).r) := by
  have h1 := sea_ok hv
  have h2 := (rp_ok hr).2 k hk
  rw [rqs_at hk]
  exact pl_plB (s := s) (c := (rs.getD k default).cell) (by omega) (by omega) (by omega) (by omega)
/-- Is the track bad at hour k? -/
def badT (s : Sea) (t : List Int) (k : Nat) : Bool :=
  cond (cond (!(inB (t.getD k default) 0 (nC s - 1))) true (landF s (pl s (t.getD k default)))) true (cond (decide ((k : Int) > 0)) (!(stepP s ((k : Int) - 1) (pl s (t.getD ((k : Int) - 1).toNat default)) (pl s (t.getD k default)))) false)
def lieS (s : Sea) (rs : List Rp) (t : List Int) : Nat → Int
  | 0 => 0
  | k + 1 => lieS s rs t k + untr s rs (k : Int) (t.getD k default)
def isTrB (s : Sea) (t : List Int) : Bool := (List.range t.length).all fun k => !(badT s t k)
theorem badT_in {s : Sea} {t : List Int} {k : Nat} (h : badT s t k = false) : 0 ≤ t.getD k default ∧ t.getD k default < nC s ∧ landF s (pl s (t.getD k default)) = false := by
  unfold badT at h
  cases h1 : inB (t.getD k default) 0 (nC s - 1) with
  | false => rw [h1] at h; cases h
  | true =>
    cases h2 : landF s (pl s (t.getD k default)) with
    | true => rw [h1, h2] at h; cases h
    | false => have := inB_iff.1 h1; exact ⟨by omega, by omega, rfl⟩
theorem lieS_bd {s : Sea} {rs : List Rp} (hr : rpsB s rs = true) (t : List Int) : ∀ k, 0 ≤ lieS s rs t k ∧ lieS s rs t k ≤ 24 * (k : Int)
  | 0 => by simp [lieS]
  | k + 1 => by
    have h1 := lieS_bd hr t k; have h2 := untr_bd (s := s) (rs := rs) (k : Int) (t.getD k default); have h3 := (rp_ok hr).1
    rw [lieS]; omega
theorem trk_g1 {a b : Bool} {x m : Int} (h : (!(cond (!(inB x 0 m)) true a)) = true) : 0 ≤ x ∧ x ≤ m := by
  cases h1 : inB x 0 m with
  | false => rw [h1] at h; cases h
  | true => exact inB_iff.1 h1
theorem trk_g2 {a : Bool} {x m : Int} {k : Nat} (h : ((!(cond (!(inB x 0 m)) true a)) && (decide ((k : Int) > 0))) = true) : 0 ≤ x ∧ x ≤ m ∧ 0 < k := by
  simp only [Bool.and_eq_true, decide_eq_true_eq] at h
  have := trk_g1 (b := true) h.1
  omega
def err (s : Sea) (rs : List Rp) : Int := if chk s ≠ 0 then chk s else if rpsB s rs = true then 0 else 11
/-- What IsTrack answers. -/
def trackR (s : Sea) (rs : List Rp) (t : List Int) : Int × Bool × Int :=
  if err s rs ≠ 0 then (0, false, err s rs) else if (t.length : Int) ≠ s.hours then (0, false, 0) else if isTrB s t = true then (lieS s rs t t.length, true, 0) else (0, false, 0)
theorem err_no {s : Sea} {rs : List Rp} (h : chk s = 10) : err s rs = 10 := by unfold err; rw [if_pos (by omega), h]
theorem err_rep {s : Sea} {rs : List Rp} (h : seaB s = true) (h2 : rpsB s rs = false) : err s rs = 11 := by unfold err; rw [if_neg (by rw [chk, if_pos h]; simp), if_neg (by rw [h2]; simp)]
theorem err_ok {s : Sea} {rs : List Rp} (h : seaB s = true) (h2 : rpsB s rs = true) : err s rs = 0 := by unfold err; rw [if_neg (by rw [chk, if_pos h]; simp), if_pos h2]
theorem isTrB_bad {s : Sea} {t : List Int} {k : Nat} (hk : k < t.length) (h : badT s t k = true) : isTrB s t = false := by
  unfold isTrB
  rw [List.all_eq_false]
  exact ⟨k, List.mem_range.2 hk, by rw [h]; simp⟩
theorem isTrB_all {s : Sea} {t : List Int} (h : ∀ k, k < t.length → badT s t k = false) : isTrB s t = true := by
  unfold isTrB
  rw [List.all_eq_true]
  intro k hk
  rw [h k (List.mem_range.1 hk)]; rfl
end Go.Proofs.Ytgihgcclabodbaa.DK
