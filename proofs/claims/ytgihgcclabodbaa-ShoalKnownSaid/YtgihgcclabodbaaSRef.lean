/- The reference's words, and that they are the program's. -/
import Derived.Test.YtgihgcclabodbaaSLog
import Derived.Test.YtgihgcclabodbaaSB0
import Derived.Test.YtgihgcclabodbaaSTrk
namespace Go.Proofs.Ytgihgcclabodbaa.DK
open Go
set_option linter.unusedVariables false

theorem far_sym (p q : Int × Int) : mx (absI (p.1 - q.1)) (absI (p.2 - q.2)) = farP p q := by
  simp only [farP, absI, mx]
  repeat' split
  all_goals omega
def watB (s : Sea) (c : Int) : Bool := cond (inB c 0 (nC s - 1)) (!(landF s (pl s c))) false
theorem wat_eq (s : Sea) (c : Int) : cond (inB c 0 (nC s - 1)) (decide (placeI s.land c < 0)) false = watB s c := by
  unfold watB
  rw [placeI_neg, landF_pl]
theorem watB_iff {s : Sea} {c : Int} : watB s c = true ↔ c ∈ cellsA s 0 := by
  unfold watB
  constructor
  · intro h
    cases h1 : inB c 0 (nC s - 1) with
    | false => rw [h1] at h; cases h
    | true =>
      rw [h1] at h
      have := inB_iff.1 h1
      exact of_cellsA (by omega) (by omega) (by simpa using h)
  · intro h
    have := mem_cellsA h
    rw [inB_iff.2 (by omega), this.2.2]; rfl
theorem step_eq {s : Sea} {h : Int} (p q : Int × Int) (hsp : 0 ≤ s.speed) :
    cond (inB (q.1 - p.1 - (s.drift.getD h.toNat default).e) (-s.speed) s.speed) (inB (q.2 - p.2 - (s.drift.getD h.toNat default).n) (-s.speed) s.speed) false = stepP s h p q := by
  unfold stepP
  generalize s.drift.getD h.toNat default = d
  have key : (cond (inB (q.1 - p.1 - d.e) (-s.speed) s.speed) (inB (q.2 - p.2 - d.n) (-s.speed) s.speed) false) = decide (farP (p.1 + d.e, p.2 + d.n) q ≤ s.speed) := by
    have hf : (farP (p.1 + d.e, p.2 + d.n) q ≤ s.speed) ↔ (-s.speed ≤ q.1 - p.1 - d.e ∧ q.1 - p.1 - d.e ≤ s.speed) ∧ (-s.speed ≤ q.2 - p.2 - d.n ∧ q.2 - p.2 - d.n ≤ s.speed) := by
      simp only [farP, mx]
      repeat' split
      all_goals omega
    by_cases h1 : -s.speed ≤ q.1 - p.1 - d.e ∧ q.1 - p.1 - d.e ≤ s.speed
    · rw [inB_iff.2 h1, cond_true]
      by_cases h2 : -s.speed ≤ q.2 - p.2 - d.n ∧ q.2 - p.2 - d.n ≤ s.speed
      · rw [inB_iff.2 h2, decide_eq_true (hf.2 ⟨h1, h2⟩)]
      · rw [decide_eq_false (fun h => h2 (hf.1 h).2)]
        cases hb : inB (q.2 - p.2 - d.n) (-s.speed) s.speed with
        | false => rfl
        | true => exact absurd (inB_iff.1 hb) h2
    · rw [decide_eq_false (fun h => h1 (hf.1 h).1)]
      cases hb : inB (q.1 - p.1 - d.e) (-s.speed) s.speed with
      | false => rfl
      | true => exact absurd (inB_iff.1 hb) h1
  rw [key]
  cases he : ((p.1 + d.e == q.1) && (p.2 + d.n == q.2)) with
  | false => rfl
  | true =>
    simp only [Bool.and_eq_true, beq_iff_eq] at he
    rw [cond_true, decide_eq_true]
    simp only [farP, mx, he.1, he.2]
    simp
    exact hsp
/-- Is a report false, if the shoal is in a cell? -/
def falB (s : Sea) (x : Rp) (c : Int) : Bool := decide (farP (pl s x.cell) (pl s c) ≤ x.far) != x.th
theorem fal_eq (s : Sea) (x : Rp) (c : Int) : falB s x c = !(trueB (rq s x) (pl s c)) := by
  unfold falB trueB rq
  show (decide (farP (pl s x.cell) (pl s c) ≤ x.far) != x.th) = !(x.th == decide (farP ((pl s x.cell).1, (pl s x.cell).2) (pl s c) ≤ x.far))
  cases decide (farP (pl s x.cell) (pl s c) ≤ x.far) <;> cases x.th <;> rfl
theorem untr_step {s : Sea} {rs : List Rp} {h c : Int} {k : Nat} (hk : k < rs.length) :
    ((((rqs s rs).take (k + 1)).filter (badB h (pl s c))).length : Int) = ((((rqs s rs).take k).filter (badB h (pl s c))).length : Int) + cond (cond ((rs.getD k default).hr == h) (falB s (rs.getD k default) c) false) 1 0 := by
  rw [filt_take _ (by rw [rqs_len]; exact hk), rqs_at hk]
  congr 1
  rw [fal_eq]
  rfl
end Go.Proofs.Ytgihgcclabodbaa.DK
