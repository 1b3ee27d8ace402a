/- Who is hired; what is known of the heats: what is lost then. -/
import Derived.Test.YtioimdegbdkppaaH13
namespace Go.Proofs.Ytioimdegbdkppaa.DK
open Go
set_option linter.unusedVariables false

section
variable {d : Day} {l : List Wk}
theorem helpK_spec : ∀ k, 1 ≤ k → k ≤ l.length → (0 ≤ (helpK d l k).1 ∧ (helpK d l k).1 < k) ∧ (helpK d l k).2 = helpN d (l.getD (helpK d l k).1.toNat default) ∧ (∀ i, i < k → (helpK d l k).2 ≤ helpN d (l.getD i default)) ∧ ∀ i : Nat, (i : Int) < (helpK d l k).1 → (helpK d l k).2 < helpN d (l.getD i default)
  | 1, _, _ => by
    have e : helpK d l 1 = ((0 : Int), helpN d (l.getD 0 default)) := rfl
    rw [e]
    refine ⟨⟨by omega, by omega⟩, rfl, fun i hi => ?_, fun i hi => by simp only at hi; omega⟩
    have : i = 0 := by omega
    subst this; exact Int.le_refl _
  | k + 2, _, hk => by
    obtain ⟨h1, h2, h3, h4⟩ := helpK_spec (k + 1) (by omega) (by omega)
    have hz : (((k + 1 : Nat) : Int) == 0) = false := by rw [beq_eq_false_iff_ne]; omega
    by_cases hc : helpN d (l.getD (k + 1) default) < (helpK d l (k + 1)).2
    · have e : helpK d l (k + 2) = (((k + 1 : Nat) : Int), helpN d (l.getD (k + 1) default)) := helpK_yes (by rw [hz, decide_eq_true hc]; rfl)
      rw [e]
      refine ⟨⟨by simp only; omega, by simp only; omega⟩, by simp, fun i hi => ?_, fun i hi => ?_⟩
      · by_cases e2 : i = k + 1
        · subst e2; exact Int.le_refl _
        · have := h3 i (by omega); simp only; omega
      · simp only at hi; have := h3 i (by omega); simp only; omega
    · have e : helpK d l (k + 2) = helpK d l (k + 1) := helpK_no (by rw [hz, decide_eq_false hc]; rfl)
      rw [e]
      refine ⟨by omega, h2, fun i hi => ?_, h4⟩
      by_cases e2 : i = k + 1
      · subst e2; omega
      · exact h3 i (by omega)
theorem help_ok {d : Day} {l : List Wk} (h : (gutHelp d l).2.2 = 0) : chk d = 0 ∧ helpOk d l = true := by
  unfold gutHelp at h
  by_cases hc : chk d = 0
  · rw [if_neg (by simp [hc])] at h
    by_cases ho : helpOk d l = true
    · exact ⟨hc, ho⟩
    · rw [if_neg ho] at h; cases h
  · rw [if_pos hc] at h; exact absurd h hc
theorem help_bad {d : Day} {l : List Wk} (h : (gutHelp d l).2.2 ≠ 0) : (gutHelp d l).1 = 0 ∧ (gutHelp d l).2.1 = 0 := by
  unfold gutHelp at h ⊢
  by_cases hc : chk d = 0
  · rw [if_neg (by simp [hc])] at h ⊢
    by_cases ho : helpOk d l = true
    · rw [if_pos ho] at h; exact absurd rfl h
    · rw [if_neg ho]; exact ⟨rfl, rfl⟩
  · rw [if_pos hc]; exact ⟨rfl, rfl⟩
theorem help_eq (hc : chk d = 0) (ho : helpOk d l = true) : (gutHelp d l).1 = (helpK d l l.length).1 ∧ (gutHelp d l).2.1 = (helpK d l l.length).2 := by
  unfold gutHelp
  rw [if_neg (by simp [hc]), if_pos ho]; exact ⟨rfl, rfl⟩
theorem helpOk_len (ho : helpOk d l = true) : 1 ≤ l.length ∧ l.length ≤ 6 := by
  unfold helpOk at ho
  rw [Bool.and_eq_true] at ho
  have := inB_iff.1 ho.1; omega
theorem dayX_B {x : Wk} (hB : dayB d = true) (hx : wkB d.hours x = true) (h6 : d.wks.length < 6) : dayB (dayX d (d.wks ++ [x])) = true := by
  have e : dayB (dayX d (d.wks ++ [x])) = ((inB d.hours 1 24 && decide ((d.heat.length : Int) = d.hours) && decide ((d.lots.length : Int) ≤ 8) && decide (((d.wks ++ [x]).length : Int) ≤ 6)) && d.heat.all spB && d.lots.all (lotB d.hours) && (d.wks ++ [x]).all (wkB d.hours)) := rfl
  rw [e]
  simp only [dayB, headB, Bool.and_eq_true, decide_eq_true_eq, List.all_append, List.all_cons, List.all_nil, List.length_append, List.length_singleton] at *
  obtain ⟨⟨⟨⟨⟨⟨a, b⟩, c⟩, e⟩, f⟩, g⟩, i⟩ := hB
  exact ⟨⟨⟨⟨⟨⟨a, b⟩, c⟩, by omega⟩, f⟩, g⟩, i, hx, trivial⟩
theorem helpN_eq {x : Wk} (hc : chk (dayX d (d.wks ++ [x])) = 0) : bestN (dayX d (d.wks ++ [x])) = helpN d x := bestN_eq hc
/-- With a worker more each deficit is not greater. -/
theorem defV_more {x : Wk} (hx : 0 ≤ x.rt) (f : Nat → Int) (xs : List Int) : defV (dayW d x) f xs ≤ defV d f xs := by
  have hw : ∀ a, a < d.wks.length → (d.wks ++ [x]).getD a default = d.wks.getD a default := fun a ha => by
    rw [List.getD_eq_getElem?_getD, List.getElem?_append_left ha, List.getD_eq_getElem?_getD]
  have hlast : (d.wks ++ [x]).getD d.wks.length default = x := by
    rw [List.getD_eq_getElem?_getD, List.getElem?_append_right (Nat.le_refl _), Nat.sub_self]; rfl
  have h1 : gsum (dayW d x) (fun s => cond (cov (dayW d x) f xs s) (rate (dayW d x) s) 0) = gsum d (fun s => cond (cov d f xs s) (rate d s) 0) + fsum d.hours.toNat fun h => cond (cov (dayW d x) f xs ((d.wks.length : Int), (h : Int))) (rate (dayW d x) ((d.wks.length : Int), (h : Int))) 0 := by
    show fsum (d.wks ++ [x]).length (fun a => fsum d.hours.toNat fun h => cond (cov (dayW d x) f xs ((a : Int), (h : Int))) (rate (dayW d x) ((a : Int), (h : Int))) 0) = _
    rw [List.length_append, List.length_singleton, fsum_succ]
    congr 1
    refine fsum_congr _ fun a ha => fsum_congr _ fun h hh => ?_
    have e1 : rate (dayW d x) ((a : Int), (h : Int)) = rate d ((a : Int), (h : Int)) := by
      show ((d.wks ++ [x]).getD (a : Int).toNat default).rt = (d.wks.getD (a : Int).toNat default).rt
      rw [Int.toNat_natCast, hw a ha]
    have e2 : cov (dayW d x) f xs ((a : Int), (h : Int)) = cov d f xs ((a : Int), (h : Int)) := by
      unfold cov
      congr 1; funext y
      exact canB_same rfl rfl rfl (by show (d.wks ++ [x]).getD (a : Int).toNat default = _; rw [Int.toNat_natCast, hw a ha])
    rw [e1, e2]
  have h2 : 0 ≤ fsum d.hours.toNat fun h => cond (cov (dayW d x) f xs ((d.wks.length : Int), (h : Int))) (rate (dayW d x) ((d.wks.length : Int), (h : Int))) 0 := fsum_nn _ fun h hh => by
    have e1 : rate (dayW d x) ((d.wks.length : Int), (h : Int)) = x.rt := by
      show ((d.wks ++ [x]).getD (d.wks.length : Int).toNat default).rt = x.rt
      rw [Int.toNat_natCast, hlast]
    rw [e1]
    cases cov (dayW d x) f xs ((d.wks.length : Int), (h : Int)) <;> simp [hx]
  have h3 : (xs.map fun y => crI (dayW d x) y.toNat).sum = (xs.map fun y => crI d y.toNat).sum := rfl
  unfold defV; omega
theorem wkB_rt {h : Int} {x : Wk} (hx : wkB h x = true) : 0 ≤ x.rt := by
  unfold wkB at hx
  cases h1 : inB x.rt 0 20 with
  | true => exact (inB_iff.1 h1).1
  | false =>
    rw [h1] at hx
    generalize (cond (cond (inB x.kd 0 2) (inB x.fr 0 x.to) false) (inB x.to 0 (h - 1)) false) = z at hx
    cases z <;> cases hx
theorem helpN_le (hB : dayB d = true) {x : Wk} (hx : wkB d.hours x = true) : helpN d x ≤ bestN d := by
  have hv := dayB_V hB
  have h := lost_le (d := d) (d' := dayW d x) (f := hot d) (f' := hot (dayW d x)) hv (dayW_V hB hx) 0 fun xs hr => ⟨xs, hr, by have := defV_more (d := d) (wkB_rt hx) (hot d) xs; exact Int.le_trans this (by omega)⟩
  rw [bestN_eq (chk_of hB)]
  have : helpN d x = (doneF (dayW d x) (hot (dayW d x)) (dayW d x).lots.length).2 := rfl
  omega
theorem helpN_nn (hB : dayB d = true) {x : Wk} (hx : wkB d.hours x = true) : 0 ≤ helpN d x := lost_nn (d := dayW d x) (f := hot (dayW d x)) (dayW_V hB hx)
end
end Go.Proofs.Ytioimdegbdkppaa.DK
