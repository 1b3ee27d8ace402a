/- What the reference answers is what the program answers. -/
import Derived.Test.YtioimdegbdkppaaH8
namespace Go.Proofs.Ytioimdegbdkppaa.DK
open Go
set_option linter.unusedVariables false

section
variable {d : Day} {f g : Nat → Int}
theorem canB_congr {lot : Int} (h : f lot.toNat = g lot.toNat) (s : Int × Int) : canB d f lot s = canB d g lot s := by unfold canB; rw [h]
theorem defV_congr {xs : List Int} (h : ∀ x ∈ xs, f x.toNat = g x.toNat) : defV d f xs = defV d g xs := by
  unfold defV
  have e : ∀ s, cov d f xs s = cov d g xs s := fun s => by
    unfold cov
    rw [Bool.eq_iff_iff, List.any_eq_true, List.any_eq_true]
    exact ⟨fun ⟨x, h1, h2⟩ => ⟨x, h1, by rw [← canB_congr (h x h1)]; exact h2⟩, fun ⟨x, h1, h2⟩ => ⟨x, h1, by rw [canB_congr (h x h1)]; exact h2⟩⟩
  rw [gsum_congr (fun s _ => by rw [e s])]
theorem Great.congr {m : Int} {l : List Int} (h : ∀ i, i < d.lots.length → f i = g i) (hg : Great d f m l) : Great d g m l := by
  have e : ∀ xs, risF d.lots.length (-1) xs = true → defV d f xs = defV d g xs := fun xs hx => defV_congr fun x hm => h _ (by have := ris_mem _ _ hx x hm; omega)
  refine ⟨hg.ris, by rw [← e _ hg.ris]; exact hg.val, fun xs hx => ?_, fun xs hx he => ?_⟩
  · rw [← e _ hx]; exact hg.max xs hx
  · rw [← e _ hx] at he; exact hg.least xs hx he
theorem great_lost (hv : dayV d = true) : (refGreat d f).1 = (doneF d f d.lots.length).2 := by rw [refGreat_eq hv]
theorem great_proof (hv : dayV d = true) : (refGreat d f).2 = (proofK d f d.lots.length).2 := by rw [refGreat_eq hv]
theorem lost_congr (hv : dayV d = true) (h : ∀ i, i < d.lots.length → f i = g i) : (doneF d f d.lots.length).2 = (doneF d g d.lots.length).2 := by
  have h1 := proofK_great (d := d) (f := f)
  exact (h1.lost hv).symm.trans ((h1.congr h).lost hv)
theorem told_lo (hv : dayV d = true) : (refGreat d (cool d)).1 = toldLo d := by
  rw [great_lost hv]
  unfold toldLo
  split
  · rename_i h
    refine lost_congr hv fun i hi => ?_
    have h8 := (day_ok hv).2.2.2.1
    unfold feq at h
    rw [List.all_eq_true] at h
    exact beq_iff_eq.1 (h i (List.mem_range.2 (by omega)))
  · rfl
theorem lost_nn (hv : dayV d = true) : 0 ≤ (doneF d f d.lots.length).2 := (doneF_ok hv d.lots.length (Nat.le_refl _)).2.1
end
end Go.Proofs.Ytioimdegbdkppaa.DK
