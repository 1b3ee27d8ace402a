/- The best plan, task by task. -/
import Derived.Test.YtioimdegbdkppaaH11
namespace Go.Proofs.Ytioimdegbdkppaa.DK
open Go
set_option linter.unusedVariables false

section
variable {d : Day} {plan : List Tk} {k : Nat}
theorem totL_app (a b : List Tk) (i : Nat) : totL (a ++ b) i = totL a i + totL b i := by unfold totL; rw [List.map_append, List.sum_append]
theorem totS_app (a b : List Tk) (s : Int × Int) : totS (a ++ b) s = totS a s + totS b s := by unfold totS; rw [List.map_append, List.sum_append]
theorem totL_take (hk : k < plan.length) (i : Nat) : totL (plan.take (k + 1)) i = totL (plan.take k) i + (if (plan.getD k default).lot.toNat = i then (plan.getD k default).cr else 0) := msum_take _ hk
theorem totS_take (hk : k < plan.length) (s : Int × Int) : totS (plan.take (k + 1)) s = totS (plan.take k) s + (if ((plan.getD k default).wk, (plan.getD k default).hr) = s then (plan.getD k default).cr else 0) := msum_take _ hk
theorem totL_le (h : ∀ t ∈ plan, 0 ≤ t.cr) (i : Nat) : totL (plan.take k) i ≤ totL plan i := by
  have e := List.take_append_drop k plan
  have h1 := totL_nn (plan := plan.drop k) (fun t ht => h t (List.mem_of_mem_drop ht)) i
  rw [← e, totL_app, List.take_append_drop]; omega
theorem totS_le (h : ∀ t ∈ plan, 0 ≤ t.cr) (s : Int × Int) : totS (plan.take k) s ≤ totS plan s := by
  have e := List.take_append_drop k plan
  have h1 := totS_nn (plan := plan.drop k) (fun t ht => h t (List.mem_of_mem_drop ht)) s
  rw [← e, totS_app, List.take_append_drop]; omega
theorem BestR.pos {lost : Int} {ld : LD} (hv : dayV d = true) (h : BestR d plan lost ld) : ∀ t ∈ plan, 0 ≤ t.cr := fun t ht => by have := (h.task hv ht).2.1; omega
/-- So far, and with one task more, no more is taken than there is. -/
theorem BestR.sofar {lost : Int} {ld : LD} (hv : dayV d = true) (h : BestR d plan lost ld) (hk : k < plan.length) :
    0 ≤ DK.totL (plan.take k) (plan.getD k default).lot.toNat ∧ DK.totL (plan.take k) (plan.getD k default).lot.toNat + (plan.getD k default).cr ≤ (d.lots.getD (plan.getD k default).lot.toNat default).cr ∧
    0 ≤ DK.totS (plan.take k) ((plan.getD k default).wk, (plan.getD k default).hr) ∧ DK.totS (plan.take k) ((plan.getD k default).wk, (plan.getD k default).hr) + (plan.getD k default).cr ≤ (d.wks.getD (plan.getD k default).wk.toNat default).rt := by
  have hp := h.pos hv
  have hm := getD_mem hk
  have hf := h.facts hv hm
  have ht := h.task hv hm
  have hp' : ∀ t ∈ plan.take k, 0 ≤ t.cr := fun t ht => hp t (List.mem_of_mem_take ht)
  have h1 := totL_le (k := k + 1) hp (plan.getD k default).lot.toNat
  rw [totL_take hk, if_pos rfl, h.totL _ (by omega)] at h1
  have h2 := h.le (plan.getD k default).lot.toNat (by omega)
  have h3 := totS_le (k := k + 1) hp ((plan.getD k default).wk, (plan.getD k default).hr)
  rw [totS_take hk, if_pos rfl, h.totS _ ht.2.2.2.2.2] at h3
  have h4 := h.flow.cap _ ht.2.2.2.2.2
  have e1 : crI d (plan.getD k default).lot.toNat = (d.lots.getD (plan.getD k default).lot.toNat default).cr := rfl
  have e2 : rate d ((plan.getD k default).wk, (plan.getD k default).hr) = (d.wks.getD (plan.getD k default).wk.toNat default).rt := rfl
  exact ⟨totL_nn hp' _, by omega, totS_nn hp' _, by omega⟩
theorem BestR.total {lost : Int} {ld : LD} (h : BestR d plan lost ld) : (plan.map (·.cr)).sum + lost = cransF d := by rw [h.sum, h.eq]; omega
theorem csum_take (hk : k < plan.length) : ((plan.take (k + 1)).map (·.cr)).sum = ((plan.take k).map (·.cr)).sum + (plan.getD k default).cr := msum_take _ hk
theorem updf_self (f : Nat → Int) (i : Nat) (x : Int) : updf f i x i = x := by simp [updf]
theorem cond_gt {a b c e : Int} (h1 : a ≤ b) (h2 : c ≤ e) : cond (decide (a > b)) true (decide (c > e)) = false := by
  rw [decide_eq_false (show ¬ a > b by omega), decide_eq_false (show ¬ c > e by omega)]; rfl
theorem idx_ok {a h H n : Int} (ha : 0 ≤ a ∧ a < n) (hh : 0 ≤ h ∧ h < H) : 0 ≤ a * H ∧ 0 ≤ a * H + h ∧ a * H + h < n * H := by
  have h1 : 0 ≤ a * H := Int.mul_nonneg ha.1 (by omega)
  have h2 : (a + 1) * H ≤ n * H := Int.mul_le_mul_of_nonneg_right (by omega) (by omega)
  rw [Int.add_mul, Int.one_mul] at h2
  omega
theorem idx_inj {a h b g H : Int} (hh : 0 ≤ h ∧ h < H) (hg : 0 ≤ g ∧ g < H) (e : a * H + h = b * H + g) : a = b ∧ h = g := by
  have h1 : (h + a * H) / H = a := by rw [Int.add_mul_ediv_right _ _ (by omega), Int.ediv_eq_zero_of_lt hh.1 hh.2]; omega
  have h2 : (g + b * H) / H = b := by rw [Int.add_mul_ediv_right _ _ (by omega), Int.ediv_eq_zero_of_lt hg.1 hg.2]; omega
  have e2 : a = b := by rw [← h1, ← h2]; congr 1; omega
  subst e2
  exact ⟨rfl, by omega⟩
theorem mul_cast {n : Nat} {H : Int} (h : 0 ≤ H) : (n : Int) * H = ((n * H.toNat : Nat) : Int) := by rw [Int.natCast_mul, Int.toNat_of_nonneg h]
/-- What each worker takes in each hour, as the law counts it. -/
theorem by_step {Bf : Nat → Int} (hB : ∀ s : Int × Int, s ∈ grid d → Bf (s.1 * d.hours + s.2).toNat = totS (plan.take k) s) (hk : k < plan.length) (ht : ((plan.getD k default).wk, (plan.getD k default).hr) ∈ grid d) :
    ∀ s : Int × Int, s ∈ grid d → updf Bf ((plan.getD k default).wk * d.hours + (plan.getD k default).hr).toNat (Bf ((plan.getD k default).wk * d.hours + (plan.getD k default).hr).toNat + (plan.getD k default).cr) (s.1 * d.hours + s.2).toNat = totS (plan.take (k + 1)) s := by
  intro s hs
  obtain ⟨a1, a2, a3, a4⟩ := mem_grid.1 ht
  obtain ⟨b1, b2, b3, b4⟩ := mem_grid.1 hs
  simp only at a1 a2 a3 a4
  have i1 := idx_ok (H := d.hours) ⟨a1, a2⟩ ⟨a3, a4⟩
  have i2 := idx_ok (H := d.hours) ⟨b1, b2⟩ ⟨b3, b4⟩
  rw [totS_take hk]
  unfold updf
  by_cases e : s = ((plan.getD k default).wk, (plan.getD k default).hr)
  · subst e
    rw [if_pos rfl, if_pos rfl, hB _ hs]
  · have hne : ¬ (s.1 * d.hours + s.2).toNat = ((plan.getD k default).wk * d.hours + (plan.getD k default).hr).toNat := by
      intro hc
      have hc2 : s.1 * d.hours + s.2 = (plan.getD k default).wk * d.hours + (plan.getD k default).hr := by
        have j1 := i1.2.1; have j2 := i2.2.1
        omega
      have := idx_inj (H := d.hours) ⟨b3, b4⟩ ⟨a3, a4⟩ hc2
      exact e (Prod.ext this.1 this.2)
    rw [if_neg hne, hB _ hs, if_neg (fun h => e h.symm)]; omega
theorem of_step {T : Nat → Int} {n : Nat} (hT : ∀ i, i < n → T i = totL (plan.take k) i) (hk : k < plan.length) (hl : (plan.getD k default).lot.toNat < n) :
    ∀ i, i < n → updf T (plan.getD k default).lot.toNat (T (plan.getD k default).lot.toNat + (plan.getD k default).cr) i = totL (plan.take (k + 1)) i := by
  intro i hi
  rw [totL_take hk]
  unfold updf
  by_cases e : i = (plan.getD k default).lot.toNat
  · subst e; rw [if_pos rfl, if_pos rfl, hT _ hi]
  · rw [if_neg e, if_neg (fun h => e h.symm), hT _ hi]; omega
end
end Go.Proofs.Ytioimdegbdkppaa.DK
