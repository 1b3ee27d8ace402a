/- Sums over lots and over slots: in plain Lean. -/
import Derived.Test.YtioimdegbdkppaaGS
namespace Go.Proofs.Ytioimdegbdkppaa.DK
open Go
set_option linter.unusedVariables false

theorem fsum_zero (f : Nat → Int) : fsum 0 f = 0 := rfl
theorem fsum_succ (n : Nat) (f : Nat → Int) : fsum (n + 1) f = fsum n f + f n := by
  unfold fsum
  rw [List.range_succ, List.map_append, List.sum_append]
  simp
theorem fsum_congr {f g : Nat → Int} : ∀ (n : Nat), (∀ i, i < n → f i = g i) → fsum n f = fsum n g
  | 0, _ => rfl
  | n + 1, h => by rw [fsum_succ, fsum_succ, fsum_congr n (fun i hi => h i (by omega)), h n (by omega)]
theorem fsum_le {f g : Nat → Int} : ∀ (n : Nat), (∀ i, i < n → f i ≤ g i) → fsum n f ≤ fsum n g
  | 0, _ => Int.le_refl _
  | n + 1, h => by
    have h1 := fsum_le n (fun i hi => h i (by omega))
    have h2 := h n (by omega)
    rw [fsum_succ, fsum_succ]; omega
theorem fsum_add (f g : Nat → Int) : ∀ n, fsum n (fun i => f i + g i) = fsum n f + fsum n g
  | 0 => rfl
  | n + 1 => by rw [fsum_succ, fsum_succ, fsum_succ, fsum_add f g n]; omega
theorem fsum_sub (f g : Nat → Int) : ∀ n, fsum n (fun i => f i - g i) = fsum n f - fsum n g
  | 0 => rfl
  | n + 1 => by rw [fsum_succ, fsum_succ, fsum_succ, fsum_sub f g n]; omega
theorem fsum_0 : ∀ n, fsum n (fun _ => 0) = 0
  | 0 => rfl
  | n + 1 => by rw [fsum_succ, fsum_0 n]; rfl
theorem fsum_nn {f : Nat → Int} (n : Nat) (h : ∀ i, i < n → 0 ≤ f i) : 0 ≤ fsum n f := by
  have := fsum_le (f := fun _ => 0) (g := f) n h
  rwa [fsum_0] at this
theorem fsum_ge1 {f : Nat → Int} : ∀ (n : Nat), (∀ i, i < n → 0 ≤ f i) → ∀ i, i < n → f i ≤ fsum n f
  | n + 1, h, i, hi => by
    rw [fsum_succ]
    have h0 := fsum_nn n (fun j hj => h j (by omega))
    have h1 := h n (by omega)
    by_cases hin : i = n
    · subst hin; omega
    · have := fsum_ge1 n (fun j hj => h j (by omega)) i (by omega)
      omega
theorem fsum_updf {f : Nat → Int} {k : Nat} {x : Int} : ∀ (n : Nat), k < n → fsum n (updf f k x) = fsum n f - f k + x
  | n + 1, hk => by
    rw [fsum_succ, fsum_succ]
    by_cases h : k = n
    · subst h
      rw [fsum_congr k (f := updf f k x) (g := f) (fun i hi => by unfold updf; rw [if_neg (by omega)])]
      simp only [updf, if_pos rfl]; simp
    · rw [fsum_updf n (by omega)]
      simp only [updf, if_neg (show ¬ n = k by omega)]; omega
theorem fsum_mono {f : Nat → Int} {n m : Nat} (hnm : n ≤ m) (h : ∀ i, i < m → 0 ≤ f i) : fsum n f ≤ fsum m f := by
  obtain ⟨k, rfl⟩ := Nat.exists_eq_add_of_le hnm
  induction k with
  | zero => exact Int.le_refl _
  | succ k ih =>
    have := ih (by omega) (fun i hi => h i (by omega))
    have h1 := h (n + k) (by omega)
    rw [show n + (k + 1) = (n + k) + 1 from rfl, fsum_succ]; omega
theorem fsum_cut {f : Nat → Int} {n m : Nat} (hnm : n ≤ m) (h : ∀ i, n ≤ i → i < m → f i = 0) : fsum m f = fsum n f := by
  obtain ⟨k, rfl⟩ := Nat.exists_eq_add_of_le hnm
  induction k with
  | zero => rfl
  | succ k ih => rw [show n + (k + 1) = (n + k) + 1 from rfl, fsum_succ, ih (by omega) (fun i h1 h2 => h i h1 (by omega)), h (n + k) (by omega) (by omega)]; omega
theorem fsum_swap (g : Nat → Nat → Int) (m : Nat) : ∀ n, fsum n (fun i => fsum m (g i)) = fsum m (fun j => fsum n (fun i => g i j))
  | 0 => (fsum_0 m).symm
  | n + 1 => by
    rw [fsum_succ, fsum_swap g m n, ← fsum_add]
    exact fsum_congr m fun j _ => (fsum_succ n _).symm

/-- A sum over all workers and hours. -/
def gsum (d : Day) (g : Int × Int → Int) : Int := fsum d.wks.length fun a => fsum d.hours.toNat fun h => g ((a : Int), (h : Int))
section
variable {d : Day} {f g : Int × Int → Int}
theorem at_grid {a h : Nat} (ha : a < d.wks.length) (hh : h < d.hours.toNat) : ((a : Int), (h : Int)) ∈ grid d := mem_grid.2 ⟨by omega, by omega, by omega, by omega⟩
theorem gsum_congr (h : ∀ s ∈ grid d, f s = g s) : gsum d f = gsum d g := fsum_congr _ fun a ha => fsum_congr _ fun b hb => h _ (at_grid ha hb)
theorem gsum_le (h : ∀ s ∈ grid d, f s ≤ g s) : gsum d f ≤ gsum d g := fsum_le _ fun a ha => fsum_le _ fun b hb => h _ (at_grid ha hb)
theorem gsum_add : gsum d (fun s => f s + g s) = gsum d f + gsum d g := by
  unfold gsum
  rw [← fsum_add]
  exact fsum_congr _ fun a _ => fsum_add _ _ _
theorem gsum_sub : gsum d (fun s => f s - g s) = gsum d f - gsum d g := by
  unfold gsum
  rw [← fsum_sub]
  exact fsum_congr _ fun a _ => fsum_sub _ _ _
theorem gsum_0 : gsum d (fun _ => 0) = 0 := by
  unfold gsum
  rw [fsum_congr _ (g := fun _ => 0) (fun a _ => fsum_0 _), fsum_0]
theorem gsum_nn (h : ∀ s ∈ grid d, 0 ≤ f s) : 0 ≤ gsum d f := by
  have := gsum_le (f := fun _ => 0) (g := f) h
  rwa [gsum_0] at this
theorem gsum_updt {s : Int × Int} {x : Int} (hs : s ∈ grid d) : gsum d (updt f s x) = gsum d f - f s + x := by
  obtain ⟨a, h⟩ := s
  obtain ⟨h1, h2, h3, h4⟩ := mem_grid.1 hs
  simp only at h1 h2 h3 h4
  obtain ⟨a, rfl⟩ := Int.eq_ofNat_of_zero_le h1
  obtain ⟨h, rfl⟩ := Int.eq_ofNat_of_zero_le h3
  have e : ∀ b : Nat, (fsum d.hours.toNat fun k => updt f (↑a, ↑h) x ((b : Int), (k : Int))) = updf (fun b : Nat => fsum d.hours.toNat fun k => f ((b : Int), (k : Int))) a ((fsum d.hours.toNat fun k => f ((a : Int), (k : Int))) - f (↑a, ↑h) + x) b := by
    intro b
    by_cases hb : b = a
    · subst hb
      have e2 : (fun k : Nat => updt f ((b : Int), (h : Int)) x ((b : Int), (k : Int))) = updf (fun k => f ((b : Int), (k : Int))) h x := by
        funext k
        simp only [updt, updf, Prod.mk.injEq, true_and]
        by_cases hk : k = h
        · subst hk; simp
        · rw [if_neg hk, if_neg (by omega)]
      rw [e2, fsum_updf _ (by omega)]
      simp [updf]
    · simp only [updf, if_neg hb]
      refine fsum_congr _ fun k _ => ?_
      unfold updt
      rw [if_neg (by simp; omega)]
  show (fsum d.wks.length fun b : Nat => fsum d.hours.toNat fun k => updt f (↑a, ↑h) x ((b : Int), (k : Int))) = _
  rw [fsum_congr _ (fun b _ => e b), fsum_updf _ (by omega)]
  unfold gsum
  omega
theorem gsum_fsum (n : Nat) (g : Nat → Int × Int → Int) : fsum n (fun i => gsum d (g i)) = gsum d (fun s => fsum n (fun i => g i s)) := by
  unfold gsum
  rw [fsum_swap]
  exact fsum_congr _ fun a _ => fsum_swap (fun i h => g i ((a : Int), (h : Int))) _ n
theorem gsum_ge1 (h : ∀ s ∈ grid d, 0 ≤ f s) {s : Int × Int} (hs : s ∈ grid d) : f s ≤ gsum d f := by
  have h1 := gsum_updt (f := f) (x := 0) hs
  have h2 : 0 ≤ gsum d (updt f s 0) := gsum_nn fun t ht => by
    unfold updt; split
    · exact Int.le_refl _
    · exact h t ht
  omega
end
end Go.Proofs.Ytioimdegbdkppaa.DK
