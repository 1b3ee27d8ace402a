/- The rows of counts, as through fills them. -/
import Derived.Test.YtgihgcclabodbaaSThr
import Derived.Test.YtgihgcclabodbaaKY
namespace Go.Proofs.Ytgihgcclabodbaa.DK
open Go Go.Proofs
set_option linter.unusedVariables false

def fwdR (s : Sea) (rs : List Rp) (k : Nat) : Nat → Nat → Int := fun h => if h < k then fwd s rs h else fun _ => 0
theorem fwdR_step (s : Sea) (rs : List Rp) (k : Nat) : updr (fwdR s rs k) k (fwd s rs k) = fwdR s rs (k + 1) := by
  funext h
  unfold updr fwdR
  by_cases e : h = k
  · subst e; rw [if_pos rfl, if_pos (by omega)]
  · rw [if_neg e]
    by_cases h2 : h < k
    · rw [if_pos h2, if_pos (by omega)]
    · rw [if_neg h2, if_neg (by omega)]
theorem fwdR_0 (s : Sea) (rs : List Rp) : fwdR s rs 0 = fun _ _ => 0 := by
  funext h; unfold fwdR; rw [if_neg (by omega)]
theorem fwdR_at {s : Sea} {rs : List Rp} {k i : Nat} (h : i < k) : fwdR s rs k i = fwd s rs i := by unfold fwdR; rw [if_pos h]
def bwdR (s : Sea) (rs : List Rp) (j : Nat) : Nat → Nat → Int := fun h => if h < s.hours.toNat ∧ s.hours.toNat ≤ h + j then bwd s rs (s.hours.toNat - 1 - h) else fun _ => 0
theorem bwdR_step {s : Sea} (rs : List Rp) {j : Nat} (hj : (j : Int) < s.hours) : updr (bwdR s rs j) (s.hours - 1 - (j : Int)).toNat (bwd s rs j) = bwdR s rs (j + 1) := by
  funext h
  unfold updr bwdR
  by_cases e : h = (s.hours - 1 - (j : Int)).toNat
  · rw [if_pos e, if_pos (by omega), show s.hours.toNat - 1 - h = j by omega]
  · rw [if_neg e]
    by_cases h2 : h < s.hours.toNat ∧ s.hours.toNat ≤ h + j
    · rw [if_pos h2, if_pos (by omega)]
    · rw [if_neg h2, if_neg (by omega)]
theorem bwdR_0 (s : Sea) (rs : List Rp) : bwdR s rs 0 = fun _ _ => 0 := by
  funext h; unfold bwdR; rw [if_neg (by omega)]
theorem bwdR_at {s : Sea} {rs : List Rp} {j i : Nat} (hj : (j : Int) ≤ s.hours) (h : i < j) : bwdR s rs j (s.hours - 1 - (i : Int)).toNat = bwd s rs i := by
  unfold bwdR; rw [if_pos (by omega), show s.hours.toNat - 1 - (s.hours - 1 - (i : Int)).toNat = i by omega]
/-- The third loop: the first k hours are through. -/
def allR (s : Sea) (rs : List Rp) (k : Nat) : Nat → Nat → Int := fun h => if h < k then allF s rs h else fwdR s rs s.hours.toNat h
theorem allR_0 (s : Sea) (rs : List Rp) : allR s rs 0 = fwdR s rs s.hours.toNat := by
  funext h; unfold allR; rw [if_neg (by omega)]
theorem allR_step (s : Sea) (rs : List Rp) (k : Nat) : updr (allR s rs k) k (allF s rs k) = allR s rs (k + 1) := by
  funext h
  unfold updr allR
  by_cases e : h = k
  · subst e; rw [if_pos rfl, if_pos (by omega)]
  · rw [if_neg e]
    by_cases h2 : h < k
    · rw [if_pos h2, if_pos (by omega)]
    · rw [if_neg h2, if_neg (by omega)]
theorem flat_congr {G G' : Nat → Nat → Int} (h : ∀ i c, c < 80 → G i c = G' i c) : flat G = flat G' := by
  funext i; exact h _ _ (Nat.mod_lt _ (by omega))
theorem upd2_updr (G : Nat → Nat → Int) (k c : Nat) (g : Nat → Int) (x : Int) : upd2 (updr G k g) k c x = updr G k (updf g c x) := by
  funext i
  simp only [upd2, updr]
  by_cases e : i = k
  · simp only [e, if_true]
  · simp only [e, if_false]
theorem updr_same (G : Nat → Nat → Int) (k : Nat) : updr G k (G k) = G := by
  funext i; unfold updr; split
  · rename_i e; rw [e]
  · rfl
theorem updr_at (G : Nat → Nat → Int) (k : Nat) (g : Nat → Int) : updr G k g k = g := by unfold updr; rw [if_pos rfl]
theorem allR_at (s : Sea) (rs : List Rp) {k : Nat} (hk : k < s.hours.toNat) : allR s rs k k = fwd s rs k := by unfold allR; rw [if_neg (by omega), fwdR_at hk]
theorem thr_start {s : Sea} {rs : List Rp} {k : Nat} : ∀ i, i < 80 → fwd s rs k i = if (i : Int) ∈ cellsA s 0 then fwd s rs k i else allF s rs k i := by
  intro i _
  unfold allF
  split <;> rfl
theorem thr_step {s : Sea} {rs : List Rp} {k : Nat} {g : Nat → Int} {x : Int} {r : List Int} (hg : ∀ i, i < 80 → g i = if (i : Int) ∈ x :: r then fwd s rs k i else allF s rs k i) (hn : (x :: r).Nodup) (hx : x ∈ cellsA s 0) :
    ∀ i, i < 80 → updf g x.toNat (allF s rs k x.toNat) i = if (i : Int) ∈ r then fwd s rs k i else allF s rs k i := by
  intro i hi
  have hm := mem_cellsA hx
  have hnx : x ∉ r := (List.nodup_cons.1 hn).1
  unfold updf
  by_cases e : i = x.toNat
  · have ei : (i : Int) = x := by omega
    rw [if_pos e, ei, if_neg hnx, e]
  · have ei : (i : Int) ≠ x := by omega
    rw [if_neg e, hg i hi]
    simp only [List.mem_cons, ei, false_or]
theorem thr_at {s : Sea} {rs : List Rp} {k : Nat} {g : Nat → Int} {x : Int} {r : List Int} (hg : ∀ i, i < 80 → g i = if (i : Int) ∈ x :: r then fwd s rs k i else allF s rs k i) (hv : seaB s = true) (hx : x ∈ cellsA s 0) : updr (allR s rs k) k g k x.toNat = fwd s rs k x.toNat := by
  have hm := mem_cellsA hx; have := sea_ok hv
  rw [updr_at, hg _ (by omega), show ((x.toNat : Nat) : Int) = x by omega, if_pos (List.mem_cons_self ..)]
theorem bwdR_all (s : Sea) (rs : List Rp) {k : Nat} (hk : k < s.hours.toNat) : bwdR s rs s.hours.toNat k = bwd s rs (s.hours.toNat - 1 - k) := by
  unfold bwdR; rw [if_pos (by omega)]
theorem thr_val {s : Sea} {rs : List Rp} {k : Nat} {g : Nat → Int} {x : Int} {r : List Int} (hg : ∀ i, i < 80 → g i = if (i : Int) ∈ x :: r then fwd s rs k i else allF s rs k i) (hv : seaB s = true) (hx : x ∈ cellsA s 0) (hk : k < s.hours.toNat) :
    mn 1048576 (updr (allR s rs k) k g k x.toNat + bwdR s rs s.hours.toNat k x.toNat - untr s rs (k : Int) x) = allF s rs k x.toNat := by
  have hm := mem_cellsA hx
  rw [thr_at hg hv hx, bwdR_all s rs hk]
  unfold allF
  rw [show ((x.toNat : Nat) : Int) = x by omega, if_pos hx]
theorem thr_end {s : Sea} {rs : List Rp} {k : Nat} {g : Nat → Int} (hg : ∀ i, i < 80 → g i = if (i : Int) ∈ ([] : List Int) then fwd s rs k i else allF s rs k i) : flat (updr (allR s rs k) k g) = flat (allR s rs (k + 1)) := by
  rw [← allR_step]
  refine flat_congr fun i c hc => ?_
  unfold updr
  split
  · rw [hg c hc]; simp
  · rfl
end Go.Proofs.Ytgihgcclabodbaa.DK
