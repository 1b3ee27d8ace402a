/- The chapter's day, as Lean data. -/
import Derived.Test.YtioimdegbdkppaaGT
namespace Go.Proofs.Ytioimdegbdkppaa.DK
open Go
set_option linter.unusedVariables false

def yardHeat : List Sp := [⟨5, 6⟩, ⟨5, 8⟩, ⟨6, 10⟩, ⟨6, 10⟩, ⟨4, 8⟩, ⟨3, 6⟩]
def yardLots : List Lot := [⟨10, 0, 20, 1⟩, ⟨8, 1, 30, 3⟩, ⟨12, 2, 40, 5⟩]
def yardWks : List Wk := [⟨0, 0, 3, 3⟩, ⟨1, 2, 5, 1⟩, ⟨2, 4, 4, 5⟩]
def yardD (m : Nat) : Day := ⟨6, yardHeat, yardLots.take m, yardWks⟩
def yardV (b1 b2 b3 m : Nat) : DV := ⟨some ⟨b1, 0, none⟩, 6, 6, some ⟨b2, 0, none⟩, m, 3, some ⟨b3, 0, none⟩, 3, 3⟩
def hiredL : List Wk := [⟨1, 1, 3, 1⟩, ⟨0, 4, 5, 3⟩]
theorem yard_R {w0 w : World} {M : Nat → Prop} {L : List Res} {b1 b2 b3 m : Nat} {t1 t2 t3 : TypeId} (hO : Own w0 M L w) (j1 j2 j3 : Nat) (h1 : L[j1]? = some (cel b1 (yardHeat.flatMap encSp).toArray t1)) (h2 : L[j2]? = some (cel b2 (yardLots.flatMap encLot).toArray t2))
    (h3 : L[j3]? = some (cel b3 (yardWks.flatMap encWk).toArray t3)) (hm : m ≤ 3) : DayR w.heap.size w (yardV b1 b2 b3 m) (yardD m) := by
  refine ⟨rd_cel (rest := []) (fun _ => rfl) hO j1 h1 (by rw [List.append_nil]; rfl) rfl (by simp only [yardV]; omega), rd_cel (rest := (yardLots.drop m).flatMap encLot) (fun _ => rfl) hO j2 h2 ?_ ?_ (by simp only [yardV]; omega), rd_cel (rest := []) (fun _ => rfl) hO j3 h3 (by rw [List.append_nil]; rfl) rfl (by simp only [yardV]; omega), by simp [yardD], by simp [yardV]; omega⟩
  · show yardLots.flatMap encLot = (yardLots.take m).flatMap encLot ++ (yardLots.drop m).flatMap encLot
    rw [← List.flatMap_append, List.take_append_drop]
  · simp only [yardD, yardV, List.length_take]
    have : yardLots.length = 3 := rfl
    omega
theorem take_same {xs ys : List Int} {k : Nat} (h : xs.take k = ys.take k) (hx : k < xs.length) (hy : k < ys.length) (e : xs.getD k default = ys.getD k default) : xs.take (k + 1) = ys.take (k + 1) := by
  have e1 : xs.getD k default = xs[k] := by simp [List.getD_eq_getElem?_getD, hx]
  have e2 : ys.getD k default = ys[k] := by simp [List.getD_eq_getElem?_getD, hy]
  rw [List.take_succ_eq_append_getElem hx, List.take_succ_eq_append_getElem hy, h, ← e1, ← e2, e]
end Go.Proofs.Ytioimdegbdkppaa.DK
