/- What is gone along, hour by hour: plain words. -/
import Derived.Test.YtgihgcclabodbaaSTrk
import Derived.Test.YtgihgcclabodbaaKY
namespace Go.Proofs.Ytgihgcclabodbaa.DK
open Go
set_option linter.unusedVariables false

theorem foldl_take {α β : Type} [Inhabited α] {xs : List α} (f : β → α → β) (b : β) {k : Nat} (h : k < xs.length) : (xs.take (k + 1)).foldl f b = f ((xs.take k).foldl f b) (xs.getD k default) := by
  have e : xs.getD k default = xs[k] := by simp [List.getD_eq_getElem?_getD, h]
  rw [List.take_succ_eq_append_getElem h, List.foldl_append, e]; rfl
def leastL (b : Int) (xs : List Int) : Int := xs.foldl mn b
/-- What the counts of the hour before say of a cell. -/
def befG (G : Nat → Int) (o : Int) : Int := ((List.range 80).map G).getD o.toNat default
theorem befG_eq {G : Nat → Int} {o : Int} (h0 : 0 ≤ o) (h1 : o < 80) : befG G o = G o.toNat := by
  unfold befG
  have : o.toNat < 80 := by omega
  simp [List.getD_eq_getElem?_getD, this]
def bestOf (G : Nat → Int) (xs : List Int) : Int := xs.foldl (fun b o => mn b (befG G o)) 1048576
def cntB (G : Nat → Int) : Prop := ∀ i, i < 80 → 0 ≤ G i ∧ G i ≤ 1048576
theorem mn_bd {a b lo hi : Int} (h1 : lo ≤ a ∧ a ≤ hi) (h2 : lo ≤ b ∧ b ≤ hi) : lo ≤ mn a b ∧ mn a b ≤ hi := by
  unfold mn; split <;> omega
theorem bestOf_bd {G : Nat → Int} (hG : cntB G) : ∀ (xs : List Int), (∀ x ∈ xs, 0 ≤ x ∧ x < 80) → ∀ b, 0 ≤ b ∧ b ≤ 1048576 → 0 ≤ xs.foldl (fun b o => mn b (befG G o)) b ∧ xs.foldl (fun b o => mn b (befG G o)) b ≤ 1048576
  | [], _, b, hb => hb
  | x :: xs, h, b, hb => by
    have hx := h x (List.mem_cons_self ..)
    refine bestOf_bd hG xs (fun y hy => h y (List.mem_cons_of_mem _ hy)) _ (mn_bd hb ?_)
    rw [befG_eq hx.1 hx.2]
    exact hG _ (by omega)
def goneF (s : Sea) (val : Int → Int) : Nat → Int := fun i => if (i : Int) ∈ cellsA s 0 then val (i : Int) else 1048576
theorem goneF_step {s : Sea} {val : Int → Int} {g : Nat → Int} {x : Int} {r : List Int} (hg : ∀ i, i < 80 → g i = if (i : Int) ∈ x :: r then 1048576 else goneF s val i) (hn : (x :: r).Nodup) (hx : x ∈ cellsA s 0) : ∀ i, i < 80 → updf g x.toNat (val x) i = if (i : Int) ∈ r then 1048576 else goneF s val i := by
  intro i hi
  have hm := mem_cellsA hx
  have hnx : x ∉ r := (List.nodup_cons.1 hn).1
  unfold updf
  by_cases e : i = x.toNat
  · have ei : (i : Int) = x := by omega
    rw [if_pos e, ei, if_neg hnx, goneF, ei, if_pos hx]
  · have ei : (i : Int) ≠ x := by omega
    rw [if_neg e, hg i hi]
    simp only [List.mem_cons, ei, false_or]
theorem cellsA_nodup (s : Sea) (k : Nat) : (cellsA s k).Nodup := by
  unfold cellsA
  rw [List.nodup_iff_pairwise_ne, List.pairwise_map]
  exact (List.Pairwise.filter _ (List.nodup_iff_pairwise_ne.1 List.nodup_range')).imp fun h => by omega
theorem gone_end {s : Sea} {val : Int → Int} {g : Nat → Int} (hg : ∀ i, i < 80 → g i = if (i : Int) ∈ ([] : List Int) then 1048576 else goneF s val i) : arrL 80 g = arrL 80 (goneF s val) :=
  arrL_congr fun i hi => by rw [hg i hi]; simp
theorem gone_start {s : Sea} {val : Int → Int} {g : Nat → Int} (hg : ∀ i, i < 80 → g i = 1048576) : ∀ i, i < 80 → g i = if (i : Int) ∈ cellsA s 0 then 1048576 else goneF s val i := fun i hi => by
  rw [hg i hi, goneF]
  split <;> simp_all
theorem fill_step {g : Nat → Int} {k : Nat} (hg : ∀ i, i < 80 → g i = if i < k then 1048576 else 0) : ∀ i, i < 80 → updf g k 1048576 i = if i < k + 1 then 1048576 else 0 := by
  intro i hi
  unfold updf
  by_cases e : i = k
  · rw [if_pos e, if_pos (by omega)]
  · rw [if_neg e, hg i hi]
    by_cases h : i < k
    · rw [if_pos h, if_pos (by omega)]
    · rw [if_neg h, if_neg (by omega)]
end Go.Proofs.Ytgihgcclabodbaa.DK
