/- Casts: which are such, what they cover, which helps most. -/
import Derived.Test.YtgihgcclabodbaaSMin2
namespace Go.Proofs.Ytgihgcclabodbaa.DK
open Go
set_option linter.unusedVariables false

def encPl (p : Int × Int) : List Value := [.int .i64 p.1, .int .i64 p.2]
/-- A cast in the calculation. -/
structure Ct where
  c : Int
  r : Int
  far : Int
  deriving Inhabited, DecidableEq
def encCt (x : Ct) : List Value := [.int .i64 x.c, .int .i64 x.r, .int .i64 x.far]
def ctOf (s : Sea) (x : Cs) : Ct := ⟨(pl s x.cell).1, (pl s x.cell).2, x.far⟩
def cs1B (s : Sea) (x : Cs) : Bool := cond (inB x.cell 0 (nC s - 1)) (inB x.far 0 9) false
def csB (s : Sea) (cs : List Cs) : Bool := inB (cs.length : Int) 1 8 && cs.all (cs1B s)
def covB (c : Ct) (p : Int × Int) : Bool := decide (farP (c.c, c.r) p ≤ c.far)
/-- What asked answers. -/
def askedR (s : Sea) (rs : List Rp) (wr h : Int) (cs : List Cs) : List (Int × Int) × List Ct × Int :=
  if err s rs ≠ 0 then ([], [], err s rs) else if askB s wr h = false then ([], [], 7) else if csB s cs = false then ([], [], 13)
  else if (canR1 s rs wr h).2 ≠ 0 then ([], [], (canR1 s rs wr h).2) else ((canR1 s rs wr h).1.map (pl s), cs.map (ctOf s), 0)
theorem map_take {α β : Type} [Inhabited α] {xs : List α} (f : α → β) {k : Nat} (h : k < xs.length) : (xs.take (k + 1)).map f = (xs.take k).map f ++ [f (xs.getD k default)] := by
  have e : xs.getD k default = xs[k] := by simp [List.getD_eq_getElem?_getD, h]
  rw [List.take_succ_eq_append_getElem h, List.map_append, ← e]; rfl
theorem canR1_eq (s : Sea) (rs : List Rp) (wr h : Int) : (canR1 s rs wr h).1 = canL s rs wr h := by
  unfold canR1; split
  · rename_i e; rw [e]
  · rename_i e; rw [e]
theorem canR1_mem {s : Sea} {rs : List Rp} {wr h c : Int} (hc : c ∈ (canR1 s rs wr h).1) : c ∈ cellsA s 0 := by
  rw [canR1_eq] at hc; exact (List.mem_filter.1 hc).1
theorem canR1_err (s : Sea) (rs : List Rp) (wr h : Int) : (canR1 s rs wr h).2 = if canL s rs wr h = [] then 12 else 0 := by
  unfold canR1; split
  · rename_i e; rw [e]; rfl
  · rename_i e; rw [e]; rfl
theorem csB_ok {s : Sea} {cs : List Cs} (h : csB s cs = true) : 1 ≤ cs.length ∧ cs.length ≤ 8 ∧ ∀ x ∈ cs, 0 ≤ x.cell ∧ x.cell < nC s ∧ 0 ≤ x.far ∧ x.far ≤ 9 := by
  simp only [csB, Bool.and_eq_true, inB_iff, List.all_eq_true] at h
  refine ⟨by omega, by omega, fun x hx => ?_⟩
  have h1 := h.2 x hx
  unfold cs1B at h1
  cases h2 : inB x.cell 0 (nC s - 1) <;> cases h3 : inB x.far 0 9 <;> simp [h2, h3] at h1
  simp only [inB_iff] at h2 h3
  omega
/-! ### The cast that helps most -/
def covN (P : List (Int × Int)) (c : Ct) : Int := ((P.filter (covB c)).length : Int)
def worN (P : List (Int × Int)) (c : Ct) : Int := mx (covN P c) ((P.length : Int) - covN P c)
def nextK (P : List (Int × Int)) (C : List Ct) : Nat → Int × Int
  | 0 => (0, 0)
  | k + 1 => cond (cond ((k : Int) == 0) true (decide (worN P (C.getD k default) < (nextK P C k).2))) ((k : Int), worN P (C.getD k default)) (nextK P C k)
/-- What Next answers. -/
def nextR (s : Sea) (rs : List Rp) (wr h : Int) (cs : List Cs) : Int × Int × Int :=
  if (askedR s rs wr h cs).2.2 ≠ 0 then (0, 0, (askedR s rs wr h cs).2.2)
  else ((nextK (askedR s rs wr h cs).1 (askedR s rs wr h cs).2.1 (askedR s rs wr h cs).2.1.length).1, (nextK (askedR s rs wr h cs).1 (askedR s rs wr h cs).2.1 (askedR s rs wr h cs).2.1.length).2, 0)
/-- What asked answers if all is well. -/
theorem askedR_ok {s : Sea} {rs : List Rp} {wr h : Int} {cs : List Cs} (hz : (askedR s rs wr h cs).2.2 = 0) : seaB s = true ∧ rpsB s rs = true ∧ askB s wr h = true ∧ csB s cs = true ∧ canL s rs wr h ≠ [] ∧ (askedR s rs wr h cs).1 = (canL s rs wr h).map (pl s) ∧ (askedR s rs wr h cs).2.1 = cs.map (ctOf s) := by
  unfold askedR at hz ⊢
  split at hz
  · rename_i h1; exact absurd hz h1
  · rename_i h1
    rw [if_neg h1]
    split at hz
    · simp at hz
    · rename_i h2
      rw [if_neg h2]
      split at hz
      · simp at hz
      · rename_i h3
        rw [if_neg h3]
        split at hz
        · rename_i h4; exact absurd hz h4
        · rename_i h4
          rw [if_neg h4]
          have h5 : seaB s = true ∧ rpsB s rs = true := by
            cases h6 : seaB s <;> cases h7 : rpsB s rs <;> simp [err, chk, h6, h7] at h1 ⊢
          refine ⟨h5.1, h5.2, by simpa using h2, by simpa using h3, ?_, ?_, rfl⟩
          · intro e; rw [canR1_err, if_pos e] at h4; simp at h4
          · show (canR1 s rs wr h).1.map (pl s) = _; rw [canR1_eq]
theorem asked_bd {s : Sea} {rs : List Rp} {wr h : Int} {cs : List Cs} (hz : (askedR s rs wr h cs).2.2 = 0) : (askedR s rs wr h cs).1.length ≤ 80 ∧ 1 ≤ (askedR s rs wr h cs).2.1.length ∧ (askedR s rs wr h cs).2.1.length ≤ 8 ∧
    (∀ i, i < (askedR s rs wr h cs).1.length → plB ((askedR s rs wr h cs).1.getD i default)) ∧ (∀ i, i < (askedR s rs wr h cs).2.1.length → plB (((askedR s rs wr h cs).2.1.getD i default).c, ((askedR s rs wr h cs).2.1.getD i default).r)) := by
  obtain ⟨hv, hr, ha, hc, hne, e1, e2⟩ := askedR_ok hz
  have h1 := sea_ok hv
  have h3 := csB_ok hc
  rw [e1, e2, List.length_map, List.length_map]
  refine ⟨?_, h3.1, h3.2.1, fun i hi => ?_, fun i hi => ?_⟩
  · have : (cellsA s 0).length ≤ 80 := by
      unfold cellsA
      rw [List.length_map]
      refine Nat.le_trans (List.length_filter_le _ _) ?_
      rw [List.length_range']; omega
    exact Nat.le_trans (List.length_filter_le _ _) this
  · have hm : ((canL s rs wr h).map (pl s)).getD i default ∈ (canL s rs wr h).map (pl s) := getD_mem (by rw [List.length_map]; exact hi)
    obtain ⟨c, hcm, he⟩ := List.mem_map.1 hm
    rw [← he]
    have := mem_cellsA (List.mem_filter.1 hcm).1
    exact pl_plB (by omega) (by omega) (by omega) (by omega)
  · have hm : (cs.map (ctOf s)).getD i default ∈ cs.map (ctOf s) := getD_mem (by rw [List.length_map]; exact hi)
    obtain ⟨c, hcm, he⟩ := List.mem_map.1 hm
    rw [← he]
    have := h3.2.2 c hcm
    exact pl_plB (s := s) (c := c.cell) (by omega) (by omega) (by omega) (by omega)
theorem covN_bd (P : List (Int × Int)) (c : Ct) : 0 ≤ covN P c ∧ covN P c ≤ P.length := by
  unfold covN
  have := List.length_filter_le (covB c) P
  omega
theorem filtN_take {P : List (Int × Int)} (c : Ct) {k : Nat} (h : k < P.length) : (((P.take (k + 1)).filter (covB c)).length : Int) = ((P.take k).filter (covB c)).length + cond (covB c (P.getD k default)) 1 0 := filt_take _ h
end Go.Proofs.Ytgihgcclabodbaa.DK
