/- Seas with reports: which are such, how they lie in memory; the cells of a sea; how many reports are false. -/
import Derived.Test.YtgihgcclabodbaaSDef
namespace Go.Proofs.Ytgihgcclabodbaa.DK
open Go
set_option linter.unusedVariables false

/-! ### The cells that are no land -/
def isLand (s : Sea) (k : Nat) : Bool := landF s (pl s (k : Int))
def cellsA (s : Sea) (k : Nat) : List Int := ((List.range' k ((nC s).toNat - k)).filter fun c => !(isLand s c)).map fun (c : Nat) => (c : Int)
theorem cellsA_end {s : Sea} {k : Nat} (h : nC s ≤ k) : cellsA s k = [] := by
  unfold cellsA
  rw [show (nC s).toNat - k = 0 by omega]; rfl
theorem cellsA_land {s : Sea} {k : Nat} (h : (k : Int) < nC s) (hl : landF s (pl s (k : Int)) = true) : cellsA s k = cellsA s (k + 1) := by
  unfold cellsA
  rw [show (nC s).toNat - k = ((nC s).toNat - (k + 1)) + 1 by omega, List.range'_succ, List.filter_cons_of_neg (by simp [isLand, hl])]
theorem cellsA_water {s : Sea} {k : Nat} (h : (k : Int) < nC s) (hl : landF s (pl s (k : Int)) = false) : cellsA s k = (k : Int) :: cellsA s (k + 1) := by
  unfold cellsA
  rw [show (nC s).toNat - k = ((nC s).toNat - (k + 1)) + 1 by omega, List.range'_succ, List.filter_cons_of_pos (by simp [isLand, hl])]
  rfl
theorem mem_cellsA {s : Sea} {k : Nat} {c : Int} (h : c ∈ cellsA s k) : (k : Int) ≤ c ∧ c < nC s ∧ landF s (pl s c) = false := by
  unfold cellsA at h
  obtain ⟨n, hn, rfl⟩ := List.mem_map.1 h
  obtain ⟨h1, h2⟩ := List.mem_filter.1 hn
  rw [List.mem_range'_1] at h1
  refine ⟨by omega, by omega, by simpa [isLand] using h2⟩
theorem of_cellsA {s : Sea} {k : Nat} {c : Int} (h0 : (k : Int) ≤ c) (h1 : c < nC s) (h2 : landF s (pl s c) = false) : c ∈ cellsA s k := by
  unfold cellsA
  refine List.mem_map.2 ⟨c.toNat, List.mem_filter.2 ⟨by rw [List.mem_range'_1]; omega, ?_⟩, by omega⟩
  rw [isLand, show ((c.toNat : Nat) : Int) = c by omega, h2]; rfl

/-! ### Reports -/
def rpB (s : Sea) (x : Rp) : Bool := cond (cond (inB x.hr 0 (s.hours - 1)) (inB x.cell 0 (nC s - 1)) false) (inB x.far 0 9) false
def rpsB (s : Sea) (rs : List Rp) : Bool := decide ((rs.length : Int) ≤ 24) && rs.all (rpB s)
theorem rp_ok {s : Sea} {rs : List Rp} (h : rpsB s rs = true) : rs.length ≤ 24 ∧ ∀ i, i < rs.length → 0 ≤ (rs.getD i default).hr ∧ (rs.getD i default).hr ≤ s.hours - 1 ∧ 0 ≤ (rs.getD i default).cell ∧ (rs.getD i default).cell ≤ nC s - 1 ∧ 0 ≤ (rs.getD i default).far ∧ (rs.getD i default).far ≤ 9 := by
  simp only [rpsB, Bool.and_eq_true, decide_eq_true_eq, List.all_eq_true] at h
  refine ⟨by omega, fun i hi => ?_⟩
  have h1 := h.2 _ (getD_mem hi)
  generalize rs.getD i default = x at *
  unfold rpB at h1
  cases h2 : inB x.hr 0 (s.hours - 1) <;> cases h3 : inB x.cell 0 (nC s - 1) <;> cases h4 : inB x.far 0 9 <;> simp [h2, h3, h4] at h1
  simp only [inB_iff] at h2 h3 h4
  omega
/-- A report in the calculation. -/
structure Rq where
  hr : Int
  cell : Int
  far : Int
  th : Bool
  c : Int
  r : Int
  deriving Inhabited, DecidableEq
def encRq (x : Rq) : List Value := [.int .i64 x.hr, .int .i64 x.cell, .int .i64 x.far, .bool x.th, .int .i64 x.c, .int .i64 x.r]
def rq (s : Sea) (x : Rp) : Rq := ⟨x.hr, x.cell, x.far, x.th, (pl s x.cell).1, (pl s x.cell).2⟩
def rqs (s : Sea) (rs : List Rp) : List Rq := rs.map (rq s)
theorem rqs_at {s : Sea} {rs : List Rp} {i : Nat} (h : i < rs.length) : (rqs s rs).getD i default = rq s (rs.getD i default) := by
  simp [rqs, List.getD_eq_getElem?_getD, h]
theorem rqs_take {s : Sea} {rs : List Rp} {i : Nat} (h : i < rs.length) : rqs s (rs.take (i + 1)) = rqs s (rs.take i) ++ [rq s (rs.getD i default)] := by
  have e : rs.getD i default = rs[i] := by simp [List.getD_eq_getElem?_getD, h]
  rw [rqs, List.take_succ_eq_append_getElem h, List.map_append, ← e]; rfl
theorem rqs_len {s : Sea} {rs : List Rp} : (rqs s rs).length = rs.length := by simp [rqs]
/-- The log of s and rs lies in memory below block bd. -/
structure LogR (bd : Nat) (w : World) (v : SV) (mb : Nat) (qa : Option Addr) (qn : Nat) (s : Sea) (rs : List Rp) : Prop where
  sea : SeaR bd w v s
  land : MapRo bd mb (.bool false) Value.bool (landF s) w
  reps : Rd encRq 6 bd w qa qn (rqs s rs)
section
variable {bd bd' : Nat} {w w' : World} {v : SV} {mb qn : Nat} {qa : Option Addr} {s : Sea} {rs : List Rp} {M : Nat → Prop}
theorem LogR.kp (h : LogR bd w v mb qa qn s rs) (hk : Kp M w w') (hm : ∀ k, k < bd → ¬ M k) : LogR bd w' v mb qa qn s rs := ⟨h.sea.kp hk hm, h.land.kp hk hm, h.reps.kp hk hm⟩
theorem LogR.ext (h : LogR bd w v mb qa qn s rs) (hk : Ext w w') : LogR bd w' v mb qa qn s rs := h.kp hk nom
theorem LogR.bd_le (h : LogR bd w v mb qa qn s rs) (hb : bd ≤ bd') : LogR bd' w v mb qa qn s rs := ⟨h.sea.bd_le hb, h.land.bd_le hb, h.reps.bd_le hb⟩
theorem LogR.upM (h : LogR bd w v mb qa qn s rs) (hk : Kp M w w') (hm : ∀ k, k < bd → ¬ M k) (hb : bd ≤ w.heap.size) : LogR w'.heap.size w' v mb qa qn s rs := (h.kp hk hm).bd_le (Nat.le_trans hb hk.size)
end
/-- Is a report true, if the shoal is at p? -/
def trueB (x : Rq) (p : Int × Int) : Bool := x.th == decide (farP (x.c, x.r) p ≤ x.far)
def badB (h : Int) (p : Int × Int) (x : Rq) : Bool := cond (x.hr == h) (!(trueB x p)) false
def untr (s : Sea) (rs : List Rp) (h c : Int) : Int := (((rqs s rs).filter (badB h (pl s c))).length : Int)
theorem untr_bd {s : Sea} {rs : List Rp} (h c : Int) : 0 ≤ untr s rs h c ∧ untr s rs h c ≤ rs.length := by
  unfold untr
  have := List.length_filter_le (badB h (pl s c)) (rqs s rs)
  rw [rqs_len] at this
  omega
theorem filt_take {α : Type} [Inhabited α] {xs : List α} (g : α → Bool) {k : Nat} (h : k < xs.length) : (((xs.take (k + 1)).filter g).length : Int) = ((xs.take k).filter g).length + cond (g (xs.getD k default)) 1 0 := by
  have e : xs.getD k default = xs[k] := by simp [List.getD_eq_getElem?_getD, h]
  rw [List.take_succ_eq_append_getElem h, List.filter_append, List.length_append, e]
  cases hg : g xs[k] <;> simp [hg]
end Go.Proofs.Ytgihgcclabodbaa.DK
