/- The reference's counts, from an hour on and before an hour: they say what the program's say. -/
import Derived.Test.YtgihgcclabodbaaSMin2
import Derived.Test.YtgihgcclabodbaaSRef
import Derived.Test.YtgihgcclabodbaaKY
namespace Go.Proofs.Ytgihgcclabodbaa.DK
open Go
set_option linter.unusedVariables false
set_option linter.unusedSectionVars false

theorem andc {a b : Bool} (h : cond a b false = true) : a = true ∧ b = true := by cases a <;> cases b <;> simp_all
def rowL (g : Nat → Int) (c : Nat) : List Int := (List.range c).map g
theorem rowL_len (g : Nat → Int) (c : Nat) : (rowL g c).length = c := by simp [rowL]
theorem rowL_succ (g : Nat → Int) (c : Nat) : rowL g (c + 1) = rowL g c ++ [g c] := by unfold rowL; rw [List.range_succ, List.map_append]; rfl
theorem rowL_at {g : Nat → Int} {c i : Nat} (h : i < c) : (rowL g c).getD i default = g i := by unfold rowL; simp [List.getD_eq_getElem?_getD, h]
theorem updX_at {α : Type} (X : Nat → α) (h : Nat) (a : α) : updX X h a h = a := by unfold updX; rw [if_pos rfl]
theorem updX_updX {α : Type} (X : Nat → α) (h : Nat) (a b : α) : updX (updX X h a) h b = updX X h b := by
  funext i; unfold updX; split <;> rfl
theorem rowL_zero (g : Nat → Int) : rowL g 0 = [] := rfl
def behG (s : Sea) (rs : List Rp) (h : Nat) : Nat → Int := fun c => if bwd s rs (s.hours.toNat - 1 - h) c < 1048576 then bwd s rs (s.hours.toNat - 1 - h) c else 1000
def aheG (s : Sea) (rs : List Rp) (h : Nat) : Nat → Int := fun c => if fwd s rs h c < 1048576 then fwd s rs h c - untr s rs (h : Int) (c : Int) else 1000
def behX (s : Sea) (rs : List Rp) (j : Nat) : Nat → List Int := fun i => if i < s.hours.toNat ∧ s.hours.toNat ≤ i + j then rowL (behG s rs i) (nC s).toNat else []
def aheX (s : Sea) (rs : List Rp) (k : Nat) : Nat → List Int := fun i => if i < k then rowL (aheG s rs i) (nC s).toNat else []
theorem behX_0 (s : Sea) (rs : List Rp) : behX s rs 0 = fun _ => [] := by funext i; unfold behX; rw [if_neg (by omega)]
theorem aheX_0 (s : Sea) (rs : List Rp) : aheX s rs 0 = fun _ => [] := by funext i; unfold aheX; rw [if_neg (by omega)]
theorem behX_start {s : Sea} {rs : List Rp} {h j : Nat} (g : Nat → Int) (e : h + 1 + j = s.hours.toNat) : updX (behX s rs j) h (rowL g 0) = behX s rs j := by
  funext i; unfold updX behX
  split
  · rw [if_neg (by omega)]; rfl
  · rfl
theorem aheX_start {s : Sea} {rs : List Rp} {h : Nat} (g : Nat → Int) : updX (aheX s rs h) h (rowL g 0) = aheX s rs h := by
  funext i; unfold updX aheX
  split
  · rw [if_neg (by omega)]; rfl
  · rfl
theorem behX_step {s : Sea} {rs : List Rp} {h j : Nat} (e : h + 1 + j = s.hours.toNat) : updX (behX s rs j) h (rowL (behG s rs h) (nC s).toNat) = behX s rs (j + 1) := by
  funext i; unfold updX behX
  by_cases h1 : i = h
  · subst h1; rw [if_pos rfl, if_pos (by omega)]
  · rw [if_neg h1]
    by_cases h2 : i < s.hours.toNat ∧ s.hours.toNat ≤ i + j
    · rw [if_pos h2, if_pos (by omega)]
    · rw [if_neg h2, if_neg (by omega)]
theorem aheX_step {s : Sea} {rs : List Rp} {h : Nat} : updX (aheX s rs h) h (rowL (aheG s rs h) (nC s).toNat) = aheX s rs (h + 1) := by
  funext i; unfold updX aheX
  by_cases h1 : i = h
  · subst h1; rw [if_pos rfl, if_pos (by omega)]
  · rw [if_neg h1]
    by_cases h2 : i < h
    · rw [if_pos h2, if_pos (by omega)]
    · rw [if_neg h2, if_neg (by omega)]
theorem behX_next {s : Sea} {rs : List Rp} {h j : Nat} (r : List Int) (e : h + 1 + j = s.hours.toNat) (hh : h + 1 < s.hours.toNat) : updX (behX s rs j) h r ((h : Int) + 1).toNat = rowL (behG s rs (h + 1)) (nC s).toNat := by
  rw [show ((h : Int) + 1).toNat = h + 1 by omega]
  unfold updX behX
  rw [if_neg (by omega), if_pos (by omega)]
theorem aheX_prev {s : Sea} {rs : List Rp} {h : Nat} (r : List Int) (hh : 0 < h) : updX (aheX s rs h) h r ((h : Int) - 1).toNat = rowL (aheG s rs (h - 1)) (nC s).toNat := by
  rw [show ((h : Int) - 1).toNat = h - 1 by omega]
  unfold updX aheX
  rw [if_neg (by omega), if_pos (by omega)]
theorem behX_at {s : Sea} {rs : List Rp} {h : Nat} (hh : h < s.hours.toNat) : behX s rs s.hours.toNat h = rowL (behG s rs h) (nC s).toNat := by unfold behX; rw [if_pos (by omega)]
theorem aheX_at {s : Sea} {rs : List Rp} {h : Nat} (hh : h < s.hours.toNat) : aheX s rs s.hours.toNat h = rowL (aheG s rs h) (nC s).toNat := by unfold aheX; rw [if_pos hh]
/-- The next hour's cells gone through, k of them. -/
def bfo (s : Sea) (rs : List Rp) (h c : Int) (G : Nat → Int) (n0 : Int) : Nat → Int
  | 0 => n0
  | k + 1 => cond (cond (decide (G k < 1000)) (stepP s h (pl s c) (pl s (k : Int))) false) (mn (bfo s rs h c G n0 k) (untr s rs h c + G k)) (bfo s rs h c G n0 k)
def afo (s : Sea) (rs : List Rp) (h c : Int) (G : Nat → Int) (n0 : Int) : Nat → Int
  | 0 => n0
  | k + 1 => cond (cond (decide (G k < 1000)) (stepP s (h - 1) (pl s (k : Int)) (pl s c)) false) (mn (afo s rs h c G n0 k) (G k + untr s rs (h - 1) (k : Int))) (afo s rs h c G n0 k)
theorem bfo_le {s : Sea} {rs : List Rp} {h c : Int} {G : Nat → Int} {n0 m : Int} : ∀ k, bfo s rs h c G n0 k ≤ m ↔ n0 ≤ m ∨ ∃ i, i < k ∧ G i < 1000 ∧ stepP s h (pl s c) (pl s (i : Int)) = true ∧ untr s rs h c + G i ≤ m
  | 0 => by simp [bfo]
  | k + 1 => by
    have ih := bfo_le (s := s) (rs := rs) (h := h) (c := c) (G := G) (n0 := n0) (m := m) k
    have split : (∃ i, i < k + 1 ∧ G i < 1000 ∧ stepP s h (pl s c) (pl s (i : Int)) = true ∧ untr s rs h c + G i ≤ m) ↔ (∃ i, i < k ∧ G i < 1000 ∧ stepP s h (pl s c) (pl s (i : Int)) = true ∧ untr s rs h c + G i ≤ m) ∨ (G k < 1000 ∧ stepP s h (pl s c) (pl s (k : Int)) = true ∧ untr s rs h c + G k ≤ m) := by
      constructor
      · rintro ⟨i, hi, r⟩
        by_cases e : i = k
        · subst e; exact .inr r
        · exact .inl ⟨i, by omega, r⟩
      · rintro (⟨i, hi, r⟩ | r)
        · exact ⟨i, by omega, r⟩
        · exact ⟨k, by omega, r⟩
    rw [split, bfo]
    by_cases hG : G k < 1000
    · cases hs : stepP s h (pl s c) (pl s (k : Int)) with
      | true => rw [decide_eq_true hG, cond_true, cond_true, mn_le, ih]; simp [hG, or_assoc]
      | false => rw [decide_eq_true hG, cond_true, cond_false, ih]; simp
    · rw [decide_eq_false hG, cond_false, cond_false, ih]; simp [hG]
theorem afo_le {s : Sea} {rs : List Rp} {h c : Int} {G : Nat → Int} {n0 m : Int} : ∀ k, afo s rs h c G n0 k ≤ m ↔ n0 ≤ m ∨ ∃ i, i < k ∧ G i < 1000 ∧ stepP s (h - 1) (pl s (i : Int)) (pl s c) = true ∧ G i + untr s rs (h - 1) (i : Int) ≤ m
  | 0 => by simp [afo]
  | k + 1 => by
    have ih := afo_le (s := s) (rs := rs) (h := h) (c := c) (G := G) (n0 := n0) (m := m) k
    have split : (∃ i, i < k + 1 ∧ G i < 1000 ∧ stepP s (h - 1) (pl s (i : Int)) (pl s c) = true ∧ G i + untr s rs (h - 1) (i : Int) ≤ m) ↔ (∃ i, i < k ∧ G i < 1000 ∧ stepP s (h - 1) (pl s (i : Int)) (pl s c) = true ∧ G i + untr s rs (h - 1) (i : Int) ≤ m) ∨ (G k < 1000 ∧ stepP s (h - 1) (pl s (k : Int)) (pl s c) = true ∧ G k + untr s rs (h - 1) (k : Int) ≤ m) := by
      constructor
      · rintro ⟨i, hi, r⟩
        by_cases e : i = k
        · subst e; exact .inr r
        · exact .inl ⟨i, by omega, r⟩
      · rintro (⟨i, hi, r⟩ | r)
        · exact ⟨i, by omega, r⟩
        · exact ⟨k, by omega, r⟩
    rw [split, afo]
    by_cases hG : G k < 1000
    · cases hs : stepP s (h - 1) (pl s (k : Int)) (pl s c) with
      | true => rw [decide_eq_true hG, cond_true, cond_true, mn_le, ih]; simp [hG, or_assoc]
      | false => rw [decide_eq_true hG, cond_true, cond_false, ih]; simp
    · rw [decide_eq_false hG, cond_false, cond_false, ih]; simp [hG]
theorem goneF_inN {s : Sea} {val : Int → Int} {c : Nat} (h : (c : Int) ∈ cellsA s 0) : goneF s val c = val (c : Int) := goneF_in h
section
variable {s : Sea} {rs : List Rp} (hv : seaB s = true) (hr : rpsB s rs = true)
include hv hr
theorem bwd_24 {j : Nat} (hj : j < s.hours.toNat) {c : Nat} (h : bwd s rs j c < 1048576) : (c : Int) ∈ cellsA s 0 ∧ 0 ≤ bwd s rs j c ∧ bwd s rs j c ≤ 24 := by
  have h24 := (rp_ok hr).1
  by_cases hc : (c : Int) ∈ cellsA s 0
  · have e : ((c : Int)).toNat = c := rfl
    obtain ⟨t, ht, htc, hcc⟩ := (bwd_le hv hr j hj (c : Int) hc _ (by rw [e]; exact h)).1 (Int.le_refl _)
    have hb := bwd_bd hv hr j c (by have := cell80 hv hr hc; omega)
    have h2 := (bwd_le hv hr j hj (c : Int) hc (costT s rs t (s.hours.toNat - 1 - j) (j + 1)) (by have := costT_len (s := s) (rs := rs) (t := t) (a := s.hours.toNat - 1 - j) (n := j + 1); omega)).2 ⟨t, ht, htc, Int.le_refl _⟩
    have := costT_len (s := s) (rs := rs) (t := t) (a := s.hours.toNat - 1 - j) (n := j + 1)
    rw [e] at h2
    exact ⟨hc, hb.1, by omega⟩
  · cases j with
    | zero => rw [bwd, goneF_out hc] at h; omega
    | succ j => rw [bwd, goneF_out hc] at h; omega
theorem fwd_24 {h c : Nat} (hf : fwd s rs h c < 1048576) : (c : Int) ∈ cellsA s 0 ∧ 0 ≤ fwd s rs h c ∧ fwd s rs h c ≤ 24 := by
  have h24 := (rp_ok hr).1
  by_cases hc : (c : Int) ∈ cellsA s 0
  · have e : ((c : Int)).toNat = c := rfl
    obtain ⟨t, ht, htc, hcc⟩ := (fwd_le hv hr h (c : Int) hc _ (by rw [e]; exact hf)).1 (Int.le_refl _)
    have hb := fwd_bd hv hr h c (by have := cell80 hv hr hc; omega)
    have h2 := (fwd_le hv hr h (c : Int) hc (costT s rs t 0 (h + 1)) (by have := costT_len (s := s) (rs := rs) (t := t) (a := 0) (n := h + 1); omega)).2 ⟨t, ht, htc, Int.le_refl _⟩
    have := costT_len (s := s) (rs := rs) (t := t) (a := 0) (n := h + 1)
    rw [e] at h2
    exact ⟨hc, hb.1, by omega⟩
  · cases h with
    | zero => rw [fwd, goneF_out hc] at hf; omega
    | succ j => rw [fwd, goneF_out hc] at hf; omega
theorem behG_bd {h : Nat} (hh : h < s.hours.toNat) (c : Nat) : 0 ≤ behG s rs h c ∧ behG s rs h c ≤ 1000 := by
  unfold behG
  split
  · rename_i h1; have := bwd_24 hv hr (j := s.hours.toNat - 1 - h) (by omega) h1; omega
  · omega
theorem aheG_bd {h : Nat} (c : Nat) : 0 ≤ aheG s rs h c ∧ aheG s rs h c ≤ 1000 := by
  unfold aheG
  split
  · rename_i h1
    have h2 := fwd_24 hv hr h1
    have h3 := fwd_ge hv hr (h := h) h2.1
    have h4 := untr_bd (s := s) (rs := rs) (h : Int) (c : Int)
    rw [show ((c : Int)).toNat = c from rfl] at h3
    omega
  · omega
theorem behG_lt {h c : Nat} (hh : h < s.hours.toNat) (h1 : behG s rs h c < 1000) : (c : Int) ∈ cellsA s 0 ∧ behG s rs h c = bwd s rs (s.hours.toNat - 1 - h) c ∧ bwd s rs (s.hours.toNat - 1 - h) c < 1048576 := by
  unfold behG at h1 ⊢
  split at h1
  · rename_i h2; rw [if_pos h2]; exact ⟨(bwd_24 hv hr (j := s.hours.toNat - 1 - h) (by omega) h2).1, rfl, h2⟩
  · omega
theorem aheG_lt {h c : Nat} (h1 : aheG s rs h c < 1000) : (c : Int) ∈ cellsA s 0 ∧ aheG s rs h c = fwd s rs h c - untr s rs (h : Int) (c : Int) ∧ fwd s rs h c < 1048576 := by
  unfold aheG at h1 ⊢
  split at h1
  · rename_i h2; rw [if_pos h2]; exact ⟨(fwd_24 hv hr h2).1, rfl, h2⟩
  · omega
theorem behG_le {h c : Nat} (hh : h < s.hours.toNat) {m : Int} (hm : m < 1000) : behG s rs h c ≤ m ↔ bwd s rs (s.hours.toNat - 1 - h) c ≤ m := by
  unfold behG
  split <;> omega
theorem aheG_le {h c : Nat} {m : Int} (hm : m < 1000) : aheG s rs h c ≤ m ↔ fwd s rs h c ≤ m + untr s rs (h : Int) (c : Int) := by
  have h24 := (rp_ok hr).1
  have h4 := untr_bd (s := s) (rs := rs) (h : Int) (c : Int)
  unfold aheG
  split <;> omega
/-- What the reference reckons for a cell, from an hour on. -/
theorem beh_val {h c k : Nat} (hh : h < s.hours.toNat) (hc : (c : Int) < nC s)
    (hk : (cond (watB s (c : Int)) (decide ((h : Int) < s.hours - 1)) false = true ∧ (k : Int) = nC s) ∨ (cond (watB s (c : Int)) (decide ((h : Int) < s.hours - 1)) false = false ∧ k = 0)) :
    bfo s rs (h : Int) (c : Int) (behG s rs (h + 1)) (cond (cond (watB s (c : Int)) ((h : Int) == s.hours - 1) false) (untr s rs (h : Int) (c : Int)) 1000) k = behG s rs h c := by
  have h1 := sea_ok hv
  have h24 := (rp_ok hr).1
  have hu := untr_bd (s := s) (rs := rs) (h : Int) (c : Int)
  have hbd := behG_bd hv hr hh c
  cases hw : watB s (c : Int) with
  | false =>
    rw [hw] at hk
    rcases hk with ⟨h2, _⟩ | ⟨_, rfl⟩
    · cases h2
    · rw [bfo, cond_false, cond_false]
      have hn : ¬ (c : Int) ∈ cellsA s 0 := fun h3 => by rw [watB_iff.2 h3] at hw; cases hw
      unfold behG
      rw [if_neg]
      intro h3
      exact hn (bwd_24 hv hr (j := s.hours.toNat - 1 - h) (by omega) h3).1
  | true =>
    have hx := watB_iff.1 hw
    rw [hw, cond_true] at hk
    by_cases hl : (h : Int) < s.hours - 1
    · rw [decide_eq_true hl] at hk
      have hkn : (k : Int) = nC s := by rcases hk with ⟨_, h2⟩ | ⟨h2, _⟩; exact h2; cases h2
      rw [cond_true, show ((h : Int) == s.hours - 1) = false by simp; omega, cond_false]
      have hbu : bfo s rs (h : Int) (c : Int) (behG s rs (h + 1)) 1000 k ≤ 1000 := (bfo_le k).2 (.inl (Int.le_refl _))
      refine eq_of_le hbu hbd.2 fun m hm => ?_
      rw [bfo_le, behG_le hv hr hh hm]
      obtain ⟨j, hj⟩ : ∃ j, s.hours.toNat - 1 - h = j + 1 := ⟨s.hours.toNat - 2 - h, by omega⟩
      have e : s.hours - 1 - ((j + 1 : Nat) : Int) = (h : Int) := by omega
      have ej : s.hours.toNat - 1 - (h + 1) = j := by omega
      rw [hj, bwd, goneF_inN hx, best_le hv hr _ _ _ (by omega), e]
      constructor
      · rintro (h2 | ⟨i, hi, hG, hs, h2⟩)
        · omega
        · obtain ⟨hix, hie, hil⟩ := behG_lt hv hr (by omega) hG
          rw [hie, ej] at h2
          exact ⟨(i : Int), hix, hs, by rw [show ((i : Int)).toNat = i from rfl]; omega⟩
      · rintro ⟨o, ho, hs, h2⟩
        right
        have hom := mem_cellsA ho
        have eo : ((o.toNat : Nat) : Int) = o := by omega
        have hG : behG s rs (h + 1) o.toNat = bwd s rs j o.toNat := by unfold behG; rw [ej, if_pos (by omega)]
        exact ⟨o.toNat, by omega, by rw [hG]; omega, by rw [eo]; exact hs, by rw [hG]; omega⟩
    · rw [decide_eq_false hl] at hk
      have hk0 : k = 0 := by rcases hk with ⟨h2, _⟩ | ⟨_, h2⟩; cases h2; exact h2
      subst hk0
      rw [bfo, cond_true, show ((h : Int) == s.hours - 1) = true by simp; omega, cond_true]
      unfold behG
      have e : s.hours.toNat - 1 - h = 0 := by omega
      rw [e, bwd, goneF_inN hx, show s.hours - 1 - ((0 : Nat) : Int) = (h : Int) by omega, if_pos (by omega)]
/-- What the reference reckons for a cell, before an hour. -/
theorem ahe_val {h c k : Nat} (hh : h < s.hours.toNat) (hc : (c : Int) < nC s)
    (hk : (cond (watB s (c : Int)) (decide ((h : Int) > 0)) false = true ∧ (k : Int) = nC s) ∨ (cond (watB s (c : Int)) (decide ((h : Int) > 0)) false = false ∧ k = 0)) :
    afo s rs (h : Int) (c : Int) (aheG s rs (h - 1)) (cond (cond (watB s (c : Int)) ((h : Int) == 0) false) 0 1000) k = aheG s rs h c := by
  have h1 := sea_ok hv
  have h24 := (rp_ok hr).1
  have hu := untr_bd (s := s) (rs := rs) (h : Int) (c : Int)
  have hbd := aheG_bd hv hr (h := h) c
  cases hw : watB s (c : Int) with
  | false =>
    rw [hw] at hk
    rcases hk with ⟨h2, _⟩ | ⟨_, rfl⟩
    · cases h2
    · rw [afo, cond_false, cond_false]
      have hn : ¬ (c : Int) ∈ cellsA s 0 := fun h3 => by rw [watB_iff.2 h3] at hw; cases hw
      unfold aheG
      rw [if_neg]
      intro h3
      exact hn (fwd_24 hv hr h3).1
  | true =>
    have hx := watB_iff.1 hw
    rw [hw, cond_true] at hk
    by_cases hl : (h : Int) > 0
    · rw [decide_eq_true hl] at hk
      have hkn : (k : Int) = nC s := by rcases hk with ⟨_, h2⟩ | ⟨h2, _⟩; exact h2; cases h2
      rw [cond_true, show ((h : Int) == 0) = false by simp; omega, cond_false]
      have hbu : afo s rs (h : Int) (c : Int) (aheG s rs (h - 1)) 1000 k ≤ 1000 := (afo_le k).2 (.inl (Int.le_refl _))
      refine eq_of_le hbu hbd.2 fun m hm => ?_
      rw [afo_le, aheG_le hv hr hm]
      obtain ⟨j, rfl⟩ : ∃ j, h = j + 1 := ⟨h - 1, by omega⟩
      rw [Nat.add_sub_cancel, fwd]
      have eh : ((j + 1 : Nat) : Int) - 1 = (j : Int) := by omega
      rw [goneF_inN hx, best_le hv hr _ _ _ (by have := (rp_ok hr).1; omega), eh]
      constructor
      · rintro (h2 | ⟨i, hi, hG, hs, h2⟩)
        · omega
        · obtain ⟨hix, hie, hil⟩ := aheG_lt hv hr hG
          rw [hie] at h2
          exact ⟨(i : Int), hix, hs, by rw [show ((i : Int)).toNat = i from rfl]; omega⟩
      · rintro ⟨o, ho, hs, h2⟩
        right
        have hom := mem_cellsA ho
        have eo : ((o.toNat : Nat) : Int) = o := by omega
        have hou := untr_bd (s := s) (rs := rs) (j : Int) o
        have hG : aheG s rs j o.toNat = fwd s rs j o.toNat - untr s rs (j : Int) o := by unfold aheG; rw [eo, if_pos (by omega)]
        exact ⟨o.toNat, by omega, by rw [hG]; omega, by rw [eo]; exact hs, by rw [hG, eo]; omega⟩
    · rw [decide_eq_false hl] at hk
      have hk0 : k = 0 := by rcases hk with ⟨h2, _⟩ | ⟨_, h2⟩; cases h2; exact h2
      subst hk0
      have h0 : h = 0 := by omega
      subst h0
      rw [afo, cond_true, show (((0 : Nat) : Int) == 0) = true from rfl, cond_true]
      unfold aheG
      rw [fwd, goneF_inN hx, if_pos (by omega)]
      omega
/-- The reference's list of the cells in which the shoal can be. -/
theorem refcan {h c : Nat} (hh : h < s.hours.toNat) (hc : (c : Int) < nC s) {wr : Int} (hw : wr ≤ 24) : (aheG s rs h c + behG s rs h c ≤ wr) ↔ (c : Int) ∈ cellsA s 0 ∧ allR s rs s.hours.toNat h c ≤ wr := by
  have hb1 := aheG_bd hv hr (h := h) c
  have hb2 := behG_bd hv hr hh c
  rw [allR_h hh]
  constructor
  · intro h1
    obtain ⟨hx, e1, l1⟩ := aheG_lt hv hr (h := h) (c := c) (by omega)
    obtain ⟨_, e2, l2⟩ := behG_lt hv hr (h := h) (c := c) hh (by omega)
    refine ⟨hx, ?_⟩
    unfold allF
    rw [if_pos hx, mn_le]
    omega
  · rintro ⟨hx, h1⟩
    unfold allF at h1
    rw [if_pos hx, mn_le] at h1
    have hu := untr_bd (s := s) (rs := rs) (h : Int) (c : Int)
    have h24 := (rp_ok hr).1
    have hf := fwd_ge hv hr (h := h) hx
    have hb := bwd_ge hv hr (j := s.hours.toNat - 1 - h) (by omega) hx
    rw [show s.hours.toNat - 1 - (s.hours.toNat - 1 - h) = h by omega] at hb
    rw [show ((c : Int)).toNat = c from rfl] at hf hb
    unfold aheG behG
    rw [if_pos (by omega), if_pos (by omega)]
    omega
end
end Go.Proofs.Ytgihgcclabodbaa.DK
