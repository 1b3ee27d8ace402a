/- What the laws say of casts, in plain words. -/
import Derived.Test.YtgihgcclabodbaaSLaw2
namespace Go.Proofs.Ytgihgcclabodbaa.DK
open Go
set_option linter.unusedVariables false
set_option linter.unusedSectionVars false

theorem nextK_spec {P : List (Int × Int)} {C : List Ct} : ∀ K : Nat, 0 < K → 0 ≤ (nextK P C K).1 ∧ (nextK P C K).1 < K ∧ (nextK P C K).2 = worN P (C.getD (nextK P C K).1.toNat default) ∧
    ∀ i : Nat, i < K → (nextK P C K).2 ≤ worN P (C.getD i default) ∧ ((i : Int) < (nextK P C K).1 → (nextK P C K).2 < worN P (C.getD i default))
  | 0, h => by omega
  | 1, _ => by
    have e : nextK P C 1 = (0, worN P (C.getD 0 default)) := rfl
    rw [e]
    refine ⟨Int.le_refl _, by show (0 : Int) < ((1 : Nat) : Int); decide, rfl, fun i hi => ?_⟩
    rw [show i = 0 by omega]
    exact ⟨Int.le_refl _, fun h => by have h : ((0 : Nat) : Int) < 0 := h; omega⟩
  | K + 2, _ => by
    obtain ⟨h1, h2, h3, h4⟩ := nextK_spec (P := P) (C := C) (K + 1) (by omega)
    rw [nextK, show (((K + 1 : Nat) : Int) == 0) = false by simp; omega, cond_false]
    by_cases e : worN P (C.getD (K + 1) default) < (nextK P C (K + 1)).2
    · rw [decide_eq_true e, cond_true]
      refine ⟨by show (0 : Int) ≤ ((K + 1 : Nat) : Int); omega, by show ((K + 1 : Nat) : Int) < ((K + 2 : Nat) : Int); omega, by show worN P (C.getD (K + 1) default) = worN P (C.getD (((K + 1 : Nat) : Int)).toNat default); rw [Int.toNat_natCast], fun i hi => ?_⟩
      show worN P (C.getD (K + 1) default) ≤ worN P (C.getD i default) ∧ ((i : Int) < ((K + 1 : Nat) : Int) → worN P (C.getD (K + 1) default) < worN P (C.getD i default))
      by_cases hk : i = K + 1
      · subst hk; exact ⟨Int.le_refl _, fun h => by omega⟩
      · have := h4 i (by omega); exact ⟨by omega, fun _ => by omega⟩
    · rw [decide_eq_false e, cond_false]
      refine ⟨h1, by omega, h3, fun i hi => ?_⟩
      by_cases hk : i = K + 1
      · subst hk; exact ⟨by omega, fun h => by omega⟩
      · exact h4 i (by omega)
theorem ris_in {n : Nat} {l : List Int} (h : risF n (-1) l = true) : ∀ i ∈ l, 0 ≤ i ∧ i < n := fun i hi => by
  have := ris_mem l _ h i hi
  omega
theorem find_nil {s : Sea} {cs : List Cs} {X : List Int} (h : X ≠ []) : rallB s cs [] X = false := by
  cases X with
  | nil => exact absurd rfl h
  | cons x r => rfl
section
variable {s : Sea} {rs : List Rp} (her : err s rs = 0) {wr h : Int} (ha : askB s wr h = true) {cs : List Cs}
include her ha
theorem canR_one : canR s rs wr h = canR1 s rs wr h := by
  unfold canR
  rw [if_neg (by omega), if_neg (by rw [ha]; simp)]
theorem asked_err (hb : (askedR s rs wr h cs).2.2 ≠ 0) : (askedR s rs wr h cs).2.2 = 13 ∨ ((askedR s rs wr h cs).2.2 = 12 ∧ (canR s rs wr h).2 = 12) := by
  unfold askedR at hb ⊢
  rw [if_neg (by omega), if_neg (by rw [ha]; simp)] at hb ⊢
  split
  · exact .inl rfl
  · rename_i h1
    rw [if_neg h1] at hb
    split
    · rename_i h2
      right
      rw [canR_one her ha]
      have h3 := canR1_err s rs wr h
      by_cases e : canL s rs wr h = []
      · rw [if_pos e] at h3; exact ⟨h3, h3⟩
      · rw [if_neg e] at h3; exact absurd h3 h2
    · rename_i h2
      rw [if_neg h2] at hb; exact absurd rfl hb
theorem asked_good (hz : (askedR s rs wr h cs).2.2 = 0) : csB s cs = true ∧ canL s rs wr h ≠ [] ∧ canR s rs wr h = (canL s rs wr h, 0) ∧ (askedR s rs wr h cs).1 = (canL s rs wr h).map (pl s) ∧ (askedR s rs wr h cs).2.1 = cs.map (ctOf s) := by
  obtain ⟨_, _, _, hc, hne, e1, e2⟩ := askedR_ok hz
  refine ⟨hc, hne, ?_, e1, e2⟩
  rcases can_cases her ha with ⟨h1, _⟩ | ⟨_, h2⟩
  · exact absurd h1 hne
  · exact h2
/-! ### The cast that is advised -/
theorem next_bad (hb : (nextR s rs wr h cs).2.2 ≠ 0) : (nextR s rs wr h cs).1 = 0 ∧ (nextR s rs wr h cs).2.1 = 0 ∧ ((nextR s rs wr h cs).2.2 = 13 ∨ (nextR s rs wr h cs).2.2 = (canR s rs wr h).2) := by
  unfold nextR at hb ⊢
  split
  · rename_i h1
    refine ⟨rfl, rfl, ?_⟩
    rcases asked_err her ha h1 with h2 | ⟨h2, h3⟩
    · exact .inl h2
    · exact .inr (h2.trans h3.symm)
  · rename_i h1
    rw [if_neg h1] at hb; exact absurd rfl hb
theorem next_good (hz : (nextR s rs wr h cs).2.2 = 0) : csB s cs = true ∧ canR s rs wr h = (canL s rs wr h, 0) ∧ (nextR s rs wr h cs).1 = (nextK ((canL s rs wr h).map (pl s)) (cs.map (ctOf s)) cs.length).1 ∧ (nextR s rs wr h cs).2.1 = (nextK ((canL s rs wr h).map (pl s)) (cs.map (ctOf s)) cs.length).2 := by
  unfold nextR at hz ⊢
  split at hz
  · rename_i h1; exact absurd hz h1
  · rename_i h1
    rw [if_neg h1]
    obtain ⟨hc, _, e, e1, e2⟩ := asked_good her ha (cs := cs) (by simpa using h1)
    rw [e1, e2, List.length_map]
    exact ⟨hc, e, rfl, rfl⟩
theorem next_law {n : Nat} (hn : cs.length = n) (hb : cond ((nextR s rs wr h cs).2.2 != 0) true (decide ((n : Int) > 8)) = true) :
    cond (cond (cond ((nextR s rs wr h cs).1 == 0) ((nextR s rs wr h cs).2.1 == 0) false) (cond ((nextR s rs wr h cs).2.2 == 13) true ((nextR s rs wr h cs).2.2 == (canR s rs wr h).2)) false) true false = true := by
  have hz : (nextR s rs wr h cs).2.2 ≠ 0 := by
    intro hz
    have := csB_ok (next_good her ha hz).1
    rw [hz, show ((0 : Int) != 0) = false from rfl, cond_false] at hb
    have := of_decide_eq_true hb; omega
  obtain ⟨h1, h2, h3⟩ := next_bad her ha hz
  rw [h1, h2]
  rcases h3 with h3 | h3
  · rw [h3]; rfl
  · rw [h3]
    cases hq : ((canR s rs wr h).2 == 13)
    · rw [cond_false, show ((canR s rs wr h).2 == (canR s rs wr h).2) = true from beq_self_eq_true _]; rfl
    · rfl
/-- Once a cast is advised. -/
theorem next_go {n : Nat} (hb : cond ((nextR s rs wr h cs).2.2 != 0) true (decide ((n : Int) > 8)) = false) : (nextR s rs wr h cs).2.2 = 0 := by
  cases hq : ((nextR s rs wr h cs).2.2 != 0)
  · simpa using hq
  · rw [hq] at hb; cases hb
theorem next_in (hz : (nextR s rs wr h cs).2.2 = 0) : inB (nextR s rs wr h cs).1 0 ((cs.length : Int) - 1) = true ∧ 1 ≤ cs.length ∧ (canR s rs wr h).2 = 0 := by
  obtain ⟨hc, e, e1, _⟩ := next_good her ha hz
  have hl := csB_ok hc
  obtain ⟨h1, h2, _⟩ := nextK_spec (P := (canL s rs wr h).map (pl s)) (C := cs.map (ctOf s)) cs.length (by omega)
  rw [e1]
  exact ⟨inB_iff.2 (by omega), hl.1, by rw [e]⟩
theorem next_dead (hz : (nextR s rs wr h cs).2.2 = 0) {i : Nat} (hi : i < cs.length) {m : Int} (hm : m = rworN s (canR s rs wr h).1 (cs.getD i default)) :
    cond (cond (decide (m < (nextR s rs wr h cs).2.1)) true (cond ((i : Int) == (nextR s rs wr h cs).1) (m != (nextR s rs wr h cs).2.1) false)) true (cond (decide ((i : Int) < (nextR s rs wr h cs).1)) (m == (nextR s rs wr h cs).2.1) false) = false := by
  obtain ⟨hc, e, e1, e2⟩ := next_good her ha hz
  obtain ⟨h1, h2, h3, h4⟩ := nextK_spec (P := (canL s rs wr h).map (pl s)) (C := cs.map (ctOf s)) cs.length (by omega)
  have h5 := h4 i hi
  rw [map_getD _ hi, worN_eq] at h5
  rw [e] at hm
  have hm : m = rworN s (canL s rs wr h) (cs.getD i default) := hm
  rw [← hm] at h5
  rw [e1, e2]
  rw [decide_eq_false (show ¬ m < _ by omega), cond_false]
  by_cases q1 : (i : Int) = (nextK ((canL s rs wr h).map (pl s)) (cs.map (ctOf s)) cs.length).1
  · rw [← q1, Int.toNat_natCast, map_getD _ hi, worN_eq, ← hm] at h3
    rw [← h3, ← q1, bne_self_eq_false, beq_self_eq_true, decide_eq_false (show ¬ (i : Int) < i by omega)]; rfl
  · rw [show ((i : Int) == (nextK ((canL s rs wr h).map (pl s)) (cs.map (ctOf s)) cs.length).1) = false by simpa using q1, cond_false, cond_false]
    by_cases q2 : (i : Int) < (nextK ((canL s rs wr h).map (pl s)) (cs.map (ctOf s)) cs.length).1
    · have := h5.2 q2
      rw [show (m == (nextK ((canL s rs wr h).map (pl s)) (cs.map (ctOf s)) cs.length).2) = false by simp; omega]
      cases decide ((i : Int) < (nextK ((canL s rs wr h).map (pl s)) (cs.map (ctOf s)) cs.length).1) <;> rfl
    · rw [decide_eq_false q2]; rfl
/-! ### The casts that surely find -/
theorem sure_bad (hb : (askedR s rs wr h cs).2.2 ≠ 0) : sureR s rs wr h cs = ([], (askedR s rs wr h cs).2.2) := by
  unfold sureR
  rw [if_pos hb]
theorem sure_two (hz : (askedR s rs wr h cs).2.2 = 0) : (∃ l, sureL ((canL s rs wr h).map (pl s)) (cs.map (ctOf s)) cs.length 0 = some l ∧ sureR s rs wr h cs = (l, 0)) ∨ (sureL ((canL s rs wr h).map (pl s)) (cs.map (ctOf s)) cs.length 0 = none ∧ sureR s rs wr h cs = ([], 4)) := by
  obtain ⟨_, _, _, e1, e2⟩ := asked_good her ha hz
  unfold sureR
  rw [if_neg (by omega), e1, e2, List.length_map]
  cases sureL ((canL s rs wr h).map (pl s)) (cs.map (ctOf s)) cs.length 0 with
  | some l => exact .inl ⟨l, rfl, rfl⟩
  | none => exact .inr ⟨rfl, rfl⟩
theorem found_bad {n : Nat} (hn : cs.length = n) {m : Nat} (hm : (sureR s rs wr h cs).1.length = m) (hb : cond (cond ((sureR s rs wr h cs).2 != 0) ((sureR s rs wr h cs).2 != 4) false) true (!(inB (n : Int) 1 8)) = true) :
    cond (cond ((m : Int) == 0) (cond ((sureR s rs wr h cs).2 == 13) true ((sureR s rs wr h cs).2 == (canR s rs wr h).2)) false) true false = true := by
  have hz : (askedR s rs wr h cs).2.2 ≠ 0 := by
    intro hz
    have hl := csB_ok (asked_good her ha hz).1
    rw [inB_iff.2 (show 1 ≤ (n : Int) ∧ (n : Int) ≤ 8 by omega)] at hb
    rcases sure_two her ha hz with ⟨l, _, e⟩ | ⟨_, e⟩
    · rw [e] at hb; cases hb
    · rw [e] at hb; cases hb
  rw [sure_bad her ha hz] at hm ⊢
  have hm : m = 0 := hm.symm
  subst hm
  rcases asked_err her ha hz with h2 | ⟨h2, h3⟩
  · rw [h2]; rfl
  · rw [h2, h3]; rfl
theorem found_good {n : Nat} (hb : cond (cond ((sureR s rs wr h cs).2 != 0) ((sureR s rs wr h cs).2 != 4) false) true (!(inB (n : Int) 1 8)) = false) : (askedR s rs wr h cs).2.2 = 0 := by
  by_cases hz : (askedR s rs wr h cs).2.2 = 0
  · exact hz
  · exfalso
    rw [sure_bad her ha hz] at hb
    rcases asked_err her ha hz with h2 | ⟨h2, h3⟩
    · rw [h2] at hb; cases hb
    · rw [h2] at hb; cases hb
theorem rall_find (hz : (askedR s rs wr h cs).2.2 = 0) {l : List Int} (hl : ∀ i ∈ l, 0 ≤ i ∧ i < cs.length) : rallB s cs l (canR s rs wr h).1 = findB ((canL s rs wr h).map (pl s)) (cs.map (ctOf s)) l := by
  obtain ⟨_, _, e, _, _⟩ := asked_good her ha hz
  rw [e]; exact rall_eq hl
theorem found_none (hz : (askedR s rs wr h cs).2.2 = 0) (h4 : ((sureR s rs wr h cs).2 == 4) = true) {n m : Nat} (hn : cs.length = n) (hm : (sureR s rs wr h cs).1.length = m) :
    cond (cond ((m : Int) == 0) (!(rallB s cs (memL n ((2 ^ n) - 1)) (canR s rs wr h).1)) false) true false = true := by
  have hl := csB_ok (asked_good her ha hz).1
  rcases sure_two her ha hz with ⟨l, _, e⟩ | ⟨e1, e⟩
  · rw [e] at h4; cases h4
  · rw [e] at hm
    have hm : m = 0 := hm.symm
    subst hm; subst hn
    have hris := memL_ris cs.length ((2 ^ cs.length) - 1)
    have hne : memL cs.length ((2 ^ cs.length) - 1) ≠ [] := by
      have h1 : 2 ≤ 2 ^ cs.length := Nat.le_trans (show 2 ≤ 2 ^ 1 by decide) (Nat.pow_le_pow_right (by decide) hl.1)
      have h2 := mem_ne (n := cs.length) hl.2.1 (j := 2 ^ cs.length - 1) (by omega) (by omega)
      rwa [show ((2 ^ cs.length - 1 : Nat) : Int) = (2 ^ cs.length : Int) - 1 by rw [Int.natCast_sub (by omega)]; simp] at h2
    have hle := memL_len cs.length ((2 ^ cs.length) - 1)
    have h3 := (sureL_spec (P := (canL s rs wr h).map (pl s)) (C := cs.map (ctOf s)) cs.length 0).2 e1 (memL cs.length ((2 ^ cs.length) - 1)) (List.length_pos_iff.2 hne) (by omega) (by rw [List.length_map]; exact hris)
    rw [rall_find her ha hz (ris_in hris), h3]; rfl
theorem found_some (hz : (askedR s rs wr h cs).2.2 = 0) (h4 : ((sureR s rs wr h cs).2 == 4) = false) {n : Nat} (hn : cs.length = n) :
    (sureR s rs wr h cs).2 = 0 ∧ risF n (-1) (sureR s rs wr h cs).1 = true ∧ rallB s cs (sureR s rs wr h cs).1 (canR s rs wr h).1 = true := by
  rcases sure_two her ha hz with ⟨l, e1, e⟩ | ⟨e1, e⟩
  · obtain ⟨_, h2, h3, _⟩ := (sureL_spec (P := (canL s rs wr h).map (pl s)) (C := cs.map (ctOf s)) cs.length 0).1 l e1
    rw [List.length_map] at h2
    subst hn
    rw [e]
    exact ⟨rfl, h2, by rw [rall_find her ha hz (ris_in h2)]; exact h3⟩
  · rw [e] at h4; cases h4
theorem found_law (hz : (askedR s rs wr h cs).2.2 = 0) (h4 : ((sureR s rs wr h cs).2 == 4) = false) {n a b : Nat} (hn : cs.length = n) {l : List Int} (hl : risF n (-1) l = true) (ha2 : l.length = a) (hb : (sureR s rs wr h cs).1.length = b) :
    cond (cond (cond (!(rallB s cs l (canR s rs wr h).1)) true (decide ((a : Int) > (b : Int)))) true (cond ((a : Int) == (b : Int)) (!(befL l (sureR s rs wr h cs).1)) false)) true false = true := by
  subst hn
  cases hr : rallB s cs l (canR s rs wr h).1 with
  | false => rfl
  | true =>
    rcases sure_two her ha hz with ⟨l2, e1, e⟩ | ⟨e1, e⟩
    · obtain ⟨_, _, _, h5⟩ := (sureL_spec (P := (canL s rs wr h).map (pl s)) (C := cs.map (ctOf s)) cs.length 0).1 l2 e1
      have hne : l ≠ [] := by
        intro e0
        obtain ⟨_, hne, ec, _, _⟩ := asked_good her ha hz
        rw [e0, ec, find_nil hne] at hr; cases hr
      have h6 := h5 l (List.length_pos_iff.2 hne) (by rw [List.length_map]; exact hl) (by rw [← rall_find her ha hz (ris_in hl)]; exact hr)
      rw [e] at hb ⊢
      have hb : l2.length = b := hb
      rcases h6 with h6 | ⟨h6, h7⟩
      · rw [decide_eq_true (show (a : Int) > b by omega)]; rfl
      · show cond (cond (cond (!true) true (decide ((a : Int) > (b : Int)))) true (cond ((a : Int) == (b : Int)) (!(befL l l2)) false)) true false = true
        rw [h7, show a = b by omega, beq_self_eq_true]
        cases decide ((b : Int) > b) <;> rfl
    · rw [e] at h4; cases h4
end
end Go.Proofs.Ytgihgcclabodbaa.DK
