/- The fewest casts that surely find: the program's and the reference's are the least of all lists that do. -/
import Derived.Test.YtgihgcclabodbaaSRf2
import Derived.Test.YtgihgcclabodbaaSCho
import Derived.Test.YtgihgcclabodbaaKY
namespace Go.Proofs.Ytgihgcclabodbaa.DK
open Go
set_option linter.unusedVariables false

/-- No better than l: longer, or as long and not before it. -/
def notBt (l' l : List Int) : Prop := l.length < l'.length ∨ (l'.length = l.length ∧ befL l' l = false)
theorem notBt_anti {l l' : List Int} (h1 : notBt l l') (h2 : notBt l' l) : l = l' := by
  unfold notBt at h1 h2
  rcases befL_total l l' with h | h | h
  · rcases h1 with h1 | ⟨_, h1⟩ <;> rcases h2 with h2 | ⟨h3, h2⟩ <;> first | omega | (rw [h] at h1; cases h1)
  · exact h
  · rcases h1 with h1 | ⟨_, h1⟩ <;> rcases h2 with h2 | ⟨h3, h2⟩ <;> first | omega | (rw [h] at h2; cases h2)
section
variable {P : List (Int × Int)} {C : List Ct}
theorem choL_some {F : List Int → Option (List Int)} {sm l : List Int} : ∀ (r : Nat) (x : Int), choL F sm r x = some l → ∃ y, x ≤ y ∧ y < x + r ∧ F (sm ++ [y]) = some l ∧ ∀ z, x ≤ z → z < y → F (sm ++ [z]) = none
  | 0, x, h => by cases h
  | r + 1, x, h => by
    rw [choL] at h
    cases hf : F (sm ++ [x]) with
    | some l2 => rw [hf] at h; exact ⟨x, Int.le_refl _, by omega, by rw [hf]; exact h, fun z h1 h2 => by omega⟩
    | none =>
      rw [hf] at h
      obtain ⟨y, h1, h2, h3, h4⟩ := choL_some r (x + 1) h
      refine ⟨y, by omega, by omega, h3, fun z h5 h6 => ?_⟩
      by_cases e : z = x
      · subst e; exact hf
      · exact h4 z (by omega) h6
theorem choL_none {F : List Int → Option (List Int)} {sm : List Int} : ∀ (r : Nat) (x : Int), choL F sm r x = none → ∀ z, x ≤ z → z < x + r → F (sm ++ [z]) = none
  | 0, x, h, z, h1, h2 => by omega
  | r + 1, x, h, z, h1, h2 => by
    rw [choL] at h
    cases hf : F (sm ++ [x]) with
    | some l2 => rw [hf] at h; cases h
    | none =>
      rw [hf] at h
      by_cases e : z = x
      · subst e; exact hf
      · exact choL_none r (x + 1) h z (by omega) (by omega)
theorem fromI_app (sm : List Int) (x : Int) : fromI (sm ++ [x]) = x + 1 := by
  unfold fromI
  rw [decide_eq_true (by rw [List.length_append]; show ((sm.length + 1 : Nat) : Int) > 0; omega), cond_true]
  congr 1
  rw [List.getD_eq_getElem?_getD, List.length_append, show (((sm.length + [x].length : Nat) : Int) - 1).toNat = sm.length by show (((sm.length + 1 : Nat) : Int) - 1).toNat = _; omega]
  simp
theorem fromI_nil : fromI [] = 0 := rfl
/-- What the search finds is the first of all that go on. -/
theorem choF_spec : ∀ (k : Nat) (sm : List Int),
    (∀ l, choF P C k sm = some l → ∃ r, l = sm ++ r ∧ r.length = k ∧ risF C.length (fromI sm - 1) r = true ∧ findB P C l = true ∧ ∀ r', r'.length = k → risF C.length (fromI sm - 1) r' = true → findB P C (sm ++ r') = true → befL r' r = false) ∧
    (choF P C k sm = none → ∀ r', r'.length = k → risF C.length (fromI sm - 1) r' = true → findB P C (sm ++ r') = false)
  | 0, sm => by
    constructor
    · intro l h
      rw [choF] at h
      cases hf : findB P C sm with
      | false => rw [hf] at h; cases h
      | true =>
        rw [hf] at h; injection h with h; subst h
        refine ⟨[], (List.append_nil _).symm, rfl, rfl, hf, fun r' h1 _ _ => ?_⟩
        rw [List.length_eq_zero_iff.1 h1]; rfl
    · intro h r' h1 _
      rw [List.length_eq_zero_iff.1 h1, List.append_nil]
      rw [choF] at h
      cases hf : findB P C sm with
      | false => rfl
      | true => rw [hf] at h; cases h
  | k + 1, sm => by
    constructor
    · intro l h
      rw [choF] at h
      obtain ⟨y, h1, h2, h3, h4⟩ := choL_some _ _ h
      obtain ⟨r, hl, hr, hris, hf, hmin⟩ := (choF_spec k (sm ++ [y])).1 l h3
      rw [fromI_app, Int.add_sub_cancel] at hris hmin
      refine ⟨y :: r, by rw [hl, List.append_assoc]; rfl, by rw [List.length_cons, hr], ris_cons.2 ⟨⟨by omega, by omega⟩, hris⟩, hf, fun r' g1 g2 g3 => ?_⟩
      cases r' with
      | nil => simp at g1
      | cons z r'' =>
        obtain ⟨g4, g5⟩ := ris_cons.1 g2
        have g6 : sm ++ z :: r'' = (sm ++ [z]) ++ r'' := by rw [List.append_assoc]; rfl
        have g7 : r''.length = k := by simpa using g1
        rw [befL]
        by_cases e : z = y
        · subst e
          rw [decide_eq_true rfl, cond_true]
          exact hmin r'' g7 g5 (by rw [← g6]; exact g3)
        · rw [decide_eq_false e, cond_false, decide_eq_false]
          intro hlt
          have hn := h4 z (by omega) hlt
          have := (choF_spec k (sm ++ [z])).2 hn r'' g7 (by rw [fromI_app, Int.add_sub_cancel]; exact g5)
          rw [← g6, g3] at this; cases this
    · intro h r' g1 g2
      rw [choF] at h
      cases r' with
      | nil => simp at g1
      | cons z r'' =>
        obtain ⟨g4, g5⟩ := ris_cons.1 g2
        have g6 : sm ++ z :: r'' = (sm ++ [z]) ++ r'' := by rw [List.append_assoc]; rfl
        have hn := choL_none _ _ h z (by omega) (by omega)
        rw [g6]
        exact (choF_spec k (sm ++ [z])).2 hn r'' (by simpa using g1) (by rw [fromI_app, Int.add_sub_cancel]; exact g5)
theorem sureL_spec : ∀ (r k : Nat),
    (∀ l, sureL P C r k = some l → k < l.length ∧ risF C.length (-1) l = true ∧ findB P C l = true ∧ ∀ l', k < l'.length → risF C.length (-1) l' = true → findB P C l' = true → notBt l' l) ∧
    (sureL P C r k = none → ∀ l', k < l'.length → l'.length ≤ k + r → risF C.length (-1) l' = true → findB P C l' = false)
  | 0, k => ⟨fun l h => (by cases h), fun _ l' h1 h2 => by omega⟩
  | r + 1, k => by
    constructor
    · intro l h
      rw [sureL] at h
      cases hc : choF P C (k + 1) [] with
      | some l2 =>
        rw [hc] at h; injection h with h; subst h
        obtain ⟨q, hl, hq, hris, hf, hmin⟩ := (choF_spec (k + 1) []).1 l2 hc
        rw [List.nil_append] at hl; subst hl
        refine ⟨by omega, hris, hf, fun l' g1 g2 g3 => ?_⟩
        by_cases e : l'.length = k + 1
        · exact .inr ⟨by omega, hmin l' e g2 g3⟩
        · exact .inl (by omega)
      | none =>
        rw [hc] at h
        obtain ⟨h1, h2, h3, h4⟩ := (sureL_spec r (k + 1)).1 l h
        refine ⟨by omega, h2, h3, fun l' g1 g2 g3 => ?_⟩
        by_cases e : l'.length = k + 1
        · have := (choF_spec (k + 1) []).2 hc l' e g2
          rw [List.nil_append, g3] at this; cases this
        · exact h4 l' (by omega) g2 g3
    · intro h l' g1 g2 g3
      rw [sureL] at h
      cases hc : choF P C (k + 1) [] with
      | some l2 => rw [hc] at h; cases h
      | none =>
        rw [hc] at h
        by_cases e : l'.length = k + 1
        · have := (choF_spec (k + 1) []).2 hc l' e g3
          rwa [List.nil_append] at this
        · exact (sureL_spec r (k + 1)).2 h l' (by omega) (by omega) g3
end
theorem ris_len {n : Nat} {l : List Int} (h : risF n (-1) l = true) : l.length ≤ n := by
  rw [ris_lotsL h]; exact lotsL_len _ _

/-! ### The reference -/
/-- Do some casts together cover all cells? -/
def rallB (s : Sea) (cs : List Cs) (own cells : List Int) : Bool := cells.all fun c => own.any fun i => rcov s (cs.getD i.toNat default) c
theorem rall_eq {s : Sea} {cs : List Cs} {own cells : List Int} (h : ∀ i ∈ own, 0 ≤ i ∧ i < cs.length) : rallB s cs own cells = findB (cells.map (pl s)) (cs.map (ctOf s)) own := by
  unfold rallB findB
  rw [List.all_map]
  congr 1
  funext c
  show _ = own.any fun i => covB ((cs.map (ctOf s)).getD i.toNat default) (pl s c)
  rw [Bool.eq_iff_iff, List.any_eq_true, List.any_eq_true]
  constructor
  · rintro ⟨i, hi, h1⟩; have := h i hi; exact ⟨i, hi, by rw [map_getD _ (by omega)]; exact h1⟩
  · rintro ⟨i, hi, h1⟩; have := h i hi; rw [map_getD _ (by omega)] at h1; exact ⟨i, hi, h1⟩
def btB (own best : List Int) : Bool := cond (cond ((best.length : Int) == 0) true (decide ((own.length : Int) < (best.length : Int)))) true (cond ((own.length : Int) == (best.length : Int)) (befL own best) false)
def rsureK (s : Sea) (cs : List Cs) (cells : List Int) : Nat → List Int
  | 0 => []
  | k + 1 => cond (cond (rallB s cs (memL cs.length ((k + 1 : Nat) : Int)) cells) (btB (memL cs.length ((k + 1 : Nat) : Int)) (rsureK s cs cells k)) false) (memL cs.length ((k + 1 : Nat) : Int)) (rsureK s cs cells k)
theorem rsureK_len (s : Sea) (cs : List Cs) (cells : List Int) : ∀ k, (rsureK s cs cells k).length ≤ cs.length
  | 0 => Nat.zero_le _
  | k + 1 => by
    rw [rsureK]
    cases cond (rallB s cs (memL cs.length ((k + 1 : Nat) : Int)) cells) (btB (memL cs.length ((k + 1 : Nat) : Int)) (rsureK s cs cells k)) false
    · exact rsureK_len s cs cells k
    · exact memL_len _ _
theorem mem_zero : ∀ n : Nat, n ≤ 8 → memL n 0 = [] := by
  intro n hn
  unfold memL lotsL
  rw [List.map_eq_nil_iff, List.filter_eq_nil_iff]
  intro i hi
  have hi2 := List.mem_range.1 hi
  have := bit_small ⟨0, by omega⟩ ⟨i, by omega⟩
  simp only at this
  rw [show ((0 : Nat) : Int) = 0 from rfl] at this
  rw [this]; simp
theorem mem_ne {n : Nat} (h8 : n ≤ 8) {j : Nat} (h1 : 1 ≤ j) (h2 : j < 2 ^ n) : memL n (j : Int) ≠ [] := by
  intro e
  have h256 : 2 ^ n ≤ 256 := Nat.le_trans (Nat.pow_le_pow_right (by omega) h8) (by decide)
  have hz : ∀ i, Nat.testBit j i = false := by
    intro i
    by_cases hi : i < n
    · have := bit_small ⟨j, by omega⟩ ⟨i, by omega⟩
      simp only at this
      unfold memL lotsL at e
      rw [List.map_eq_nil_iff, List.filter_eq_nil_iff] at e
      have := e i (List.mem_range.2 hi)
      simp_all
    · exact Nat.testBit_lt_two_pow (Nat.lt_of_lt_of_le h2 (Nat.pow_le_pow_right (by omega) (by omega)))
  have : j = 0 := Nat.eq_of_testBit_eq (by intro i; rw [hz i, Nat.zero_testBit])
  omega
theorem rsureK_inv {s : Sea} {cs : List Cs} {cells : List Int} (h8 : cs.length ≤ 8) : ∀ k, k < 2 ^ cs.length →
    (rsureK s cs cells k = [] ∧ ∀ j, 1 ≤ j → j ≤ k → rallB s cs (memL cs.length (j : Int)) cells = false) ∨
    (rsureK s cs cells k ≠ [] ∧ risF cs.length (-1) (rsureK s cs cells k) = true ∧ rallB s cs (rsureK s cs cells k) cells = true ∧ ∀ j, 1 ≤ j → j ≤ k → rallB s cs (memL cs.length (j : Int)) cells = true → notBt (memL cs.length (j : Int)) (rsureK s cs cells k))
  | 0, _ => .inl ⟨rfl, fun j h1 h2 => by omega⟩
  | k + 1, hk => by
    have ih := rsureK_inv (s := s) (cells := cells) h8 k (by omega)
    have hne := mem_ne h8 (j := k + 1) (by omega) hk
    have hris := memL_ris cs.length ((k + 1 : Nat) : Int)
    rw [rsureK]
    generalize hm : memL cs.length ((k + 1 : Nat) : Int) = m at *
    generalize rsureK s cs cells k = b at *
    cases hal : rallB s cs m cells with
    | false =>
      rw [cond_false, cond_false]
      rcases ih with ⟨h1, h2⟩ | ⟨h1, h2, h3, h4⟩
      · refine .inl ⟨h1, fun j g1 g2 => ?_⟩
        by_cases e : j = k + 1
        · subst e; rw [hm]; exact hal
        · exact h2 j g1 (by omega)
      · refine .inr ⟨h1, h2, h3, fun j g1 g2 g3 => ?_⟩
        by_cases e : j = k + 1
        · subst e; rw [hm, hal] at g3; cases g3
        · exact h4 j g1 (by omega) g3
    | true =>
      rw [cond_true]
      cases hbt : btB m b with
      | true =>
        rw [cond_true]
        refine .inr ⟨hne, hris, hal, fun j g1 g2 g3 => ?_⟩
        by_cases e : j = k + 1
        · subst e; rw [hm]; exact .inr ⟨rfl, befL_irr _⟩
        · rcases ih with ⟨h1, h2⟩ | ⟨h1, h2, h3, h4⟩
          · have := h2 j g1 (by omega); rw [g3] at this; cases this
          · have h5 := h4 j g1 (by omega) g3
            have hb0 : b.length ≠ 0 := fun h => h1 (List.length_eq_zero_iff.1 h)
            have hbt2 : m.length < b.length ∨ (m.length = b.length ∧ befL m b = true) := by
              unfold btB at hbt
              rw [show ((b.length : Int) == 0) = false by simp; omega, cond_false] at hbt
              by_cases hlt : (m.length : Int) < b.length
              · exact .inl (by omega)
              · rw [decide_eq_false hlt, cond_false] at hbt
                cases heq : ((m.length : Int) == (b.length : Int)) with
                | false => rw [heq] at hbt; cases hbt
                | true => rw [heq] at hbt; simp at heq; exact .inr ⟨by omega, hbt⟩
            rcases h5 with h5 | ⟨h5, h6⟩
            · rcases hbt2 with h7 | ⟨h7, _⟩ <;> exact .inl (by omega)
            · rcases hbt2 with h7 | ⟨h7, h8⟩
              · exact .inl (by omega)
              · refine .inr ⟨by omega, ?_⟩
                cases hq : befL (memL cs.length (j : Int)) m with
                | false => rfl
                | true => rw [befL_trans _ _ _ hq h8] at h6; cases h6
      | false =>
        rw [cond_false]
        rcases ih with ⟨h1, h2⟩ | ⟨h1, h2, h3, h4⟩
        · subst h1; unfold btB at hbt; simp at hbt
        · refine .inr ⟨h1, h2, h3, fun j g1 g2 g3 => ?_⟩
          by_cases e : j = k + 1
          · subst e
            rw [hm]
            have hb0 : b.length ≠ 0 := fun h => h1 (List.length_eq_zero_iff.1 h)
            unfold btB at hbt
            rw [show ((b.length : Int) == 0) = false by simp; omega, cond_false] at hbt
            by_cases hlt : (m.length : Int) < b.length
            · rw [decide_eq_true hlt] at hbt; cases hbt
            · rw [decide_eq_false hlt, cond_false] at hbt
              by_cases heq : (m.length : Int) = (b.length : Int)
              · rw [show ((m.length : Int) == (b.length : Int)) = true by simpa using heq, cond_true] at hbt
                exact .inr ⟨by omega, hbt⟩
              · exact .inl (by omega)
          · exact h4 j g1 (by omega) g3
/-- The reference's list is the program's. -/
theorem rsure_eq {s : Sea} {cs : List Cs} {cells : List Int} (h8 : cs.length ≤ 8) : (match sureL (cells.map (pl s)) (cs.map (ctOf s)) cs.length 0 with | some l => l | none => []) = rsureK s cs cells (2 ^ cs.length - 1) := by
  have h2p : 0 < 2 ^ cs.length := Nat.two_pow_pos _
  have hinv := rsureK_inv (s := s) (cells := cells) h8 (2 ^ cs.length - 1) (by omega)
  have hlen : (cs.map (ctOf s)).length = cs.length := List.length_map ..
  have spec := sureL_spec (P := cells.map (pl s)) (C := cs.map (ctOf s)) cs.length 0
  rw [hlen] at spec
  have tr : ∀ l, risF cs.length (-1) l = true → rallB s cs l cells = findB (cells.map (pl s)) (cs.map (ctOf s)) l := fun l hl => rall_eq fun i hi => by have := ris_mem _ _ hl i hi; omega
  cases hs : sureL (cells.map (pl s)) (cs.map (ctOf s)) cs.length 0 with
  | some l =>
    obtain ⟨h1, h2, h3, h4⟩ := spec.1 l hs
    obtain ⟨j, hj, hjl, hj1⟩ := memL_num h8 h2
    have hj2 := hj1 (fun e => by subst e; simp at h1)
    rcases hinv with ⟨g1, g2⟩ | ⟨g1, g2, g3, g4⟩
    · have := g2 j hj2 (by omega)
      rw [hjl, tr l h2, h3] at this; cases this
    · show l = _
      refine notBt_anti ?_ (h4 _ (List.length_pos_iff.2 g1) g2 (by rw [← tr _ g2]; exact g3))
      rw [← hjl]
      exact g4 j hj2 (by omega) (by rw [hjl, tr l h2]; exact h3)
  | none =>
    rcases hinv with ⟨g1, g2⟩ | ⟨g1, g2, g3, g4⟩
    · exact g1.symm
    · have := spec.2 hs _ (List.length_pos_iff.2 g1) (by rw [Nat.zero_add]; exact ris_len g2) g2
      rw [← tr _ g2, g3] at this; cases this
theorem rsureK_step {s : Sea} {cs : List Cs} {cells : List Int} {j : Nat} (h : 1 ≤ j) : rsureK s cs cells j = cond (cond (rallB s cs (memL cs.length (j : Int)) cells) (btB (memL cs.length (j : Int)) (rsureK s cs cells (j - 1))) false) (memL cs.length (j : Int)) (rsureK s cs cells (j - 1)) := by
  obtain ⟨k, rfl⟩ : ∃ k, j = k + 1 := ⟨j - 1, by omega⟩
  rw [rsureK, Nat.add_sub_cancel]
theorem rsureR_eq {s : Sea} {rs : List Rp} {wr h : Int} {cs : List Cs} : sureR s rs wr h cs = if (raskR s rs wr h cs).2 ≠ 0 then ([], (raskR s rs wr h cs).2) else if rsureK s cs (raskR s rs wr h cs).1 (2 ^ cs.length - 1) = [] then ([], 4) else (rsureK s cs (raskR s rs wr h cs).1 (2 ^ cs.length - 1), 0) := by
  obtain ⟨h1, h2, h3⟩ := raskR_eq s rs wr h cs
  unfold sureR
  rw [h1]
  split
  · rfl
  · rename_i h4
    have h5 : (raskR s rs wr h cs).2 = 0 := by simpa using h4
    obtain ⟨h6, h7, h8, h9⟩ := h3 h5
    have h10 := csB_ok h9
    have e := rsure_eq (s := s) (cs := cs) (cells := (raskR s rs wr h cs).1) h10.2.1
    rw [h2, h6, List.length_map, ← e]
    cases hs : sureL ((raskR s rs wr h cs).1.map (pl s)) (cs.map (ctOf s)) cs.length 0 with
    | none => rfl
    | some l =>
      have spec := ((sureL_spec (P := (raskR s rs wr h cs).1.map (pl s)) (C := cs.map (ctOf s)) cs.length 0).1 l hs).1
      have hne : l ≠ [] := fun e => by subst e; simp at spec
      show (l, 0) = if l = [] then _ else _
      rw [if_neg hne]
theorem canR_mem {s : Sea} {rs : List Rp} {wr h c : Int} (hc : c ∈ (canR s rs wr h).1) : c ∈ cellsA s 0 := by
  unfold canR at hc
  split at hc
  · simp at hc
  · split at hc
    · simp at hc
    · exact canR1_mem hc
theorem raskR_mem {s : Sea} {rs : List Rp} {wr h c : Int} {cs : List Cs} (hc : c ∈ (raskR s rs wr h cs).1) : c ∈ cellsA s 0 := by
  unfold raskR at hc
  split at hc
  · simp at hc
  · split at hc
    · simp at hc
    · exact canR_mem hc
theorem least_0 {s : Sea} {rs : List Rp} (h : (leastR s rs).2.2 = 0) : err s rs = 0 ∧ minT s rs < 1048576 ∧ leastR s rs = (minT s rs, firstT s rs, 0) := by
  unfold leastR at h ⊢
  split at h
  · rename_i h1; exact absurd h h1
  · rename_i h1
    rw [if_neg h1]
    split at h
    · simp at h
    · rename_i h2; rw [if_neg h2]; exact ⟨by omega, by omega, rfl⟩
theorem liar_least {s : Sea} {rs : List Rp} (h : (leastR s rs).2.2 ≠ 0) : liarR s rs = ([], (leastR s rs).2.2) := by
  unfold leastR at h ⊢
  unfold liarR
  split at h
  · rename_i h1; rw [if_pos h1, if_pos h1]
  · rename_i h1
    rw [if_neg h1, if_neg h1]
    split at h
    · rename_i h2; rw [if_pos h2, if_pos h2]
    · simp at h
theorem raskR_ok {s : Sea} {rs : List Rp} {wr h : Int} {cs : List Cs} (hz : (raskR s rs wr h cs).2 = 0) : seaB s = true ∧ csB s cs = true := ((raskR_eq s rs wr h cs).2.2 hz).2.2
end Go.Proofs.Ytgihgcclabodbaa.DK
