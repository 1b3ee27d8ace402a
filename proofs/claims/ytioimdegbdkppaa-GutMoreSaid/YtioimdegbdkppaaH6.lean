/- The lots with the greatest deficit: what they are; that the search finds them. -/
import Derived.Test.YtioimdegbdkppaaH5
namespace Go.Proofs.Ytioimdegbdkppaa.DK
open Go
set_option linter.unusedVariables false

/-- Does a list come before another one, element by element? -/
def befL : List Int → List Int → Bool
  | [], [] => false
  | [], _ :: _ => true
  | _ :: _, [] => false
  | x :: xs, y :: ys => cond (decide (x = y)) (befL xs ys) (decide (x < y))
theorem befL_irr : ∀ xs, befL xs xs = false
  | [] => rfl
  | x :: xs => by rw [befL]; simp [befL_irr xs]
theorem befL_trans : ∀ (xs ys zs : List Int), befL xs ys = true → befL ys zs = true → befL xs zs = true
  | [], [], _, h, _ => by simp [befL] at h
  | [], y :: ys, [], _, h => by simp [befL] at h
  | [], y :: ys, z :: zs, _, _ => rfl
  | x :: xs, [], _, h, _ => by simp [befL] at h
  | x :: xs, y :: ys, [], _, h => by simp [befL] at h
  | x :: xs, y :: ys, z :: zs, h1, h2 => by
    rw [befL] at h1 h2 ⊢
    by_cases e1 : x = y
    · subst e1
      by_cases e2 : x = z
      · subst e2
        simp only [decide_true, cond_true] at h1 h2 ⊢
        exact befL_trans xs ys zs h1 h2
      · rw [decide_eq_false e2] at h2 ⊢; exact h2
    · rw [decide_eq_false e1] at h1
      simp only [cond_false, decide_eq_true_eq] at h1
      by_cases e2 : y = z
      · subst e2; rw [decide_eq_false e1]; simpa using h1
      · rw [decide_eq_false e2] at h2
        simp only [cond_false, decide_eq_true_eq] at h2
        rw [decide_eq_false (show ¬ x = z by omega)]; simp; omega
theorem befL_total : ∀ (xs ys : List Int), befL xs ys = true ∨ xs = ys ∨ befL ys xs = true
  | [], [] => .inr (.inl rfl)
  | [], _ :: _ => .inl rfl
  | _ :: _, [] => .inr (.inr rfl)
  | x :: xs, y :: ys => by
    rw [befL, befL]
    by_cases e : x = y
    · subst e
      rcases befL_total xs ys with h | h | h
      · left; simpa using h
      · right; left; rw [h]
      · right; right; simpa using h
    · rw [decide_eq_false e, decide_eq_false (show ¬ y = x from fun h => e h.symm)]
      simp only [cond_false, decide_eq_true_eq]
      rcases Int.lt_trichotomy x y with h | h | h
      · exact .inl h
      · exact absurd h e
      · exact .inr (.inr h)
theorem befL_app (ps : List Int) {xs ys : List Int} : befL (ps ++ xs) (ps ++ ys) = befL xs ys := by
  induction ps with
  | nil => rfl
  | cons p ps ih => rw [List.cons_append, List.cons_append, befL]; simpa using ih

/-- Fewer lots, or as many that come before. -/
def keyL (xs ys : List Int) : Bool := decide (xs.length < ys.length) || (decide (xs.length = ys.length) && befL xs ys)
theorem keyL_irr (xs : List Int) : keyL xs xs = false := by simp [keyL, befL_irr]
theorem keyL_iff {xs ys : List Int} : keyL xs ys = true ↔ xs.length < ys.length ∨ xs.length = ys.length ∧ befL xs ys = true := by
  simp [keyL]
theorem keyL_trans {xs ys zs : List Int} (h1 : keyL xs ys = true) (h2 : keyL ys zs = true) : keyL xs zs = true := by
  rw [keyL_iff] at *
  rcases h1 with h1 | ⟨h1, h1'⟩ <;> rcases h2 with h2 | ⟨h2, h2'⟩
  · left; omega
  · left; omega
  · left; omega
  · right; exact ⟨by omega, befL_trans _ _ _ h1' h2'⟩
theorem keyL_total (xs ys : List Int) : keyL xs ys = true ∨ xs = ys ∨ keyL ys xs = true := by
  rw [keyL_iff, keyL_iff]
  rcases Nat.lt_trichotomy xs.length ys.length with h | h | h
  · exact .inl (.inl h)
  · rcases befL_total xs ys with h2 | h2 | h2
    · exact .inl (.inr ⟨h, h2⟩)
    · exact .inr (.inl h2)
    · exact .inr (.inr (.inr ⟨h.symm, h2⟩))
  · exact .inr (.inr (.inl h))

/-- The greatest deficit of any lots, and these. -/
structure Great (d : Day) (f : Nat → Int) (m : Int) (l : List Int) : Prop where
  ris : risF d.lots.length (-1) l = true
  val : defV d f l = m
  max : ∀ xs, risF d.lots.length (-1) xs = true → defV d f xs ≤ m
  least : ∀ xs, risF d.lots.length (-1) xs = true → defV d f xs = m → keyL xs l = false
section
variable {d : Day} {f : Nat → Int}
theorem defV_nil : defV d f [] = 0 := by
  unfold defV
  have e : gsum d (fun s => cond (cov d f [] s) (rate d s) 0) = 0 := (gsum_congr (g := fun _ => 0) (fun s _ => rfl)).trans gsum_0
  rw [e]; rfl
theorem Great.nn {m : Int} {l : List Int} (h : Great d f m l) : 0 ≤ m := by have := h.max [] rfl; rwa [defV_nil] at this
theorem Great.uniq {m m' : Int} {l l' : List Int} (h : Great d f m l) (h' : Great d f m' l') : m = m' ∧ l = l' := by
  have e : m = m' := by
    have h1 := h.max l' h'.ris; have h2 := h'.max l h.ris
    rw [h'.val] at h1; rw [h.val] at h2; omega
  subst e
  refine ⟨rfl, ?_⟩
  rcases keyL_total l l' with h1 | h1 | h1
  · have := h'.least l h.ris h.val; rw [h1] at this; cases this
  · exact h1
  · have := h.least l' h'.ris h'.val; rw [h1] at this; cases this
theorem Great.lost {m : Int} {l : List Int} (hv : dayV d = true) (h : Great d f m l) : m = (doneF d f d.lots.length).2 := by
  obtain ⟨h1, xs, h2, h3⟩ := done_defV (f := f) hv
  have h4 := h1 l h.ris; have h5 := h.max xs h2
  rw [h.val] at h4; omega

/-! ### The search, size by size -/
def enumL (n : Nat) : Nat → List Int → List (List Int)
  | 0, xs => [xs]
  | m + 1, xs => (List.range' (fromF xs.length xs).toNat (n - (fromF xs.length xs).toNat)).flatMap fun (i : Nat) => enumL n m (xs ++ [(i : Int)])
def stepL (g : List Int → Int) (s : Int × List Int) (xs : List Int) : Int × List Int := cond (decide (g xs > s.1)) (g xs, xs) s
theorem chooseL_eq {rec : List Int → Int × List Int → Int × List Int} {en : List Int → List (List Int)} {g : List Int → Int} (xs : List Int) (h : ∀ xs s, rec xs s = (en xs).foldl (stepL g) s) : ∀ (l : List Nat) (s : Int × List Int),
    chooseL rec xs l s = (l.flatMap fun (i : Nat) => en (xs ++ [(i : Int)])).foldl (stepL g) s
  | [], s => rfl
  | i :: r, s => by rw [chooseL, List.flatMap_cons, List.foldl_append, ← h, chooseL_eq xs h r]
theorem chooseF_eq : ∀ (m : Nat) (xs : List Int) (s : Int × List Int), chooseF d f m xs s = (enumL d.lots.length m xs).foldl (stepL (defF d f)) s
  | 0, xs, s => rfl
  | m + 1, xs, s => chooseL_eq xs (chooseF_eq m) _ s
def allE (n : Nat) (k : Nat) : List (List Int) := (List.range k).flatMap fun m => enumL n (m + 1) []
theorem proofK_eq : ∀ k, proofK d f k = (allE d.lots.length k).foldl (stepL (defF d f)) (0, [])
  | 0 => rfl
  | k + 1 => by
    show chooseF d f (k + 1) [] (proofK d f k) = _
    rw [chooseF_eq, proofK_eq k]
    unfold allE
    rw [List.range_succ, List.flatMap_append, List.foldl_append]
    simp

/-- What the search finds: the first one with the greatest number, if this is above what was there. -/
theorem fold_step (g : List Int → Int) : ∀ (E : List (List Int)) (s : Int × List Int), (E.foldl (stepL g) s = s ∧ ∀ x ∈ E, g x ≤ s.1) ∨
    ∃ E1 x E2, E = E1 ++ x :: E2 ∧ E.foldl (stepL g) s = (g x, x) ∧ s.1 < g x ∧ (∀ y ∈ E1, g y < g x) ∧ ∀ y ∈ E2, g y ≤ g x
  | [], s => .inl ⟨rfl, by simp⟩
  | x :: E, s => by
    rw [List.foldl_cons]
    by_cases h : g x > s.1
    · have e : stepL g s x = (g x, x) := by rw [stepL, decide_eq_true h]; rfl
      rw [e]
      rcases fold_step g E (g x, x) with ⟨h1, h2⟩ | ⟨E1, y, E2, h1, h2, h3, h4, h5⟩
      · exact .inr ⟨[], x, E, rfl, h1, h, by simp, h2⟩
      · refine .inr ⟨x :: E1, y, E2, by rw [h1]; rfl, h2, by simp only at h3; omega, fun z hz => ?_, h5⟩
        rcases List.mem_cons.1 hz with rfl | hz
        · exact h3
        · exact h4 z hz
    · have e : stepL g s x = s := by rw [stepL, decide_eq_false h]; rfl
      rw [e]
      rcases fold_step g E s with ⟨h1, h2⟩ | ⟨E1, y, E2, h1, h2, h3, h4, h5⟩
      · refine .inl ⟨h1, fun z hz => ?_⟩
        rcases List.mem_cons.1 hz with rfl | hz
        · omega
        · exact h2 z hz
      · refine .inr ⟨x :: E1, y, E2, by rw [h1]; rfl, h2, h3, fun z hz => ?_, h5⟩
        rcases List.mem_cons.1 hz with rfl | hz
        · omega
        · exact h4 z hz

def nextL (xs : List Int) : Int := fromF xs.length xs - 1
theorem nextL_snoc (xs : List Int) (i : Int) : nextL (xs ++ [i]) = i := by
  unfold nextL fromF
  have h : (((xs ++ [i]).length : Nat) : Int) > 0 := by simp
  rw [decide_eq_true h]
  have e : ((((xs ++ [i]).length : Nat) : Int) - 1).toNat = xs.length := by simp
  rw [e]; simp
theorem enumL_mem {n : Nat} : ∀ (m : Nat) (xs ys : List Int), 0 ≤ fromF xs.length xs → (ys ∈ enumL n m xs ↔ ∃ zs, ys = xs ++ zs ∧ zs.length = m ∧ risF n (nextL xs) zs = true)
  | 0, xs, ys, _ => by
    simp only [enumL, List.mem_singleton]
    constructor
    · rintro rfl; exact ⟨[], by simp, rfl, rfl⟩
    · rintro ⟨zs, rfl, h, _⟩; rw [List.length_eq_zero_iff.1 h]; simp
  | m + 1, xs, ys, h0 => by
    simp only [enumL, List.mem_flatMap]
    have hf : ∀ i : Nat, 0 ≤ fromF (xs ++ [(i : Int)]).length (xs ++ [(i : Int)]) := fun i => by have := nextL_snoc xs (i : Int); unfold nextL at this; omega
    constructor
    · rintro ⟨i, hi, hy⟩
      obtain ⟨k, hk, rfl⟩ := List.mem_range'.1 hi
      obtain ⟨zs, rfl, h1, h2⟩ := (enumL_mem m _ ys (hf _)).1 hy
      rw [nextL_snoc] at h2
      refine ⟨(((fromF xs.length xs).toNat + 1 * k : Nat) : Int) :: zs, by simp, by simp [h1], ris_cons.2 ⟨?_, h2⟩⟩
      unfold nextL; omega
    · rintro ⟨zs, rfl, h1, h2⟩
      cases zs with
      | nil => simp at h1
      | cons z zs =>
        obtain ⟨h3, h4⟩ := ris_cons.1 h2
        unfold nextL at h3
        refine ⟨z.toNat, List.mem_range'.2 ⟨z.toNat - (fromF xs.length xs).toNat, by omega, by omega⟩, ?_⟩
        rw [Int.toNat_of_nonneg (by omega)]
        refine (enumL_mem m _ _ (by have := nextL_snoc xs z; unfold nextL at this; omega)).2 ⟨zs, by simp, by simpa using h1, ?_⟩
        rw [nextL_snoc]; exact h4
theorem enumL_pw {n : Nat} : ∀ (m : Nat) (xs : List Int), 0 ≤ fromF xs.length xs → (enumL n m xs).Pairwise fun a b => befL a b = true
  | 0, xs, _ => by simp [enumL]
  | m + 1, xs, h0 => by
    have hf : ∀ i : Nat, 0 ≤ fromF (xs ++ [(i : Int)]).length (xs ++ [(i : Int)]) := fun i => by have := nextL_snoc xs (i : Int); unfold nextL at this; omega
    unfold enumL
    rw [List.pairwise_flatMap]
    refine ⟨fun i hi => enumL_pw m _ (hf i), ?_⟩
    refine List.Pairwise.imp_of_mem ?_ (List.pairwise_lt_range' (s := (fromF xs.length xs).toNat) (n := n - (fromF xs.length xs).toNat))
    intro i j hi hj hij x hx y hy
    obtain ⟨zs, rfl, _, _⟩ := (enumL_mem m _ x (hf i)).1 hx
    obtain ⟨ws, rfl, _, _⟩ := (enumL_mem m _ y (hf j)).1 hy
    rw [List.append_assoc, List.append_assoc, befL_app]
    show befL ((i : Int) :: zs) ((j : Int) :: ws) = true
    rw [befL, decide_eq_false (by omega)]
    simp; omega
theorem nextL_nil : nextL [] = -1 := rfl
theorem allE_mem {n k : Nat} {ys : List Int} : ys ∈ allE n k ↔ 0 < ys.length ∧ ys.length ≤ k ∧ risF n (-1) ys = true := by
  unfold allE
  simp only [List.mem_flatMap, List.mem_range]
  constructor
  · rintro ⟨m, hm, hy⟩
    obtain ⟨zs, rfl, h1, h2⟩ := (enumL_mem _ [] _ (by decide)).1 hy
    exact ⟨by omega, by omega, h2⟩
  · rintro ⟨h1, h2, h3⟩
    exact ⟨ys.length - 1, by omega, (enumL_mem _ [] _ (by decide)).2 ⟨ys, rfl, by omega, h3⟩⟩
theorem allE_pw (n k : Nat) : (allE n k).Pairwise fun a b => keyL a b = true := by
  unfold allE
  rw [List.pairwise_flatMap]
  have hlen : ∀ (m : Nat) (x : List Int), x ∈ enumL n (m + 1) [] → x.length = m + 1 := fun m x hx => by
    obtain ⟨zs, rfl, h1, _⟩ := (enumL_mem _ [] _ (by decide)).1 hx
    simpa using h1
  constructor
  · intro m _
    refine List.Pairwise.imp_of_mem ?_ (enumL_pw (n := n) (m + 1) [] (by decide))
    intro a b ha hb h
    exact keyL_iff.2 (.inr ⟨by rw [hlen m a ha, hlen m b hb], h⟩)
  · refine List.Pairwise.imp_of_mem ?_ List.pairwise_lt_range
    intro i j _ _ hij x hx y hy
    exact keyL_iff.2 (.inl (by rw [hlen i x hx, hlen j y hy]; omega))
theorem ris_len {n : Nat} {xs : List Int} (h : risF n (-1) xs = true) : xs.length ≤ n := by
  rw [ris_lotsL h]
  unfold lotsL
  rw [List.length_map]
  exact Nat.le_trans (List.length_filter_le _ _) (by simp)
theorem proofK_great : Great d f (proofK d f d.lots.length).1 (proofK d f d.lots.length).2 := by
  rw [proofK_eq]
  have hg : defF d f = defV d f := funext fun xs => defF_eq xs
  rw [hg]
  have hin : ∀ xs, risF d.lots.length (-1) xs = true → xs = [] ∨ xs ∈ allE d.lots.length d.lots.length := fun xs h => by
    cases xs with
    | nil => exact .inl rfl
    | cons x xs => exact .inr (allE_mem.2 ⟨by simp, ris_len h, h⟩)
  have hpw := allE_pw d.lots.length d.lots.length
  rcases fold_step (defV d f) (allE d.lots.length d.lots.length) (0, []) with ⟨h1, h2⟩ | ⟨E1, x, E2, h1, h2, h3, h4, h5⟩
  · rw [h1]
    refine ⟨rfl, defV_nil, fun xs h => ?_, fun xs _ _ => ?_⟩
    · rcases hin xs h with rfl | h
      · rw [defV_nil]; exact Int.le_refl _
      · exact h2 xs h
    · cases hk : keyL xs [] with
      | false => rfl
      | true =>
        rcases keyL_iff.1 hk with h | ⟨_, h⟩
        · simp at h
        · cases xs <;> simp [befL] at h
  · rw [h2]
    have hx : x ∈ allE d.lots.length d.lots.length := by rw [h1]; simp
    rw [h1] at hpw
    simp only at h3
    refine ⟨(allE_mem.1 hx).2.2, rfl, fun xs h => ?_, fun xs h he => ?_⟩
    · rcases hin xs h with rfl | h
      · rw [defV_nil]; show 0 ≤ defV d f x; omega
      · rw [h1] at h
        rcases List.mem_append.1 h with h | h
        · have := h4 xs h; show defV d f xs ≤ defV d f x; omega
        · rcases List.mem_cons.1 h with rfl | h
          · exact Int.le_refl _
          · exact h5 xs h
    · simp only at he
      rcases hin xs h with rfl | h
      · rw [defV_nil] at he; omega
      · rw [h1] at h
        have hx2 : xs = x ∨ xs ∈ E2 := by
          rcases List.mem_append.1 h with h | h
          · have := h4 xs h; omega
          · rcases List.mem_cons.1 h with rfl | h
            · exact .inl rfl
            · exact .inr h
        rcases hx2 with rfl | hx2
        · exact keyL_irr _
        · have hk := (List.pairwise_cons.1 (List.pairwise_append.1 hpw).2.1).1 xs hx2
          cases hk2 : keyL xs x with
          | false => rfl
          | true => have := keyL_trans hk hk2; rw [keyL_irr] at this; cases this
end
end Go.Proofs.Ytioimdegbdkppaa.DK
