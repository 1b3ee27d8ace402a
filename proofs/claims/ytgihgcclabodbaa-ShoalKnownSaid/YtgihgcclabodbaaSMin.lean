/- What the counts say: the least number of reports that are false of a track, through a cell, and in all. -/
import Derived.Test.YtgihgcclabodbaaSThr
namespace Go.Proofs.Ytgihgcclabodbaa.DK
open Go
set_option linter.unusedVariables false
set_option linter.unusedSectionVars false

/-- t goes from hour a to before hour b. -/
def okT (s : Sea) (t : Nat → Int) (a b : Nat) : Prop := (∀ k, a ≤ k → k < b → t k ∈ cellsA s 0) ∧ ∀ k, a ≤ k → k + 1 < b → stepP s (k : Int) (pl s (t k)) (pl s (t (k + 1))) = true
/-- How many reports of the n hours from a on are false of t. -/
def costT (s : Sea) (rs : List Rp) (t : Nat → Int) (a : Nat) : Nat → Int
  | 0 => 0
  | n + 1 => costT s rs t a n + untr s rs ((a + n : Nat) : Int) (t (a + n))
theorem okT_sub {s : Sea} {t : Nat → Int} {a b a' b' : Nat} (h : okT s t a b) (ha : a ≤ a') (hb : b' ≤ b) : okT s t a' b' := ⟨fun k h1 h2 => h.1 k (by omega) (by omega), fun k h1 h2 => h.2 k (by omega) (by omega)⟩
theorem okT_congr {s : Sea} {t t' : Nat → Int} {a b : Nat} (h : okT s t a b) (e : ∀ k, a ≤ k → k < b → t k = t' k) : okT s t' a b :=
  ⟨fun k h1 h2 => by rw [← e k h1 h2]; exact h.1 k h1 h2, fun k h1 h2 => by rw [← e k h1 (by omega), ← e (k + 1) (by omega) h2]; exact h.2 k h1 h2⟩
theorem costT_congr {s : Sea} {rs : List Rp} {t t' : Nat → Int} {a : Nat} : ∀ {n : Nat}, (∀ k, a ≤ k → k < a + n → t k = t' k) → costT s rs t a n = costT s rs t' a n
  | 0, _ => rfl
  | n + 1, e => by rw [costT, costT, costT_congr (n := n) (fun k h1 h2 => e k h1 (by omega)), e (a + n) (by omega) (by omega)]
theorem costT_add {s : Sea} {rs : List Rp} {t : Nat → Int} {a n : Nat} : ∀ {m : Nat}, costT s rs t a (n + m) = costT s rs t a n + costT s rs t (a + n) m
  | 0 => by rw [costT, Nat.add_zero]; omega
  | m + 1 => by rw [show n + (m + 1) = (n + m) + 1 from rfl, costT, costT_add (m := m), costT, Nat.add_assoc]; omega
theorem costT_one {s : Sea} {rs : List Rp} {t : Nat → Int} {a : Nat} : costT s rs t a 1 = untr s rs (a : Int) (t a) := by
  rw [costT, costT, Nat.add_zero]; omega
theorem costT_head {s : Sea} {rs : List Rp} {t : Nat → Int} {a n : Nat} : costT s rs t a (n + 1) = untr s rs (a : Int) (t a) + costT s rs t (a + 1) n := by
  rw [Nat.add_comm, costT_add, costT_one]
theorem costT_bd {s : Sea} {rs : List Rp} {t : Nat → Int} {a : Nat} : ∀ {n : Nat}, 0 ≤ costT s rs t a n ∧ costT s rs t a n ≤ n * rs.length
  | 0 => by simp [costT]
  | n + 1 => by
    have h := costT_bd (s := s) (rs := rs) (t := t) (a := a) (n := n)
    have h2 := untr_bd (s := s) (rs := rs) ((a + n : Nat) : Int) (t (a + n))
    rw [costT]
    have e : (((n + 1 : Nat) : Int)) * (rs.length : Int) = (n : Int) * rs.length + rs.length := by rw [Int.natCast_add, Int.add_mul]; simp
    omega
/-- Tracks joined. -/
theorem okT_join {s : Sea} {t u : Nat → Int} {a b c : Nat} (h1 : okT s t a b) (h2 : okT s u b c) (hb : a < b) (hs : b < c → stepP s ((b - 1 : Nat) : Int) (pl s (t (b - 1))) (pl s (u b)) = true) :
    okT s (fun k => if k < b then t k else u k) a c := by
  refine ⟨fun k k1 k2 => ?_, fun k k1 k2 => ?_⟩
  · show (if k < b then t k else u k) ∈ _
    split
    · exact h1.1 k k1 (by assumption)
    · exact h2.1 k (by omega) k2
  · show stepP s k (pl s (if k < b then t k else u k)) (pl s (if k + 1 < b then t (k + 1) else u (k + 1))) = true
    by_cases e1 : k + 1 < b
    · rw [if_pos (by omega), if_pos e1]; exact h1.2 k k1 e1
    · by_cases e2 : k < b
      · rw [if_pos e2, if_neg e1]
        have ek : k = b - 1 := by omega
        have ek2 : k + 1 = b := by omega
        rw [ek2]; rw [ek]; exact hs (by omega)
      · rw [if_neg e2, if_neg e1]; exact h2.2 k (by omega) k2

/-! ### The least of several -/
theorem mn_le {a b m : Int} : mn a b ≤ m ↔ a ≤ m ∨ b ≤ m := by unfold mn; split <;> omega
theorem foldl_mn_le {G : Nat → Int} {m : Int} : ∀ (xs : List Int) (b : Int), xs.foldl (fun b o => mn b (befG G o)) b ≤ m ↔ b ≤ m ∨ ∃ o ∈ xs, befG G o ≤ m
  | [], b => by simp
  | x :: xs, b => by
    rw [List.foldl_cons, foldl_mn_le xs, mn_le]
    simp only [List.mem_cons, exists_eq_or_imp]
    exact or_assoc
theorem bestOf_le {G : Nat → Int} {xs : List Int} (hx : ∀ x ∈ xs, 0 ≤ x ∧ x < 80) {m : Int} (hm : m < 1048576) : bestOf G xs ≤ m ↔ ∃ o ∈ xs, G o.toNat ≤ m := by
  unfold bestOf
  rw [foldl_mn_le]
  constructor
  · rintro (h | ⟨o, ho, h⟩)
    · omega
    · exact ⟨o, ho, by rw [befG_eq (hx o ho).1 (hx o ho).2] at h; exact h⟩
  · rintro ⟨o, ho, h⟩
    exact .inr ⟨o, ho, by rw [befG_eq (hx o ho).1 (hx o ho).2]; exact h⟩
theorem leastL_le {m : Int} : ∀ (xs : List Int) (b : Int), leastL b xs ≤ m ↔ b ≤ m ∨ ∃ x ∈ xs, x ≤ m
  | [], b => by simp [leastL]
  | x :: xs, b => by
    have ih := leastL_le (m := m) xs (mn b x)
    unfold leastL at ih ⊢
    rw [List.foldl_cons, ih, mn_le]
    simp only [List.mem_cons, exists_eq_or_imp]
    exact or_assoc
theorem eq_of_le {x y B : Int} (hx : x ≤ B) (hy : y ≤ B) (h : ∀ m, m < B → (x ≤ m ↔ y ≤ m)) : x = y := by
  rcases Int.lt_or_le x y with h1 | h1
  · have := (h x (by omega)).1 (Int.le_refl _); omega
  · rcases Int.lt_or_le y x with h2 | h2
    · have := (h y (by omega)).2 (Int.le_refl _); omega
    · omega

/-! ### Hour by hour -/
theorem goneF_in {s : Sea} {val : Int → Int} {x : Int} (h : x ∈ cellsA s 0) : goneF s val x.toNat = val x := by
  have hm := mem_cellsA h
  have e : ((x.toNat : Nat) : Int) = x := by omega
  unfold goneF
  rw [e, if_pos h]
theorem goneF_out {s : Sea} {val : Int → Int} {i : Nat} (h : ¬ (i : Int) ∈ cellsA s 0) : goneF s val i = 1048576 := by
  unfold goneF; rw [if_neg h]
section
variable {s : Sea} {rs : List Rp} (hv : seaB s = true) (hr : rpsB s rs = true)
include hv hr
theorem cell80 {x : Int} (h : x ∈ cellsA s 0) : 0 ≤ x ∧ x < 80 := by
  have := mem_cellsA h; have := sea_ok hv; omega
theorem best_le {G : Nat → Int} (p : Int → Bool) (h x : Int) {m : Int} (hm : m < 1048576) : mn 1048576 (bestOf G ((cellsA s 0).filter p) + untr s rs h x) ≤ m ↔ ∃ o ∈ cellsA s 0, p o = true ∧ G o.toNat ≤ m - untr s rs h x := by
  have hu := untr_bd (s := s) (rs := rs) h x
  rw [mn_le]
  have h1 : (1048576 ≤ m ∨ bestOf G ((cellsA s 0).filter p) + untr s rs h x ≤ m) ↔ bestOf G ((cellsA s 0).filter p) ≤ m - untr s rs h x := by omega
  rw [h1, bestOf_le (fun y hy => cell80 hv hr (List.mem_filter.1 hy).1) (by omega)]
  constructor
  · rintro ⟨o, ho, h2⟩; exact ⟨o, (List.mem_filter.1 ho).1, (List.mem_filter.1 ho).2, h2⟩
  · rintro ⟨o, ho, hp, h2⟩; exact ⟨o, List.mem_filter.2 ⟨ho, hp⟩, h2⟩
theorem fwd_le : ∀ (h : Nat) (x : Int), x ∈ cellsA s 0 → ∀ m, m < 1048576 → (fwd s rs h x.toNat ≤ m ↔ ∃ t, okT s t 0 (h + 1) ∧ t h = x ∧ costT s rs t 0 (h + 1) ≤ m)
  | 0, x, hx, m, hm => by
    rw [fwd, goneF_in hx]
    constructor
    · intro h
      refine ⟨fun _ => x, ⟨fun _ _ _ => hx, fun k _ h2 => by omega⟩, rfl, ?_⟩
      rw [costT_one]; exact h
    · rintro ⟨t, ht, rfl, h⟩
      rw [costT_one] at h; exact h
  | h + 1, x, hx, m, hm => by
    rw [fwd, goneF_in hx, best_le hv hr _ _ _ hm]
    have hu := untr_bd (s := s) (rs := rs) ((h + 1 : Nat) : Int) x
    have e1 : ((h + 1 : Nat) : Int) - 1 = (h : Int) := by omega
    constructor
    · rintro ⟨o, ho, hp, h2⟩
      obtain ⟨t, ht, hto, hc⟩ := (fwd_le h o ho _ (by omega)).1 h2
      rw [e1] at hp
      have hj := okT_join (u := fun _ => x) (c := h + 2) ht ⟨fun _ _ _ => hx, fun k k1 k2 => by omega⟩ (by omega) (fun _ => by rw [show h + 1 - 1 = h by omega, hto]; exact hp)
      refine ⟨_, hj, by rw [if_neg (by omega)], ?_⟩
      rw [costT, costT_congr (t' := t) (fun k _ h2 => if_pos (by omega))]
      simp only [Nat.zero_add, Nat.lt_irrefl, if_false]
      omega
    · rintro ⟨t, ht, rfl, hc⟩
      refine ⟨t h, ht.1 h (by omega) (by omega), by rw [e1]; exact ht.2 h (by omega) (by omega), ?_⟩
      rw [costT, Nat.zero_add] at hc
      exact (fwd_le h (t h) (ht.1 h (by omega) (by omega)) _ (by omega)).2 ⟨t, okT_sub ht (by omega) (by omega), rfl, by omega⟩
theorem bwd_le : ∀ (j : Nat), j < s.hours.toNat → ∀ x : Int, x ∈ cellsA s 0 → ∀ m, m < 1048576 → (bwd s rs j x.toNat ≤ m ↔ ∃ t, okT s t (s.hours.toNat - 1 - j) s.hours.toNat ∧ t (s.hours.toNat - 1 - j) = x ∧ costT s rs t (s.hours.toNat - 1 - j) (j + 1) ≤ m)
  | 0, hj, x, hx, m, hm => by
    have h1 := sea_ok hv
    have e : s.hours - 1 - ((0 : Nat) : Int) = ((s.hours.toNat - 1 - 0 : Nat) : Int) := by omega
    rw [bwd, goneF_in hx, e]
    constructor
    · intro h
      refine ⟨fun _ => x, ⟨fun _ _ _ => hx, fun k _ h2 => by omega⟩, rfl, ?_⟩
      rw [costT_one]; exact h
    · rintro ⟨t, ht, rfl, h⟩
      rw [costT_one] at h; exact h
  | j + 1, hj, x, hx, m, hm => by
    have h1 := sea_ok hv
    obtain ⟨a, ha⟩ : ∃ a, s.hours.toNat - 1 - (j + 1) = a := ⟨_, rfl⟩
    have e : s.hours - 1 - ((j + 1 : Nat) : Int) = (a : Int) := by omega
    have ih := bwd_le j (by omega)
    rw [show s.hours.toNat - 1 - j = a + 1 by omega] at ih
    rw [bwd, goneF_in hx, best_le hv hr _ _ _ hm, e, ha]
    have hu := untr_bd (s := s) (rs := rs) (a : Int) x
    constructor
    · rintro ⟨o, ho, hp, h2⟩
      obtain ⟨t, ht, hto, hc⟩ := (ih o ho _ (by omega)).1 h2
      have hj := okT_join (t := fun _ => x) (a := a) (b := a + 1) ⟨fun _ _ _ => hx, fun k k1 k2 => by omega⟩ ht (by omega) (fun _ => by rw [show a + 1 - 1 = a by omega, hto]; exact hp)
      refine ⟨_, hj, by rw [if_pos (by omega)], ?_⟩
      rw [costT_head, costT_congr (t' := t) (fun k h2 _ => if_neg (by omega)), if_pos (by omega)]
      omega
    · rintro ⟨t, ht, rfl, hc⟩
      rw [costT_head] at hc
      exact ⟨t (a + 1), ht.1 _ (by omega) (by omega), ht.2 a (by omega) (by omega), (ih (t (a + 1)) (ht.1 _ (by omega) (by omega)) _ (by omega)).2 ⟨t, okT_sub ht (by omega) (by omega), rfl, by omega⟩⟩
theorem bwd_ge {j : Nat} {x : Int} (hj : j < s.hours.toNat) (hx : x ∈ cellsA s 0) : untr s rs ((s.hours.toNat - 1 - j : Nat) : Int) x ≤ bwd s rs j x.toNat := by
  have h24 := (rp_ok hr).1
  have hu := untr_bd (s := s) (rs := rs) ((s.hours.toNat - 1 - j : Nat) : Int) x
  rcases Int.lt_or_le (bwd s rs j x.toNat) 1048576 with h | h
  · obtain ⟨t, ht, rfl, hc⟩ := (bwd_le hv hr j hj x hx _ h).1 (Int.le_refl _)
    rw [costT_head] at hc
    have := costT_bd (s := s) (rs := rs) (t := t) (a := s.hours.toNat - 1 - j + 1) (n := j)
    omega
  · omega
theorem fwd_ge {h : Nat} {x : Int} (hx : x ∈ cellsA s 0) : untr s rs (h : Int) x ≤ fwd s rs h x.toNat := by
  have h24 := (rp_ok hr).1
  have hu := untr_bd (s := s) (rs := rs) (h : Int) x
  rcases Int.lt_or_le (fwd s rs h x.toNat) 1048576 with h1 | h1
  · obtain ⟨t, ht, rfl, hc⟩ := (fwd_le hv hr h x hx _ h1).1 (Int.le_refl _)
    rw [costT, Nat.zero_add] at hc
    have := costT_bd (s := s) (rs := rs) (t := t) (a := 0) (n := h)
    omega
  · omega
/-- The counts through a cell. -/
theorem allF_le {h : Nat} {x : Int} (hh : h < s.hours.toNat) (hx : x ∈ cellsA s 0) {m : Int} (hm : m < 1048576) : allF s rs h x.toNat ≤ m ↔ ∃ t, okT s t 0 s.hours.toNat ∧ t h = x ∧ costT s rs t 0 s.hours.toNat ≤ m := by
  have hmx := mem_cellsA hx
  have ex : ((x.toNat : Nat) : Int) = x := by omega
  have eh : s.hours.toNat - 1 - (s.hours.toNat - 1 - h) = h := by omega
  have hj : s.hours.toNat - 1 - h < s.hours.toNat := by omega
  have hb := bwd_ge hv hr hj hx
  rw [eh] at hb
  have hf := fwd_ge hv hr (h := h) hx
  have hfb := fwd_bd hv hr h x.toNat (by have := cell80 hv hr hx; omega)
  have hu := untr_bd (s := s) (rs := rs) (h : Int) x
  unfold allF
  rw [ex, if_pos hx, mn_le]
  have hF := fwd_le hv hr h x hx
  have hB := bwd_le hv hr (s.hours.toNat - 1 - h) hj x hx
  rw [eh, show s.hours.toNat - 1 - h + 1 = s.hours.toNat - h by omega] at hB
  generalize fwd s rs h x.toNat = f at *
  generalize bwd s rs (s.hours.toNat - 1 - h) x.toNat = b at *
  generalize hU : untr s rs (h : Int) x = u at *
  constructor
  · intro h1
    have h1 : f + b - u ≤ m := by omega
    obtain ⟨t1, ht1, e1, c1⟩ := (hF f (by omega)).1 (Int.le_refl _)
    obtain ⟨t2, ht2, e2, c2⟩ := (hB b (by omega)).1 (Int.le_refl _)
    have hj := okT_join (t := t1) (u := t2) (a := 0) (b := h + 1) (c := s.hours.toNat) ht1 (okT_sub ht2 (by omega) (Nat.le_refl _)) (by omega) (fun hlt => by
      rw [show h + 1 - 1 = h by omega, e1, ← e2]; exact ht2.2 h (Nat.le_refl _) (by omega))
    refine ⟨_, hj, by rw [if_pos (by omega)]; exact e1, ?_⟩
    rw [show s.hours.toNat = (h + 1) + (s.hours.toNat - (h + 1)) by omega, costT_add, costT_congr (t' := t1) (fun k _ h2 => if_pos (by omega)), costT_congr (t' := t2) (a := 0 + (h + 1)) (fun k h2 _ => if_neg (by omega))]
    rw [show s.hours.toNat - h = (s.hours.toNat - (h + 1)) + 1 by omega, costT_head, e2, hU] at c2
    rw [Nat.zero_add]
    omega
  · rintro ⟨t, ht, rfl, hc⟩
    have a1 := costT_bd (s := s) (rs := rs) (t := t) (a := h + 1) (n := s.hours.toNat - (h + 1))
    have a0 := costT_bd (s := s) (rs := rs) (t := t) (a := 0) (n := h)
    have c1 : costT s rs t 0 (h + 1) = costT s rs t 0 h + u := by rw [costT, Nat.zero_add, hU]
    have c2 : costT s rs t h (s.hours.toNat - h) = u + costT s rs t (h + 1) (s.hours.toNat - (h + 1)) := by rw [show s.hours.toNat - h = s.hours.toNat - (h + 1) + 1 by omega, costT_head, hU]
    have e1 := costT_add (s := s) (rs := rs) (t := t) (a := 0) (n := h) (m := s.hours.toNat - h)
    rw [show h + (s.hours.toNat - h) = s.hours.toNat by omega, Nat.zero_add] at e1
    have hF1 := (hF (costT s rs t 0 (h + 1)) (by omega)).2 ⟨t, okT_sub ht (by omega) (by omega), rfl, Int.le_refl _⟩
    have hB1 := (hB (costT s rs t h (s.hours.toNat - h)) (by omega)).2 ⟨t, okT_sub ht (by omega) (by omega), rfl, Int.le_refl _⟩
    omega
end
end Go.Proofs.Ytgihgcclabodbaa.DK
