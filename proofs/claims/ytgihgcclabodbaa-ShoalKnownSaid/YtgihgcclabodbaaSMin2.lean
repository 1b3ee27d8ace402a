/- The fewest reports that are false; the first track of which so many are; the cells in which the shoal can be; the reports that must be false. -/
import Derived.Test.YtgihgcclabodbaaSMin
import Derived.Test.YtgihgcclabodbaaSThr2
namespace Go.Proofs.Ytgihgcclabodbaa.DK
open Go
set_option linter.unusedVariables false
set_option linter.unusedSectionVars false

/-! ### The fewest -/
def fewF (G : Nat → Nat → Int) : Nat → Int
  | 0 => leastL (G 0 0) ((List.range 80).map (G 0))
  | k + 1 => cond (!(feq 80 (G (k + 1)) (G k))) (leastL (fewF G k) ((List.range 80).map (G (k + 1)))) (fewF G k)
theorem feq_at {n : Nat} {f g : Nat → Int} (h : feq n f g = true) {i : Nat} (hi : i < n) : f i = g i := by
  simp only [feq, List.all_eq_true, List.mem_range, beq_iff_eq] at h
  exact h i hi
theorem row_le {g : Nat → Int} {m : Int} : (∃ x ∈ (List.range 80).map g, x ≤ m) ↔ ∃ c, c < 80 ∧ g c ≤ m := by
  constructor
  · rintro ⟨x, hx, h⟩
    obtain ⟨c, hc, rfl⟩ := List.mem_map.1 hx
    exact ⟨c, List.mem_range.1 hc, h⟩
  · rintro ⟨c, hc, h⟩
    exact ⟨_, List.mem_map.2 ⟨c, List.mem_range.2 hc, rfl⟩, h⟩
theorem fewF_le {G : Nat → Nat → Int} {m : Int} : ∀ k, fewF G k ≤ m ↔ ∃ h, h ≤ k ∧ ∃ c, c < 80 ∧ G h c ≤ m
  | 0 => by
    rw [fewF, leastL_le, row_le]
    constructor
    · rintro (h | ⟨c, hc, h⟩)
      · exact ⟨0, Nat.le_refl _, 0, by omega, h⟩
      · exact ⟨0, Nat.le_refl _, c, hc, h⟩
    · rintro ⟨h, hh, c, hc, h1⟩
      have : h = 0 := by omega
      subst this; exact .inr ⟨c, hc, h1⟩
  | k + 1 => by
    have ih := fewF_le (G := G) (m := m) k
    rw [fewF]
    cases hq : feq 80 (G (k + 1)) (G k) with
    | true =>
      rw [Bool.not_true, cond_false, ih]
      constructor
      · rintro ⟨h, hh, r⟩; exact ⟨h, by omega, r⟩
      · rintro ⟨h, hh, c, hc, h1⟩
        by_cases e : h = k + 1
        · subst e; exact ⟨k, Nat.le_refl _, c, hc, by rw [← feq_at hq hc]; exact h1⟩
        · exact ⟨h, by omega, c, hc, h1⟩
    | false =>
      rw [Bool.not_false, cond_true, leastL_le, ih, row_le]
      constructor
      · rintro (⟨h, hh, r⟩ | ⟨c, hc, h⟩)
        · exact ⟨h, by omega, r⟩
        · exact ⟨k + 1, Nat.le_refl _, c, hc, h⟩
      · rintro ⟨h, hh, c, hc, h1⟩
        by_cases e : h = k + 1
        · subst e; exact .inr ⟨c, hc, h1⟩
        · exact .inl ⟨h, by omega, c, hc, h1⟩
theorem fewF_step {G : Nat → Nat → Int} {k : Nat} (h : 1 ≤ k) : fewF G k = cond (!(feq 80 (G k) (G ((k : Int) - 1).toNat))) (leastL (fewF G (k - 1)) ((List.range 80).map (G k))) (fewF G (k - 1)) := by
  obtain ⟨j, rfl⟩ : ∃ j, k = j + 1 := ⟨k - 1, by omega⟩
  rw [fewF, show (((j + 1 : Nat) : Int) - 1).toNat = j by omega, Nat.add_sub_cancel]
def minT (s : Sea) (rs : List Rp) : Int := fewF (allR s rs s.hours.toNat) (s.hours.toNat - 1)
theorem allR_h {s : Sea} {rs : List Rp} {h : Nat} (hh : h < s.hours.toNat) : allR s rs s.hours.toNat h = allF s rs h := by unfold allR; rw [if_pos hh]
section
variable {s : Sea} {rs : List Rp} (hv : seaB s = true) (hr : rpsB s rs = true)
include hv hr
theorem allF_bd {h : Nat} (hh : h < s.hours.toNat) : cntB (allF s rs h) := by
  intro c hc
  have h1 := fwd_bd hv hr h c hc
  by_cases hx : (c : Int) ∈ cellsA s 0
  · have h2 := bwd_bd hv hr (s.hours.toNat - 1 - h) c hc
    have h3 := bwd_ge hv hr (j := s.hours.toNat - 1 - h) (by omega) hx
    rw [show s.hours.toNat - 1 - (s.hours.toNat - 1 - h) = h by omega, show ((c : Int)).toNat = c from rfl] at h3
    unfold allF
    rw [if_pos hx]
    unfold mn
    split <;> omega
  · unfold allF; rw [if_neg hx]; exact h1
theorem minT_le {m : Int} (hm : m < 1048576) : minT s rs ≤ m ↔ ∃ t, okT s t 0 s.hours.toNat ∧ costT s rs t 0 s.hours.toNat ≤ m := by
  have h1 := sea_ok hv
  unfold minT
  rw [fewF_le]
  constructor
  · rintro ⟨h, hh, c, hc, h2⟩
    rw [allR_h (by omega)] at h2
    by_cases hx : (c : Int) ∈ cellsA s 0
    · obtain ⟨t, ht, _, h3⟩ := (allF_le hv hr (h := h) (by omega) hx hm).1 h2
      exact ⟨t, ht, h3⟩
    · unfold allF at h2
      rw [if_neg hx] at h2
      cases h with
      | zero => rw [fwd, goneF_out hx] at h2; omega
      | succ h => rw [fwd, goneF_out hx] at h2; omega
  · rintro ⟨t, ht, h2⟩
    have hx := ht.1 0 (by omega) (by omega)
    have hc := cell80 hv hr hx
    refine ⟨0, by omega, (t 0).toNat, by omega, ?_⟩
    rw [allR_h (by omega)]
    exact (allF_le hv hr (h := 0) (by omega) hx hm).2 ⟨t, ht, rfl, h2⟩
theorem minT_bd : 0 ≤ minT s rs ∧ minT s rs ≤ 1048576 := by
  have h1 := sea_ok hv
  have h2 := allF_bd hv hr (h := 0) (by omega) 0 (by omega)
  constructor
  · rcases Int.lt_or_le (minT s rs) 0 with h | h
    · obtain ⟨t, _, h3⟩ := (minT_le hv hr (m := minT s rs) (by omega)).1 (Int.le_refl _)
      have := costT_bd (s := s) (rs := rs) (t := t) (a := 0) (n := s.hours.toNat)
      omega
    · exact h
  · unfold minT
    rw [fewF_le]
    exact ⟨0, by omega, 0, by omega, by rw [allR_h (by omega)]; exact h2.2⟩
end

/-! ### How many reports are false of a track, counted report by report -/
def badX (s : Sea) (t : Nat → Int) (x : Rq) : Bool := !(trueB x (pl s (t x.hr.toNat)))
def inH (a n : Nat) (x : Rq) : Bool := decide ((a : Int) ≤ x.hr) && decide (x.hr < (a : Int) + (n : Int))
theorem filt_split {α : Type} (p q r : α → Bool) : ∀ (xs : List α), (∀ x ∈ xs, r x = (p x || q x)) → (∀ x ∈ xs, (p x && q x) = false) → (xs.filter r).length = (xs.filter p).length + (xs.filter q).length
  | [], _, _ => rfl
  | x :: xs, h, h2 => by
    have ih := filt_split p q r xs (fun y hy => h y (List.mem_cons_of_mem _ hy)) (fun y hy => h2 y (List.mem_cons_of_mem _ hy))
    have e := h x (List.mem_cons_self ..); have e2 := h2 x (List.mem_cons_self ..)
    simp only [List.filter_cons, e]
    cases hp : p x <;> cases hq : q x <;> simp [hp, hq] at e2 ⊢ <;> omega
theorem costT_count {s : Sea} {rs : List Rp} {t : Nat → Int} {a : Nat} : ∀ n, costT s rs t a n = (((rqs s rs).filter fun x => inH a n x && badX s t x).length : Int)
  | 0 => by
    have : ((rqs s rs).filter fun x => inH a 0 x && badX s t x) = [] := by
      rw [List.filter_eq_nil_iff]; intro x _
      have : inH a 0 x = false := by
        unfold inH; simp only [Bool.and_eq_false_iff, decide_eq_false_iff_not]; omega
      rw [this]; simp
    rw [this]; rfl
  | n + 1 => by
    rw [costT, costT_count n]
    have key := filt_split (fun x => inH a n x && badX s t x) (badB ((a + n : Nat) : Int) (pl s (t (a + n)))) (fun x => inH a (n + 1) x && badX s t x) (rqs s rs)
      (fun x _ => by
        unfold badB
        by_cases e : x.hr = ((a + n : Nat) : Int)
        · have e1 : inH a n x = false := by unfold inH; simp only [Bool.and_eq_false_iff, decide_eq_false_iff_not]; omega
          have e2 : inH a (n + 1) x = true := by unfold inH; simp only [Bool.and_eq_true, decide_eq_true_eq]; omega
          rw [e1, e2, show (x.hr == ((a + n : Nat) : Int)) = true by rw [e]; exact beq_self_eq_true _]
          unfold badX
          rw [show x.hr.toNat = a + n by omega]; rfl
        · have e0 : (x.hr == ((a + n : Nat) : Int)) = false := by simpa using e
          rw [e0, cond_false, Bool.or_false]
          have : inH a (n + 1) x = inH a n x := by unfold inH; congr 1; rw [decide_eq_decide]; omega
          rw [this])
      (fun x _ => by
        unfold badB
        by_cases e : x.hr = ((a + n : Nat) : Int)
        · have e1 : inH a n x = false := by unfold inH; simp only [Bool.and_eq_false_iff, decide_eq_false_iff_not]; omega
          rw [e1]; rfl
        · have e0 : (x.hr == ((a + n : Nat) : Int)) = false := by simpa using e
          rw [e0, cond_false, Bool.and_false])
    unfold untr
    rw [key]; omega
theorem costT_len {s : Sea} {rs : List Rp} {t : Nat → Int} {a n : Nat} : costT s rs t a n ≤ rs.length := by
  rw [costT_count]
  have := List.length_filter_le (fun x => inH a n x && badX s t x) (rqs s rs)
  rw [rqs_len] at this; omega
theorem minT_24 {s : Sea} {rs : List Rp} (hv : seaB s = true) (hr : rpsB s rs = true) (h : minT s rs < 1048576) : minT s rs ≤ rs.length ∧ minT s rs ≤ 24 := by
  obtain ⟨t, ht, hc⟩ := (minT_le hv hr h).1 (Int.le_refl _)
  have h1 := costT_len (s := s) (rs := rs) (t := t) (a := 0) (n := s.hours.toNat)
  have h2 := (minT_le hv hr (m := costT s rs t 0 s.hours.toNat) (by have := (rp_ok hr).1; omega)).2 ⟨t, ht, Int.le_refl _⟩
  have := (rp_ok hr).1
  omega

/-! ### Tracks as lists -/
def tkF (t : List Int) : Nat → Int := fun k => t.getD k default
theorem badT_iff {s : Sea} {t : List Int} {k : Nat} : badT s t k = false ↔ tkF t k ∈ cellsA s 0 ∧ (0 < k → stepP s ((k - 1 : Nat) : Int) (pl s (tkF t (k - 1))) (pl s (tkF t k)) = true) := by
  unfold badT
  have hm : tkF t k ∈ cellsA s 0 ↔ inB (t.getD k default) 0 (nC s - 1) = true ∧ landF s (pl s (t.getD k default)) = false := by
    constructor
    · intro h; have h2 := mem_cellsA h; exact ⟨inB_iff.2 ⟨by unfold tkF at h2; omega, by unfold tkF at h2; omega⟩, h2.2.2⟩
    · rintro ⟨h1, h2⟩; have h3 := inB_iff.1 h1; exact of_cellsA (by unfold tkF; omega) (by unfold tkF; omega) h2
  rw [hm]
  by_cases hk : 0 < k
  · have e1 : ((k : Int) - 1) = ((k - 1 : Nat) : Int) := by omega
    have e2 : ((k : Int) - 1).toNat = k - 1 := by omega
    rw [decide_eq_true (show (k : Int) > 0 by omega), e2, e1]
    unfold tkF
    cases inB (t.getD k default) 0 (nC s - 1) <;> cases landF s (pl s (t.getD k default)) <;> cases stepP s ((k - 1 : Nat) : Int) (pl s (t.getD (k - 1) default)) (pl s (t.getD k default)) <;> simp [hk]
  · rw [decide_eq_false (show ¬ (k : Int) > 0 by omega)]
    cases inB (t.getD k default) 0 (nC s - 1) <;> cases landF s (pl s (t.getD k default)) <;> simp [hk]
theorem isTr_iff {s : Sea} {t : List Int} : isTrB s t = true ↔ okT s (tkF t) 0 t.length := by
  unfold isTrB
  simp only [List.all_eq_true, List.mem_range, Bool.not_eq_true']
  constructor
  · intro h
    exact ⟨fun k _ h2 => (badT_iff.1 (h k h2)).1, fun k _ h2 => by have := (badT_iff.1 (h (k + 1) h2)).2 (by omega); rwa [Nat.add_sub_cancel] at this⟩
  · intro h k hk
    refine badT_iff.2 ⟨h.1 k (by omega) hk, fun h0 => ?_⟩
    have := h.2 (k - 1) (by omega) (by omega)
    rwa [show k - 1 + 1 = k by omega] at this
theorem lieS_cost {s : Sea} {rs : List Rp} {t : List Int} : ∀ k, lieS s rs t k = costT s rs (tkF t) 0 k
  | 0 => rfl
  | k + 1 => by rw [lieS, costT, lieS_cost k, Nat.zero_add]; rfl

/-! ### The first track -/
def fitB (s : Sea) (rs : List Rp) (h : Nat) (prev left c : Int) : Bool := cond (bwdR s rs s.hours.toNat h c.toNat == left) (cond ((h : Int) == 0) true (stepP s ((h : Int) - 1) (pl s prev) (pl s c))) false
def trkS (s : Sea) (rs : List Rp) : Nat → List Int × Int
  | 0 => ([], minT s rs)
  | h + 1 => let p := trkS s rs h; let c := ((cellsA s 0).find? (fitB s rs h (p.1.getD ((h : Int) - 1).toNat default) p.2)).getD 0; (p.1 ++ [c], p.2 - untr s rs (h : Int) c)
def trkC (s : Sea) (rs : List Rp) (h : Nat) : Int := ((cellsA s 0).find? (fitB s rs h ((trkS s rs h).1.getD ((h : Int) - 1).toNat default) (trkS s rs h).2)).getD 0
theorem trkS_succ (s : Sea) (rs : List Rp) (h : Nat) : trkS s rs (h + 1) = ((trkS s rs h).1 ++ [trkC s rs h], (trkS s rs h).2 - untr s rs (h : Int) (trkC s rs h)) := rfl
theorem trkS_len (s : Sea) (rs : List Rp) : ∀ h, (trkS s rs h).1.length = h
  | 0 => rfl
  | h + 1 => by rw [trkS_succ, List.length_append, trkS_len s rs h]; rfl
theorem trkS_at (s : Sea) (rs : List Rp) : ∀ {h k : Nat}, k < h → (trkS s rs h).1.getD k default = trkC s rs k
  | 0, k, hk => by omega
  | h + 1, k, hk => by
    rw [trkS_succ]
    show ((trkS s rs h).1 ++ [trkC s rs h]).getD k default = _
    have hl := trkS_len s rs h
    rw [List.getD_eq_getElem?_getD]
    by_cases e : k < h
    · rw [List.getElem?_append_left (by omega), ← List.getD_eq_getElem?_getD]; exact trkS_at s rs e
    · rw [List.getElem?_append_right (by omega), hl, show k - h = 0 by omega]
      have : k = h := by omega
      subst this; rfl
theorem trkS_left (s : Sea) (rs : List Rp) : ∀ h, (trkS s rs h).2 = minT s rs - costT s rs (trkC s rs) 0 h
  | 0 => by rw [costT]; show minT s rs = _; omega
  | h + 1 => by rw [trkS_succ, costT, Nat.zero_add]; show (trkS s rs h).2 - _ = _; rw [trkS_left s rs h]; omega
section
variable {s : Sea} {rs : List Rp} (hv : seaB s = true) (hr : rpsB s rs = true) (hm : minT s rs < 1048576)
include hv hr hm
theorem bwdR_le {h : Nat} (hh : h < s.hours.toNat) {x : Int} (hx : x ∈ cellsA s 0) {m : Int} (hm : m < 1048576) : bwdR s rs s.hours.toNat h x.toNat ≤ m ↔ ∃ t, okT s t h s.hours.toNat ∧ t h = x ∧ costT s rs t h (s.hours.toNat - h) ≤ m := by
  rw [bwdR_all s rs hh, bwd_le hv hr _ (by omega) x hx m hm, show s.hours.toNat - 1 - (s.hours.toNat - 1 - h) = h by omega, show s.hours.toNat - 1 - h + 1 = s.hours.toNat - h by omega]
/-- What is known of the first hours of the first track: nothing that goes on costs less than what is left, and something costs just so much. -/
theorem trk_inv : ∀ h, h < s.hours.toNat → okT s (trkC s rs) 0 h ∧
    (∀ t, okT s t h s.hours.toNat → (0 < h → stepP s ((h - 1 : Nat) : Int) (pl s (trkC s rs (h - 1))) (pl s (t h)) = true) → (trkS s rs h).2 ≤ costT s rs t h (s.hours.toNat - h)) ∧
    (∃ t, okT s t h s.hours.toNat ∧ (0 < h → stepP s ((h - 1 : Nat) : Int) (pl s (trkC s rs (h - 1))) (pl s (t h)) = true) ∧ costT s rs t h (s.hours.toNat - h) = (trkS s rs h).2) ∧
    (trkS s rs h).2 < 1048576 ∧ (cellsA s 0).find? (fitB s rs h ((trkS s rs h).1.getD ((h : Int) - 1).toNat default) (trkS s rs h).2) = some (trkC s rs h) := by
  have hb := minT_bd hv hr
  -- the last claim follows of the others
  have fin : ∀ h, h < s.hours.toNat → (∀ t, okT s t h s.hours.toNat → (0 < h → stepP s ((h - 1 : Nat) : Int) (pl s (trkC s rs (h - 1))) (pl s (t h)) = true) → (trkS s rs h).2 ≤ costT s rs t h (s.hours.toNat - h)) →
      (∃ t, okT s t h s.hours.toNat ∧ (0 < h → stepP s ((h - 1 : Nat) : Int) (pl s (trkC s rs (h - 1))) (pl s (t h)) = true) ∧ costT s rs t h (s.hours.toNat - h) = (trkS s rs h).2) → (trkS s rs h).2 < 1048576 →
      (cellsA s 0).find? (fitB s rs h ((trkS s rs h).1.getD ((h : Int) - 1).toNat default) (trkS s rs h).2) = some (trkC s rs h) := by
    rintro h hh hlow ⟨t, ht, hst, hc⟩ hlt
    have hx := ht.1 h (Nat.le_refl _) hh
    have hle := (bwdR_le hv hr hm hh hx hlt).2 ⟨t, ht, rfl, by omega⟩
    have hge : (trkS s rs h).2 ≤ bwdR s rs s.hours.toNat h (t h).toNat := by
      rcases Int.lt_or_le (bwdR s rs s.hours.toNat h (t h).toNat) (trkS s rs h).2 with h1 | h1
      · obtain ⟨u, hu, hux, huc⟩ := (bwdR_le hv hr hm hh hx (m := bwdR s rs s.hours.toNat h (t h).toNat) (by omega)).1 (Int.le_refl _)
        have := hlow u hu (fun h0 => by rw [hux]; exact hst h0)
        omega
      · exact h1
    have hfit : fitB s rs h ((trkS s rs h).1.getD ((h : Int) - 1).toNat default) (trkS s rs h).2 (t h) = true := by
      unfold fitB
      rw [show bwdR s rs s.hours.toNat h (t h).toNat = (trkS s rs h).2 by omega, beq_self_eq_true, cond_true]
      by_cases h0 : 0 < h
      · rw [show ((h : Int) == 0) = false by simp; omega, cond_false, show ((h : Int) - 1).toNat = h - 1 by omega, trkS_at s rs (by omega), show (h : Int) - 1 = ((h - 1 : Nat) : Int) by omega]
        exact hst h0
      · rw [show ((h : Int) == 0) = true by simp; omega]; rfl
    cases hf : (cellsA s 0).find? (fitB s rs h ((trkS s rs h).1.getD ((h : Int) - 1).toNat default) (trkS s rs h).2) with
    | none => rw [List.find?_eq_none] at hf; exact absurd hfit (hf _ hx)
    | some c => rw [trkC, hf]; rfl
  intro h
  induction h with
  | zero =>
    intro hh
    have hlow : ∀ t, okT s t 0 s.hours.toNat → (0 < 0 → stepP s ((0 - 1 : Nat) : Int) (pl s (trkC s rs (0 - 1))) (pl s (t 0)) = true) → (trkS s rs 0).2 ≤ costT s rs t 0 (s.hours.toNat - 0) := by
      intro t ht _
      have h24 := (rp_ok hr).1
      rw [Nat.sub_zero]
      exact (minT_le hv hr (by have := costT_len (s := s) (rs := rs) (t := t) (a := 0) (n := s.hours.toNat); omega)).2 ⟨t, ht, Int.le_refl _⟩
    obtain ⟨t, ht, hc⟩ := (minT_le hv hr hm).1 (Int.le_refl _)
    have hex : ∃ t, okT s t 0 s.hours.toNat ∧ (0 < 0 → stepP s ((0 - 1 : Nat) : Int) (pl s (trkC s rs (0 - 1))) (pl s (t 0)) = true) ∧ costT s rs t 0 (s.hours.toNat - 0) = (trkS s rs 0).2 := by
      refine ⟨t, ht, fun h => absurd h (by omega), ?_⟩
      have := hlow t ht (fun h => absurd h (by omega))
      have e : (trkS s rs 0).2 = minT s rs := rfl
      rw [Nat.sub_zero] at this ⊢
      omega
    exact ⟨⟨fun k _ h2 => by omega, fun k _ h2 => by omega⟩, hlow, hex, hm, fin 0 hh hlow hex hm⟩
  | succ h ih =>
    intro hh
    obtain ⟨hok, hlow, hex, hlt, hfi⟩ := ih (by omega)
    have hfm := List.mem_of_find?_eq_some hfi
    have hfb := List.find?_some hfi
    have hc80 := cell80 hv hr hfm
    -- what fit says
    have hb1 : bwdR s rs s.hours.toNat h (trkC s rs h).toNat = (trkS s rs h).2 := by
      unfold fitB at hfb
      cases hq : (bwdR s rs s.hours.toNat h (trkC s rs h).toNat == (trkS s rs h).2) with
      | false => rw [hq] at hfb; cases hfb
      | true => simpa using hq
    have hst : 0 < h → stepP s ((h - 1 : Nat) : Int) (pl s (trkC s rs (h - 1))) (pl s (trkC s rs h)) = true := by
      intro h0
      unfold fitB at hfb
      rw [hb1, beq_self_eq_true, cond_true, show ((h : Int) == 0) = false by simp; omega, cond_false, show ((h : Int) - 1).toNat = h - 1 by omega, trkS_at s rs (by omega), show (h : Int) - 1 = ((h - 1 : Nat) : Int) by omega] at hfb
      exact hfb
    have hok2 : okT s (trkC s rs) 0 (h + 1) := by
      refine ⟨fun k k1 k2 => ?_, fun k k1 k2 => ?_⟩
      · by_cases e : k < h
        · exact hok.1 k k1 e
        · rw [show k = h by omega]; exact hfm
      · by_cases e : k + 1 < h
        · exact hok.2 k k1 e
        · have := hst (by omega)
          rw [show k = h - 1 by omega, show h - 1 + 1 = h by omega]; exact this
    have hleft : (trkS s rs (h + 1)).2 = (trkS s rs h).2 - untr s rs (h : Int) (trkC s rs h) := by rw [trkS_succ]
    have hu := untr_bd (s := s) (rs := rs) (h : Int) (trkC s rs h)
    have esub : s.hours.toNat - h = (s.hours.toNat - (h + 1)) + 1 := by omega
    have hlow2 : ∀ t, okT s t (h + 1) s.hours.toNat → (0 < h + 1 → stepP s ((h + 1 - 1 : Nat) : Int) (pl s (trkC s rs (h + 1 - 1))) (pl s (t (h + 1))) = true) → (trkS s rs (h + 1)).2 ≤ costT s rs t (h + 1) (s.hours.toNat - (h + 1)) := by
      intro t ht hs2
      have hj := okT_join (t := fun _ => trkC s rs h) (u := t) (a := h) (b := h + 1) (c := s.hours.toNat) ⟨fun _ _ _ => hfm, fun k k1 k2 => by omega⟩ ht (by omega) (fun _ => hs2 (by omega))
      have := hlow _ hj (fun h0 => by simp only [Nat.lt_succ_self, if_true]; exact hst h0)
      rw [esub, costT_head, costT_congr (t' := t) (fun k h2 _ => if_neg (by omega)), if_pos (by omega)] at this
      omega
    have hex2 : ∃ t, okT s t (h + 1) s.hours.toNat ∧ (0 < h + 1 → stepP s ((h + 1 - 1 : Nat) : Int) (pl s (trkC s rs (h + 1 - 1))) (pl s (t (h + 1))) = true) ∧ costT s rs t (h + 1) (s.hours.toNat - (h + 1)) = (trkS s rs (h + 1)).2 := by
      obtain ⟨t, ht, htx, htc⟩ := (bwdR_le hv hr hm (h := h) (by omega) hfm (m := (trkS s rs h).2) hlt).1 (by omega)
      have hs2 : stepP s (h : Int) (pl s (trkC s rs h)) (pl s (t (h + 1))) = true := by rw [← htx]; exact ht.2 h (Nat.le_refl _) (by omega)
      have htl : okT s t (h + 1) s.hours.toNat := okT_sub ht (by omega) (Nat.le_refl _)
      refine ⟨t, htl, fun _ => hs2, ?_⟩
      have := hlow2 t htl (fun _ => hs2)
      rw [esub, costT_head, htx] at htc
      omega
    exact ⟨hok2, hlow2, hex2, by omega, fin (h + 1) hh hlow2 hex2 (by omega)⟩
theorem trk_find {h : Nat} (hh : h < s.hours.toNat) : (cellsA s 0).find? (fitB s rs h ((trkS s rs h).1.getD ((h : Int) - 1).toNat default) (trkS s rs h).2) = some (trkC s rs h) := (trk_inv hv hr hm h hh).2.2.2.2
theorem trk_ok : okT s (trkC s rs) 0 s.hours.toNat ∧ costT s rs (trkC s rs) 0 s.hours.toNat = minT s rs := by
  have h1 := sea_ok hv
  obtain ⟨h, hh⟩ : ∃ h, s.hours.toNat = h + 1 := ⟨s.hours.toNat - 1, by omega⟩
  obtain ⟨hok, hlow, hex, hlt, hfi⟩ := trk_inv hv hr hm h (by omega)
  have hfm := List.mem_of_find?_eq_some hfi
  have hfb := List.find?_some hfi
  have hb1 : bwdR s rs s.hours.toNat h (trkC s rs h).toNat = (trkS s rs h).2 := by
    unfold fitB at hfb
    cases hq : (bwdR s rs s.hours.toNat h (trkC s rs h).toNat == (trkS s rs h).2) with
    | false => rw [hq] at hfb; cases hfb
    | true => simpa using hq
  have hst : 0 < h → stepP s ((h - 1 : Nat) : Int) (pl s (trkC s rs (h - 1))) (pl s (trkC s rs h)) = true := by
    intro h0
    unfold fitB at hfb
    rw [hb1, beq_self_eq_true, cond_true, show ((h : Int) == 0) = false by simp; omega, cond_false, show ((h : Int) - 1).toNat = h - 1 by omega, trkS_at s rs (by omega), show (h : Int) - 1 = ((h - 1 : Nat) : Int) by omega] at hfb
    exact hfb
  have hok2 : okT s (trkC s rs) 0 (h + 1) := by
    refine ⟨fun k k1 k2 => ?_, fun k k1 k2 => ?_⟩
    · by_cases e : k < h
      · exact hok.1 k k1 e
      · rw [show k = h by omega]; exact hfm
    · by_cases e : k + 1 < h
      · exact hok.2 k k1 e
      · have := hst (by omega)
        rw [show k = h - 1 by omega, show h - 1 + 1 = h by omega]; exact this
  rw [hh]
  refine ⟨hok2, ?_⟩
  have hl := trkS_left s rs h
  obtain ⟨t, ht, htx, htc⟩ := (bwdR_le hv hr hm (show h < s.hours.toNat by omega) hfm (m := (trkS s rs h).2) hlt).1 (by omega)
  have hlo := hlow t ht (fun h0 => by rw [htx]; exact hst h0)
  rw [show s.hours.toNat - h = 1 by omega, costT_one] at htc hlo
  rw [htx] at htc hlo
  rw [costT, Nat.zero_add]
  omega
/-- A track that is as good does not come before the first one. -/
theorem trk_first {t : Nat → Int} (ht : okT s t 0 s.hours.toNat) (hc : costT s rs t 0 s.hours.toNat ≤ minT s rs) {h : Nat} (hh : h < s.hours.toNat) (he : ∀ k, k < h → t k = trkC s rs k) : trkC s rs h ≤ t h := by
  obtain ⟨hok, hlow, hex, hlt, hfi⟩ := trk_inv hv hr hm h hh
  have hx := ht.1 h (by omega) hh
  have e1 := costT_add (s := s) (rs := rs) (t := t) (a := 0) (n := h) (m := s.hours.toNat - h)
  rw [show h + (s.hours.toNat - h) = s.hours.toNat by omega, Nat.zero_add, costT_congr (t := t) (t' := trkC s rs) (a := 0) (n := h) (fun k _ h2 => he k (by omega))] at e1
  have hl := trkS_left s rs h
  have hst : 0 < h → stepP s ((h - 1 : Nat) : Int) (pl s (trkC s rs (h - 1))) (pl s (t h)) = true := by
    intro h0
    rw [← he (h - 1) (by omega)]
    have := ht.2 (h - 1) (by omega) (by omega)
    rwa [show h - 1 + 1 = h by omega] at this
  have hle := (bwdR_le hv hr hm hh hx hlt).2 ⟨t, okT_sub ht (by omega) (Nat.le_refl _), rfl, by omega⟩
  have hge : (trkS s rs h).2 ≤ bwdR s rs s.hours.toNat h (t h).toNat := by
    rcases Int.lt_or_le (bwdR s rs s.hours.toNat h (t h).toNat) (trkS s rs h).2 with h1 | h1
    · obtain ⟨u, hu, hux, huc⟩ := (bwdR_le hv hr hm hh hx (m := bwdR s rs s.hours.toNat h (t h).toNat) (by omega)).1 (Int.le_refl _)
      have := hlow u hu (fun h0 => by rw [hux]; exact hst h0)
      omega
    · exact h1
  have hfit : fitB s rs h ((trkS s rs h).1.getD ((h : Int) - 1).toNat default) (trkS s rs h).2 (t h) = true := by
    unfold fitB
    rw [show bwdR s rs s.hours.toNat h (t h).toNat = (trkS s rs h).2 by omega, beq_self_eq_true, cond_true]
    by_cases h0 : 0 < h
    · rw [show ((h : Int) == 0) = false by simp; omega, cond_false, show ((h : Int) - 1).toNat = h - 1 by omega, trkS_at s rs (by omega), show (h : Int) - 1 = ((h - 1 : Nat) : Int) by omega]
      exact hst h0
    · rw [show ((h : Int) == 0) = true by simp; omega]; rfl
  -- the first that fits comes no later
  have hpw : (cellsA s 0).Pairwise (· < ·) := by
    unfold cellsA
    rw [List.pairwise_map]
    exact (List.Pairwise.filter _ (List.pairwise_lt_range' (s := 0) (n := (nC s).toNat - 0) (step := 1) (by omega))).imp fun h => by omega
  rw [List.find?_eq_some_iff_append] at hfi
  obtain ⟨_, l1, l2, hab, hno⟩ := hfi
  rw [hab] at hx hpw
  rcases List.mem_append.1 hx with h1 | h1
  · have := hno _ h1; rw [hfit] at this; cases this
  · rcases List.mem_cons.1 h1 with h2 | h2
    · omega
    · have h3 := (List.pairwise_append.1 hpw).2.1
      have := (List.pairwise_cons.1 h3).1 _ h2
      omega
end
def firstT (s : Sea) (rs : List Rp) : List Int := (trkS s rs s.hours.toNat).1

/-! ### Where the shoal can be -/
def canL (s : Sea) (rs : List Rp) (wr h : Int) : List Int := (cellsA s 0).filter fun c => decide (allR s rs s.hours.toNat h.toNat c.toNat ≤ wr)
/-- What can answers. -/
def canR1 (s : Sea) (rs : List Rp) (wr h : Int) : List Int × Int := match canL s rs wr h with | [] => ([], 12) | x :: xs => (x :: xs, 0)
def askB (s : Sea) (wr h : Int) : Bool := cond (inB wr 0 24) (inB h 0 (s.hours - 1)) false
theorem askB_iff {s : Sea} {wr h : Int} : askB s wr h = true ↔ 0 ≤ wr ∧ wr ≤ 24 ∧ 0 ≤ h ∧ h < s.hours := by
  unfold askB
  cases h1 : inB wr 0 24 with
  | false => simp; intro a b c; have : inB wr 0 24 = true := inB_iff.2 (by omega); rw [h1] at this; cases this
  | true =>
    have h2 := inB_iff.1 h1
    rw [cond_true, inB_iff]; omega
/-- What Can answers. -/
def canR (s : Sea) (rs : List Rp) (wr h : Int) : List Int × Int := if err s rs ≠ 0 then ([], err s rs) else if askB s wr h = false then ([], 7) else canR1 s rs wr h
/-- What Least answers. -/
def leastR (s : Sea) (rs : List Rp) : Int × List Int × Int := if err s rs ≠ 0 then (0, [], err s rs) else if minT s rs ≥ 1048576 then (0, [], 4) else (minT s rs, firstT s rs, 0)
/-- Is report i true of some track of which the fewest are false? -/
def freeB (s : Sea) (rs : List Rp) (c : Int) (x : Rq) : Bool := cond (allR s rs s.hours.toNat x.hr.toNat c.toNat == minT s rs) (trueB x (pl s c)) false
def liarK (s : Sea) (rs : List Rp) : Nat → List Int
  | 0 => []
  | k + 1 => cond ((cellsA s 0).any fun c => freeB s rs c ((rqs s rs).getD k default)) (liarK s rs k) (liarK s rs k ++ [(k : Int)])
theorem liarK_len (s : Sea) (rs : List Rp) : ∀ k, (liarK s rs k).length ≤ k
  | 0 => Nat.le_refl _
  | k + 1 => by
    have := liarK_len s rs k
    rw [liarK]
    cases (cellsA s 0).any fun c => freeB s rs c ((rqs s rs).getD k default)
    · rw [cond_false, List.length_append]; show _ + 1 ≤ _; omega
    · rw [cond_true]; omega
/-- What Liars answers. -/
def liarR (s : Sea) (rs : List Rp) : List Int × Int := if err s rs ≠ 0 then ([], err s rs) else if minT s rs ≥ 1048576 then ([], 4) else (liarK s rs rs.length, 0)
theorem mem_canL {s : Sea} {rs : List Rp} (hv : seaB s = true) (hr : rpsB s rs = true) {wr h c : Int} (hw : wr < 1048576) (h0 : 0 ≤ h) (h1 : h < s.hours) : c ∈ canL s rs wr h ↔ ∃ t, okT s t 0 s.hours.toNat ∧ t h.toNat = c ∧ costT s rs t 0 s.hours.toNat ≤ wr := by
  unfold canL
  rw [List.mem_filter, decide_eq_true_eq, allR_h (by omega)]
  constructor
  · rintro ⟨hc, h2⟩; exact (allF_le hv hr (by omega) hc hw).1 h2
  · rintro ⟨t, ht, rfl, h2⟩
    have hc := ht.1 h.toNat (by omega) (by omega)
    exact ⟨hc, (allF_le hv hr (by omega) hc hw).2 ⟨t, ht, rfl, h2⟩⟩
end Go.Proofs.Ytgihgcclabodbaa.DK
