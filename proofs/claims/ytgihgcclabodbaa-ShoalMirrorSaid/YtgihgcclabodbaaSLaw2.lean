/- What the laws say of more reports, fewer lies, less speed, and of those that are named: plain words. -/
import Derived.Test.YtgihgcclabodbaaSLaw
namespace Go.Proofs.Ytgihgcclabodbaa.DK
open Go
set_option linter.unusedVariables false

theorem untr_app {s : Sea} {rs rs2 : List Rp} {h c : Int} : untr s (rs ++ rs2) h c = untr s rs h c + untr s rs2 h c := by
  unfold untr rqs
  rw [List.map_append, List.filter_append, List.length_append]; simp
theorem cost_app {s : Sea} {rs rs2 : List Rp} {t : Nat → Int} {a : Nat} : ∀ n, costT s (rs ++ rs2) t a n = costT s rs t a n + costT s rs2 t a n
  | 0 => rfl
  | n + 1 => by rw [costT, costT, costT, cost_app n, untr_app]; omega
theorem cost_rep {s : Sea} {x : Rp} {t : Nat → Int} {H m : Nat} (h0 : 0 ≤ x.hr) (h1 : x.hr < H) : costT s (List.replicate m x) t 0 H = cond (badX s t (rq s x)) (m : Int) 0 := by
  rw [costT_count]
  unfold rqs
  rw [List.map_replicate, List.filter_replicate]
  have : inH 0 H (rq s x) = true := by
    unfold inH rq
    simp only [Bool.and_eq_true, decide_eq_true_eq]
    show ((0 : Nat) : Int) ≤ x.hr ∧ x.hr < ((0 : Nat) : Int) + (H : Int)
    omega
  rw [this, Bool.true_and]
  cases badX s t (rq s x) <;> simp
theorem rps_app {s : Sea} {rs rs2 : List Rp} (h1 : rpsB s rs = true) (h2 : ∀ x ∈ rs2, rpB s x = true) (hl : rs.length + rs2.length ≤ 24) : rpsB s (rs ++ rs2) = true := by
  simp only [rpsB, Bool.and_eq_true, decide_eq_true_eq, List.all_eq_true] at h1 ⊢
  refine ⟨by rw [List.length_append]; omega, fun x hx => ?_⟩
  rcases List.mem_append.1 hx with h | h
  · exact h1.2 x h
  · exact h2 x h
theorem rpB_of {s : Sea} {x : Rp} (h1 : 0 ≤ x.hr ∧ x.hr ≤ s.hours - 1) (h2 : 0 ≤ x.cell ∧ x.cell ≤ nC s - 1) (h3 : 0 ≤ x.far ∧ x.far ≤ 9) : rpB s x = true := by
  unfold rpB
  rw [inB_iff.2 h1, inB_iff.2 h2, inB_iff.2 h3]; rfl
theorem far_zero {p q : Int × Int} : farP p q ≤ 0 ↔ p = q := by
  constructor
  · intro h
    have : p.1 = q.1 ∧ p.2 = q.2 := by
      simp only [farP, mx] at h
      repeat' split at h
      all_goals omega
    exact Prod.ext this.1 this.2
  · rintro rfl; simp [farP, mx]
section
variable {s : Sea} {rs : List Rp} (her : err s rs = 0)
include her
theorem can_cases {wr h : Int} (ha : askB s wr h = true) : (canL s rs wr h = [] ∧ canR s rs wr h = ([], 12)) ∨ (canL s rs wr h ≠ [] ∧ canR s rs wr h = (canL s rs wr h, 0)) := by
  unfold canR
  rw [if_neg (by omega), if_neg (by rw [ha]; simp)]
  unfold canR1
  split
  · rename_i e; exact .inl ⟨e, rfl⟩
  · rename_i x xs e; refine .inr ⟨by rw [e]; simp, by rw [e]⟩
theorem least_cases : (minT s rs ≥ 1048576 ∧ leastR s rs = (0, [], 4)) ∨ (minT s rs < 1048576 ∧ leastR s rs = (minT s rs, firstT s rs, 0)) := by
  unfold leastR
  rw [if_neg (by omega)]
  by_cases h : minT s rs ≥ 1048576
  · exact .inl ⟨h, if_pos h⟩
  · exact .inr ⟨by omega, if_neg h⟩
theorem can_least {wr h : Int} (ha : askB s wr h = true) : canL s rs wr h ≠ [] ↔ minT s rs ≤ wr := by
  obtain ⟨hv, hr⟩ := err_hd her
  have hk := askB_iff.1 ha
  rw [minT_le hv hr (by omega)]
  constructor
  · intro hne
    obtain ⟨c, hc⟩ := List.exists_mem_of_ne_nil _ hne
    obtain ⟨t, ht, _, h2⟩ := (mem_canL hv hr (by omega) hk.2.2.1 hk.2.2.2).1 hc
    exact ⟨t, ht, h2⟩
  · rintro ⟨t, ht, h2⟩ e
    have := (mem_canL hv hr (c := t h.toNat) (by omega) hk.2.2.1 hk.2.2.2).2 ⟨t, ht, rfl, h2⟩
    rw [e] at this; simp at this
/-- Where the law of what is reached gives up: never. -/
theorem reach_dead {wr h : Int} (ha : askB s wr h = true) {n : Nat} (hn : (canR s rs wr h).1.length = n) :
    cond (cond (cond ((canR s rs wr h).2 != 0) ((canR s rs wr h).2 != 12) false) true (((canR s rs wr h).2 == 0) != (cond ((leastR s rs).2.2 == 0) (decide ((leastR s rs).1 ≤ wr)) false))) true (cond ((canR s rs wr h).2 != 0) (decide ((n : Int) > 0)) false) = false := by
  have hl := can_least her ha
  have hk := askB_iff.1 ha
  rcases can_cases her ha with ⟨h1, h2⟩ | ⟨h1, h2⟩
  · rw [h2] at hn ⊢
    have hn0 : n = 0 := hn.symm
    subst hn0
    have hm : ¬ minT s rs ≤ wr := fun h3 => (hl.2 h3) h1
    rcases least_cases her with ⟨_, h4⟩ | ⟨_, h4⟩
    · rw [h4]; rfl
    · rw [h4]
      show cond (cond (cond true (12 != (12 : Int)) false) true (false != (cond (0 == (0 : Int)) (decide (minT s rs ≤ wr)) false))) true _ = false
      rw [decide_eq_false hm]; rfl
  · rw [h2]
    have hm := hl.1 h1
    rcases least_cases her with ⟨h3, h4⟩ | ⟨_, h4⟩
    · omega
    · rw [h4]
      show cond (cond (cond false _ false) true (true != (cond (0 == (0 : Int)) (decide (minT s rs ≤ wr)) false))) true (cond false _ false) = false
      rw [decide_eq_true hm]; rfl
/-- The law of what is reached. -/
theorem reach_law {wr h c : Int} (ha : askB s wr h = true) (hc : 0 ≤ c ∧ c < nC s) {m : Nat} (hm : (m : Int) = wr + 1) (hl : rs.length + m ≤ 24) :
    (decide (placeI (canR s rs wr h).1 c ≥ 0) == cond ((leastR s (rs ++ List.replicate m ⟨h, c, 0, true⟩)).2.2 == 0) (decide ((leastR s (rs ++ List.replicate m ⟨h, c, 0, true⟩)).1 ≤ wr)) false) = true := by
  obtain ⟨hv, hr⟩ := err_hd her
  have hk := askB_iff.1 ha
  have hs := sea_ok hv
  have hr2 : rpsB s (rs ++ List.replicate m ⟨h, c, 0, true⟩) = true := rps_app hr (fun x hx => by rw [List.eq_of_mem_replicate hx]; exact rpB_of ⟨hk.2.2.1, by show h ≤ s.hours - 1; omega⟩ ⟨hc.1, by show c ≤ nC s - 1; omega⟩ ⟨by show (0 : Int) ≤ 0; decide, by show (0 : Int) ≤ 9; decide⟩) (by rw [List.length_replicate]; exact hl)
  have her2 : err s (rs ++ List.replicate m ⟨h, c, 0, true⟩) = 0 := by unfold err chk; rw [if_pos hv, if_neg (by simp), if_pos hr2]
  have hbad : ∀ t : Nat → Int, badX s t (rq s ⟨h, c, 0, true⟩) = decide (c ≠ t h.toNat) := by
    intro t
    unfold badX trueB rq
    show (!(true == decide (farP ((pl s c).1, (pl s c).2) (pl s (t h.toNat)) ≤ 0))) = _
    by_cases e : c = t h.toNat
    · rw [decide_eq_true (far_zero.2 (by rw [e])), decide_eq_false (by simpa using e)]; rfl
    · rw [decide_eq_false (fun h2 => e (pl_inj (s := s) (far_zero.1 h2))), decide_eq_true e]; rfl
  have hcost : ∀ t : Nat → Int, costT s (rs ++ List.replicate m ⟨h, c, 0, true⟩) t 0 s.hours.toNat = costT s rs t 0 s.hours.toNat + cond (decide (c ≠ t h.toNat)) (m : Int) 0 := by
    intro t
    rw [cost_app, cost_rep (x := ⟨h, c, 0, true⟩) hk.2.2.1 (by show h < ((s.hours.toNat : Nat) : Int); omega), hbad]
  have key : c ∈ canL s rs wr h ↔ minT s (rs ++ List.replicate m ⟨h, c, 0, true⟩) ≤ wr := by
    rw [mem_canL hv hr (by omega) hk.2.2.1 hk.2.2.2, minT_le hv hr2 (by omega)]
    constructor
    · rintro ⟨t, ht, e, h2⟩
      exact ⟨t, ht, by rw [hcost, decide_eq_false (by simpa using e.symm)]; show _ + 0 ≤ wr; omega⟩
    · rintro ⟨t, ht, h2⟩
      have hb := costT_bd (s := s) (rs := rs) (t := t) (a := 0) (n := s.hours.toNat)
      rw [hcost] at h2
      by_cases e : c = t h.toNat
      · rw [decide_eq_false (by simpa using e)] at h2
        exact ⟨t, ht, e.symm, by simpa using h2⟩
      · rw [decide_eq_true e, cond_true] at h2; omega
  have hcan : (canR s rs wr h).1 = canL s rs wr h := by
    rcases can_cases her ha with ⟨h1, h2⟩ | ⟨_, h2⟩
    · rw [h2, h1]
    · rw [h2]
  have hp : decide (placeI (canR s rs wr h).1 c ≥ 0) = decide (c ∈ canL s rs wr h) := by
    rw [hcan]
    have h1 := placeI_neg (canL s rs wr h) c
    by_cases h2 : c ∈ canL s rs wr h
    · rw [decide_eq_true h2] at h1 ⊢; simp at h1; rw [decide_eq_true (by omega)]
    · rw [decide_eq_false h2] at h1 ⊢; simp at h1; rw [decide_eq_false (by omega)]
  rw [hp]
  rcases least_cases her2 with ⟨h3, h4⟩ | ⟨h3, h4⟩
  · rw [h4, decide_eq_false (fun h5 => by have := key.1 h5; omega)]; rfl
  · rw [h4]
    generalize minT s (rs ++ List.replicate m ⟨h, c, 0, true⟩) = q at key ⊢
    generalize firstT s (rs ++ List.replicate m ⟨h, c, 0, true⟩) = q2
    show (decide (c ∈ canL s rs wr h) == cond (0 == (0 : Int)) (decide (q ≤ wr)) false) = true
    by_cases h5 : c ∈ canL s rs wr h
    · rw [decide_eq_true h5, decide_eq_true (key.1 h5)]; rfl
    · rw [decide_eq_false h5, decide_eq_false (fun h6 => h5 (key.2 h6))]; rfl
end

/-! ### More reports, fewer lies, less speed -/
def slow (s : Sea) (sp : Int) : Sea := ⟨s.wide, s.high, s.land, s.hours, s.drift, sp⟩
theorem slow_landK (s : Sea) (sp : Int) : ∀ k, landK (slow s sp) k = landK s k
  | 0 => rfl
  | k + 1 => by rw [landK, landK, slow_landK s sp k]; rfl
theorem slow_cells (s : Sea) (sp : Int) (k : Nat) : cellsA (slow s sp) k = cellsA s k := by
  have h : ∀ c : Nat, isLand (slow s sp) c = isLand s c := by
    intro c
    show landK (slow s sp) s.land.length (pl s (c : Int)) = landK s s.land.length (pl s (c : Int))
    rw [slow_landK]
  unfold cellsA
  rw [show (fun c => !isLand (slow s sp) c) = (fun c => !isLand s c) from funext fun c => by rw [h c]]
  rfl
theorem slow_sea {s : Sea} (hv : seaB s = true) {sp : Int} (h0 : 0 ≤ sp) (h1 : sp ≤ s.speed) : seaB (slow s sp) = true := by
  have hs := sea_ok hv
  simp only [seaB, Bool.and_eq_true] at hv ⊢
  refine ⟨⟨?_, hv.1.2⟩, hv.2⟩
  have hh := hv.1.1
  unfold headB at hh ⊢
  show cond (cond (cond (cond (inB s.wide 1 10) (inB s.high 1 8) false) (inB sp 0 2) false) (inB s.hours 1 12) false) _ false = true
  rw [inB_iff.2 (show 0 ≤ sp ∧ sp ≤ 2 by omega)]
  rw [inB_iff.2 (show 0 ≤ s.speed ∧ s.speed ≤ 2 by omega)] at hh
  exact hh
theorem slow_step {s : Sea} {sp hh : Int} {p q : Int × Int} (h0 : 0 ≤ sp) (h1 : sp ≤ s.speed) (h : stepP (slow s sp) hh p q = true) : stepP s hh p q = true := by
  rw [← step_eq p q (show 0 ≤ (slow s sp).speed from h0)] at h
  rw [← step_eq p q (by omega)]
  obtain ⟨a, b⟩ : inB (q.1 - p.1 - (s.drift.getD hh.toNat default).e) (-sp) sp = true ∧ inB (q.2 - p.2 - (s.drift.getD hh.toNat default).n) (-sp) sp = true := by
    cases h2 : inB (q.1 - p.1 - (s.drift.getD hh.toNat default).e) (-sp) sp with
    | false => exfalso; change cond (inB (q.1 - p.1 - (s.drift.getD hh.toNat default).e) (-sp) sp) _ false = true at h; rw [h2] at h; cases h
    | true => change cond (inB (q.1 - p.1 - (s.drift.getD hh.toNat default).e) (-sp) sp) _ false = true at h; rw [h2] at h; exact ⟨rfl, h⟩
  have ha := inB_iff.1 a; have hb := inB_iff.1 b
  rw [inB_iff.2 (show -s.speed ≤ _ ∧ _ ≤ s.speed by omega), inB_iff.2 (show -s.speed ≤ _ ∧ _ ≤ s.speed by omega)]; rfl
theorem slow_ok {s : Sea} {sp : Int} {t : Nat → Int} {a b : Nat} (h0 : 0 ≤ sp) (h1 : sp ≤ s.speed) (h : okT (slow s sp) t a b) : okT s t a b :=
  ⟨fun k k1 k2 => by have := h.1 k k1 k2; rwa [slow_cells] at this, fun k k1 k2 => slow_step h0 h1 (h.2 k k1 k2)⟩
theorem slow_cost {s : Sea} {rs : List Rp} {sp : Int} {t : Nat → Int} {a : Nat} : ∀ n, costT (slow s sp) rs t a n = costT s rs t a n
  | 0 => rfl
  | n + 1 => by rw [costT, costT, slow_cost n]; rfl
theorem slow_err {s : Sea} {rs : List Rp} (her : err s rs = 0) {sp : Int} (h0 : 0 ≤ sp) (h1 : sp ≤ s.speed) : err (slow s sp) rs = 0 := by
  obtain ⟨hv, hr⟩ := err_hd her
  have hr2 : rpsB (slow s sp) rs = true := hr
  unfold err chk
  rw [if_pos (slow_sea hv h0 h1), if_neg (by simp), if_pos hr2]
section
variable {s : Sea} {rs : List Rp} (her : err s rs = 0) {wr h : Int} (ha : askB s wr h = true)
include her ha
theorem sub_wr {w2 : Int} (h0 : 0 ≤ w2) (h1 : w2 ≤ wr) : ∀ c ∈ canL s rs w2 h, c ∈ canL s rs wr h := by
  obtain ⟨hv, hr⟩ := err_hd her
  have hk := askB_iff.1 ha
  intro c hc
  obtain ⟨t, ht, e, h2⟩ := (mem_canL hv hr (by omega) hk.2.2.1 hk.2.2.2).1 hc
  exact (mem_canL hv hr (by omega) hk.2.2.1 hk.2.2.2).2 ⟨t, ht, e, by omega⟩
theorem sub_rp {r : Rp} (her2 : err s (rs ++ [r]) = 0) : ∀ c ∈ canL s (rs ++ [r]) wr h, c ∈ canL s rs wr h := by
  obtain ⟨hv, hr⟩ := err_hd her
  obtain ⟨_, hr2⟩ := err_hd her2
  have hk := askB_iff.1 ha
  intro c hc
  obtain ⟨t, ht, e, h2⟩ := (mem_canL hv hr2 (by omega) hk.2.2.1 hk.2.2.2).1 hc
  rw [cost_app] at h2
  have := costT_bd (s := s) (rs := [r]) (t := t) (a := 0) (n := s.hours.toNat)
  exact (mem_canL hv hr (by omega) hk.2.2.1 hk.2.2.2).2 ⟨t, ht, e, by omega⟩
theorem sub_slow {sp : Int} (h0 : 0 ≤ sp) (h1 : sp ≤ s.speed) : ∀ c ∈ canL (slow s sp) rs wr h, c ∈ canL s rs wr h := by
  obtain ⟨hv, hr⟩ := err_hd her
  obtain ⟨hv2, hr2⟩ := err_hd (slow_err her h0 h1)
  have hk := askB_iff.1 ha
  intro c hc
  obtain ⟨t, ht, e, h2⟩ := (mem_canL hv2 hr2 (by omega) hk.2.2.1 hk.2.2.2).1 hc
  rw [slow_cost] at h2
  exact (mem_canL hv hr (by omega) hk.2.2.1 hk.2.2.2).2 ⟨t, slow_ok h0 h1 ht, e, h2⟩
end
theorem err_app {s : Sea} {rs : List Rp} (her : err s rs = 0) (r : Rp) : err s (rs ++ [r]) = 0 ∨ err s (rs ++ [r]) = 11 := by
  obtain ⟨hv, _⟩ := err_hd her
  unfold err chk
  rw [if_pos hv, if_neg (by simp)]
  split
  · exact .inl rfl
  · exact .inr rfl
/-- The law of more reports, fewer lies, less speed: what each of the three answers. -/
theorem more_rp {s : Sea} {rs : List Rp} (her : err s rs = 0) {wr h : Int} (ha : askB s wr h = true) (r : Rp) : ((canR s (rs ++ [r]) wr h).2 = 0 ∨ (canR s (rs ++ [r]) wr h).2 = 12 ∨ (canR s (rs ++ [r]) wr h).2 = 11) ∧ (∀ c ∈ (canR s (rs ++ [r]) wr h).1, c ∈ (canR s rs wr h).1) ∧ ((canR s rs wr h).2 ≠ 0 → (canR s (rs ++ [r]) wr h).2 ≠ 0 ∧ (canR s (rs ++ [r]) wr h).1 = []) := by
  rcases err_app her r with he | he
  · have hsub := sub_rp her ha he
    rcases can_cases he ha with ⟨h1, h2⟩ | ⟨h1, h2⟩
    · rw [h2]; exact ⟨.inr (.inl rfl), fun c hc => by simp at hc, fun _ => ⟨by simp, rfl⟩⟩
    · rw [h2]
      rcases can_cases her ha with ⟨h3, h4⟩ | ⟨h3, h4⟩
      · exfalso; apply h1; apply List.eq_nil_iff_forall_not_mem.2; intro c hc; have := hsub c hc; rw [h3] at this; simp at this
      · rw [h4]; exact ⟨.inl rfl, hsub, fun h5 => absurd rfl h5⟩
  · have : canR s (rs ++ [r]) wr h = ([], 11) := by unfold canR; rw [if_pos (by omega), he]
    rw [this]; exact ⟨.inr (.inr rfl), fun c hc => by simp at hc, fun _ => ⟨by simp, rfl⟩⟩
theorem more_gen {s s2 : Sea} {rs : List Rp} (her : err s rs = 0) (her2 : err s2 rs = 0) {wr w2 h : Int} (ha : askB s wr h = true) (ha2 : askB s2 w2 h = true) (hsub : ∀ c ∈ canL s2 rs w2 h, c ∈ canL s rs wr h) :
    ((canR s2 rs w2 h).2 = 0 ∨ (canR s2 rs w2 h).2 = 12) ∧ (∀ c ∈ (canR s2 rs w2 h).1, c ∈ (canR s rs wr h).1) ∧ ((canR s rs wr h).2 ≠ 0 → (canR s2 rs w2 h).2 = 12 ∧ (canR s2 rs w2 h).1 = []) := by
  rcases can_cases her2 ha2 with ⟨h1, h2⟩ | ⟨h1, h2⟩
  · rw [h2]; exact ⟨.inr rfl, fun c hc => by simp at hc, fun _ => ⟨rfl, rfl⟩⟩
  · rw [h2]
    rcases can_cases her ha with ⟨h3, h4⟩ | ⟨h3, h4⟩
    · exfalso; apply h1; apply List.eq_nil_iff_forall_not_mem.2; intro c hc; have := hsub c hc; rw [h3] at this; simp at this
    · rw [h4]; exact ⟨.inl rfl, hsub, fun h5 => absurd rfl h5⟩
end Go.Proofs.Ytgihgcclabodbaa.DK
