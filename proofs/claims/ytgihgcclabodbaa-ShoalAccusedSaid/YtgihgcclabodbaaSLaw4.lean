/- What the law of the false report says, in plain words. -/
import Derived.Test.YtgihgcclabodbaaSLaw2
namespace Go.Proofs.Ytgihgcclabodbaa.DK
open Go
set_option linter.unusedVariables false
set_option linter.unusedSectionVars false

theorem mem_liar {s : Sea} {rs : List Rp} {x : Int} : ∀ n, x ∈ liarK s rs n ↔ ∃ i : Nat, i < n ∧ x = (i : Int) ∧ ((cellsA s 0).any fun c => freeB s rs c ((rqs s rs).getD i default)) = false
  | 0 => by
    constructor
    · intro h; simp [liarK] at h
    · rintro ⟨i, hi, _⟩; omega
  | n + 1 => by
    have ih := mem_liar (s := s) (rs := rs) (x := x) n
    rw [liarK]
    cases hb : (cellsA s 0).any fun c => freeB s rs c ((rqs s rs).getD n default) with
    | true =>
      rw [cond_true, ih]
      constructor
      · rintro ⟨i, hi, h1, h2⟩; exact ⟨i, by omega, h1, h2⟩
      · rintro ⟨i, hi, h1, h2⟩
        refine ⟨i, ?_, h1, h2⟩
        rcases Nat.lt_or_ge i n with h | h
        · exact h
        · rw [show i = n by omega, hb] at h2; cases h2
    | false =>
      rw [cond_false, List.mem_append, ih, List.mem_singleton]
      constructor
      · rintro (⟨i, hi, h1, h2⟩ | rfl)
        · exact ⟨i, by omega, h1, h2⟩
        · exact ⟨n, by omega, rfl, hb⟩
      · rintro ⟨i, hi, h1, h2⟩
        rcases Nat.lt_or_ge i n with h | h
        · exact .inl ⟨i, h, h1, h2⟩
        · right; rw [h1]; congr 1; omega
theorem liar_ris {s : Sea} {rs : List Rp} {m : Int} : ∀ n : Nat, (n : Int) ≤ m → risF m (-1) (liarK s rs n) = true := by
  intro n hn
  have hp : ∀ k, (liarK s rs k).Pairwise (· < ·) ∧ ∀ x ∈ liarK s rs k, 0 ≤ x ∧ x < (k : Int) := by
    intro k
    induction k with
    | zero => exact ⟨List.Pairwise.nil, fun x hx => by simp [liarK] at hx⟩
    | succ k ih =>
      rw [liarK]
      cases (cellsA s 0).any fun c => freeB s rs c ((rqs s rs).getD k default) with
      | true => rw [cond_true]; exact ⟨ih.1, fun x hx => by have := ih.2 x hx; omega⟩
      | false =>
        rw [cond_false]
        refine ⟨List.pairwise_append.2 ⟨ih.1, List.pairwise_singleton _ _, fun x hx y hy => ?_⟩, fun x hx => ?_⟩
        · rw [List.mem_singleton.1 hy]; exact (ih.2 x hx).2
        · rcases List.mem_append.1 hx with h | h
          · have := ih.2 x h; omega
          · rw [List.mem_singleton.1 h]; omega
  refine pw_ris _ _ (hp n).1 fun x hx => ?_
  have := (hp n).2 x hx
  omega
theorem rq_at {s : Sea} {rs : List Rp} {i : Nat} (h : i < rs.length) : (rqs s rs).getD i default = rq s (rs.getD i default) := by
  unfold rqs
  simp [List.getD_eq_getElem?_getD, h]
section
variable {s : Sea} {rs : List Rp} (her : err s rs = 0) (hm : minT s rs < 1048576)
include her hm
/-- A report can be true of a best track, or it is named. -/
theorem free_iff {i : Nat} (hi : i < rs.length) : ((cellsA s 0).any fun c => freeB s rs c ((rqs s rs).getD i default)) = true ↔ ∃ t, okT s t 0 s.hours.toNat ∧ costT s rs t 0 s.hours.toNat ≤ minT s rs ∧ badX s t (rq s (rs.getD i default)) = false := by
  obtain ⟨hv, hr⟩ := err_hd her
  have h1 := (rp_ok hr).2 i hi
  have hs := sea_ok hv
  rw [rq_at hi]
  obtain ⟨x, hx⟩ : ∃ x, rs.getD i default = x := ⟨_, rfl⟩
  rw [hx] at h1 ⊢
  have hh : (rq s x).hr.toNat < s.hours.toNat := by show x.hr.toNat < _; omega
  rw [List.any_eq_true]
  constructor
  · rintro ⟨c, hc, hf⟩
    unfold freeB at hf
    rw [allR_h hh] at hf
    cases h2 : (allF s rs (rq s x).hr.toNat c.toNat == minT s rs) with
    | false => rw [h2] at hf; cases hf
    | true =>
      rw [h2, cond_true] at hf
      have h3 : allF s rs (rq s x).hr.toNat c.toNat = minT s rs := by simpa using h2
      obtain ⟨t, ht, e, hct⟩ := (allF_le hv hr hh hc hm).1 (Int.le_of_eq h3)
      refine ⟨t, ht, hct, ?_⟩
      unfold badX
      rw [e, hf]; rfl
  · rintro ⟨t, ht, hct, hb⟩
    have hc := ht.1 (rq s x).hr.toNat (by omega) (by omega)
    have hc0 : t (rq s x).hr.toNat ∈ cellsA s 0 := hc
    refine ⟨t (rq s x).hr.toNat, hc0, ?_⟩
    have h3 := (allF_le hv hr hh hc0 hm).2 ⟨t, ht, rfl, hct⟩
    obtain ⟨t2, ht2, _, hct2⟩ := (allF_le hv hr hh hc0 (m := allF s rs (rq s x).hr.toNat (t (rq s x).hr.toNat).toNat) (by omega)).1 (Int.le_refl _)
    have h4 := (minT_le hv hr (m := allF s rs (rq s x).hr.toNat (t (rq s x).hr.toNat).toNat) (by omega)).2 ⟨t2, ht2, hct2⟩
    unfold freeB
    rw [allR_h hh, show (allF s rs (rq s x).hr.toNat (t (rq s x).hr.toNat).toNat == minT s rs) = true by simp; omega, cond_true]
    unfold badX at hb
    simpa using hb
/-- What is named is false of each best track. -/
theorem liar_bad {t : Nat → Int} (ht : okT s t 0 s.hours.toNat) (hc : costT s rs t 0 s.hours.toNat ≤ minT s rs) {i : Nat} (hi : i < rs.length) (hn : (i : Int) ∈ liarK s rs rs.length) : badX s t (rq s (rs.getD i default)) = true := by
  cases hb : badX s t (rq s (rs.getD i default)) with
  | true => rfl
  | false =>
    obtain ⟨j, hj, e, hf⟩ := (mem_liar rs.length).1 hn
    rw [show j = i by omega] at hf
    rw [(free_iff her hm hi).2 ⟨t, ht, hc, hb⟩] at hf; cases hf
theorem liar_len : ((liarK s rs rs.length).length : Int) ≤ minT s rs := by
  obtain ⟨hv, hr⟩ := err_hd her
  have hrp := rp_ok hr
  obtain ⟨ht, hc⟩ := firstT_ok hv hr hm
  have key : ∀ k, k ≤ rs.length → (liarK s rs k).length ≤ ((rs.take k).filter fun x => badX s (tkF (firstT s rs)) (rq s x)).length := by
    intro k
    induction k with
    | zero => intro _; simp [liarK]
    | succ k ih =>
      intro hk
      have ih := ih (by omega)
      have e : rs.getD k default = rs[k] := by simp [List.getD_eq_getElem?_getD, show k < rs.length by omega]
      rw [List.take_succ_eq_append_getElem (by omega), List.filter_append, List.length_append, ← e, liarK]
      cases hf : (cellsA s 0).any fun c => freeB s rs c ((rqs s rs).getD k default) with
      | true => rw [cond_true]; omega
      | false =>
        have hb : badX s (tkF (firstT s rs)) (rq s (rs.getD k default)) = true := by
          cases hb : badX s (tkF (firstT s rs)) (rq s (rs.getD k default)) with
          | true => rfl
          | false => rw [(free_iff her hm (show k < rs.length by omega)).2 ⟨_, ht, by omega, hb⟩] at hf; cases hf
        rw [cond_false, List.length_append]
        simp only [List.filter_cons, hb, if_true, List.filter_nil, List.length_singleton]
        omega
  have h1 := key rs.length (Nat.le_refl _)
  rw [List.take_length] at h1
  have h2 : ((rs.filter fun x => badX s (tkF (firstT s rs)) (rq s x)).length : Int) = costT s rs (tkF (firstT s rs)) 0 s.hours.toNat := by
    rw [← told_count her (T := firstT s rs) (H := s.hours.toNat) (by have := sea_ok hv; omega)]
    congr 3
    funext x
    rw [told_eq, Bool.not_not]
  omega
theorem liar_val : liarR s rs = (liarK s rs rs.length, 0) ∧ leastR s rs = (minT s rs, firstT s rs, 0) := by
  unfold liarR leastR
  rw [if_neg (by omega), if_neg (by omega), if_neg (by omega), if_neg (by omega)]
  exact ⟨rfl, rfl⟩
/-- With a report so often that it cannot be false. -/
theorem accused_law {i m : Nat} (hi : i < rs.length) (hmm : (m : Int) = minT s rs + 1) (hl : rs.length + m ≤ 24) :
    cond ((leastR s (rs ++ List.replicate m (rs.getD i default))).2.2 == 0) (((leastR s (rs ++ List.replicate m (rs.getD i default))).1 == (leastR s rs).1) == decide (placeI (liarR s rs).1 (i : Int) < 0)) false = true := by
  obtain ⟨hv, hr⟩ := err_hd her
  have hrp := rp_ok hr
  have hs := sea_ok hv
  have h1 := hrp.2 i hi
  obtain ⟨x, hx⟩ : ∃ x, rs.getD i default = x := ⟨_, rfl⟩
  have hxm : x ∈ rs := by rw [← hx]; exact getD_mem hi
  obtain ⟨e1, e2⟩ := liar_val her hm
  have hr2 : rpsB s (rs ++ List.replicate m x) = true := rps_app hr (fun y hy => by
    rw [List.eq_of_mem_replicate hy]
    simp only [rpsB, Bool.and_eq_true, List.all_eq_true] at hr
    exact hr.2 x hxm) (by rw [List.length_replicate]; exact hl)
  have her2 : err s (rs ++ List.replicate m x) = 0 := by unfold err chk; rw [if_pos hv, if_neg (by simp), if_pos hr2]
  rw [hx] at h1
  have hcost : ∀ t : Nat → Int, costT s (rs ++ List.replicate m x) t 0 s.hours.toNat = costT s rs t 0 s.hours.toNat + cond (badX s t (rq s x)) (m : Int) 0 := by
    intro t
    rw [cost_app, cost_rep (by omega) (by omega)]
  obtain ⟨hft, hfc⟩ := firstT_ok hv hr hm
  have hfb : costT s (rs ++ List.replicate m x) (tkF (firstT s rs)) 0 s.hours.toNat ≤ minT s rs + m := by
    rw [hcost]; cases badX s (tkF (firstT s rs)) (rq s x)
    · rw [cond_false]; omega
    · rw [cond_true]; omega
  have hcb := costT_len (s := s) (rs := rs) (t := tkF (firstT s rs)) (a := 0) (n := s.hours.toNat)
  have hm2 := (minT_le hv hr2 (m := minT s rs + m) (by omega)).2 ⟨_, hft, hfb⟩
  have hlow : minT s rs ≤ minT s (rs ++ List.replicate m x) := by
    obtain ⟨t, ht, hct⟩ := (minT_le hv hr2 (m := minT s (rs ++ List.replicate m x)) (by omega)).1 (Int.le_refl _)
    refine (minT_le hv hr (by omega)).2 ⟨t, ht, ?_⟩
    rw [hcost] at hct
    cases hb : badX s t (rq s x) <;> rw [hb] at hct
    · rw [cond_false] at hct; omega
    · rw [cond_true] at hct; omega
  have key : minT s (rs ++ List.replicate m x) ≤ minT s rs ↔ ¬ (i : Int) ∈ liarK s rs rs.length := by
    rw [minT_le hv hr2 hm, mem_liar]
    constructor
    · rintro ⟨t, ht, hct⟩ ⟨j, hj, e, hf⟩
      rw [hcost] at hct
      have hb : badX s t (rq s x) = false := by
        cases hb : badX s t (rq s x) with
        | false => rfl
        | true =>
          rw [hb, cond_true] at hct
          have := costT_bd (s := s) (rs := rs) (t := t) (a := 0) (n := s.hours.toNat)
          omega
      rw [hb, cond_false] at hct
      rw [show j = i by omega] at hf
      rw [(free_iff her hm hi).2 ⟨t, ht, by omega, by rw [hx]; exact hb⟩] at hf; cases hf
    · intro hn
      cases hf : (cellsA s 0).any fun c => freeB s rs c ((rqs s rs).getD i default) with
      | false => exact absurd ⟨i, hi, rfl, hf⟩ hn
      | true =>
        obtain ⟨t, ht, hct, hb⟩ := (free_iff her hm hi).1 hf
        rw [hx] at hb
        exact ⟨t, ht, by rw [hcost, hb, cond_false]; omega⟩
  rw [hx, e1, e2]
  have h4 : leastR s (rs ++ List.replicate m x) = (minT s (rs ++ List.replicate m x), firstT s (rs ++ List.replicate m x), 0) := by
    rcases least_cases her2 with ⟨h3, _⟩ | ⟨_, h4⟩
    · omega
    · exact h4
  rw [h4]
  generalize minT s (rs ++ List.replicate m x) = q at key hlow ⊢
  generalize firstT s (rs ++ List.replicate m x) = q2
  show cond ((0 : Int) == 0) ((q == minT s rs) == decide (placeI (liarK s rs rs.length) (i : Int) < 0)) false = true
  have hp := placeI_neg (liarK s rs rs.length) (i : Int)
  by_cases hn : (i : Int) ∈ liarK s rs rs.length
  · rw [decide_eq_true hn] at hp
    have hk : ¬ q ≤ minT s rs := fun h => (key.1 h) hn
    rw [show (q == minT s rs) = false by simp; omega, decide_eq_false (by simpa using hp)]; rfl
  · rw [decide_eq_false hn] at hp
    have hk := key.2 hn
    rw [show (q == minT s rs) = true by simp; omega, decide_eq_true (by simpa using hp)]; rfl
end
/-- Once none are named since there is an error. -/
theorem liar_err {s : Sea} {rs : List Rp} {n : Nat} (hn : (liarR s rs).1.length = n) (hb : cond ((liarR s rs).2 != 0) true (!(err s rs == 0)) = true) : cond (cond ((n : Int) == 0) (cond ((liarR s rs).2 == (leastR s rs).2.2) true (!(err s rs == 0))) false) true false = true := by
  unfold liarR leastR at *
  by_cases h1 : err s rs ≠ 0
  · rw [if_pos h1] at *
    rw [if_pos h1] 
    have hn : n = 0 := hn.symm
    subst hn
    show cond (cond (((0 : Nat) : Int) == 0) (cond (err s rs == err s rs) true (!(err s rs == 0))) false) true false = true
    rw [beq_self_eq_true]; rfl
  · rw [if_neg h1] at *
    rw [if_neg h1]
    by_cases h2 : minT s rs ≥ 1048576
    · rw [if_pos h2] at *
      rw [if_pos h2]
      have hn : n = 0 := hn.symm
      subst hn; rfl
    · rw [if_neg h2] at hb
      rw [show err s rs = 0 by omega] at hb; cases hb
theorem liar_good {s : Sea} {rs : List Rp} (hb : cond ((liarR s rs).2 != 0) true (!(err s rs == 0)) = false) : err s rs = 0 ∧ minT s rs < 1048576 := by
  have he : err s rs = 0 := by
    cases h : ((liarR s rs).2 != 0)
    · rw [h, cond_false] at hb; simpa using hb
    · rw [h] at hb; cases hb
  refine ⟨he, ?_⟩
  rcases Int.lt_or_le (minT s rs) 1048576 with h | h
  · exact h
  · unfold liarR at hb
    rw [if_neg (by omega), if_pos h] at hb; cases hb
section
variable {s : Sea} {rs : List Rp} (her : err s rs = 0) (hm : minT s rs < 1048576)
include her hm
theorem acc_dead {n a : Nat} (hn : rs.length = n) (ha : (liarR s rs).1.length = a) : cond (cond ((leastR s rs).2.2 != 0) true (!(risF (n : Int) (-1) (liarR s rs).1))) true (decide ((a : Int) > (leastR s rs).1)) = false := by
  obtain ⟨e1, e2⟩ := liar_val her hm
  have hl := liar_len her hm
  have hr := liar_ris (s := s) (rs := rs) (m := (n : Int)) rs.length (by omega)
  rw [e1] at ha
  have ha : (liarK s rs rs.length).length = a := ha
  rw [e1, e2]
  show cond (cond ((0 : Int) != 0) true (!(risF (n : Int) (-1) (liarK s rs rs.length)))) true (decide ((a : Int) > minT s rs)) = false
  rw [hr, decide_eq_false (by omega)]; rfl
theorem acc_least : 0 ≤ (leastR s rs).1 ∧ (leastR s rs).1 ≤ rs.length ∧ (leastR s rs).1 = minT s rs := by
  obtain ⟨hv, hr⟩ := err_hd her
  obtain ⟨_, e2⟩ := liar_val her hm
  obtain ⟨ht, hc⟩ := firstT_ok hv hr hm
  have h1 := costT_bd (s := s) (rs := rs) (t := tkF (firstT s rs)) (a := 0) (n := s.hours.toNat)
  have h2 := costT_len (s := s) (rs := rs) (t := tkF (firstT s rs)) (a := 0) (n := s.hours.toNat)
  rw [e2]
  show 0 ≤ minT s rs ∧ minT s rs ≤ rs.length ∧ minT s rs = minT s rs
  omega
theorem acc_step {T : List Int} {a : Nat} (ha : (liarR s rs).1.length = a) {m : Nat} (hb : cond (cond (decide ((m : Int) < (a : Int))) (trackR s rs T).2.1 false) ((trackR s rs T).1 == (leastR s rs).1) false = true) :
    m < a ∧ (T.length : Int) = s.hours ∧ (0 ≤ (liarR s rs).1.getD m default ∧ (liarR s rs).1.getD m default < rs.length) ∧ toldB s (rs.getD ((liarR s rs).1.getD m default).toNat default) T = false ∧ okT s (tkF T) 0 s.hours.toNat := by
  obtain ⟨hv, hr⟩ := err_hd her
  have hs := sea_ok hv
  obtain ⟨e1, e2⟩ := liar_val her hm
  have h1 : m < a ∧ (trackR s rs T).2.1 = true ∧ (trackR s rs T).1 = (leastR s rs).1 := by
    cases h1 : decide ((m : Int) < (a : Int)) with
    | false => rw [h1] at hb; cases hb
    | true =>
      cases h2 : (trackR s rs T).2.1 with
      | false => rw [h1, h2] at hb; cases hb
      | true =>
        rw [h1, h2, cond_true, cond_true] at hb
        exact ⟨by have := of_decide_eq_true h1; omega, rfl, eq_of_beq hb⟩
  obtain ⟨hma, hi, hc⟩ := h1
  have hlen : (T.length : Int) = s.hours := by
    rcases Classical.em ((T.length : Int) = s.hours) with h | h
    · exact h
    · rw [track_short her h] at hi; cases hi
  have hok : okT s (tkF T) 0 T.length := by
    refine isTr_iff.1 ?_
    cases h : isTrB s T with
    | true => rfl
    | false =>
      unfold trackR at hi
      rw [if_neg (by omega), if_neg (by omega), if_neg (by rw [h]; simp)] at hi
      cases hi
  have hH : T.length = s.hours.toNat := by omega
  rw [track_full her hlen hok, e2] at hc
  rw [hH] at hc hok
  have hc : costT s rs (tkF T) 0 s.hours.toNat = minT s rs := hc
  rw [e1] at ha ⊢
  have ha : (liarK s rs rs.length).length = a := ha
  have hmem : (liarK s rs rs.length).getD m default ∈ liarK s rs rs.length := getD_mem (by omega)
  show m < a ∧ (T.length : Int) = s.hours ∧ (0 ≤ (liarK s rs rs.length).getD m default ∧ (liarK s rs rs.length).getD m default < rs.length) ∧ toldB s (rs.getD ((liarK s rs rs.length).getD m default).toNat default) T = false ∧ okT s (tkF T) 0 s.hours.toNat
  generalize (liarK s rs rs.length).getD m default = y at *
  obtain ⟨i, hi2, rfl, _⟩ := (mem_liar rs.length).1 hmem
  refine ⟨hma, hlen, by omega, ?_, hok⟩
  rw [told_eq, Int.toNat_natCast, liar_bad her hm hok (by omega) hi2 hmem]; rfl
end
end Go.Proofs.Ytgihgcclabodbaa.DK
