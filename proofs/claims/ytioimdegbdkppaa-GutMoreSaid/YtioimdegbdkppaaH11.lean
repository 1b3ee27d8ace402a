/- Until when lots keep; heats that numbers choose. -/
import Derived.Test.YtioimdegbdkppaaH10
namespace Go.Proofs.Ytioimdegbdkppaa.DK
open Go
set_option linter.unusedVariables false

theorem fsum_left (f : Nat → Int) : ∀ n, fsum (n + 1) f = f 0 + fsum n fun i => f (i + 1)
  | 0 => by rw [fsum_succ, fsum_zero, fsum_zero]; omega
  | n + 1 => by rw [fsum_succ, fsum_left f n, fsum_succ]; omega
/-- The heats of k hours from one on. -/
def hsum (e : Sp → Int) (heat : List Sp) (h k : Nat) : Int := fsum k fun j => e (heat.getD (h + j) default)
theorem hsum_left (e : Sp → Int) (heat : List Sp) (h k : Nat) : hsum e heat h (k + 1) = e (heat.getD h default) + hsum e heat (h + 1) k := by
  unfold hsum
  rw [fsum_left]
  congr 1
  exact fsum_congr _ fun j _ => by rw [show h + 1 + j = h + (j + 1) from by omega]
theorem keep_spec {e : Sp → Int} {la : Int} {heat : List Sp} (he : ∀ x ∈ heat, 0 ≤ e x) : ∀ (m h : Nat) (n : Int), h + m = heat.length → la ≤ h → 0 ≤ n →
    (h : Int) - 1 ≤ keepGo e la (heat.drop h) h n (h - 1) ∧ keepGo e la (heat.drop h) h n (h - 1) < heat.length ∧ (∀ k : Nat, (h : Int) + k ≤ keepGo e la (heat.drop h) h n (h - 1) + 1 → hsum e heat h k ≤ n) ∧
    (keepGo e la (heat.drop h) h n (h - 1) + 1 < heat.length → n < hsum e heat h (keepGo e la (heat.drop h) h n (h - 1) + 2 - h).toNat)
  | 0, h, n, hm, hl, hn => by
    rw [List.drop_of_length_le (by omega)]
    show (h : Int) - 1 ≤ (h : Int) - 1 ∧ (h : Int) - 1 < heat.length ∧ (∀ k : Nat, (h : Int) + k ≤ (h : Int) - 1 + 1 → hsum e heat h k ≤ n) ∧ ((h : Int) - 1 + 1 < heat.length → n < hsum e heat h ((h : Int) - 1 + 2 - h).toNat)
    refine ⟨by omega, by omega, fun k hk => ?_, fun h2 => by omega⟩
    have : k = 0 := by omega
    subst this; exact hn
  | m + 1, h, n, hm, hl, hn => by
    have hh : h < heat.length := by omega
    have hx := he _ (getD_mem hh)
    by_cases hc : n - e (heat.getD h default) < 0
    · rw [keepGo_stop hh (by omega) hc]
      refine ⟨by omega, by omega, fun k hk => ?_, fun h2 => ?_⟩
      · have : k = 0 := by omega
        subst this; exact hn
      · rw [show ((h : Int) - 1 + 2 - h).toNat = 0 + 1 from by omega, hsum_left]
        have : hsum e heat (h + 1) 0 = 0 := rfl
        omega
    · rw [keepGo_ge hh (by omega) hc]
      have e1 : (h : Int) = ((h + 1 : Nat) : Int) - 1 := by omega
      have ih := keep_spec (la := la) he m (h + 1) (n - e (heat.getD h default)) (by omega) (by omega) (by omega)
      rw [← e1] at ih
      obtain ⟨h1, h2, h3, h4⟩ := ih
      refine ⟨by omega, h2, fun k hk => ?_, fun h5 => ?_⟩
      · cases k with
        | zero => exact hn
        | succ k =>
          rw [hsum_left]
          have := h3 k (by omega)
          omega
      · have h6 := h4 h5
        generalize keepGo e la (heat.drop (h + 1)) ((h + 1 : Nat) : Int) (n - e (heat.getD h default)) h = r at *
        rw [show (r + 2 - (h : Int)).toNat = (r + 2 - ((h + 1 : Nat) : Int)).toNat + 1 from by omega, hsum_left]
        omega
section
variable {d : Day}
theorem until_spec {e : Sp → Int} (hv : dayV d = true) (he : ∀ x, spB x = true → 0 ≤ e x) {i : Nat} (hi : i < d.lots.length) :
    (d.lots.getD i default).la - 1 ≤ untils e d i ∧ untils e d i < d.hours ∧ (∀ k : Nat, (d.lots.getD i default).la + k ≤ untils e d i + 1 → hsum e d.heat (d.lots.getD i default).la.toNat k ≤ (d.lots.getD i default).ke) ∧
    (untils e d i + 1 < d.hours → (d.lots.getD i default).ke < hsum e d.heat (d.lots.getD i default).la.toNat (untils e d i + 2 - (d.lots.getD i default).la).toNat) := by
  have hl := lot_ok hv hi
  have hd := day_ok hv
  have hall : ∀ x ∈ d.heat, 0 ≤ e x := fun x hx => by
    simp only [dayV, Bool.and_eq_true, List.all_eq_true] at hv
    exact he x (hv.1.1.2 x hx)
  have hu : untils e d i = keepGo e (d.lots.getD i default).la (d.heat.drop (d.lots.getD i default).la.toNat) (d.lots.getD i default).la.toNat (d.lots.getD i default).ke ((d.lots.getD i default).la.toNat - 1) := by
    unfold untils ufs untilL
    rw [if_pos hi]
    have h1 := keep_skip (e := e) (la := (d.lots.getD i default).la) d.heat 0 (d.lots.getD i default).ke ((d.lots.getD i default).la - 1) (by omega) (by omega)
    have h2 : ((d.lots.getD i default).la - ((0 : Nat) : Int)).toNat = (d.lots.getD i default).la.toNat := by omega
    rw [h2] at h1
    refine h1.trans ?_
    congr 1 <;> omega
  have hs := keep_spec (e := e) (la := (d.lots.getD i default).la) hall (d.heat.length - (d.lots.getD i default).la.toNat) (d.lots.getD i default).la.toNat (d.lots.getD i default).ke (by omega) (by omega) (by omega)
  rw [← hu] at hs
  rw [show (((d.lots.getD i default).la.toNat : Nat) : Int) = (d.lots.getD i default).la from by omega] at hs
  obtain ⟨h1, h2, h3, h4⟩ := hs
  exact ⟨h1, by omega, h3, fun h => h4 (by omega)⟩
theorem tmod_neg {n b : Int} (hb : 0 < b) (h : Int.tmod n b < 0) : Int.tmod n b + b = n % b := by
  have h1 := Int.emod_nonneg n (show b ≠ 0 by omega); have h2 := Int.emod_lt_of_pos n hb
  rw [Int.tmod_eq_emod] at h ⊢
  split at h <;> rename_i hc
  · omega
  · rw [if_neg hc]; omega
theorem tmod_nn {n b : Int} (hb : 0 < b) (h : ¬ Int.tmod n b < 0) : Int.tmod n b = n % b := by
  have h1 := Int.emod_nonneg n (show b ≠ 0 by omega); have h2 := Int.emod_lt_of_pos n hb
  rw [Int.tmod_eq_emod] at h ⊢
  split at h <;> rename_i hc
  · rw [if_pos hc]; omega
  · omega
theorem tmod_bd {n b : Int} (hb : 0 < b) : -b < Int.tmod n b ∧ Int.tmod n b < b := by
  have h1 := Int.emod_nonneg n (show b ≠ 0 by omega); have h2 := Int.emod_lt_of_pos n hb
  rw [Int.tmod_eq_emod]
  split <;> omega
def pickI (bits : List Int) (h : Int) : Int := cond ((bits.length : Int) == 0) 0 (bits.getD (h % (bits.length : Int)).toNat default)
def chosenI (lo hi n : Int) : Int := cond (decide (hi ≤ lo)) lo (lo + n % (hi - lo + 1))
theorem chosen_in {lo hi n : Int} (h : lo ≤ hi) : lo ≤ chosenI lo hi n ∧ chosenI lo hi n ≤ hi := by
  unfold chosenI
  by_cases hc : hi ≤ lo
  · rw [decide_eq_true hc]; simp only [cond_true]; omega
  · rw [decide_eq_false hc]
    have h1 := Int.emod_nonneg n (show hi - lo + 1 ≠ 0 by omega); have h2 := Int.emod_lt_of_pos n (show 0 < hi - lo + 1 by omega)
    simp only [cond_false]; omega
/-- The heats that numbers choose. -/
def warmI (d : Day) (bits : List Int) (h : Nat) : Int := chosenI (d.heat.getD h default).lo (d.heat.getD h default).hi (pickI bits h)
def warmL (d : Day) (bits : List Int) (k : Nat) : List Int := (List.range k).map (warmI d bits)
theorem warmL_len (d : Day) (bits : List Int) (k : Nat) : (warmL d bits k).length = k := by unfold warmL; simp
theorem warmL_succ (d : Day) (bits : List Int) (k : Nat) : warmL d bits (k + 1) = warmL d bits k ++ [warmI d bits k] := by unfold warmL; rw [List.range_succ, List.map_append]; rfl
theorem warmL_at {bits : List Int} {k h : Nat} (hh : h < k) : (warmL d bits k).getD h default = warmI d bits h := by
  unfold warmL
  rw [List.getD_eq_getElem?_getD, List.getElem?_map, List.getElem?_range hh]; rfl
theorem warm_in (hv : dayV d = true) (bits : List Int) {h : Nat} (hh : h < d.heat.length) : (d.heat.getD h default).lo ≤ warmI d bits h ∧ warmI d bits h ≤ (d.heat.getD h default).hi := chosen_in (sp_ok hv hh).2.1
/-- What can be taken keeps, however hot the hours are. -/
theorem warm_keeps (hv : dayV d = true) (bits : List Int) {n : Nat} (hn : d.heat.length = n) {i : Nat} (hi : i < d.lots.length) {k : Nat} (hk : (d.lots.getD i default).la + k ≤ hot d i + 1) :
    (fsum k fun j => (warmL d bits n).getD ((d.lots.getD i default).la.toNat + j) default) ≤ (d.lots.getD i default).ke := by
  obtain ⟨h1, h2, h3, _⟩ := until_spec (e := Sp.hi) hv (fun x hx => sp_hi hx) hi
  have hl := lot_ok hv hi
  have hd := day_ok hv
  have h4 : untils Sp.hi d i = hot d i := rfl
  rw [h4] at h2 h3
  subst hn
  refine Int.le_trans (fsum_le _ fun j hj => ?_) (h3 k hk)
  rw [warmL_at (by omega)]
  exact (warm_in hv bits (by omega)).2
theorem BestR.facts {plan : List Tk} {lost : Int} {ld : LD} (hv : dayV d = true) (h : BestR d plan lost ld) {t : Tk} (ht : t ∈ plan) :
    (0 ≤ t.lot ∧ t.lot < d.lots.length) ∧ (0 ≤ t.wk ∧ t.wk < d.wks.length) ∧ (0 ≤ t.hr ∧ t.hr ≤ d.hours - 1) ∧ (1 ≤ t.cr ∧ t.cr ≤ 20) ∧ bitB (d.lots.getD t.lot.toNat default).fi (d.wks.getD t.wk.toNat default).kd = true ∧
    ((d.wks.getD t.wk.toNat default).fr ≤ t.hr ∧ t.hr ≤ (d.wks.getD t.wk.toNat default).to) ∧ (d.lots.getD t.lot.toNat default).la ≤ t.hr ∧ t.hr ≤ hot d t.lot.toNat := by
  have h1 := h.task hv ht
  obtain ⟨i, s, h2, h3, h4, h5, rfl⟩ := h.mem t ht
  obtain ⟨g1, g2, g3, g4⟩ := mem_grid.1 h3
  unfold canB at h4
  cases hb : bitB (d.lots.getD (i : Int).toNat default).fi (d.wks.getD s.1.toNat default).kd with
  | false => rw [hb] at h4; cases h4
  | true =>
    cases hi : inB s.2 (d.wks.getD s.1.toNat default).fr (d.wks.getD s.1.toNat default).to with
    | false => rw [hb, hi] at h4; cases h4
    | true =>
      rw [hb, hi] at h4
      have e1 := inB_iff.1 hi
      have e2 := inB_iff.1 (show inB s.2 (d.lots.getD (i : Int).toNat default).la (hot d (i : Int).toNat) = true from h4)
      exact ⟨⟨h1.2.2.2.1, h1.2.2.2.2.1⟩, ⟨g1, g2⟩, ⟨g3, by show s.2 ≤ _; omega⟩, ⟨h1.2.1, h1.2.2.1⟩, rfl, e1, e2⟩
theorem dayB_wks (h : dayB d = true) : d.wks.length ≤ 6 := by
  simp only [dayB, headB, Bool.and_eq_true, decide_eq_true_eq] at h
  omega
theorem cond_tf (b : Bool) : cond b true false = b := by cases b <;> rfl
end
end Go.Proofs.Ytioimdegbdkppaa.DK
