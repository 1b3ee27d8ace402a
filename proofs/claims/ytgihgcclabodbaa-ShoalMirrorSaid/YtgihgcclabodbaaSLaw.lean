/- What the laws of the shoal and of the first track say, in plain words. -/
import Derived.Test.YtgihgcclabodbaaSSwu
namespace Go.Proofs.Ytgihgcclabodbaa.DK
open Go
set_option linter.unusedVariables false

theorem tkF_at {t : List Int} {k : Nat} : tkF t k = t.getD k default := rfl
section
variable {s : Sea} {rs : List Rp} (her : err s rs = 0)
include her
theorem track_full {T : List Int} (hl : (T.length : Int) = s.hours) (hok : okT s (tkF T) 0 T.length) : trackR s rs T = (costT s rs (tkF T) 0 T.length, true, 0) := by
  unfold trackR
  rw [if_neg (by omega), if_neg (by omega), if_pos (isTr_iff.2 hok), lieS_cost]
theorem track_short {T : List Int} (hl : (T.length : Int) ≠ s.hours) : trackR s rs T = (0, false, 0) := by
  unfold trackR
  rw [if_neg (by omega), if_pos hl]
theorem track_err {T : List Int} : (trackR s rs T).2.2 = 0 := by
  unfold trackR
  rw [if_neg (by omega)]
  split
  · rfl
  · split <;> rfl
theorem told_count {T : List Int} {H : Nat} (hH : (H : Int) = s.hours) : ((rs.filter fun x => !(toldB s x T)).length : Int) = costT s rs (tkF T) 0 H := by
  obtain ⟨hv, hr⟩ := err_hd her
  rw [costT_count]
  unfold rqs
  rw [List.filter_map, List.length_map]
  congr 2
  apply List.filter_congr
  intro x hx
  obtain ⟨i, hi, rfl⟩ := List.getElem_of_mem hx
  have h1 := (rp_ok hr).2 i hi
  have e : rs.getD i default = rs[i] := by simp [List.getD_eq_getElem?_getD, hi]
  rw [e] at h1
  rw [told_eq, Bool.not_not]
  show badX s (tkF T) (rq s rs[i]) = (inH 0 H (rq s rs[i]) && badX s (tkF T) (rq s rs[i]))
  have : inH 0 H (rq s rs[i]) = true := by
    unfold inH rq
    simp only [Bool.and_eq_true, decide_eq_true_eq]
    show ((0 : Nat) : Int) ≤ rs[i].hr ∧ rs[i].hr < ((0 : Nat) : Int) + (H : Int)
    omega
  rw [this, Bool.true_and]
theorem least_ok {t : Nat → Int} (ht : okT s t 0 s.hours.toNat) : minT s rs < 1048576 ∧ leastR s rs = (minT s rs, firstT s rs, 0) ∧ minT s rs ≤ costT s rs t 0 s.hours.toNat := by
  obtain ⟨hv, hr⟩ := err_hd her
  have h24 := (rp_ok hr).1
  have hc := costT_len (s := s) (rs := rs) (t := t) (a := 0) (n := s.hours.toNat)
  have h1 := (minT_le hv hr (m := costT s rs t 0 s.hours.toNat) (by omega)).2 ⟨t, ht, Int.le_refl _⟩
  refine ⟨by omega, ?_, h1⟩
  unfold leastR
  rw [if_neg (by omega), if_neg (by omega)]
theorem can_ok {t : Nat → Int} (ht : okT s t 0 s.hours.toNat) {wr h : Int} (hw : costT s rs t 0 s.hours.toNat ≤ wr) (hw2 : wr ≤ 24) (h0 : 0 ≤ h) (h1 : h < s.hours) : canR s rs wr h = (canL s rs wr h, 0) ∧ t h.toNat ∈ canL s rs wr h := by
  obtain ⟨hv, hr⟩ := err_hd her
  have hm := (mem_canL hv hr (c := t h.toNat) (by omega) h0 h1).2 ⟨t, ht, rfl, hw⟩
  have hcb := costT_bd (s := s) (rs := rs) (t := t) (a := 0) (n := s.hours.toNat)
  refine ⟨?_, hm⟩
  unfold canR
  rw [if_neg (by omega), if_neg (by rw [askB_iff.2 ⟨by omega, hw2, h0, h1⟩]; simp)]
  unfold canR1
  split
  · rename_i e; rw [e] at hm; simp at hm
  · rename_i e; rw [e]
end
theorem pw_ris {n : Int} : ∀ (xs : List Int) (last : Int), xs.Pairwise (· < ·) → (∀ x ∈ xs, last < x ∧ x < n) → risF n last xs = true
  | [], _, _, _ => rfl
  | x :: r, last, hp, hb => by
    have h := hb x (List.mem_cons_self ..)
    obtain ⟨h1, h2⟩ := List.pairwise_cons.1 hp
    exact ris_cons.2 ⟨h, pw_ris r x h2 fun y hy => ⟨h1 y hy, (hb y (List.mem_cons_of_mem _ hy)).2⟩⟩
theorem canL_ris (s : Sea) (rs : List Rp) (wr h : Int) : risF (nC s) (-1) (canL s rs wr h) = true := by
  refine pw_ris _ _ (List.Pairwise.filter _ (cellsA_lt s)) fun x hx => ?_
  have := mem_cellsA (List.mem_filter.1 hx).1
  omega
theorem place_in {xs : List Int} {x : Int} (h : x ∈ xs) : ¬ placeI xs x < 0 := by
  have h1 := placeI_neg xs x
  rw [decide_eq_true h] at h1
  simpa using h1
theorem firstT_len (s : Sea) (rs : List Rp) : (firstT s rs).length = s.hours.toNat := trkS_len s rs _
theorem firstT_tk {s : Sea} {rs : List Rp} {k : Nat} (h : k < s.hours.toNat) : tkF (firstT s rs) k = trkC s rs k := trkS_at s rs h
theorem firstT_ok {s : Sea} {rs : List Rp} (hv : seaB s = true) (hr : rpsB s rs = true) (hm : minT s rs < 1048576) : okT s (tkF (firstT s rs)) 0 s.hours.toNat ∧ costT s rs (tkF (firstT s rs)) 0 s.hours.toNat = minT s rs := by
  obtain ⟨h1, h2⟩ := trk_ok hv hr hm
  refine ⟨okT_congr h1 fun k _ hk => (firstT_tk hk).symm, ?_⟩
  rw [← h2]
  exact costT_congr fun k _ hk => firstT_tk (by omega)
theorem befL_no : ∀ (xs ys : List Int), xs.length = ys.length → (∀ i, i < xs.length → (∀ j, j < i → xs.getD j default = ys.getD j default) → ys.getD i default ≤ xs.getD i default) → befL xs ys = false
  | [], [], _, _ => rfl
  | x :: xs, y :: ys, hl, h => by
    have h0 := h 0 (by simp) (fun j hj => by omega)
    have h0 : y ≤ x := h0
    rw [befL]
    by_cases e : x = y
    · rw [decide_eq_true e, cond_true]
      refine befL_no xs ys (by simpa using hl) fun i hi hj => ?_
      exact h (i + 1) (by simp; omega) fun j hjj => by
        cases j with
        | zero => exact e
        | succ j => exact hj j (by omega)
    · rw [decide_eq_false e, cond_false, decide_eq_false (by omega)]
  | [], _ :: _, hl, _ => by simp at hl
  | _ :: _, [], hl, _ => by simp at hl
/-- A track that is as good as the first one does not come before it. -/
theorem first_first {s : Sea} {rs : List Rp} (hv : seaB s = true) (hr : rpsB s rs = true) (hm : minT s rs < 1048576) {T : List Int} (hl : T.length = s.hours.toNat) (hok : okT s (tkF T) 0 s.hours.toNat) (hc : costT s rs (tkF T) 0 s.hours.toNat = minT s rs) : befL T (firstT s rs) = false :=
  befL_no _ _ (by rw [hl, firstT_len]) fun i hi hj => by
    have e : (firstT s rs).getD i default = trkC s rs i := firstT_tk (by omega)
    rw [e]
    exact trk_first hv hr hm hok (by omega) (by omega) fun k hk => (hj k hk).trans (firstT_tk (by omega))
/-- The law of the first track, once there is one. -/
theorem first_law {s : Sea} {rs : List Rp} (hz : (leastR s rs).2.2 = 0) {T : List Int} (hT : T.length ≤ s.hours.toNat) (hok : T.length = s.hours.toNat → okT s (tkF T) 0 s.hours.toNat) :
    cond (cond ((trackR s rs T).2.2 == 0) ((trackR s rs T).2.1 == ((T.length : Int) == s.hours)) false) (cond (cond (!(trackR s rs T).2.1) true (decide ((trackR s rs T).1 > (leastR s rs).1))) true (cond ((trackR s rs T).1 == (leastR s rs).1) (!(befL T (leastR s rs).2.1)) false)) false = true := by
  obtain ⟨her, hm, hl⟩ := least_0 hz
  obtain ⟨hv, hr⟩ := err_hd her
  have hs := sea_ok hv
  rw [hl]
  by_cases hlen : (T.length : Int) = s.hours
  · have hok' := hok (by omega)
    rw [track_full her hlen (by rw [show T.length = s.hours.toNat by omega]; exact hok'), show T.length = s.hours.toNat by omega]
    rw [show (((s.hours.toNat : Nat) : Int) == s.hours) = true by simp; omega]
    have hle := (least_ok her hok').2.2
    by_cases he : costT s rs (tkF T) 0 s.hours.toNat = minT s rs
    · have hb := first_first hv hr hm (by omega) hok' he
      rw [he]
      show cond (cond (0 == (0 : Int)) (true == true) false) (cond (cond (!true) true (decide (minT s rs > minT s rs))) true (cond (minT s rs == minT s rs) (!(befL T (firstT s rs))) false)) false = true
      rw [hb]; simp
    · show cond (cond (0 == (0 : Int)) (true == true) false) (cond (cond (!true) true (decide (costT s rs (tkF T) 0 s.hours.toNat > minT s rs))) true _) false = true
      rw [decide_eq_true (show costT s rs (tkF T) 0 s.hours.toNat > minT s rs by omega)]; rfl
  · rw [track_short her hlen, show ((T.length : Int) == s.hours) = false by simpa using hlen]; rfl
end Go.Proofs.Ytgihgcclabodbaa.DK
