/- The best plan with a task left out, and with a cran more in a task. -/
import Derived.Test.YtioimdegbdkppaaH13
namespace Go.Proofs.Ytioimdegbdkppaa.DK
open Go
set_option linter.unusedVariables false

theorem totL_zero {r : List Tk} {i : Nat} (h : ∀ u ∈ r, u.lot.toNat ≠ i) : totL r i = 0 := by
  induction r with
  | nil => rfl
  | cons t r ih => rw [totL_cons, if_neg (h t (by simp)), ih fun u hu => h u (by simp [hu])]; omega
theorem totS_zero {r : List Tk} {s : Int × Int} (h : ∀ u ∈ r, (u.wk, u.hr) ≠ s) : totS r s = 0 := by
  induction r with
  | nil => rfl
  | cons t r ih => rw [totS_cons, if_neg (h t (by simp)), ih fun u hu => h u (by simp [hu])]; omega
section
variable {d : Day} {f : Nat → Int}
theorem isP_some : ∀ (plan : List Tk) (T : Nat → Int) (B : Int × Int → Int) (T' : Nat → Int), isP d f plan T B = some T' → (∀ t ∈ plan, T t.lot.toNat + totL plan t.lot.toNat ≤ crI d t.lot.toNat) ∧ (∀ t ∈ plan, B (t.wk, t.hr) + totS plan (t.wk, t.hr) ≤ rate d (t.wk, t.hr))
  | [], T, B, T', _ => ⟨fun t ht => by simp at ht, fun t ht => by simp at ht⟩
  | t :: r, T, B, T', h => by
    have h0 : isP d f (t :: r) T B = cond (plBad d f t) none (cond (plOver d (plT T t) (plB B t) t) none (isP d f r (plT T t) (plB B t))) := rfl
    rw [h0] at h
    cases hb : plBad d f t with
    | true => rw [hb] at h; cases h
    | false =>
      cases ho : plOver d (plT T t) (plB B t) t with
      | true => rw [hb, ho] at h; cases h
      | false =>
        rw [hb, ho] at h
        obtain ⟨i1, i2⟩ := isP_some r (plT T t) (plB B t) T' h
        have hw := plWithin ho
        rw [plT_at, plB_at] at hw
        have hT : ∀ i, plT T t i + totL r i = T i + totL (t :: r) i := fun i => by
          rw [totL_cons]; unfold plT updf
          by_cases e : i = t.lot.toNat
          · subst e; rw [if_pos rfl, if_pos rfl]; omega
          · rw [if_neg e, if_neg (fun h => e h.symm)]; omega
        have hB : ∀ s, plB B t s + totS r s = B s + totS (t :: r) s := fun s => by
          rw [totS_cons]; unfold plB updt
          by_cases e : s = (t.wk, t.hr)
          · subst e; rw [if_pos rfl, if_pos rfl]; omega
          · rw [if_neg e, if_neg (fun h => e h.symm)]; omega
        constructor
        · intro u hu
          rcases List.mem_cons.1 hu with rfl | hu
          · by_cases hex : ∃ v ∈ r, v.lot.toNat = u.lot.toNat
            · obtain ⟨v, hv, e⟩ := hex
              have := i1 v hv; rw [hT, e] at this; exact this
            · rw [totL_cons, if_pos rfl, totL_zero (fun v hv e => hex ⟨v, hv, e⟩)]
              have : T u.lot.toNat + u.cr ≤ crI d u.lot.toNat := hw.1
              omega
          · have := i1 u hu; rw [hT] at this; exact this
        · intro u hu
          rcases List.mem_cons.1 hu with rfl | hu
          · by_cases hex : ∃ v ∈ r, (v.wk, v.hr) = (u.wk, u.hr)
            · obtain ⟨v, hv, e⟩ := hex
              have := i2 v hv; rw [hB, e] at this; exact this
            · rw [totS_cons, if_pos rfl, totS_zero (fun v hv e => hex ⟨v, hv, e⟩)]
              have : B (u.wk, u.hr) + u.cr ≤ rate d (u.wk, u.hr) := hw.2
              omega
          · have := i2 u hu; rw [hB] at this; exact this

variable {plan : List Tk} {J : Nat}
def lessP (plan : List Tk) (J : Nat) : List Tk := plan.take J ++ plan.drop (J + 1)
def moreT (t : Tk) : Tk := ⟨t.lot, t.wk, t.hr, t.cr + 1⟩
def moreP (plan : List Tk) (J : Nat) : List Tk := plan.set J (moreT (plan.getD J default))
theorem plan_split (h : J < plan.length) : plan = plan.take J ++ plan.getD J default :: plan.drop (J + 1) := by
  rw [← drop_getD h, List.take_append_drop]
theorem less_L (h : J < plan.length) (i : Nat) : totL (lessP plan J) i = totL plan i - if (plan.getD J default).lot.toNat = i then (plan.getD J default).cr else 0 := by
  have e := plan_split h
  have : totL plan i = totL (plan.take J) i + ((if (plan.getD J default).lot.toNat = i then (plan.getD J default).cr else 0) + totL (plan.drop (J + 1)) i) := by
    rw [← totL_cons, ← totL_app, ← e]
  unfold lessP; rw [totL_app]; omega
theorem less_S (h : J < plan.length) (s : Int × Int) : totS (lessP plan J) s = totS plan s - if ((plan.getD J default).wk, (plan.getD J default).hr) = s then (plan.getD J default).cr else 0 := by
  have e := plan_split h
  have : totS plan s = totS (plan.take J) s + ((if ((plan.getD J default).wk, (plan.getD J default).hr) = s then (plan.getD J default).cr else 0) + totS (plan.drop (J + 1)) s) := by
    rw [← totS_cons, ← totS_app, ← e]
  unfold lessP; rw [totS_app]; omega
theorem moreP_eq (h : J < plan.length) : moreP plan J = plan.take J ++ moreT (plan.getD J default) :: plan.drop (J + 1) := by
  unfold moreP; exact List.set_eq_take_append_cons_drop.trans (by rw [if_pos h])
theorem more_L (h : J < plan.length) (i : Nat) : totL (moreP plan J) i = totL plan i + if (plan.getD J default).lot.toNat = i then 1 else 0 := by
  have e := plan_split h
  have : totL plan i = totL (plan.take J) i + ((if (plan.getD J default).lot.toNat = i then (plan.getD J default).cr else 0) + totL (plan.drop (J + 1)) i) := by
    rw [← totL_cons, ← totL_app, ← e]
  rw [moreP_eq h, totL_app, totL_cons]
  show totL (plan.take J) i + ((if (plan.getD J default).lot.toNat = i then (plan.getD J default).cr + 1 else 0) + totL (plan.drop (J + 1)) i) = _
  by_cases e2 : (plan.getD J default).lot.toNat = i
  · simp only [if_pos e2] at this ⊢; omega
  · simp only [if_neg e2] at this ⊢; omega
theorem more_S (h : J < plan.length) (s : Int × Int) : totS (moreP plan J) s = totS plan s + if ((plan.getD J default).wk, (plan.getD J default).hr) = s then 1 else 0 := by
  have e := plan_split h
  have : totS plan s = totS (plan.take J) s + ((if ((plan.getD J default).wk, (plan.getD J default).hr) = s then (plan.getD J default).cr else 0) + totS (plan.drop (J + 1)) s) := by
    rw [← totS_cons, ← totS_app, ← e]
  rw [moreP_eq h, totS_app, totS_cons]
  show totS (plan.take J) s + ((if ((plan.getD J default).wk, (plan.getD J default).hr) = s then (plan.getD J default).cr + 1 else 0) + totS (plan.drop (J + 1)) s) = _
  by_cases e2 : ((plan.getD J default).wk, (plan.getD J default).hr) = s
  · simp only [if_pos e2] at this ⊢; omega
  · simp only [if_neg e2] at this ⊢; omega
theorem less_mem {t : Tk} (h : t ∈ lessP plan J) : t ∈ plan := by
  rcases List.mem_append.1 h with h | h
  · exact List.mem_of_mem_take h
  · exact List.mem_of_mem_drop h
variable {lost : Int} {ld : LD}
/-- Without a task its crans are lost, too. -/
theorem BestR.less (hv : dayV d = true) (hc : chk d = 0) (h : BestR d plan lost ld) (hJ : J < plan.length) : gutIsPlan d (lessP plan J) = (lost + (plan.getD J default).cr, true, 0) := by
  have hx := h.facts hv (getD_mem hJ)
  have hp := h.pos hv
  have hcr : 1 ≤ (plan.getD J default).cr := hx.2.2.2.1.1
  have hle : ∀ i, DK.totL (lessP plan J) i ≤ DK.totL plan i := fun i => by rw [less_L hJ]; split <;> omega
  have hleS : ∀ s, DK.totS (lessP plan J) s ≤ DK.totS plan s := fun s => by rw [less_S hJ]; split <;> omega
  have hL : ∀ t ∈ lessP plan J, DK.totL (lessP plan J) t.lot.toNat ≤ crI d t.lot.toNat := fun t ht => by
    have ht2 := h.task hv (less_mem ht)
    have h5 : t.lot.toNat < d.lots.length := by omega
    have h7 := hle t.lot.toNat; have h6 := h.le _ h5
    rw [h.totL _ h5] at h7; omega
  have hS : ∀ t ∈ lessP plan J, DK.totS (lessP plan J) (t.wk, t.hr) ≤ rate d (t.wk, t.hr) := fun t ht => by
    have ht2 := h.task hv (less_mem ht)
    have h7 := hleS (t.wk, t.hr); have h6 := h.flow.cap _ ht2.2.2.2.2.2
    rw [h.totS _ ht2.2.2.2.2.2] at h7; omega
  have hl : (lessP plan J).length ≤ 400 := by
    unfold lessP
    rw [List.length_append, List.length_take, List.length_drop]
    have := h.len; omega
  rw [h.part hv hc (fun t ht => ⟨(h.task hv (less_mem ht)).1, hp t (less_mem ht)⟩) hL hS hl]
  have e : fsum d.lots.length (DK.totL (lessP plan J)) = fsum d.lots.length (taken d ld) - (plan.getD J default).cr := by
    rw [fsum_congr _ (f := DK.totL (lessP plan J)) (g := fun i => DK.totL plan i - updf (fun _ => 0) (plan.getD J default).lot.toNat (plan.getD J default).cr i) (fun i hi => by
      rw [less_L hJ]; unfold updf
      by_cases e : i = (plan.getD J default).lot.toNat
      · rw [if_pos e, if_pos e.symm]
      · rw [if_neg e, if_neg (fun h => e h.symm)]), fsum_sub, fsum_updf _ (by omega), fsum_0, fsum_congr _ (fun i hi => h.totL i hi)]
    omega
  rw [e, h.eq]
  congr 1; omega
theorem gutIsPlan_OK (hc : chk d = 0) (q : List Tk) : (gutIsPlan d q).2.2 = 0 := by
  unfold gutIsPlan
  rw [if_neg (by simp [hc])]
  split
  · rfl
  · split <;> rfl
/-- With a cran more in a task it is a plan if the lot, and the worker in this hour, had more. -/
theorem BestR.more (hv : dayV d = true) (hc : chk d = 0) (h : BestR d plan lost ld) (hJ : J < plan.length) :
    (gutIsPlan d (moreP plan J)).2.1 = cond (decide (DK.totL plan (plan.getD J default).lot.toNat + 1 ≤ (d.lots.getD (plan.getD J default).lot.toNat default).cr)) (decide (DK.totS plan ((plan.getD J default).wk, (plan.getD J default).hr) + 1 ≤ (d.wks.getD (plan.getD J default).wk.toNat default).rt)) false := by
  have hm := getD_mem hJ
  have hx := h.facts hv hm
  have hxt := h.task hv hm
  have hp := h.pos hv
  have hmem : ∀ t ∈ moreP plan J, t ∈ plan ∨ t = moreT (plan.getD J default) := fun t ht => by
    rcases List.mem_or_eq_of_mem_set ht with h | h
    · exact .inl h
    · exact .inr h
  have hlen : (moreP plan J).length = plan.length := by unfold moreP; simp
  have hin : moreT (plan.getD J default) ∈ moreP plan J := by rw [moreP_eq hJ]; simp
  have hbad : plBad d (hot d) (moreT (plan.getD J default)) = false := by
    have h0 := hxt.1
    obtain ⟨g1, g2, g3, g4⟩ := plGood h0
    unfold plBad
    show cond (cond (cond (!(inB (plan.getD J default).lot 0 ((d.lots.length : Int) - 1))) true (!(inB (plan.getD J default).wk 0 ((d.wks.length : Int) - 1)))) true (!(canB d (hot d) (plan.getD J default).lot ((plan.getD J default).wk, (plan.getD J default).hr)))) true (!(inB ((plan.getD J default).cr + 1) 1 50)) = false
    rw [g1, g2, g3, inB_iff.2 (show 1 ≤ (plan.getD J default).cr + 1 ∧ (plan.getD J default).cr + 1 ≤ 50 by omega)]; rfl
  have e1 : crI d (plan.getD J default).lot.toNat = (d.lots.getD (plan.getD J default).lot.toNat default).cr := rfl
  have e2 : rate d ((plan.getD J default).wk, (plan.getD J default).hr) = (d.wks.getD (plan.getD J default).wk.toNat default).rt := rfl
  by_cases hok : DK.totL plan (plan.getD J default).lot.toNat + 1 ≤ (d.lots.getD (plan.getD J default).lot.toNat default).cr ∧ DK.totS plan ((plan.getD J default).wk, (plan.getD J default).hr) + 1 ≤ (d.wks.getD (plan.getD J default).wk.toNat default).rt
  · have hQ : ∀ t ∈ moreP plan J, plBad d (hot d) t = false ∧ 0 ≤ t.cr := fun t ht => by
      rcases hmem t ht with ht | rfl
      · exact ⟨(h.task hv ht).1, hp t ht⟩
      · exact ⟨hbad, by show 0 ≤ (plan.getD J default).cr + 1; omega⟩
    have hL : ∀ t ∈ moreP plan J, DK.totL (moreP plan J) t.lot.toNat ≤ crI d t.lot.toNat := fun t ht => by
      rw [more_L hJ]
      by_cases e : (plan.getD J default).lot.toNat = t.lot.toNat
      · rw [if_pos e, ← e]; exact hok.1
      · rw [if_neg e]
        rcases hmem t ht with ht | rfl
        · have ht2 := h.task hv ht
          have h5 : t.lot.toNat < d.lots.length := by omega
          have h6 := h.le _ h5
          rw [h.totL _ h5]; omega
        · exact absurd rfl e
    have hS : ∀ t ∈ moreP plan J, DK.totS (moreP plan J) (t.wk, t.hr) ≤ rate d (t.wk, t.hr) := fun t ht => by
      rw [more_S hJ]
      by_cases e : ((plan.getD J default).wk, (plan.getD J default).hr) = (t.wk, t.hr)
      · rw [if_pos e, ← e]; exact hok.2
      · rw [if_neg e]
        rcases hmem t ht with ht | rfl
        · have ht2 := h.task hv ht
          have h6 := h.flow.cap _ ht2.2.2.2.2.2
          rw [h.totS _ ht2.2.2.2.2.2]; omega
        · exact absurd rfl e
    rw [decide_eq_true hok.1, decide_eq_true hok.2, h.part hv hc hQ hL hS (by rw [hlen]; exact h.len)]
    rfl
  · have hn : cond (decide (DK.totL plan (plan.getD J default).lot.toNat + 1 ≤ (d.lots.getD (plan.getD J default).lot.toNat default).cr)) (decide (DK.totS plan ((plan.getD J default).wk, (plan.getD J default).hr) + 1 ≤ (d.wks.getD (plan.getD J default).wk.toNat default).rt)) false = false := by
      by_cases h1 : DK.totL plan (plan.getD J default).lot.toNat + 1 ≤ (d.lots.getD (plan.getD J default).lot.toNat default).cr
      · rw [decide_eq_true h1, decide_eq_false (fun h2 => hok ⟨h1, h2⟩)]; rfl
      · rw [decide_eq_false h1]; rfl
    rw [hn]
    unfold gutIsPlan
    rw [if_neg (by simp [hc])]
    split
    · rfl
    · split
      · rfl
      · rename_i T' hT
        obtain ⟨i1, i2⟩ := isP_some (f := hot d) (moreP plan J) (fun _ => 0) (fun _ => 0) T' hT
        have a1 := i1 _ hin; have a2 := i2 _ hin
        rw [more_L hJ] at a1
        rw [more_S hJ] at a2
        have a3 : (0 : Int) + (DK.totL plan (plan.getD J default).lot.toNat + (if (plan.getD J default).lot.toNat = (plan.getD J default).lot.toNat then 1 else 0)) ≤ (d.lots.getD (plan.getD J default).lot.toNat default).cr := a1
        have a4 : (0 : Int) + (DK.totS plan ((plan.getD J default).wk, (plan.getD J default).hr) + (if ((plan.getD J default).wk, (plan.getD J default).hr) = ((plan.getD J default).wk, (plan.getD J default).hr) then 1 else 0)) ≤ (d.wks.getD (plan.getD J default).wk.toNat default).rt := a2
        rw [if_pos rfl] at a3 a4
        exact absurd ⟨by omega, by omega⟩ hok
theorem ofK_all (h : ∀ t ∈ plan, 0 ≤ t.lot) {lot : Int} (h0 : 0 ≤ lot) : ofK plan plan.length lot = totL plan lot.toNat := by
  unfold ofK totL
  rw [List.take_length]
  congr 1
  refine List.map_congr_left fun t ht => ?_
  have := h t ht
  by_cases e : t.lot = lot
  · rw [if_pos e, if_pos (by rw [e])]
  · rw [if_neg e, if_neg (by omega)]
theorem byK_all (s : Int × Int) : byK plan plan.length s.1 s.2 = totS plan s := by
  unfold byK totS
  rw [List.take_length]
  congr 1
  refine List.map_congr_left fun t ht => ?_
  by_cases e : t.wk = s.1 ∧ t.hr = s.2
  · rw [if_pos e, if_pos (Prod.ext e.1 e.2)]
  · rw [if_neg e, if_neg (fun h => e ⟨by rw [← h], by rw [← h]⟩)]
theorem ofK_bd (h : ∀ t ∈ plan, 0 ≤ t.cr ∧ t.cr ≤ 20) (lot : Int) : ∀ j, j ≤ plan.length → 0 ≤ ofK plan j lot ∧ ofK plan j lot ≤ 20 * j
  | 0, _ => by simp [ofK]
  | j + 1, hj => by
    have h1 := ofK_bd h lot j (by omega)
    have h2 := h _ (getD_mem (show j < plan.length by omega))
    unfold ofK at h1 ⊢
    rw [msum_take _ (by omega)]
    split <;> omega
theorem byK_bd (h : ∀ t ∈ plan, 0 ≤ t.cr ∧ t.cr ≤ 20) (wk hr : Int) : ∀ j, j ≤ plan.length → 0 ≤ byK plan j wk hr ∧ byK plan j wk hr ≤ 20 * j
  | 0, _ => by simp [byK]
  | j + 1, hj => by
    have h1 := byK_bd h wk hr j (by omega)
    have h2 := h _ (getD_mem (show j < plan.length by omega))
    unfold byK at h1 ⊢
    rw [msum_take _ (by omega)]
    split <;> omega
end
end Go.Proofs.Ytioimdegbdkppaa.DK
