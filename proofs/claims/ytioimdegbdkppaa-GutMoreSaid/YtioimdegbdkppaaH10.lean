/- The best plan is one; what it takes. -/
import Derived.Test.YtioimdegbdkppaaH9
namespace Go.Proofs.Ytioimdegbdkppaa.DK
open Go
set_option linter.unusedVariables false

section
variable {d : Day} {f : Nat → Int} {ld : LD}
theorem fmap_sum {α β : Type} (g : β → Int) (h : α → List β) : ∀ l : List α, ((l.flatMap h).map g).sum = (l.map fun x => ((h x).map g).sum).sum
  | [] => rfl
  | x :: l => by rw [List.flatMap_cons, List.map_append, List.sum_append, fmap_sum g h l]; rfl
theorem range_sum (p : Nat → Bool) (g : Nat → Int) : ∀ n, (((List.range n).filter p).map g).sum = fsum n fun i => cond (p i) (g i) 0
  | 0 => rfl
  | n + 1 => by
    rw [fsum_succ, ← range_sum p g n, List.range_succ, List.filter_append, List.map_append, List.sum_append]
    congr 1
    cases h : p n <;> simp [h]
theorem slots_sum (g : Int × Int → Int) (lot : Int) : ((slotsA d f lot 0).map g).sum = gsum d fun s => cond (canB d f lot s) (g s) 0 := by
  unfold slotsA gsum
  rw [fmap_sum, Nat.sub_zero, ← List.range_eq_range']
  show fsum d.wks.length (fun k => ((slotsW d f lot k 0).map g).sum) = _
  refine fsum_congr _ fun a _ => ?_
  unfold slotsW
  rw [Nat.sub_zero, ← List.range_eq_range', List.filter_map, List.map_map, range_sum]
  rfl
theorem tkOf_eq {i : Nat} (hi : i < 8) (s : Int × Int) : tkOf ld i s = if 0 < ld s i then [⟨i, s.1, s.2, ld s i⟩] else [] := by
  unfold tkOf
  by_cases h : 0 < ld s i
  · have hf : feq 8 (ld s) (fun _ => 0) = false := by
      cases hc : feq 8 (ld s) (fun _ => 0) with
      | false => rfl
      | true =>
        unfold feq at hc
        rw [List.all_eq_true] at hc
        have h0 : ld s i = 0 := beq_iff_eq.1 (hc i (List.mem_range.2 hi))
        omega
    rw [hf, if_pos h, decide_eq_true (show ld s i > 0 from h)]; rfl
  · rw [if_neg h, decide_eq_false (show ¬ ld s i > 0 from h)]
    cases (!(feq 8 (ld s) (fun _ => 0))) <;> rfl
theorem plan_sum (h8 : d.lots.length ≤ 8) (g : Tk → Int) : ((planK d f ld d.lots.length).map g).sum = fsum d.lots.length fun i => gsum d fun s => cond (canB d f i s) (if 0 < ld s i then g ⟨i, s.1, s.2, ld s i⟩ else 0) 0 := by
  unfold planK
  rw [fmap_sum]
  show fsum d.lots.length (fun i => ((planS ld i (slotsA d f i 0)).map g).sum) = _
  refine fsum_congr _ fun i hi => ?_
  unfold planS
  rw [fmap_sum, slots_sum]
  refine gsum_congr fun s _ => ?_
  rw [tkOf_eq (by omega)]
  split <;> simp
theorem plan_mem (h8 : d.lots.length ≤ 8) {t : Tk} (h : t ∈ planK d f ld d.lots.length) : ∃ (i : Nat) (s : Int × Int), i < d.lots.length ∧ s ∈ grid d ∧ canB d f i s = true ∧ 0 < ld s i ∧ t = ⟨i, s.1, s.2, ld s i⟩ := by
  unfold planK at h
  obtain ⟨i, hi, ht⟩ := List.mem_flatMap.1 h
  have hi := List.mem_range.1 hi
  unfold planS at ht
  obtain ⟨s, hs, ht⟩ := List.mem_flatMap.1 ht
  obtain ⟨h1, h2⟩ := slots_mem.1 hs
  rw [tkOf_eq (by omega)] at ht
  split at ht
  · exact ⟨i, s, hi, h1, h2, by assumption, List.mem_singleton.1 ht⟩
  · simp at ht

def totL (plan : List Tk) (i : Nat) : Int := (plan.map fun t => if t.lot.toNat = i then t.cr else 0).sum
def totS (plan : List Tk) (s : Int × Int) : Int := (plan.map fun t => if (t.wk, t.hr) = s then t.cr else 0).sum
theorem totL_cons (t : Tk) (r : List Tk) (i : Nat) : totL (t :: r) i = (if t.lot.toNat = i then t.cr else 0) + totL r i := rfl
theorem totS_cons (t : Tk) (r : List Tk) (s : Int × Int) : totS (t :: r) s = (if (t.wk, t.hr) = s then t.cr else 0) + totS r s := rfl
theorem totL_nn {plan : List Tk} (h : ∀ t ∈ plan, 0 ≤ t.cr) (i : Nat) : 0 ≤ totL plan i := by
  induction plan with
  | nil => exact Int.le_refl _
  | cons t r ih =>
    have h1 := ih fun t ht => h t (by simp [ht])
    have h2 := h t (by simp)
    rw [totL_cons]; split <;> omega
theorem totS_nn {plan : List Tk} (h : ∀ t ∈ plan, 0 ≤ t.cr) (s : Int × Int) : 0 ≤ totS plan s := by
  induction plan with
  | nil => exact Int.le_refl _
  | cons t r ih =>
    have h1 := ih fun t ht => h t (by simp [ht])
    have h2 := h t (by simp)
    rw [totS_cons]; split <;> omega
/-- A plan is one if its tasks are, and their sums are not too great. -/
theorem isP_ok : ∀ (plan : List Tk) (T : Nat → Int) (B : Int × Int → Int), (∀ t ∈ plan, plBad d f t = false ∧ 0 ≤ t.cr) → (∀ t ∈ plan, T t.lot.toNat + totL plan t.lot.toNat ≤ crI d t.lot.toNat) → (∀ t ∈ plan, B (t.wk, t.hr) + totS plan (t.wk, t.hr) ≤ rate d (t.wk, t.hr)) →
    ∃ T', isP d f plan T B = some T' ∧ ∀ i, T' i = T i + totL plan i
  | [], T, B, _, _, _ => ⟨T, rfl, fun i => by simp [totL]⟩
  | t :: r, T, B, h1, h2, h3 => by
    have ht := h1 t (by simp)
    have hr : ∀ t ∈ r, 0 ≤ t.cr := fun t ht => (h1 t (by simp [ht])).2
    have a1 := h2 t (by simp); have a2 := h3 t (by simp)
    rw [totL_cons, if_pos rfl] at a1
    rw [totS_cons, if_pos rfl] at a2
    have b1 := totL_nn hr t.lot.toNat; have b2 := totS_nn hr (t.wk, t.hr)
    have hov : plOver d (plT T t) (plB B t) t = false := by
      unfold plOver
      rw [plT_at, plB_at]
      have e1 : ¬ T t.lot.toNat + t.cr > (d.lots.getD t.lot.toNat default).cr := by show ¬ T t.lot.toNat + t.cr > crI d t.lot.toNat; omega
      have e2 : ¬ B (t.wk, t.hr) + t.cr > (d.wks.getD t.wk.toNat default).rt := by show ¬ B (t.wk, t.hr) + t.cr > rate d (t.wk, t.hr); omega
      rw [decide_eq_false e1, decide_eq_false e2]; rfl
    have hT : ∀ i, plT T t i + totL r i = T i + totL (t :: r) i := fun i => by
      rw [totL_cons]; unfold plT updf
      by_cases e : i = t.lot.toNat
      · subst e; rw [if_pos rfl, if_pos rfl]; omega
      · rw [if_neg e, if_neg (fun h => e h.symm)]; omega
    have hB : ∀ s, plB B t s + totS r s = B s + totS (t :: r) s := fun s => by
      rw [totS_cons]; unfold plB updt
      by_cases e : s = (t.wk, t.hr)
      · subst e; rw [if_pos rfl, if_pos rfl]; omega
      · rw [if_neg e, if_neg (fun h => e h.symm)]; omega
    obtain ⟨T', e1, e2⟩ := isP_ok r (plT T t) (plB B t) (fun t ht => h1 t (by simp [ht])) (fun u hu => by rw [hT]; exact h2 u (by simp [hu])) (fun u hu => by rw [hB]; exact h3 u (by simp [hu]))
    refine ⟨T', ?_, fun i => by rw [e2, hT]⟩
    show cond (plBad d f t) none (cond (plOver d (plT T t) (plB B t) t) none (isP d f r (plT T t) (plB B t))) = _
    rw [ht.1, hov]; exact e1

theorem crans_fsum : cransF d = fsum d.lots.length (crI d) := by
  have h : ∀ k, k ≤ d.lots.length → ((d.lots.take k).map (·.cr)).sum = fsum k (crI d) := by
    intro k
    induction k with
    | zero => intro _; rfl
    | succ k ih => intro hk; rw [msum_take _ (by omega), ih (by omega), fsum_succ]
  have := h d.lots.length (Nat.le_refl _)
  rw [List.take_length] at this
  exact this

theorem totL_plan (h8 : d.lots.length ≤ 8) (hf : Flow d f ld) {i : Nat} (hi : i < d.lots.length) : totL (planK d f ld d.lots.length) i = taken d ld i := by
  unfold totL
  rw [plan_sum h8]
  have e : ∀ k, k < d.lots.length → (gsum d fun s => cond (canB d f k s) (if 0 < ld s k then (if (((k : Nat) : Int)).toNat = i then ld s k else 0) else 0) 0) = updf (fun _ => 0) i (taken d ld i) k := by
    intro k hk
    unfold updf
    rw [Int.toNat_natCast]
    by_cases e : k = i
    · subst e
      rw [if_pos rfl]
      refine gsum_congr fun s hs => ?_
      have h0 := hf.nn s k (by omega)
      by_cases hp : 0 < ld s k
      · rw [(hf.at_ s k (by omega) hp).2.2, if_pos hp, if_pos rfl]; rfl
      · have : ld s k = 0 := by omega
        rw [if_neg hp, this]; cases canB d f k s <;> rfl
    · rw [if_neg e]
      rw [gsum_congr (g := fun _ => 0) (fun s _ => by rw [if_neg e]; cases canB d f k s <;> simp), gsum_0]
  rw [fsum_congr _ e, fsum_updf _ hi, fsum_0]; omega
theorem totS_plan (h8 : d.lots.length ≤ 8) (hf : Flow d f ld) {s : Int × Int} (hs : s ∈ grid d) : totS (planK d f ld d.lots.length) s = fsum 8 (ld s) := by
  unfold totS
  rw [plan_sum h8, fsum_cut h8 (f := ld s) fun i h1 h2 => ?_]
  · refine fsum_congr _ fun i hi => ?_
    have e : (fun x => cond (canB d f i x) (if 0 < ld x i then (if (x.1, x.2) = s then ld x i else 0) else 0) 0) = updt (fun _ => 0) s (ld s i) := by
      funext x
      unfold updt
      by_cases e : x = s
      · subst e
        rw [if_pos rfl]
        have h0 := hf.nn x i (by omega)
        by_cases hp : 0 < ld x i
        · rw [(hf.at_ x i (by omega) hp).2.2, if_pos hp]; simp
        · have : ld x i = 0 := by omega
          rw [if_neg hp, this]; cases canB d f i x <;> rfl
      · rw [if_neg e, if_neg (show ¬ (x.1, x.2) = s from e)]
        cases canB d f i x <;> simp
    show gsum d (fun x => cond (canB d f i x) (if 0 < ld x i then (if (x.1, x.2) = s then ld x i else 0) else 0) 0) = _
    rw [e, gsum_updt hs, gsum_0]; omega
  · have h0 := hf.nn s i h2
    by_cases hp : 0 < ld s i
    · have := (hf.at_ s i h2 hp).1; omega
    · omega
theorem cr_plan (h8 : d.lots.length ≤ 8) (hf : Flow d f ld) : ((planK d f ld d.lots.length).map (·.cr)).sum = fsum d.lots.length (taken d ld) := by
  rw [plan_sum h8]
  refine fsum_congr _ fun i hi => gsum_congr fun s hs => ?_
  have h0 := hf.nn s i (by omega)
  by_cases hp : 0 < ld s i
  · rw [(hf.at_ s i (by omega) hp).2.2, if_pos hp]; rfl
  · have : ld s i = 0 := by omega
    rw [if_neg hp, this]; cases canB d f i s <;> rfl
theorem len_le_sum {plan : List Tk} (h : ∀ t ∈ plan, 1 ≤ t.cr) : (plan.length : Int) ≤ (plan.map (·.cr)).sum := by
  induction plan with
  | nil => exact Int.le_refl _
  | cons t r ih =>
    have h1 := ih fun t ht => h t (by simp [ht])
    have h2 := h t (by simp)
    simp only [List.length_cons, List.map_cons, List.sum_cons]; omega

/-- What is known of the best plan. -/
structure BestR (d : Day) (plan : List Tk) (lost : Int) (ld : LD) : Prop where
  flow : Flow d (hot d) ld
  le : ∀ i, i < d.lots.length → taken d ld i ≤ crI d i
  eq : lost = cransF d - fsum d.lots.length (taken d ld)
  mem : ∀ t ∈ plan, ∃ (i : Nat) (s : Int × Int), i < d.lots.length ∧ s ∈ grid d ∧ canB d (hot d) i s = true ∧ 0 < ld s i ∧ t = ⟨i, s.1, s.2, ld s i⟩
  totL : ∀ i, i < d.lots.length → DK.totL plan i = taken d ld i
  totS : ∀ s, s ∈ grid d → DK.totS plan s = fsum 8 (ld s)
  sum : (plan.map (·.cr)).sum = fsum d.lots.length (taken d ld)
  len : plan.length ≤ 400
theorem best_R (hv : dayV d = true) (hc : chk d = 0) : BestR d (bestP d) (bestN d) (doneF d (hot d) d.lots.length).1 := by
  have h8 : d.lots.length ≤ 8 := (day_ok hv).2.2.2.1
  have h := done_done (f := hot d) hv
  have hP : bestP d = planK d (hot d) (doneF d (hot d) d.lots.length).1 d.lots.length := by unfold bestP; rw [if_neg (by simp [hc])]
  have hN : bestN d = (doneF d (hot d) d.lots.length).2 := by unfold bestN; rw [if_neg (by simp [hc])]
  have hm : ∀ t ∈ bestP d, ∃ (i : Nat) (s : Int × Int), i < d.lots.length ∧ s ∈ grid d ∧ canB d (hot d) i s = true ∧ 0 < (doneF d (hot d) d.lots.length).1 s i ∧ t = ⟨i, s.1, s.2, (doneF d (hot d) d.lots.length).1 s i⟩ := fun t ht => plan_mem h8 (by rw [← hP]; exact ht)
  have hs : ((bestP d).map (·.cr)).sum = fsum d.lots.length (taken d (doneF d (hot d) d.lots.length).1) := by rw [hP]; exact cr_plan h8 h.flow
  refine ⟨h.flow, h.le, by rw [hN, h.eq, crans_fsum], hm, fun i hi => by rw [hP]; exact totL_plan h8 h.flow hi, fun s hs => by rw [hP]; exact totS_plan h8 h.flow hs, hs, ?_⟩
  have h1 := len_le_sum (plan := bestP d) fun t ht => by
    obtain ⟨i, s, _, _, _, h4, rfl⟩ := hm t ht
    show 1 ≤ (doneF d (hot d) d.lots.length).1 s i
    omega
  have h2 : fsum d.lots.length (taken d (doneF d (hot d) d.lots.length).1) ≤ fsum d.lots.length fun _ => 50 := fsum_le _ fun i hi => by
    have a := h.le i hi; have b := lot_ok hv hi
    have c : crI d i ≤ 50 := b.2.1
    omega
  have h3 : ∀ n : Nat, (fsum n fun _ => (50 : Int)) = 50 * n := fun n => by
    induction n with
    | zero => rfl
    | succ n ih => rw [fsum_succ, ih]; omega
  rw [h3] at h2
  omega
theorem BestR.task {plan : List Tk} {lost : Int} (hv : dayV d = true) (h : BestR d plan lost ld) {t : Tk} (ht : t ∈ plan) : plBad d (hot d) t = false ∧ 1 ≤ t.cr ∧ t.cr ≤ 20 ∧ 0 ≤ t.lot ∧ t.lot < d.lots.length ∧ (t.wk, t.hr) ∈ grid d := by
  have h8 : d.lots.length ≤ 8 := (day_ok hv).2.2.2.1
  obtain ⟨i, s, h1, h2, h3, h4, rfl⟩ := h.mem t ht
  obtain ⟨g1, g2, g3, g4⟩ := mem_grid.1 h2
  have hw := wk_ok hv (i := s.1.toNat) (by omega)
  have hcap := h.flow.cap s h2
  have hle := fsum_ge1 8 (fun j hj => h.flow.nn s j hj) i (by omega)
  have hr : rate d s ≤ 20 := hw.2.2.2.2.2.2
  have hc : (⟨(i : Int), s.1, s.2, ld s i⟩ : Tk).cr = ld s i := rfl
  refine ⟨?_, by show 1 ≤ ld s i; omega, by show ld s i ≤ 20; omega, by show (0 : Int) ≤ i; omega, by show (i : Int) < _; omega, h2⟩
  unfold plBad
  rw [inB_iff.2 (show 0 ≤ (⟨(i : Int), s.1, s.2, ld s i⟩ : Tk).lot ∧ (⟨(i : Int), s.1, s.2, ld s i⟩ : Tk).lot ≤ (d.lots.length : Int) - 1 from ⟨by show (0 : Int) ≤ i; omega, by show (i : Int) ≤ _; omega⟩),
    inB_iff.2 (show 0 ≤ (⟨(i : Int), s.1, s.2, ld s i⟩ : Tk).wk ∧ (⟨(i : Int), s.1, s.2, ld s i⟩ : Tk).wk ≤ (d.wks.length : Int) - 1 from ⟨g1, by show s.1 ≤ _; omega⟩),
    show canB d (hot d) (⟨(i : Int), s.1, s.2, ld s i⟩ : Tk).lot ((⟨(i : Int), s.1, s.2, ld s i⟩ : Tk).wk, (⟨(i : Int), s.1, s.2, ld s i⟩ : Tk).hr) = true from h3,
    inB_iff.2 (show 1 ≤ (⟨(i : Int), s.1, s.2, ld s i⟩ : Tk).cr ∧ (⟨(i : Int), s.1, s.2, ld s i⟩ : Tk).cr ≤ 50 from ⟨by show 1 ≤ ld s i; omega, by show ld s i ≤ 50; omega⟩)]
  rfl
/-- Plans whose tasks are of the best one's kind, and take no more. -/
theorem BestR.part {plan q : List Tk} {lost : Int} (hv : dayV d = true) (hc : chk d = 0) (h : BestR d plan lost ld) (hq : ∀ t ∈ q, plBad d (hot d) t = false ∧ 0 ≤ t.cr) (hL : ∀ t ∈ q, DK.totL q t.lot.toNat ≤ crI d t.lot.toNat) (hS : ∀ t ∈ q, DK.totS q (t.wk, t.hr) ≤ rate d (t.wk, t.hr)) (hlen : q.length ≤ 400) :
    gutIsPlan d q = (cransF d - fsum d.lots.length (DK.totL q), true, 0) := by
  obtain ⟨T', h1, h2⟩ := isP_ok (f := hot d) q (fun _ => 0) (fun _ => 0) hq (fun t ht => by have := hL t ht; omega) (fun t ht => by have := hS t ht; omega)
  unfold gutIsPlan
  rw [if_neg (by simp [hc]), if_neg (by omega), show isP0 d q = some T' from h1]
  simp only
  rw [fsum_congr _ (fun i _ => by rw [h2 i, Int.zero_add])]
theorem best_isPlan (hv : dayV d = true) (hc : chk d = 0) : gutIsPlan d (bestP d) = (bestN d, true, 0) := by
  have h := best_R hv hc
  rw [h.part hv hc (fun t ht => ⟨(h.task hv ht).1, by have := (h.task hv ht).2.1; omega⟩) (fun t ht => ?_) (fun t ht => ?_) h.len, h.eq, fsum_congr _ (fun i hi => h.totL i hi)]
  · have ht2 := h.task hv ht
    have h5 : t.lot.toNat < d.lots.length := by omega
    rw [h.totL _ h5]; exact h.le _ h5
  · rw [h.totS _ (h.task hv ht).2.2.2.2.2]; exact h.flow.cap _ (h.task hv ht).2.2.2.2.2
end
end Go.Proofs.Ytioimdegbdkppaa.DK
