/- THE THEOREM OF THE FLOW: as many crans are lost as the greatest deficit of any lots. -/
import Derived.Test.YtioimdegbdkppaaH3
namespace Go.Proofs.Ytioimdegbdkppaa.DK
open Go
set_option linter.unusedVariables false

section
variable {d : Day} {f : Nat → Int}
/-- Can a worker and an hour take one of the lots A? -/
def covA (d : Day) (f : Nat → Int) (A : Nat → Bool) (s : Int × Int) : Bool := (List.range d.lots.length).any fun i => A i && canB d f i s
theorem covA_iff {A : Nat → Bool} {s : Int × Int} : covA d f A s = true ↔ ∃ i, i < d.lots.length ∧ A i = true ∧ canB d f i s = true := by
  unfold covA
  simp only [List.any_eq_true, List.mem_range, Bool.and_eq_true]
/-- The deficit of the lots A, if each has dem crans. -/
def defA (d : Day) (f : Nat → Int) (dem : Nat → Int) (A : Nat → Bool) : Int := fsum d.lots.length (fun i => cond (A i) (dem i) 0) - gsum d fun s => cond (covA d f A s) (rate d s) 0
def slack (d : Day) (f : Nat → Int) (dem : Nat → Int) (ld : LD) (A : Nat → Bool) : Int :=
  fsum d.lots.length (fun i => cond (A i) 0 (dem i - taken d ld i)) + gsum d fun s => cond (covA d f A s) (rate d s - fsum d.lots.length fun i => cond (A i) (ld s i) 0) 0
theorem slack_eq (h8 : d.lots.length ≤ 8) {ld : LD} (hf : Flow d f ld) (dem : Nat → Int) (A : Nat → Bool) : slack d f dem ld A = fsum d.lots.length (fun i => dem i - taken d ld i) - defA d f dem A := by
  unfold slack defA
  have e1 : fsum d.lots.length (fun i => cond (A i) 0 (dem i - taken d ld i)) = fsum d.lots.length (fun i => dem i - taken d ld i) - fsum d.lots.length (fun i => cond (A i) (dem i) 0) + fsum d.lots.length (fun i => cond (A i) (taken d ld i) 0) := by
    rw [← fsum_sub, ← fsum_add]
    refine fsum_congr _ fun i _ => ?_
    cases A i <;> simp; omega
  have e2 : fsum d.lots.length (fun i => cond (A i) (taken d ld i) 0) = gsum d fun s => fsum d.lots.length fun i => cond (A i) (ld s i) 0 := by
    rw [← gsum_fsum]
    refine fsum_congr _ fun i _ => ?_
    cases A i
    · exact gsum_0.symm
    · rfl
  have e3 : gsum d (fun s => cond (covA d f A s) (rate d s - fsum d.lots.length fun i => cond (A i) (ld s i) 0) 0) = gsum d (fun s => cond (covA d f A s) (rate d s) 0) - gsum d fun s => fsum d.lots.length fun i => cond (A i) (ld s i) 0 := by
    rw [← gsum_sub]
    refine gsum_congr fun s hs => ?_
    cases hc : covA d f A s with
    | true => rfl
    | false =>
      have : (fsum d.lots.length fun i => cond (A i) (ld s i) 0) = 0 := by
        rw [fsum_congr _ (g := fun _ => 0) fun i hi => ?_, fsum_0]
        cases hA : A i with
        | false => rfl
        | true =>
          simp only [cond_true]
          have h0 := hf.nn s i (by omega)
          by_cases hp : 0 < ld s i
          · have := covA_iff.2 ⟨i, hi, hA, (hf.at_ s i (by omega) hp).2.2⟩
            rw [hc] at this; cases this
          · omega
      rw [this]; rfl
  rw [e1, e2, e3]; omega
theorem fsum_part (h8 : d.lots.length ≤ 8) {ld : LD} (hf : Flow d f ld) (A : Nat → Bool) (s : Int × Int) : (fsum d.lots.length fun i => cond (A i) (ld s i) 0) ≤ fsum 8 (ld s) := by
  refine Int.le_trans (fsum_le _ (g := ld s) fun i hi => ?_) (fsum_mono h8 fun i hi => hf.nn s i hi)
  have := hf.nn s i (by omega)
  cases A i <;> simp [this]
theorem slack_nn (h8 : d.lots.length ≤ 8) {ld : LD} (hf : Flow d f ld) {dem : Nat → Int} (hd : ∀ i, i < d.lots.length → taken d ld i ≤ dem i) (A : Nat → Bool) : 0 ≤ slack d f dem ld A := by
  have h1 : 0 ≤ fsum d.lots.length (fun i => cond (A i) 0 (dem i - taken d ld i)) := fsum_nn _ fun i hi => by
    have := hd i hi
    cases A i <;> simp; omega
  have h2 : 0 ≤ gsum d (fun s => cond (covA d f A s) (rate d s - fsum d.lots.length fun i => cond (A i) (ld s i) 0) 0) := gsum_nn fun s hs => by
    cases covA d f A s
    · simp
    · have := hf.cap s hs; have := fsum_part h8 hf A s
      simp only [cond_true]; omega
  unfold slack; omega

structure Inv (d : Day) (f : Nat → Int) (dem : Nat → Int) (s : LD × Int) : Prop where
  flow : Flow d f s.1
  le : ∀ i, i < d.lots.length → taken d s.1 i ≤ dem i
  lost : s.2 = fsum d.lots.length fun i => dem i - taken d s.1 i
  cut : ∃ A : Nat → Bool, slack d f dem s.1 A = 0

open Classical in
theorem Inv.step (h8 : d.lots.length ≤ 8) {dem : Nat → Int} {s : LD × Int} (h : Inv d f dem s) {lot : Nat} (hl : lot < d.lots.length) :
    Inv d f (updf dem lot (dem lot + 1)) ((takeT d f lot s.1).2, cond (takeT d f lot s.1).1 s.2 (s.2 + 1)) := by
  have ht := take_spec h8 (f := f) (tn d) (lot : Int) ⟨fun _ => false, s.1⟩ ⟨by omega, by omega⟩ h.flow (Nat.lt_succ_self _)
  have hdem : ∀ i, updf dem lot (dem lot + 1) i = dem i + (if i = lot then 1 else 0) := fun i => by
    unfold updf; by_cases e : i = lot
    · simp [e]
    · simp [e]
  obtain ⟨A, hA⟩ := h.cut
  unfold takeT
  generalize takeF d f (tn d) lot ⟨fun _ => false, s.1⟩ = r at ht
  obtain ⟨b, st⟩ := r
  have hdel : fsum d.lots.length (fun i => if i = lot then (1 : Int) else 0) = 1 := by
    have e : (fun i => if i = lot then (1 : Int) else 0) = updf (fun _ => 0) lot 1 := by funext i; unfold updf; rfl
    rw [e, fsum_updf _ hl, fsum_0]; rfl
  cases b with
  | true =>
    obtain ⟨y1, y2⟩ := ht.yes rfl
    simp only at y1 y2
    have y3 : ∀ i, i < d.lots.length → taken d st.ld i = taken d s.1 i + (if i = lot then 1 else 0) := fun i hi => by
      rw [y2 i (by omega)]
      by_cases e : i = lot
      · simp [e]
      · rw [if_neg e, if_neg (by omega)]
    have hle : ∀ i, i < d.lots.length → taken d st.ld i ≤ updf dem lot (dem lot + 1) i := fun i hi => by
      rw [hdem, y3 i hi]; have := h.le i hi; omega
    have hlost : s.2 = fsum d.lots.length fun i => updf dem lot (dem lot + 1) i - taken d st.ld i := by
      rw [h.lost]
      refine fsum_congr _ fun i hi => ?_
      rw [hdem, y3 i hi]; omega
    refine ⟨y1, hle, hlost, A, ?_⟩
    have h1 := slack_nn h8 y1 hle A
    have h2 := slack_eq h8 y1 (updf dem lot (dem lot + 1)) A
    have h3 := slack_eq h8 h.flow dem A
    have h4 : defA d f dem A ≤ defA d f (updf dem lot (dem lot + 1)) A := by
      unfold defA
      have := fsum_le d.lots.length (f := fun i => cond (A i) (dem i) 0) (g := fun i => cond (A i) (updf dem lot (dem lot + 1) i) 0) fun i hi => by
        rw [hdem]; cases A i
        · exact Int.le_refl _
        · simp only [cond_true]; split <;> omega
      omega
    rw [← hlost] at h2
    rw [← h.lost, hA] at h3
    show slack d f (updf dem lot (dem lot + 1)) st.ld A = 0
    omega
  | false =>
    obtain ⟨n1, n2, n3⟩ := ht.no rfl
    simp only at n1 n2 n3
    have hle : ∀ i, i < d.lots.length → taken d st.ld i ≤ updf dem lot (dem lot + 1) i := fun i hi => by
      rw [hdem, n1]; have := h.le i hi; split <;> omega
    have hlost : s.2 + 1 = fsum d.lots.length fun i => updf dem lot (dem lot + 1) i - taken d st.ld i := by
      have e : (fsum d.lots.length fun i => updf dem lot (dem lot + 1) i - taken d s.1 i) = fsum d.lots.length fun i => (dem i - taken d s.1 i) + (if i = lot then 1 else 0) := fsum_congr _ fun i hi => by rw [hdem]; omega
      rw [h.lost, n1, e, fsum_add, hdel]
    have hfl : Flow d f st.ld := by rw [n1]; exact h.flow
    refine ⟨hfl, hle, hlost, fun i => A i || decide (i = lot) || decide (∃ x, st.seen x = true ∧ 0 < s.1 x i), ?_⟩
    have h0 := slack_nn h8 hfl hle (fun i => A i || decide (i = lot) || decide (∃ x, st.seen x = true ∧ 0 < s.1 x i))
    suffices hs : slack d f (updf dem lot (dem lot + 1)) st.ld (fun i => A i || decide (i = lot) || decide (∃ x, st.seen x = true ∧ 0 < s.1 x i)) ≤ slack d f dem s.1 A by
      show slack d f (updf dem lot (dem lot + 1)) st.ld _ = 0
      omega
    rw [n1]
    generalize hV : (fun i => A i || decide (i = lot) || decide (∃ x, st.seen x = true ∧ 0 < s.1 x i)) = V
    have hAV : ∀ i, A i = true → V i = true := fun i hi => by rw [← hV]; simp [hi]
    have hVA : ∀ i, V i = true → A i = true ∨ i = lot ∨ ∃ x, st.seen x = true ∧ 0 < s.1 x i := fun i hi => by
      rw [← hV] at hi
      simp only [Bool.or_eq_true, decide_eq_true_eq] at hi
      rcases hi with (h1 | h1) | h1
      · exact .inl h1
      · exact .inr (.inl h1)
      · exact .inr (.inr h1)
    have hlV : V lot = true := by rw [← hV]; simp
    have hsV : ∀ x i, st.seen x = true → 0 < s.1 x i → V i = true := fun x i h1 h2 => by rw [← hV]; simp only [Bool.or_eq_true, decide_eq_true_eq]; exact .inr ⟨x, h1, h2⟩
    unfold slack
    refine Int.add_le_add (fsum_le _ fun i hi => ?_) (gsum_le fun x hx => ?_)
    · have hle1 := h.le i hi
      cases hVi : V i with
      | true => cases A i <;> simp; omega
      | false =>
        have a1 : A i = false := by cases hAi : A i; rfl; rw [hAV i hAi] at hVi; cases hVi
        have a2 : i ≠ lot := fun e => by subst e; rw [hlV] at hVi; cases hVi
        rw [a1, hdem, if_neg a2]; simp
    · have hcap := h.flow.cap x hx
      cases hcV : covA d f V x with
      | false =>
        have : covA d f A x = false := by
          cases hcA : covA d f A x; rfl
          obtain ⟨i, h1, h2, h3⟩ := covA_iff.1 hcA
          rw [covA_iff.2 ⟨i, h1, hAV i h2, h3⟩] at hcV; cases hcV
        rw [this]; exact Int.le_refl _
      | true =>
        simp only [cond_true]
        have hmon : (fsum d.lots.length fun i => cond (A i) (s.1 x i) 0) ≤ fsum d.lots.length fun i => cond (V i) (s.1 x i) 0 := fsum_le _ fun i hi => by
          have := h.flow.nn x i (by omega)
          cases hAi : A i with
          | true => rw [hAV i hAi]; exact Int.le_refl _
          | false => cases V i <;> simp [this]
        cases hcA : covA d f A x with
        | true => simp only [cond_true]; omega
        | false =>
          simp only [cond_false]
          obtain ⟨i, h1, h2, h3⟩ := covA_iff.1 hcV
          have hseen : st.seen x = true := by
            rcases hVA i h2 with h4 | h4 | ⟨y, h4, h5⟩
            · rw [covA_iff.2 ⟨i, h1, h4, h3⟩] at hcA; cases hcA
            · subst h4; exact n2 x hx (by simpa using h3)
            · exact (n3 y h4 trivial).2 i (by omega) h5 x hx h3
          have hfull := (n3 x hseen trivial).1
          have heq : fsum 8 (s.1 x) = fsum d.lots.length fun i => cond (V i) (s.1 x i) 0 := by
            rw [fsum_cut h8 (f := s.1 x) fun i h5 h6 => ?_]
            · refine fsum_congr _ fun i hi => ?_
              have h7 := h.flow.nn x i (by omega)
              by_cases hp : 0 < s.1 x i
              · rw [hsV x i hseen hp]; rfl
              · have : s.1 x i = 0 := by omega
                rw [this]; cases V i <;> rfl
            · have h7 := h.flow.nn x i h6
              by_cases hp : 0 < s.1 x i
              · have := (h.flow.at_ x i h6 hp).1; omega
              · omega
          omega

theorem Inv.takeN (h8 : d.lots.length ≤ 8) {dem : Nat → Int} {s : LD × Int} (h : Inv d f dem s) {lot : Nat} (hl : lot < d.lots.length) : ∀ m : Nat, Inv d f (updf dem lot (dem lot + m)) (DK.takeN d f lot m s)
  | 0 => by
    have : updf dem lot (dem lot + (0 : Nat)) = dem := by funext i; unfold updf; split; rename_i e; subst e; simp; rfl
    rw [this]; exact h
  | m + 1 => by
    have := (Inv.takeN h8 h hl m).step h8 hl
    rw [updf_updf] at this
    have e : updf dem lot (dem lot + (m : Int)) lot + 1 = dem lot + ((m + 1 : Nat) : Int) := by simp [updf]; omega
    rw [e] at this
    exact this
abbrev crI (d : Day) (i : Nat) : Int := (d.lots.getD i default).cr
theorem done_inv (hv : dayV d = true) : ∀ k, k ≤ d.lots.length → Inv d f (fun i => if i < k then crI d i else 0) (doneF d f k)
  | 0, _ => by
    have h0 : ∀ i, taken d (fun _ _ => 0) i = 0 := fun i => gsum_0
    refine ⟨⟨fun _ _ _ => Int.le_refl _, fun _ _ _ h => by simp [doneF] at h, fun x hx => ?_⟩, fun i _ => ?_, ?_, fun _ => false, ?_⟩
    · show fsum 8 (fun _ => 0) ≤ _
      rw [fsum_0]
      obtain ⟨h1, h2, _, _⟩ := mem_grid.1 hx
      have := wk_ok hv (i := x.1.toNat) (by omega)
      exact this.2.2.2.2.2.1
    · show taken d (fun _ _ => 0) i ≤ _
      rw [h0]; simp
    · show (0 : Int) = _
      rw [fsum_congr _ (g := fun _ => 0) (fun i _ => by show _ - taken d (fun _ _ => 0) i = 0; rw [h0]; simp), fsum_0]
    · have hc : ∀ x, covA d f (fun _ => false) x = false := fun x => by unfold covA; simp
      unfold slack
      rw [fsum_congr _ (g := fun _ => 0) (fun i _ => by show cond false 0 (_ - taken d (fun _ _ => 0) i) = 0; rw [h0]; simp), fsum_0, gsum_congr (g := fun _ => 0) (fun x _ => by rw [hc]; rfl), gsum_0]; rfl
  | k + 1, hk => by
    have h8 : d.lots.length ≤ 8 := (day_ok hv).2.2.2.1
    have hl := lot_ok hv (i := k) (by omega)
    have := (done_inv hv k (by omega)).takeN h8 (lot := k) (by omega) (crI d k).toNat
    have e : updf (fun i => if i < k then crI d i else 0) k ((fun i => if i < k then crI d i else 0) k + ((crI d k).toNat : Int)) = fun i => if i < k + 1 then crI d i else 0 := by
      funext i
      unfold updf
      by_cases h : i = k
      · subst h
        have hl1 : 1 ≤ crI d i := hl.1
        show (if i = i then (if i < i then crI d i else 0) + ((crI d i).toNat : Int) else _) = (if i < i + 1 then crI d i else 0)
        rw [if_pos rfl, if_neg (Nat.lt_irrefl _), if_pos (by omega)]; omega
      · rw [if_neg h]; show (if i < k then crI d i else 0) = _; by_cases h2 : i < k
        · rw [if_pos h2, if_pos (by omega)]
        · rw [if_neg h2, if_neg (by omega)]
    rw [e] at this
    exact this

/-- What is taken of all lots, and what is lost. -/
structure Done (d : Day) (f : Nat → Int) (ld : LD) (lost : Int) : Prop where
  flow : Flow d f ld
  le : ∀ i, i < d.lots.length → taken d ld i ≤ crI d i
  eq : lost = fsum d.lots.length (crI d) - fsum d.lots.length (taken d ld)
  max : ∀ A, defA d f (crI d) A ≤ lost
  cut : ∃ A, defA d f (crI d) A = lost
theorem done_done (hv : dayV d = true) : Done d f (doneF d f d.lots.length).1 (doneF d f d.lots.length).2 := by
  have h8 : d.lots.length ≤ 8 := (day_ok hv).2.2.2.1
  have h := done_inv (f := f) hv d.lots.length (Nat.le_refl _)
  have hdem : ∀ A, defA d f (fun i => if i < d.lots.length then crI d i else 0) A = defA d f (crI d) A := fun A => by
    unfold defA
    rw [fsum_congr d.lots.length (f := fun i => cond (A i) (if i < d.lots.length then crI d i else 0) 0) (g := fun i => cond (A i) (crI d i) 0) (fun i hi => by rw [if_pos hi])]
  refine ⟨h.flow, fun i hi => ?_, ?_, fun A => ?_, ?_⟩
  · have := h.le i hi; rwa [if_pos hi] at this
  · rw [h.lost, ← fsum_sub]
    exact fsum_congr _ fun i hi => by rw [if_pos hi]
  · have h1 := slack_nn h8 h.flow h.le A
    have h2 := slack_eq h8 h.flow (fun i => if i < d.lots.length then crI d i else 0) A
    rw [hdem, ← h.lost] at h2
    omega
  · obtain ⟨A, hA⟩ := h.cut
    have h2 := slack_eq h8 h.flow (fun i => if i < d.lots.length then crI d i else 0) A
    rw [hdem, ← h.lost] at h2
    exact ⟨A, by omega⟩
end
end Go.Proofs.Ytioimdegbdkppaa.DK
