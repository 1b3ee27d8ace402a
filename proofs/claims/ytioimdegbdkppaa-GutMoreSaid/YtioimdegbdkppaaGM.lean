/- What taking crans reckons: in plain Lean. -/
import Derived.Test.YtioimdegbdkppaaGDef
namespace Go.Proofs.Ytioimdegbdkppaa.DK
open Go
set_option linter.unusedVariables false
set_option linter.unusedSimpArgs false

/-! ### Who can take a lot, in order -/
def slotsW (d : Day) (f : Nat → Int) (lot : Int) (k h : Nat) : List (Int × Int) := ((List.range' h (d.hours.toNat - h)).map fun (j : Nat) => ((k : Int), (j : Int))).filter (canB d f lot)
def slotsA (d : Day) (f : Nat → Int) (lot : Int) (k : Nat) : List (Int × Int) := (List.range' k (d.wks.length - k)).flatMap fun k => slotsW d f lot k 0

section
variable {d : Day} {f : Nat → Int} {lot : Int} {k h : Nat}
theorem slotsW_end (hh : d.hours ≤ (h : Int)) : slotsW d f lot k h = [] := by
  have : d.hours.toNat - h = 0 := by omega
  simp [slotsW, this]
theorem range'_cons {a n : Nat} (h : a < n) : List.range' a (n - a) = a :: List.range' (a + 1) (n - (a + 1)) := by
  rw [show n - a = (n - (a + 1)) + 1 from by omega, List.range'_succ]
theorem slotsW_yes (hh : (h : Int) < d.hours) (hc : canB d f lot ((k : Int), (h : Int)) = true) : slotsW d f lot k h = ((k : Int), (h : Int)) :: slotsW d f lot k (h + 1) := by
  unfold slotsW
  rw [range'_cons (by omega), List.map_cons, List.filter_cons_of_pos hc]
theorem slotsW_no (hh : (h : Int) < d.hours) (hc : canB d f lot ((k : Int), (h : Int)) = false) : slotsW d f lot k h = slotsW d f lot k (h + 1) := by
  unfold slotsW
  rw [range'_cons (by omega), List.map_cons, List.filter_cons_of_neg (by simp [hc])]
theorem slotsA_end (hh : d.wks.length ≤ k) : slotsA d f lot k = [] := by
  have : d.wks.length - k = 0 := by omega
  simp [slotsA, this]
theorem slotsA_step (hh : k < d.wks.length) : slotsA d f lot k = slotsW d f lot k 0 ++ slotsA d f lot (k + 1) := by
  unfold slotsA
  rw [range'_cons hh, List.flatMap_cons]
theorem mem_slotsA {x : Int × Int} (hx : x ∈ slotsA d f lot k) : 0 ≤ x.1 ∧ x.1 < d.wks.length ∧ 0 ≤ x.2 ∧ x.2 < d.hours ∧ canB d f lot x = true := by
  simp only [slotsA, slotsW, List.mem_flatMap, List.mem_filter, List.mem_map, List.mem_range'_1] at hx
  obtain ⟨a, ha, ⟨j, hj, rfl⟩, hc⟩ := hx
  refine ⟨by simp, by simp; omega, by simp, by simp; omega, hc⟩
end

/-! ### Taking a cran more -/
structure TS where
  seen : Int × Int → Bool
  ld : Int × Int → Nat → Int

def fsum (n : Nat) (f : Nat → Int) : Int := ((List.range n).map f).sum

def tryO (rec : Int → TS → Bool × TS) (lot : Int) (l : Nat → Int) : List Nat → TS → Option Nat × TS
  | [], st => (none, st)
  | o :: os, st => if 0 < l o ∧ (o : Int) ≠ lot then (match rec (o : Int) st with
      | (true, st') => (some o, st')
      | (false, st') => tryO rec lot l os st')
    else tryO rec lot l os st

def tryS (rec : Int → TS → Bool × TS) (d : Day) (lot : Int) : List (Int × Int) → TS → Bool × TS
  | [], st => (false, st)
  | s :: rest, st => if st.seen s = true then tryS rec d lot rest st else
    if fsum 8 (st.ld s) < (d.wks.getD s.1.toNat default).rt then (true, ⟨updt st.seen s true, updt st.ld s (updf (st.ld s) lot.toNat (st.ld s lot.toNat + 1))⟩)
    else match tryO rec lot (st.ld s) (List.range 8) ⟨updt st.seen s true, st.ld⟩ with
      | (some o, st2) => (true, ⟨st2.seen, updt st2.ld s (updf (updf (st.ld s) lot.toNat (st.ld s lot.toNat + 1)) o (updf (st.ld s) lot.toNat (st.ld s lot.toNat + 1) o - 1))⟩)
      | (none, st2) => tryS rec d lot rest st2

def takeF (d : Day) (f : Nat → Int) : Nat → Int → TS → Bool × TS
  | 0, _, st => (false, st)
  | n + 1, lot, st => tryS (takeF d f n) d lot (slotsA d f lot 0) st

/-! ### What it keeps -/
def okL (m : Nat) (ld : Int × Int → Nat → Int) : Prop := ∀ s, (∀ i, i < 8 → 0 ≤ ld s i ∧ (0 < ld s i → i < m)) ∧ fsum 8 (ld s) ≤ 20

theorem fsum8 (f : Nat → Int) : fsum 8 f = f 0 + f 1 + f 2 + f 3 + f 4 + f 5 + f 6 + f 7 := by
  simp [fsum, List.range_succ, List.sum_append]; omega

theorem lt8 {p : Nat → Prop} (h0 : p 0) (h1 : p 1) (h2 : p 2) (h3 : p 3) (h4 : p 4) (h5 : p 5) (h6 : p 6) (h7 : p 7) : ∀ i, i < 8 → p i := by
  intro i hi
  match i with
  | 0 => exact h0
  | 1 => exact h1
  | 2 => exact h2
  | 3 => exact h3
  | 4 => exact h4
  | 5 => exact h5
  | 6 => exact h6
  | 7 => exact h7
  | n + 8 => omega

theorem fsum_upd (f : Nat → Int) {i : Nat} (hi : i < 8) (x : Int) : fsum 8 (updf f i x) = fsum 8 f - f i + x := by
  rw [fsum8, fsum8]
  exact lt8 (p := fun i => updf f i x 0 + updf f i x 1 + updf f i x 2 + updf f i x 3 + updf f i x 4 + updf f i x 5 + updf f i x 6 + updf f i x 7 = f 0 + f 1 + f 2 + f 3 + f 4 + f 5 + f 6 + f 7 - f i + x)
    (by simp [updf] <;> omega) (by simp [updf] <;> omega) (by simp [updf] <;> omega) (by simp [updf] <;> omega) (by simp [updf] <;> omega) (by simp [updf] <;> omega) (by simp [updf] <;> omega) (by simp [updf] <;> omega) i hi

theorem okL.le {m : Nat} {ld : Int × Int → Nat → Int} (h : okL m ld) (s : Int × Int) {i : Nat} (hi : i < 8) : 0 ≤ ld s i ∧ ld s i ≤ 20 := by
  obtain ⟨h1, h2⟩ := h s
  rw [fsum8] at h2
  have a0 := (h1 0 (by omega)).1; have a1 := (h1 1 (by omega)).1; have a2 := (h1 2 (by omega)).1; have a3 := (h1 3 (by omega)).1
  have a4 := (h1 4 (by omega)).1; have a5 := (h1 5 (by omega)).1; have a6 := (h1 6 (by omega)).1; have a7 := (h1 7 (by omega)).1
  exact lt8 (p := fun i => 0 ≤ ld s i ∧ ld s i ≤ 20) (by omega) (by omega) (by omega) (by omega) (by omega) (by omega) (by omega) (by omega) i hi

theorem okL.bdd {m : Nat} {ld : Int × Int → Nat → Int} (h : okL m ld) (s : Int × Int) : bdd ((List.range 8).map (ld s)) := by
  refine ⟨by simp, fun x hx => ?_⟩
  simp only [List.mem_map, List.mem_range] at hx
  obtain ⟨i, hi, rfl⟩ := hx
  have := h.le s hi
  omega

/-- One more of a lot, where there is room. -/
theorem okL.more {m : Nat} {ld : Int × Int → Nat → Int} (h : okL m ld) (s : Int × Int) {i : Nat} (hi : i < 8) (him : i < m) (hr : fsum 8 (ld s) < 20) : okL m (updt ld s (updf (ld s) i (ld s i + 1))) := by
  intro t
  unfold updt
  split
  · refine ⟨fun j hj => ?_, ?_⟩
    · unfold updf; split
      · rename_i e; subst e; have := h.le s hi; exact ⟨by omega, fun _ => him⟩
      · exact (h s).1 j hj
    · rw [fsum_upd _ hi]; omega
  · exact h t

/-- One more of a lot, one less of another. -/
theorem okL.swap {m : Nat} {ld : Int × Int → Nat → Int} (h : okL m ld) (s : Int × Int) {l : Nat → Int} (hl : (∀ i, i < 8 → 0 ≤ l i ∧ (0 < l i → i < m)) ∧ fsum 8 l ≤ 20) {i o : Nat} (hi : i < 8) (him : i < m) (ho : o < 8) (hne : o ≠ i) (hpos : 0 < l o) : okL m (updt ld s (updf (updf l i (l i + 1)) o (updf l i (l i + 1) o - 1))) := by
  intro t
  unfold updt
  split
  · have e : updf l i (l i + 1) o = l o := by simp [updf, hne]
    rw [e]
    refine ⟨fun j hj => ?_, ?_⟩
    · have h1 := hl.1 i hi; have h2 := hl.1 j hj
      unfold updf; split
      · rename_i e; subst e; exact ⟨by omega, fun _ => h2.2 hpos⟩
      · split
        · rename_i e; subst e; exact ⟨by omega, fun _ => him⟩
        · exact h2
    · rw [fsum_upd _ ho, fsum_upd _ hi, e]; omega
  · exact h t

section
variable {d : Day} {f : Nat → Int}

/-- What rec keeps. -/
structure Keeps (m : Nat) (rec : Int → TS → Bool × TS) : Prop where
  seen : ∀ lot st x, st.seen x = true → (rec lot st).2.seen x = true
  okL : ∀ (lot : Int) st, 0 ≤ lot ∧ lot < (m : Int) → okL m st.ld → okL m (rec lot st).2.ld

theorem Keeps.tryO {m : Nat} (hm : m ≤ 8) {rec : Int → TS → Bool × TS} (h : Keeps m rec) {lot : Int} {l : Nat → Int} : ∀ (os : List Nat) (st : TS), (∀ o ∈ os, o < 8 ∧ (0 < l o → o < m)) →
    (∀ x, st.seen x = true → (DK.tryO rec lot l os st).2.seen x = true) ∧ (DK.okL m st.ld → DK.okL m (DK.tryO rec lot l os st).2.ld) ∧ (∀ o, (DK.tryO rec lot l os st).1 = some o → o < 8 ∧ 0 < l o ∧ (o : Int) ≠ lot)
  | [], st, _ => ⟨fun x hx => hx, fun hk => hk, fun o ho => by simp [DK.tryO] at ho⟩
  | o :: os, st, hos => by
    have ho := hos o (by simp)
    have ih := fun st' => Keeps.tryO hm h (lot := lot) (l := l) os st' (fun o ho => hos o (by simp [ho]))
    unfold DK.tryO
    split
    · rename_i hc
      have h1 := h.seen o st
      have h2 := h.okL o st ⟨by omega, by have := ho.2 hc.1; omega⟩
      cases hr : rec (o : Int) st with
      | mk b st' =>
        rw [hr] at h1 h2
        cases b
        · exact ⟨fun x hx => (ih st').1 x (h1 x hx), fun hk => (ih st').2.1 (h2 hk), (ih st').2.2⟩
        · refine ⟨fun x hx => h1 x hx, fun hk => h2 hk, fun o' ho' => ?_⟩
          simp only [Option.some.injEq] at ho'; subst ho'; exact ⟨ho.1, hc⟩
    · exact ih st

theorem Keeps.tryOs {m : Nat} {rec : Int → TS → Bool × TS} (h : Keeps m rec) {lot : Int} {l : Nat → Int} : ∀ (os : List Nat) (st : TS) (x : Int × Int), st.seen x = true → (DK.tryO rec lot l os st).2.seen x = true
  | [], st, x, hx => hx
  | o :: os, st, x, hx => by
    unfold DK.tryO
    split
    · have h1 := h.seen o st x hx
      cases hr : rec (o : Int) st with
      | mk b st' =>
        rw [hr] at h1
        cases b
        · exact Keeps.tryOs h os st' x h1
        · exact h1
    · exact Keeps.tryOs h os st x hx

theorem Keeps.tryS {m : Nat} (hm : m ≤ 8) {rec : Int → TS → Bool × TS} (h : Keeps m rec) (hv : dayV d = true) {lot : Int} : ∀ (ss : List (Int × Int)) (st : TS), (∀ s ∈ ss, s.1.toNat < d.wks.length) →
    (∀ x, st.seen x = true → (DK.tryS rec d lot ss st).2.seen x = true) ∧ (0 ≤ lot ∧ lot < m → DK.okL m st.ld → DK.okL m (DK.tryS rec d lot ss st).2.ld)
  | [], st, _ => ⟨fun x hx => hx, fun _ hk => hk⟩
  | s :: ss, st, hss => by
    have hs := hss s (by simp)
    have ih := fun st' => Keeps.tryS hm h hv (lot := lot) ss st' (fun s hs => hss s (by simp [hs]))
    have hrate := wk_ok hv hs
    unfold DK.tryS
    split
    · exact ih st
    · have hup : ∀ x, st.seen x = true → updt st.seen s true x = true := fun x hx => by unfold updt; split <;> simp_all
      split
      · rename_i hlt
        exact ⟨hup, fun hl hk => hk.more s (by omega) (by omega) (by omega)⟩
      · have ht := fun hok : DK.okL m st.ld => h.tryO hm (lot := lot) (l := st.ld s) (List.range 8) ⟨updt st.seen s true, st.ld⟩ (fun o ho => ⟨by simpa using ho, ((hok s).1 o (by simpa using ho)).2⟩)
        have hts := h.tryOs (lot := lot) (l := st.ld s) (List.range 8) ⟨updt st.seen s true, st.ld⟩
        cases hr : DK.tryO rec lot (st.ld s) (List.range 8) ⟨updt st.seen s true, st.ld⟩ with
        | mk o st2 =>
          rw [hr] at ht hts
          cases o with
          | none => exact ⟨fun x hx => (ih st2).1 x (hts x (hup x hx)), fun hl hk => (ih st2).2 hl ((ht hk).2.1 hk)⟩
          | some o =>
            refine ⟨fun x hx => hts x (hup x hx), fun hl hk => ?_⟩
            obtain ⟨o1, o2, o3⟩ := (ht hk).2.2 o rfl
            exact ((ht hk).2.1 hk).swap s (hk s) (by omega) (by omega) o1 (by omega) o2

theorem keeps_take (hv : dayV d = true) : ∀ n, Keeps d.lots.length (takeF d f n)
  | 0 => ⟨fun lot st x hx => hx, fun lot st _ hk => hk⟩
  | n + 1 => by
    have key := fun lot st => (keeps_take hv n).tryS (by have := day_ok hv; omega) (lot := lot) hv (slotsA d f lot 0) st (fun s hs => by have := mem_slotsA hs; omega)
    exact ⟨fun lot st => (key lot st).1, fun lot st => (key lot st).2⟩

/-! ### How many slots are not seen -/
def grid (d : Day) : List (Int × Int) := (List.range d.wks.length).flatMap fun (a : Nat) => (List.range d.hours.toNat).map fun (h : Nat) => ((a : Int), (h : Int))
def unseen (d : Day) (S : Int × Int → Bool) : Nat := ((grid d).filter fun x => !S x).length

theorem mem_grid {x : Int × Int} : x ∈ grid d ↔ 0 ≤ x.1 ∧ x.1 < d.wks.length ∧ 0 ≤ x.2 ∧ x.2 < d.hours := by
  obtain ⟨a, h⟩ := x
  simp only [grid, List.mem_flatMap, List.mem_range, List.mem_map, Prod.mk.injEq]
  constructor
  · rintro ⟨a', ha, h', hh, rfl, rfl⟩; omega
  · rintro ⟨h1, h2, h3, h4⟩; exact ⟨a.toNat, by omega, h.toNat, by omega, by omega, by omega⟩

theorem filter_le {α : Type} {p q : α → Bool} (h : ∀ x, q x = true → p x = true) : ∀ l : List α, (l.filter q).length ≤ (l.filter p).length
  | [] => by simp
  | x :: l => by
    have := filter_le h l
    by_cases hq : q x = true
    · simp [hq, h x hq, this]
    · by_cases hp : p x = true
      · simp [hq, hp]; omega
      · simp [hq, hp, this]
theorem filter_lt {α : Type} {p q : α → Bool} (h : ∀ x, q x = true → p x = true) : ∀ l : List α, (∃ x ∈ l, p x = true ∧ q x = false) → (l.filter q).length < (l.filter p).length
  | [], ⟨x, hx, _⟩ => by simp at hx
  | y :: l, ⟨x, hx, hp, hq⟩ => by
    have hle := filter_le h l
    rcases List.mem_cons.1 hx with rfl | hx
    · simp [hp, hq]; omega
    · have := filter_lt h l ⟨x, hx, hp, hq⟩
      by_cases hqy : q y = true
      · simp [hqy, h y hqy, this]
      · by_cases hpy : p y = true
        · simp [hqy, hpy]; omega
        · simp [hqy, hpy, this]

theorem unseen_le {S S' : Int × Int → Bool} (h : ∀ x, S x = true → S' x = true) : unseen d S' ≤ unseen d S :=
  filter_le (fun x hx => by cases hs : S x; rfl; simp [h x hs] at hx) _
theorem unseen_lt {S S' : Int × Int → Bool} (h : ∀ x, S x = true → S' x = true) {x : Int × Int} (hx : x ∈ grid d) (h0 : S x = false) (h1 : S' x = true) : unseen d S' < unseen d S :=
  filter_lt (fun x hx => by cases hs : S x; rfl; simp [h x hs] at hx) _ ⟨x, hx, by simp [h0], by simp [h1]⟩

/-! ### Step by step -/
variable {rec : Int → TS → Bool × TS} {lot : Int} {s : Int × Int} {rest : List (Int × Int)} {st st2 : TS} {l : Nat → Int} {o : Nat} {os : List Nat}
theorem tryS_seen (h : st.seen s = true) : tryS rec d lot (s :: rest) st = tryS rec d lot rest st := by rw [tryS, if_pos h]
theorem tryS_room (h : st.seen s = false) (hr : fsum 8 (st.ld s) < (d.wks.getD s.1.toNat default).rt) : tryS rec d lot (s :: rest) st = (true, ⟨updt st.seen s true, updt st.ld s (updf (st.ld s) lot.toNat (st.ld s lot.toNat + 1))⟩) := by
  rw [tryS, if_neg (by simp [h]), if_pos hr]
theorem tryS_swap (h : st.seen s = false) (hr : ¬ fsum 8 (st.ld s) < (d.wks.getD s.1.toNat default).rt) (ho : tryO rec lot (st.ld s) (List.range 8) ⟨updt st.seen s true, st.ld⟩ = (some o, st2)) :
    tryS rec d lot (s :: rest) st = (true, ⟨st2.seen, updt st2.ld s (updf (updf (st.ld s) lot.toNat (st.ld s lot.toNat + 1)) o (updf (st.ld s) lot.toNat (st.ld s lot.toNat + 1) o - 1))⟩) := by
  rw [tryS, if_neg (by simp [h]), if_neg hr, ho]
theorem tryS_none (h : st.seen s = false) (hr : ¬ fsum 8 (st.ld s) < (d.wks.getD s.1.toNat default).rt) (ho : tryO rec lot (st.ld s) (List.range 8) ⟨updt st.seen s true, st.ld⟩ = (none, st2)) :
    tryS rec d lot (s :: rest) st = tryS rec d lot rest st2 := by
  rw [tryS, if_neg (by simp [h]), if_neg hr, ho]
theorem tryO_skip (hc : ¬ (0 < l o ∧ (o : Int) ≠ lot)) : tryO rec lot l (o :: os) st = tryO rec lot l os st := by rw [tryO, if_neg hc]
theorem tryO_hit (h1 : 0 < l o) (h2 : (o : Int) ≠ lot) (hr : (rec (o : Int) st).1 = true) : tryO rec lot l (o :: os) st = (some o, (rec (o : Int) st).2) := by
  rw [tryO, if_pos ⟨h1, h2⟩]
  cases hc : rec (o : Int) st with | mk b st' => rw [hc] at hr; simp only at hr; subst hr; rfl
theorem tryO_fail (h1 : 0 < l o) (h2 : (o : Int) ≠ lot) (hr : (rec (o : Int) st).1 = false) : tryO rec lot l (o :: os) st = tryO rec lot l os (rec (o : Int) st).2 := by
  rw [tryO, if_pos ⟨h1, h2⟩]
  cases hc : rec (o : Int) st with | mk b st' => rw [hc] at hr; simp only at hr; subst hr; rfl
end
end Go.Proofs.Ytioimdegbdkppaa.DK
