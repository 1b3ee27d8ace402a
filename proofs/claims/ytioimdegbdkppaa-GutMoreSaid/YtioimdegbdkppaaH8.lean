/- What the reference reckons, and what it is. -/
import Derived.Test.YtioimdegbdkppaaH7
import Derived.Test.YtioimdegbdkppaaH1
import Derived.Test.YtioimdegbdkppaaKK
namespace Go.Proofs.Ytioimdegbdkppaa.DK
open Go
set_option linter.unusedVariables false

theorem msum_take {α : Type} [Inhabited α] {xs : List α} (g : α → Int) {k : Nat} (h : k < xs.length) : ((xs.take (k + 1)).map g).sum = ((xs.take k).map g).sum + g (xs.getD k default) := by
  have e : xs.getD k default = xs[k] := by simp [List.getD_eq_getElem?_getD, h]
  rw [List.take_succ_eq_append_getElem h, List.map_append, List.sum_append, e]
  simp
theorem any_take {α : Type} [Inhabited α] {xs : List α} (g : α → Bool) {k : Nat} (h : k < xs.length) : (xs.take (k + 1)).any g = ((xs.take k).any g || g (xs.getD k default)) := by
  have e : xs.getD k default = xs[k] := by simp [List.getD_eq_getElem?_getD, h]
  rw [List.take_succ_eq_append_getElem h, List.any_append, e]
  simp
theorem lotsL_len (n : Nat) (A : Nat → Bool) : (lotsL n A).length ≤ n := by
  unfold lotsL
  rw [List.length_map]
  exact Nat.le_trans (List.length_filter_le _ _) (by simp)
theorem memL_len (n : Nat) (set : Int) : (memL n set).length ≤ n := lotsL_len _ _
theorem memL_yes {k : Nat} {set : Int} (h : bitB set k = true) : memL (k + 1) set = memL k set ++ [(k : Int)] := by
  unfold memL lotsL
  rw [List.range_succ, List.filter_append, List.map_append, List.filter_cons_of_pos (p := fun k : Nat => bitB set (k : Int)) h]
  rfl
theorem memL_no {k : Nat} {set : Int} (h : bitB set k = false) : memL (k + 1) set = memL k set := by
  unfold memL lotsL
  rw [List.range_succ, List.filter_append, List.map_append, List.filter_cons_of_neg (p := fun k : Nat => bitB set (k : Int)) (by simp only [h]; simp)]
  simp
theorem memL_in {n : Nat} {set : Int} : ∀ x ∈ memL n set, 0 ≤ x ∧ x < (n : Int) := fun x hx => by
  have := ris_mem _ _ (memL_ris n set) x hx
  omega

/-- Is one of a list in order? -/
theorem risC {below last : Int} {xs : List Int} {k : Nat} (h0 : -1 ≤ last) (h : (k = 0 ∧ last = -1) ∨ (0 < k ∧ last = xs.getD ((k : Int) - 1).toNat default)) :
    (cond (!(inB (xs.getD k default) 0 (below - 1))) true (cond (decide ((k : Int) > 0)) (decide (xs.getD k default ≤ xs.getD ((k : Int) - 1).toNat default)) false)) = !(inB (xs.getD k default) (last + 1) (below - 1)) := by
  generalize xs.getD k default = x at *
  rcases h with ⟨rfl, rfl⟩ | ⟨h1, h2⟩
  · cases hb : inB x 0 (below - 1) with
    | true => rw [show inB x (-1 + 1) (below - 1) = true from hb]; rfl
    | false => rw [show inB x (-1 + 1) (below - 1) = false from hb]; rfl
  · rw [← h2, decide_eq_true (show (k : Int) > 0 by omega)]
    cases hb : inB x 0 (below - 1) with
    | false =>
      cases hc : inB x (last + 1) (below - 1) with
      | false => rfl
      | true => have := inB_iff.1 hc; rw [inB_iff.2 (by omega)] at hb; cases hb
    | true =>
      have h3 := inB_iff.1 hb
      by_cases h4 : x ≤ last
      · rw [decide_eq_true h4]
        cases hc : inB x (last + 1) (below - 1) with
        | false => rfl
        | true => have := inB_iff.1 hc; omega
      · rw [decide_eq_false h4, inB_iff.2 (by omega)]; rfl
theorem befL_drop {xs ys : List Int} {k : Nat} (h1 : k < xs.length) (h2 : k < ys.length) (e : (xs.getD k default != ys.getD k default) = false) : befL (xs.drop (k + 1)) (ys.drop (k + 1)) = befL (xs.drop k) (ys.drop k) := by
  rw [drop_getD h1, drop_getD h2, befL, decide_eq_true (by simpa using e)]; rfl
theorem befL_diff {xs ys : List Int} {k : Nat} (h1 : k < xs.length) (h2 : k < ys.length) (e : (xs.getD k default != ys.getD k default) = true) : befL (xs.drop k) (ys.drop k) = decide (xs.getD k default < ys.getD k default) := by
  rw [drop_getD h1, drop_getD h2, befL, decide_eq_false (by simpa using e)]; rfl
theorem befL_end {xs ys : List Int} {k : Nat} (hk : k ≤ xs.length ∧ k ≤ ys.length) (h : ¬ (k < xs.length ∧ k < ys.length)) : befL (xs.drop k) (ys.drop k) = decide ((xs.length : Int) < ys.length) := by
  by_cases h1 : k < xs.length
  · have h2 : ys.length = k := by omega
    rw [drop_getD h1, List.drop_of_length_le (show ys.length ≤ k by omega), decide_eq_false (by omega)]; rfl
  · rw [List.drop_of_length_le (show xs.length ≤ k by omega)]
    by_cases h2 : k < ys.length
    · rw [drop_getD h2, decide_eq_true (by omega)]; rfl
    · rw [List.drop_of_length_le (show ys.length ≤ k by omega), decide_eq_false (by omega)]; rfl

def takesB (d : Day) (x : Wk) (lot hour : Int) (b : Bool) : Bool :=
  cond (cond (bitB (d.lots.getD lot.toNat default).fi x.kd) (inB hour x.fr x.to) false) (inB hour (d.lots.getD lot.toNat default).la (refUntil (bestE b) d (d.lots.getD lot.toNat default))) false
def dayX (d : Day) (ws : List Wk) : Day := ⟨d.hours, d.heat, d.lots, ws⟩
abbrev uB (b : Bool) (d : Day) : Nat → Int := untils (bestE b) d
section
variable {d : Day} {ws : List Wk} {f : Nat → Int} {xs : List Int}
theorem until_bestE (hv : dayV d = true) {i : Nat} (hi : i < d.lots.length) (b : Bool) : refUntil (bestE b) d (d.lots.getD i default) = uB b d i := by
  rw [← until_eq hv (fun x hx => by cases b; exact sp_hi hx; exact sp_lo hx) hi]
  simp [uB, untils, ufs, hi]
theorem takes_can (hv : dayV d = true) {lot : Int} (hl : 0 ≤ lot ∧ lot < d.lots.length) (b : Bool) (a : Nat) (h : Int) : takesB d (ws.getD a default) lot h b = canB (dayX d ws) (uB b d) lot ((a : Int), h) := by
  unfold takesB
  rw [until_bestE hv (by omega) b]
  rfl
def covR (d : Day) (ws : List Wk) (f : Nat → Int) (xs : List Int) (a h : Nat) : Int := cond (cov (dayX d ws) f xs ((a : Int), (h : Int))) (ws.getD a default).rt 0
def defW (d : Day) (ws : List Wk) (f : Nat → Int) (xs : List Int) (a : Nat) : Int := (xs.map fun x => crI d x.toNat).sum - fsum a fun i => fsum d.hours.toNat (covR d ws f xs i)
def defH (d : Day) (ws : List Wk) (f : Nat → Int) (xs : List Int) (a h : Nat) : Int := defW d ws f xs a - fsum h (covR d ws f xs a)
theorem defH_0 (a : Nat) : defH d ws f xs a 0 = defW d ws f xs a := by unfold defH; rw [fsum_zero]; omega
theorem defH_end (a : Nat) : defH d ws f xs a d.hours.toNat = defW d ws f xs (a + 1) := by unfold defH defW; rw [fsum_succ]; omega
theorem defH_yes {a h : Nat} (hc : cov (dayX d ws) f xs ((a : Int), (h : Int)) = true) : defH d ws f xs a (h + 1) = defH d ws f xs a h - (ws.getD a default).rt := by
  unfold defH; rw [fsum_succ, show covR d ws f xs a h = (ws.getD a default).rt from by rw [covR, hc]; rfl]; omega
theorem defH_no {a h : Nat} (hc : cov (dayX d ws) f xs ((a : Int), (h : Int)) = false) : defH d ws f xs a (h + 1) = defH d ws f xs a h := by
  unfold defH; rw [fsum_succ, show covR d ws f xs a h = 0 from by rw [covR, hc]; rfl]; omega
theorem defW_0 : defW d ws f xs 0 = (xs.map fun x => crI d x.toNat).sum := by unfold defW; rw [fsum_zero]; omega
theorem defW_end : defW d ws f xs ws.length = defV (dayX d ws) f xs := rfl
theorem wkX_ok (hv : dayV (dayX d ws) = true) {i : Nat} (h : i < ws.length) : 0 ≤ (ws.getD i default).kd ∧ (ws.getD i default).kd ≤ 2 ∧ 0 ≤ (ws.getD i default).fr ∧ (ws.getD i default).fr ≤ (ws.getD i default).to ∧ (ws.getD i default).to ≤ d.hours - 1 ∧ 0 ≤ (ws.getD i default).rt ∧ (ws.getD i default).rt ≤ 20 := wk_ok hv h
theorem dayX_len (hv : dayV (dayX d ws) = true) : ws.length ≤ 7 := (day_ok hv).2.2.2.2
theorem refK_yes {k n : Nat} (hn : d.lots.length = n) (h1 : 1 ≤ k) (h : better (defV (dayX d ws) f (memL n (k : Int))) (refK (dayX d ws) f (k - 1)).1 (memL n (k : Int)) (refK (dayX d ws) f (k - 1)).2 = true) : refK (dayX d ws) f (k + 1 - 1) = (defV (dayX d ws) f (memL n (k : Int)), memL n (k : Int)) := by
  subst hn
  obtain ⟨k, rfl⟩ : ∃ j, k = j + 1 := ⟨k - 1, by omega⟩
  show cond (better (defV (dayX d ws) f (memL d.lots.length ((k + 1 : Nat) : Int))) (refK (dayX d ws) f k).1 (memL d.lots.length ((k + 1 : Nat) : Int)) (refK (dayX d ws) f k).2) _ _ = _
  rw [show (refK (dayX d ws) f k) = refK (dayX d ws) f (k + 1 - 1) from rfl, h]; rfl
theorem refK_no {k n : Nat} (hn : d.lots.length = n) (h1 : 1 ≤ k) (h : better (defV (dayX d ws) f (memL n (k : Int))) (refK (dayX d ws) f (k - 1)).1 (memL n (k : Int)) (refK (dayX d ws) f (k - 1)).2 = false) : refK (dayX d ws) f (k + 1 - 1) = refK (dayX d ws) f (k - 1) := by
  subst hn
  obtain ⟨k, rfl⟩ : ∃ j, k = j + 1 := ⟨k - 1, by omega⟩
  show cond (better (defV (dayX d ws) f (memL d.lots.length ((k + 1 : Nat) : Int))) (refK (dayX d ws) f k).1 (memL d.lots.length ((k + 1 : Nat) : Int)) (refK (dayX d ws) f k).2) _ _ = _
  rw [show (refK (dayX d ws) f k) = refK (dayX d ws) f (k + 1 - 1) from rfl, h]; rfl
theorem refK_end {k n : Nat} (hn : d.lots.length = n) (h : k = 2 ^ n) : refK (dayX d ws) f (k - 1) = refGreat (dayX d ws) f := by
  subst hn
  unfold refGreat
  rw [show 2 ^ (dayX d ws).lots.length - 1 = k - 1 from by show 2 ^ d.lots.length - 1 = k - 1; omega]
theorem pow_cast (n : Nat) : ((2 ^ n : Nat) : Int) = (2 : Int) ^ n := by simp
theorem pow_le8 {n : Nat} (h : n ≤ 8) : 2 ^ n ≤ 256 ∧ 1 ≤ 2 ^ n := ⟨Nat.le_trans (Nat.pow_le_pow_right (by omega) h) (by decide), Nat.one_le_two_pow⟩
theorem better_form {n q : Int} {l ys : List Int} {a b : Nat} {r : Bool} (h1 : l.length = a) (h2 : ys.length = b) (h : (cond (decide (n > q)) true (cond (cond (n == q) (decide (q > 0)) false) (cond (decide ((a : Int) < (b : Int))) true (cond ((a : Int) == (b : Int)) (befL l ys) false)) false)) = r) : better n q l ys = r := by
  subst h1; subst h2; exact h
end

/-! ### Plans -/
def ofK (plan : List Tk) (j : Nat) (lot : Int) : Int := ((plan.take j).map fun t => if t.lot = lot then t.cr else 0).sum
def byK (plan : List Tk) (j : Nat) (wk hr : Int) : Int := ((plan.take j).map fun t => if t.wk = wk ∧ t.hr = hr then t.cr else 0).sum
section
variable {plan : List Tk} {j : Nat} {lot wk hr : Int}
theorem ofK_yes (h : j < plan.length) (e : ((plan.getD j default).lot == lot) = true) : ofK plan (j + 1) lot = ofK plan j lot + (plan.getD j default).cr := by
  unfold ofK; rw [msum_take _ h, if_pos (by simpa using e)]
theorem ofK_no (h : j < plan.length) (e : ((plan.getD j default).lot == lot) = false) : ofK plan (j + 1) lot = ofK plan j lot := by
  unfold ofK; rw [msum_take _ h, if_neg (by simpa using e)]; omega
theorem byK_yes (h : j < plan.length) (e : (cond ((plan.getD j default).wk == wk) ((plan.getD j default).hr == hr) false) = true) : byK plan (j + 1) wk hr = byK plan j wk hr + (plan.getD j default).cr := by
  unfold byK; rw [msum_take _ h, if_pos]
  cases h1 : (plan.getD j default).wk == wk with
  | false => rw [h1] at e; cases e
  | true => rw [h1] at e; exact ⟨by simpa using h1, by simpa using e⟩
theorem byK_no (h : j < plan.length) (e : (cond ((plan.getD j default).wk == wk) ((plan.getD j default).hr == hr) false) = false) : byK plan (j + 1) wk hr = byK plan j wk hr := by
  unfold byK; rw [msum_take _ h, if_neg]
  · omega
  · rintro ⟨h1, h2⟩
    rw [h1, h2, beq_self_eq_true, beq_self_eq_true] at e; cases e
theorem ofK_plT {T : Nat → Int} {n : Nat} (h : ∀ i : Nat, i < n → T i = ofK plan j i) (hj : j < plan.length) (h0 : 0 ≤ (plan.getD j default).lot) : ∀ i : Nat, i < n → plT T (plan.getD j default) i = ofK plan (j + 1) i := by
  intro i hi
  unfold plT updf
  by_cases e : i = (plan.getD j default).lot.toNat
  · subst e
    rw [if_pos rfl, ofK_yes hj (by rw [beq_iff_eq]; omega), h _ hi]
  · rw [if_neg e, ofK_no hj (by rw [beq_eq_false_iff_ne]; omega), h i hi]
theorem byK_plB {B : Int × Int → Int} (h : ∀ x, B x = byK plan j x.1 x.2) (hj : j < plan.length) : ∀ x, plB B (plan.getD j default) x = byK plan (j + 1) x.1 x.2 := by
  intro x
  unfold plB updt
  by_cases e : x = ((plan.getD j default).wk, (plan.getD j default).hr)
  · subst e
    rw [if_pos rfl, byK_yes hj (by simp), h]
  · rw [if_neg e, byK_no hj, h]
    cases h1 : (plan.getD j default).wk == x.1 with
    | false => rfl
    | true =>
      show ((plan.getD j default).hr == x.2) = false
      rw [beq_eq_false_iff_ne]
      intro h2
      exact e (Prod.ext (by simpa using (beq_iff_eq.1 h1).symm) h2.symm)
end
def refBad (d : Day) (t : Tk) : Bool :=
  cond (cond (cond (cond (!(inB t.lot 0 ((d.lots.length : Int) - 1))) true (!(inB t.wk 0 ((d.wks.length : Int) - 1)))) true (!(inB t.hr 0 (d.hours - 1)))) true (!(inB t.cr 1 50))) true (!(takesB d (d.wks.getD t.wk.toNat default) t.lot t.hr false))
theorem refBad_eq {d : Day} (hv : dayV d = true) (t : Tk) : refBad d t = plBad d (hot d) t := by
  unfold refBad plBad
  cases h1 : inB t.lot 0 ((d.lots.length : Int) - 1) with
  | false => rfl
  | true =>
    cases h2 : inB t.wk 0 ((d.wks.length : Int) - 1) with
    | false => rfl
    | true =>
      have e1 := inB_iff.1 h1; have e2 := inB_iff.1 h2
      have ht := takes_can (ws := d.wks) hv (lot := t.lot) (by omega) false t.wk.toNat t.hr
      rw [Int.toNat_of_nonneg (by omega)] at ht
      have ht2 : takesB d (d.wks.getD t.wk.toNat default) t.lot t.hr false = canB d (hot d) t.lot (t.wk, t.hr) := ht
      rw [ht2]
      cases h3 : canB d (hot d) t.lot (t.wk, t.hr) with
      | false => cases inB t.hr 0 (d.hours - 1) <;> cases inB t.cr 1 50 <;> rfl
      | true =>
        have hw := wk_ok hv (i := t.wk.toNat) (by omega)
        have h4 : inB t.hr (d.wks.getD t.wk.toNat default).fr (d.wks.getD t.wk.toNat default).to = true := by
          unfold canB at h3
          cases h5 : inB t.hr (d.wks.getD t.wk.toNat default).fr (d.wks.getD t.wk.toNat default).to with
          | true => rfl
          | false => rw [show inB (t.wk, t.hr).2 (d.wks.getD (t.wk, t.hr).1.toNat default).fr (d.wks.getD (t.wk, t.hr).1.toNat default).to = false from h5] at h3; cases bitB (d.lots.getD t.lot.toNat default).fi (d.wks.getD (t.wk, t.hr).1.toNat default).kd <;> simp at h3
        have h6 := inB_iff.1 h4
        rw [inB_iff.2 (show 0 ≤ t.hr ∧ t.hr ≤ d.hours - 1 by omega)]
        cases inB t.cr 1 50 <;> rfl
theorem guard4 {a b c e : Bool} (h : (!(cond (cond (cond (!a) true (!b)) true (!c)) true (!e))) = true) : a = true ∧ b = true ∧ c = true ∧ e = true := by cases a <;> cases b <;> cases c <;> cases e <;> simp_all
end Go.Proofs.Ytioimdegbdkppaa.DK
