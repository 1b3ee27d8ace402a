/- Days that are changed a little: what is lost then. -/
import Derived.Test.YtioimdegbdkppaaH12
namespace Go.Proofs.Ytioimdegbdkppaa.DK
open Go
set_option linter.unusedVariables false

def dayLts (d : Day) (ls : List Lot) : Day := ⟨d.hours, d.heat, ls, d.wks⟩
def dayHt (d : Day) (hs : List Sp) : Day := ⟨d.hours, hs, d.lots, d.wks⟩
def dvL (v : DV) (p : Option Addr) (n c : Nat) : DV := ⟨v.ha, v.hn, v.hc, p, n, c, v.wa, v.wn, v.wc⟩
def dvH (v : DV) (p : Option Addr) (n c : Nat) : DV := ⟨p, n, c, v.la, v.ln, v.lc, v.wa, v.wn, v.wc⟩
def dvX (v : DV) (p : Option Addr) (n c : Nat) : DV := ⟨v.ha, v.hn, v.hc, v.la, v.ln, v.lc, p, n, c⟩
section
variable {bd : Nat} {w : World} {v : DV} {d : Day} {p : Option Addr} {n c : Nat}
theorem dayLts_R {ls : List Lot} (h : DayR bd w v d) (hr : Rd encLot 4 bd w p n ls) (hc : n ≤ c) : DayR bd w (dvL v p n c) (dayLts d ls) := ⟨h.heat, hr, h.wks, h.hlt, h.caps.1, hc, h.caps.2.2⟩
theorem dayHt_R {hs : List Sp} (h : DayR bd w v d) (hr : Rd encSp 2 bd w p n hs) (hc : n ≤ c) : DayR bd w (dvH v p n c) (dayHt d hs) := ⟨hr, h.lots, h.wks, h.hlt, hc, h.caps.2.1, h.caps.2.2⟩
theorem dayX_R {ws : List Wk} (h : DayR bd w v d) (hr : Rd encWk 4 bd w p n ws) (hc : n ≤ c) : DayR bd w (dvX v p n c) (dayX d ws) := ⟨h.heat, h.lots, hr, h.hlt, h.caps.1, h.caps.2.1, hc⟩
end

section
variable {d d' : Day} {f f' : Nat → Int}
/-- If each deficit is at most another one and c more, so is what is lost. -/
theorem lost_le (hv : dayV d = true) (hv' : dayV d' = true) (c : Int) (h : ∀ xs', risF d'.lots.length (-1) xs' = true → ∃ xs, risF d.lots.length (-1) xs = true ∧ defV d' f' xs' ≤ defV d f xs + c) : (doneF d' f' d'.lots.length).2 ≤ (doneF d f d.lots.length).2 + c := by
  obtain ⟨_, xs', h1, h2⟩ := done_defV (f := f') hv'
  obtain ⟨xs, h3, h4⟩ := h xs' h1
  have h5 := (done_defV (f := f) hv).1 xs h3
  omega
theorem rate_nn (hv : dayV d = true) {s : Int × Int} (hs : s ∈ grid d) : 0 ≤ rate d s := by
  obtain ⟨h1, h2, _, _⟩ := mem_grid.1 hs
  exact (wk_ok hv (i := s.1.toNat) (by omega)).2.2.2.2.2.1
theorem cov_iff {xs : List Int} {s : Int × Int} : cov d f xs s = true ↔ ∃ x ∈ xs, canB d f x s = true := by unfold cov; exact List.any_eq_true
/-- With workers that can more, and greater rates, each deficit is not greater. -/
theorem defV_le {xs : List Int} {c : Int} (hL : (xs.map fun x => crI d' x.toNat).sum ≤ (xs.map fun x => crI d x.toNat).sum + c) (hW : d'.wks.length = d.wks.length) (hH : d'.hours = d.hours)
    (hC : ∀ s ∈ grid d, ∀ x ∈ xs, canB d f x s = true → canB d' f' x s = true) (hR : ∀ s ∈ grid d, rate d s ≤ rate d' s ∧ 0 ≤ rate d' s) : defV d' f' xs ≤ defV d f xs + c := by
  have h : gsum d (fun s => cond (cov d f xs s) (rate d s) 0) ≤ gsum d' (fun s => cond (cov d' f' xs s) (rate d' s) 0) := by
    have e : gsum d' (fun s => cond (cov d' f' xs s) (rate d' s) 0) = gsum d (fun s => cond (cov d' f' xs s) (rate d' s) 0) := by unfold gsum; rw [hW, hH]
    rw [e]
    refine gsum_le fun s hs => ?_
    have hr := hR s hs
    cases hc : cov d f xs s with
    | false => cases cov d' f' xs s <;> simp; exact hr.2
    | true =>
      obtain ⟨x, h1, h2⟩ := cov_iff.1 hc
      rw [cov_iff.2 ⟨x, h1, hC s hs x h1 h2⟩]; exact hr.1
  unfold defV; omega
theorem bestN_eq (hc : chk d = 0) : bestN d = (doneF d (hot d) d.lots.length).2 := by unfold bestN; rw [if_neg (by simp [hc])]
theorem chk_of (h : dayB d = true) : chk d = 0 := by unfold chk; rw [if_pos h]
theorem proof_great (hc : chk d = 0) (hv : dayV d = true) : Great d (hot d) (bestN d) (gutProof d) := by
  have h := proofK_great (d := d) (f := hot d)
  have e : gutProof d = (proofK d (hot d) d.lots.length).2 := by unfold gutProof; rw [if_neg (by simp [hc])]
  rw [e, bestN_eq hc, ← h.lost hv]; exact h
theorem deficit_eq (hc : chk d = 0) {xs : List Int} (h : risF d.lots.length (-1) xs = true) : gutDeficit d xs = (defV d (hot d) xs, 0) := by
  unfold gutDeficit
  rw [if_neg (by simp [hc]), if_pos h, defF_eq]

theorem best_bd (hv : dayV d = true) (hc : chk d = 0) : 0 ≤ bestN d ∧ bestN d ≤ 400 := by
  have h := doneF_ok (f := hot d) hv d.lots.length (Nat.le_refl _)
  have h8 := (day_ok hv).2.2.2.1
  rw [bestN_eq hc]; omega
theorem key_of {m n : Int} {a b : List Int} {q p : Nat} (h1 : a.length = q) (h2 : b.length = p) (h : (cond (m == n) (cond (decide ((q : Int) < (p : Int))) true (cond ((q : Int) == (p : Int)) (befL a b) false)) false) = true) : m = n ∧ keyL a b = true := by
  subst h1; subst h2
  cases hm : (m == n) with
  | false => rw [hm] at h; cases h
  | true =>
    rw [hm, cond_true] at h
    refine ⟨beq_iff_eq.1 hm, keyL_iff.2 ?_⟩
    by_cases h1 : a.length < b.length
    · exact .inl h1
    · rw [decide_eq_false (show ¬ (a.length : Int) < b.length by omega), cond_false] at h
      cases h2 : ((a.length : Int) == (b.length : Int)) with
      | false => rw [h2] at h; cases h
      | true => rw [h2] at h; exact .inr ⟨by have := beq_iff_eq.1 h2; omega, h⟩

/-! ### A cran more of a lot -/
def lotInc (l : Lot) : Lot := ⟨l.cr + 1, l.la, l.ke, l.fi⟩
abbrev dayInc (d : Day) (x : Int) : Day := dayLts d (d.lots.set x.toNat (lotInc (d.lots.getD x.toNat default)))
theorem getD_set {α : Type} [Inhabited α] {ls : List α} {i j : Nat} {y : α} (hi : i < ls.length) (hj : j < ls.length) : (ls.set i y).getD j default = if i = j then y else ls.getD j default := by
  rw [List.getD_eq_getElem?_getD, List.getElem?_set, List.getD_eq_getElem?_getD]
  by_cases e : i = j
  · rw [if_pos e, if_pos e, if_pos (by omega)]; rfl
  · rw [if_neg e, if_neg e]
theorem inc_len (x : Int) : (dayInc d x).lots.length = d.lots.length := by unfold dayInc dayLts; simp
theorem inc_lot {x : Int} (hx : x.toNat < d.lots.length) {j : Nat} (hj : j < d.lots.length) : ((dayInc d x).lots.getD j default).la = (d.lots.getD j default).la ∧ ((dayInc d x).lots.getD j default).ke = (d.lots.getD j default).ke ∧ ((dayInc d x).lots.getD j default).fi = (d.lots.getD j default).fi ∧
    ((dayInc d x).lots.getD j default).cr = (d.lots.getD j default).cr + if j = x.toNat then 1 else 0 := by
  show ((d.lots.set x.toNat (lotInc (d.lots.getD x.toNat default))).getD j default).la = _ ∧ ((d.lots.set x.toNat (lotInc (d.lots.getD x.toNat default))).getD j default).ke = _ ∧ ((d.lots.set x.toNat (lotInc (d.lots.getD x.toNat default))).getD j default).fi = _ ∧ ((d.lots.set x.toNat (lotInc (d.lots.getD x.toNat default))).getD j default).cr = _
  rw [getD_set hx hj]
  by_cases e : x.toNat = j
  · subst e; rw [if_pos rfl, if_pos rfl]; exact ⟨rfl, rfl, rfl, rfl⟩
  · rw [if_neg e, if_neg (fun h => e h.symm)]; exact ⟨rfl, rfl, rfl, (Int.add_zero _).symm⟩
theorem untils_same {e : Sp → Int} {i : Nat} (hh : d'.heat = d.heat) (hl : d'.lots.length = d.lots.length) (h1 : i < d.lots.length → (d'.lots.getD i default).la = (d.lots.getD i default).la ∧ (d'.lots.getD i default).ke = (d.lots.getD i default).ke) : untils e d' i = untils e d i := by
  unfold untils ufs
  rw [hl]
  by_cases h : i < d.lots.length
  · rw [if_pos h, if_pos h]
    unfold untilL
    rw [hh, (h1 h).1, (h1 h).2]
  · rw [if_neg h, if_neg h]
theorem canB_same {lot : Int} {s : Int × Int} (h1 : (d'.lots.getD lot.toNat default).fi = (d.lots.getD lot.toNat default).fi) (h2 : (d'.lots.getD lot.toNat default).la = (d.lots.getD lot.toNat default).la) (h3 : f' lot.toNat = f lot.toNat) (h4 : d'.wks.getD s.1.toNat default = d.wks.getD s.1.toNat default) : canB d' f' lot s = canB d f lot s := by
  unfold canB; rw [h1, h2, h3, h4]
theorem inc_valid (hB : dayB d = true) {x : Int} (hx : x.toNat < d.lots.length) (h50 : (d.lots.getD x.toNat default).cr ≠ 50) : dayB (dayInc d x) = true := by
  have hv := dayB_V hB
  have hl := lot_ok hv hx
  have hlb : lotB d.hours (d.lots.getD x.toNat default) = true := by
    simp only [dayB, Bool.and_eq_true, List.all_eq_true] at hB
    exact hB.1.2 _ (getD_mem hx)
  have hlb' : lotB d.hours (lotInc (d.lots.getD x.toNat default)) = true := by
    unfold lotB at hlb ⊢
    unfold lotInc
    rw [inB_iff.2 (show 1 ≤ (d.lots.getD x.toNat default).cr + 1 ∧ (d.lots.getD x.toNat default).cr + 1 ≤ 50 by omega)]
    rw [inB_iff.2 (show 1 ≤ (d.lots.getD x.toNat default).cr ∧ (d.lots.getD x.toNat default).cr ≤ 50 by omega)] at hlb
    exact hlb
  have e : dayB (dayInc d x) = ((inB d.hours 1 24 && decide ((d.heat.length : Int) = d.hours) && decide (((d.lots.set x.toNat (lotInc (d.lots.getD x.toNat default))).length : Int) ≤ 8) && decide ((d.wks.length : Int) ≤ 6)) && d.heat.all spB && (d.lots.set x.toNat (lotInc (d.lots.getD x.toNat default))).all (lotB d.hours) && d.wks.all (wkB d.hours)) := rfl
  rw [e, List.length_set]
  simp only [dayB, headB, Bool.and_eq_true, List.all_eq_true] at hB ⊢
  refine ⟨⟨hB.1.1, fun l hl => ?_⟩, hB.2⟩
  rcases List.mem_or_eq_of_mem_set hl with h | h
  · exact hB.1.2 l h
  · rw [h]; exact hlb'
theorem sum_inc {x : Int} (hx : x.toNat < d.lots.length) : ∀ (xs : List Int) (last : Int), 0 ≤ x → -1 ≤ last → risF d.lots.length last xs = true → (xs.map fun y => crI (dayInc d x) y.toNat).sum = (xs.map fun y => crI d y.toNat).sum + (if x ∈ xs then 1 else 0)
  | [], last, _, _, _ => by simp
  | y :: r, last, h0, h1, h => by
    obtain ⟨h2, h3⟩ := ris_cons.1 h
    have ih := sum_inc hx r y h0 (by omega) h3
    have hcr : crI (dayInc d x) y.toNat = crI d y.toNat + if y.toNat = x.toNat then 1 else 0 := (inc_lot hx (j := y.toNat) (by omega)).2.2.2
    simp only [List.map_cons, List.sum_cons]
    rw [ih, hcr]
    by_cases e : x = y
    · subst e
      have hn : x ∉ r := fun hm => by have := ris_mem r _ h3 x hm; omega
      rw [if_pos rfl, if_neg hn, if_pos (List.mem_cons_self ..)]; omega
    · rw [if_neg (show ¬ y.toNat = x.toNat by omega)]
      by_cases hm : x ∈ r
      · rw [if_pos hm, if_pos (List.mem_cons_of_mem _ hm)]; omega
      · rw [if_neg hm, if_neg (fun h => (List.mem_cons.1 h).elim e hm)]; omega
/-- A cran more of a lot that is told is a cran more lost. -/
theorem inc_lost (hB : dayB d = true) {x : Int} (hx : x ∈ gutProof d) (h50 : (d.lots.getD x.toNat default).cr ≠ 50) : bestN (dayInc d x) = bestN d + 1 ∧ chk (dayInc d x) = 0 := by
  have hv := dayB_V hB
  have hc := chk_of hB
  have hg := proof_great hc hv
  have hxm := ris_mem _ _ hg.ris x hx
  have hx' : x.toNat < d.lots.length := by omega
  have hB' := inc_valid hB hx' h50
  have hv' := dayB_V hB'
  have hc' := chk_of hB'
  have hcan : ∀ (xs : List Int), risF d.lots.length (-1) xs = true → ∀ (y : Int), y ∈ xs → ∀ s, canB (dayInc d x) (hot (dayInc d x)) y s = canB d (hot d) y s := fun xs hr y hy s => by
    have hym := ris_mem _ _ hr y hy
    have hl := inc_lot (d := d) hx' (j := y.toNat) (by omega)
    exact canB_same hl.2.2.1 hl.1 (untils_same rfl (inc_len x) fun h => ⟨hl.1, hl.2.1⟩) rfl
  have hdef : ∀ xs, risF d.lots.length (-1) xs = true → defV (dayInc d x) (hot (dayInc d x)) xs = defV d (hot d) xs + (if x ∈ xs then 1 else 0) := fun xs hr => by
    have hcov : ∀ s, cov (dayInc d x) (hot (dayInc d x)) xs s = cov d (hot d) xs s := fun s => by
      rw [Bool.eq_iff_iff, cov_iff, cov_iff]
      exact ⟨fun ⟨y, a, b⟩ => ⟨y, a, by rw [← hcan xs hr y a]; exact b⟩, fun ⟨y, a, b⟩ => ⟨y, a, by rw [hcan xs hr y a]; exact b⟩⟩
    unfold defV
    rw [sum_inc hx' xs (-1) hxm.1 (by omega) hr]
    have e : gsum (dayInc d x) (fun s => cond (cov (dayInc d x) (hot (dayInc d x)) xs s) (rate (dayInc d x) s) 0) = gsum d (fun s => cond (cov d (hot d) xs s) (rate d s) 0) := by
      show gsum d (fun s => cond (cov (dayInc d x) (hot (dayInc d x)) xs s) (rate d s) 0) = _
      exact gsum_congr fun s _ => by rw [hcov s]
    rw [e]; omega
  refine ⟨?_, hc'⟩
  rw [bestN_eq hc']
  obtain ⟨h1, xs, h2, h3⟩ := done_defV (f := hot (dayInc d x)) hv'
  have hln := inc_len (d := d) x
  have a1 := h1 _ (by rw [hln]; exact hg.ris)
  rw [hdef _ hg.ris, if_pos hx, hg.val] at a1
  have h2' : risF d.lots.length (-1) xs = true := by rw [← hln]; exact h2
  have a2 := hg.max xs h2'
  have a3 := hdef xs h2'
  generalize (doneF (dayInc d x) (hot (dayInc d x)) (dayInc d x).lots.length).2 = z at *
  split at a3 <;> omega
end
end Go.Proofs.Ytioimdegbdkppaa.DK
