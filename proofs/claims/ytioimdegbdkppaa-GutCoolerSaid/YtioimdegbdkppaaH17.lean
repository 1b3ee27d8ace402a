/- Days with less heat, greater Keeps, greater Rates, or a worker more. -/
import Derived.Test.YtioimdegbdkppaaH16
namespace Go.Proofs.Ytioimdegbdkppaa.DK
open Go
set_option linter.unusedVariables false

structure CoolR (d D : Day) : Prop where
  ok : chk D = 0
  len : D.lots.length = d.lots.length
  hi : ∀ i, i < d.lots.length → hot d i ≤ hot D i
  lo : ∀ i, i < d.lots.length → cool d i ≤ cool D i
  less : bestN D ≤ bestN d
section
variable {d D : Day}
theorem hot_cool (hv : dayV d = true) {i : Nat} (hi : i < d.lots.length) : hot d i ≤ cool d i :=
  until_mono hv hv (fun x hx => sp_hi hx) (fun x hx => sp_lo hx) rfl rfl hi rfl (Int.le_refl _) fun h hh => (sp_ok hv hh).2.1
theorem until_of (hc : chk d = 0) {i : Nat} (hi : i < d.lots.length) : gutUntil d (i : Int) = (hot d i, cool d i, 0) := by
  unfold gutUntil
  rw [if_neg (by simp [hc]), if_pos (inB_iff.2 ⟨by omega, by omega⟩), Int.toNat_natCast]
/-- A day whose heats, lots and workers are changed to the good. -/
theorem cool_of (hB : dayB d = true) (hB' : dayB D = true) (hh : D.hours = d.hours) (hl : D.lots.length = d.lots.length) (hw : D.wks.length = d.wks.length)
    (hL : ∀ i, i < d.lots.length → (D.lots.getD i default).cr = (d.lots.getD i default).cr ∧ (D.lots.getD i default).la = (d.lots.getD i default).la ∧ (D.lots.getD i default).fi = (d.lots.getD i default).fi ∧ (d.lots.getD i default).ke ≤ (D.lots.getD i default).ke)
    (hW : ∀ i, i < d.wks.length → (D.wks.getD i default).kd = (d.wks.getD i default).kd ∧ (D.wks.getD i default).fr = (d.wks.getD i default).fr ∧ (D.wks.getD i default).to = (d.wks.getD i default).to ∧ (d.wks.getD i default).rt ≤ (D.wks.getD i default).rt)
    (hH : ∀ h, h < d.heat.length → (D.heat.getD h default).hi ≤ (d.heat.getD h default).hi ∧ (D.heat.getD h default).lo ≤ (d.heat.getD h default).lo) : CoolR d D := by
  have hv := dayB_V hB; have hv' := dayB_V hB'
  have hhi : ∀ i, i < d.lots.length → hot d i ≤ hot D i := fun i hi => until_mono hv hv' (fun x hx => sp_hi hx) (fun x hx => sp_hi hx) hh hl hi (hL i hi).2.1 (hL i hi).2.2.2 fun h hh => (hH h hh).1
  have hlo : ∀ i, i < d.lots.length → cool d i ≤ cool D i := fun i hi => until_mono hv hv' (fun x hx => sp_lo hx) (fun x hx => sp_lo hx) hh hl hi (hL i hi).2.1 (hL i hi).2.2.2 fun h hh => (hH h hh).2
  refine ⟨chk_of hB', hl, hhi, hlo, ?_⟩
  rw [bestN_eq (chk_of hB'), bestN_eq (chk_of hB)]
  refine lost_mono hv hv' hl (fun i hi => (hL i hi).1) hw hh (fun i hi => (hW i hi).2.2.2) fun s hs x h0 h1 hc => ?_
  obtain ⟨g1, g2, _, _⟩ := mem_grid.1 hs
  have a1 := hW s.1.toNat (by omega); have a2 := hL x.toNat (by omega)
  exact canB_mono ⟨a1.1, a1.2.1, a1.2.2.1⟩ ⟨a2.2.2.1, a2.2.1⟩ (hhi _ (by omega)) hc

/-! ### Heat -/
def coolHeat (d : Day) (nf : Nat → Int) : List Sp := d.heat.set (nf 1 % d.hours).toNat ⟨(d.heat.getD (nf 1 % d.hours).toNat default).lo, chosenI (d.heat.getD (nf 1 % d.hours).toNat default).lo (d.heat.getD (nf 1 % d.hours).toNat default).hi (nf 2)⟩
theorem cool0 (hB : dayB d = true) (nf : Nat → Int) : CoolR d (dayHt d (coolHeat d nf)) := by
  have hv := dayB_V hB
  have hd := day_ok hv
  have h1 := Int.emod_nonneg (nf 1) (show d.hours ≠ 0 by omega); have h2 := Int.emod_lt_of_pos (nf 1) (show 0 < d.hours by omega)
  have hlt : (nf 1 % d.hours).toNat < d.heat.length := by omega
  have hs := sp_ok hv hlt
  have hc := chosen_in (n := nf 2) hs.2.1
  have hall : ∀ x ∈ d.heat, spB x = true := by
    simp only [dayB, Bool.and_eq_true, List.all_eq_true] at hB
    exact hB.1.1.2
  have hB' : dayB (dayHt d (coolHeat d nf)) = true := dayHt_B hB (by unfold coolHeat; simp) fun x hx => by
    unfold coolHeat at hx
    rcases List.mem_or_eq_of_mem_set hx with h | h
    · exact hall x h
    · rw [h]; exact sp_mk hs.1 hc.1 (by omega)
  refine cool_of hB hB' rfl rfl rfl (fun i hi => ⟨rfl, rfl, rfl, Int.le_refl _⟩) (fun i hi => ⟨rfl, rfl, rfl, Int.le_refl _⟩) fun h hh => ?_
  show ((coolHeat d nf).getD h default).hi ≤ _ ∧ ((coolHeat d nf).getD h default).lo ≤ _
  unfold coolHeat
  rw [getD_set hlt hh]
  by_cases e : (nf 1 % d.hours).toNat = h
  · subst e; rw [if_pos rfl]; exact ⟨hc.2, Int.le_refl _⟩
  · rw [if_neg e]; exact ⟨Int.le_refl _, Int.le_refl _⟩

/-! ### Keeps -/
def lotUp (l : Lot) (m : Int) : Lot := ⟨l.cr, l.la, if l.ke + m < 10000 then l.ke + m else 10000, l.fi⟩
def lotsUp (d : Day) (nf : Nat → Int) (k : Nat) : List Lot := (List.range k).map fun (i : Nat) => lotUp (d.lots.getD i default) (Go.RowKit.wrap64 (nf 1 + (i : Int)) % 50)
theorem lotsUp_succ (nf : Nat → Int) (k : Nat) : lotsUp d nf (k + 1) = lotsUp d nf k ++ [lotUp (d.lots.getD k default) (Go.RowKit.wrap64 (nf 1 + (k : Int)) % 50)] := by unfold lotsUp; rw [List.range_succ, List.map_append]; rfl
theorem lotsUp_at {nf : Nat → Int} {k i : Nat} (hi : i < k) : (lotsUp d nf k).getD i default = lotUp (d.lots.getD i default) (Go.RowKit.wrap64 (nf 1 + (i : Int)) % 50) := by
  unfold lotsUp; rw [List.getD_eq_getElem?_getD, List.getElem?_map, List.getElem?_range hi]; rfl
theorem lotB_up {h : Int} {l : Lot} {m : Int} (hl : lotB h l = true) (hm : 0 ≤ m) : lotB h (lotUp l m) = true := by
  unfold lotB at hl ⊢
  cases h3 : inB l.ke 0 10000 with
  | false =>
    rw [h3] at hl
    generalize (cond (inB l.cr 1 50) (inB l.la 0 (h - 1)) false) = z at hl
    cases z <;> cases hl
  | true =>
    have h4 := inB_iff.1 h3
    rw [h3] at hl
    have h5 : inB (lotUp l m).ke 0 10000 = true := inB_iff.2 (by show 0 ≤ (if l.ke + m < 10000 then l.ke + m else 10000) ∧ (if l.ke + m < 10000 then l.ke + m else 10000) ≤ 10000; split <;> omega)
    rw [h5]; exact hl
theorem cool1 (hB : dayB d = true) (nf : Nat → Int) {k : Nat} (hk : k = d.lots.length) : CoolR d (dayLts d (lotsUp d nf k)) := by
  subst hk
  have hmod : ∀ x : Int, 0 ≤ x % 50 := fun x => Int.emod_nonneg x (by omega)
  have hlots : ∀ l ∈ d.lots, lotB d.hours l = true := by
    simp only [dayB, Bool.and_eq_true, List.all_eq_true] at hB
    exact hB.1.2
  have hlen : (lotsUp d nf d.lots.length).length = d.lots.length := by unfold lotsUp; simp
  have hB' : dayB (dayLts d (lotsUp d nf d.lots.length)) = true := by
    have e : dayB (dayLts d (lotsUp d nf d.lots.length)) = ((inB d.hours 1 24 && decide ((d.heat.length : Int) = d.hours) && decide (((lotsUp d nf d.lots.length).length : Int) ≤ 8) && decide ((d.wks.length : Int) ≤ 6)) && d.heat.all spB && (lotsUp d nf d.lots.length).all (lotB d.hours) && d.wks.all (wkB d.hours)) := rfl
    rw [e, hlen]
    have hB2 := hB
    simp only [dayB, headB, Bool.and_eq_true, List.all_eq_true] at hB2 ⊢
    refine ⟨⟨hB2.1.1, fun l hl => ?_⟩, hB2.2⟩
    unfold lotsUp at hl
    obtain ⟨i, hi, rfl⟩ := List.mem_map.1 hl
    exact lotB_up (hlots _ (getD_mem (List.mem_range.1 hi))) (hmod _)
  refine cool_of hB hB' rfl hlen rfl (fun i hi => ?_) (fun i hi => ⟨rfl, rfl, rfl, Int.le_refl _⟩) fun h hh => ⟨Int.le_refl _, Int.le_refl _⟩
  have hl := lot_ok (dayB_V hB) hi
  show ((lotsUp d nf d.lots.length).getD i default).cr = _ ∧ ((lotsUp d nf d.lots.length).getD i default).la = _ ∧ ((lotsUp d nf d.lots.length).getD i default).fi = _ ∧ _ ≤ ((lotsUp d nf d.lots.length).getD i default).ke
  rw [lotsUp_at hi]
  refine ⟨rfl, rfl, rfl, ?_⟩
  have := hmod (Go.RowKit.wrap64 (nf 1 + (i : Int)))
  unfold lotUp
  show (d.lots.getD i default).ke ≤ if (d.lots.getD i default).ke + Go.RowKit.wrap64 (nf 1 + (i : Int)) % 50 < 10000 then (d.lots.getD i default).ke + Go.RowKit.wrap64 (nf 1 + (i : Int)) % 50 else 10000
  split <;> omega

/-! ### Rates -/
def wkUp (x : Wk) (m : Int) : Wk := ⟨x.kd, x.fr, x.to, if x.rt + m < 20 then x.rt + m else 20⟩
def wksUp (d : Day) (nf : Nat → Int) (k : Nat) : List Wk := (List.range k).map fun (i : Nat) => wkUp (d.wks.getD i default) (Go.RowKit.wrap64 (nf 2 + (i : Int)) % 4)
theorem wksUp_succ (nf : Nat → Int) (k : Nat) : wksUp d nf (k + 1) = wksUp d nf k ++ [wkUp (d.wks.getD k default) (Go.RowKit.wrap64 (nf 2 + (k : Int)) % 4)] := by unfold wksUp; rw [List.range_succ, List.map_append]; rfl
theorem wksUp_at {nf : Nat → Int} {k i : Nat} (hi : i < k) : (wksUp d nf k).getD i default = wkUp (d.wks.getD i default) (Go.RowKit.wrap64 (nf 2 + (i : Int)) % 4) := by
  unfold wksUp; rw [List.getD_eq_getElem?_getD, List.getElem?_map, List.getElem?_range hi]; rfl
theorem wkB_up {h : Int} {x : Wk} {m : Int} (hx : wkB h x = true) (hm : 0 ≤ m) : wkB h (wkUp x m) = true := by
  have h0 := wkB_rt hx
  have h5 : inB (wkUp x m).rt 0 20 = true := inB_iff.2 (by show 0 ≤ (if x.rt + m < 20 then x.rt + m else 20) ∧ (if x.rt + m < 20 then x.rt + m else 20) ≤ 20; split <;> omega)
  unfold wkB at hx ⊢
  cases hz : inB x.rt 0 20 with
  | false =>
    rw [hz] at hx
    generalize (cond (cond (inB x.kd 0 2) (inB x.fr 0 x.to) false) (inB x.to 0 (h - 1)) false) = z at hx
    cases z <;> cases hx
  | true => rw [hz] at hx; rw [h5]; exact hx
theorem cool2 (hB : dayB d = true) (nf : Nat → Int) {k : Nat} (hk : k = d.wks.length) : CoolR d (dayX d (wksUp d nf k)) := by
  subst hk
  have hmod : ∀ x : Int, 0 ≤ x % 4 := fun x => Int.emod_nonneg x (by omega)
  have hwks : ∀ x ∈ d.wks, wkB d.hours x = true := by
    simp only [dayB, Bool.and_eq_true, List.all_eq_true] at hB
    exact hB.2
  have hlen : (wksUp d nf d.wks.length).length = d.wks.length := by unfold wksUp; simp
  have hB' : dayB (dayX d (wksUp d nf d.wks.length)) = true := by
    have e : dayB (dayX d (wksUp d nf d.wks.length)) = ((inB d.hours 1 24 && decide ((d.heat.length : Int) = d.hours) && decide ((d.lots.length : Int) ≤ 8) && decide (((wksUp d nf d.wks.length).length : Int) ≤ 6)) && d.heat.all spB && d.lots.all (lotB d.hours) && (wksUp d nf d.wks.length).all (wkB d.hours)) := rfl
    rw [e, hlen]
    have hB2 := hB
    simp only [dayB, headB, Bool.and_eq_true, List.all_eq_true] at hB2 ⊢
    refine ⟨hB2.1, fun x hx => ?_⟩
    unfold wksUp at hx
    obtain ⟨i, hi, rfl⟩ := List.mem_map.1 hx
    exact wkB_up (hwks _ (getD_mem (List.mem_range.1 hi))) (hmod _)
  refine cool_of hB hB' rfl rfl hlen (fun i hi => ⟨rfl, rfl, rfl, Int.le_refl _⟩) (fun i hi => ?_) fun h hh => ⟨Int.le_refl _, Int.le_refl _⟩
  have hw := wk_ok (dayB_V hB) hi
  show ((wksUp d nf d.wks.length).getD i default).kd = _ ∧ ((wksUp d nf d.wks.length).getD i default).fr = _ ∧ ((wksUp d nf d.wks.length).getD i default).to = _ ∧ _ ≤ ((wksUp d nf d.wks.length).getD i default).rt
  rw [wksUp_at hi]
  refine ⟨rfl, rfl, rfl, ?_⟩
  have := hmod (Go.RowKit.wrap64 (nf 2 + (i : Int)))
  unfold wkUp
  show (d.wks.getD i default).rt ≤ if (d.wks.getD i default).rt + Go.RowKit.wrap64 (nf 2 + (i : Int)) % 4 < 20 then (d.wks.getD i default).rt + Go.RowKit.wrap64 (nf 2 + (i : Int)) % 4 else 20
  split <;> omega

/-! ### A worker more -/
theorem cool3 (hB : dayB d = true) {x : Wk} (hc : chk (dayX d (d.wks ++ [x])) = 0) : CoolR d (dayX d (d.wks ++ [x])) := by
  have hv := dayB_V hB
  have hB' := chk_okB (d := dayX d (d.wks ++ [x])) (by simp [hc])
  have hx : wkB d.hours x = true := by
    simp only [dayB, Bool.and_eq_true, List.all_eq_true] at hB'
    exact hB'.2 x (by show x ∈ d.wks ++ [x]; simp)
  refine ⟨hc, rfl, fun i hi => Int.le_refl _, fun i hi => Int.le_refl _, ?_⟩
  rw [helpN_eq hc]
  exact helpN_le hB hx
theorem chk_or (d : Day) : chk d = 0 ∨ chk d = 50 := by unfold chk; split <;> simp
end
end Go.Proofs.Ytioimdegbdkppaa.DK
