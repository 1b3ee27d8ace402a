/- With less heat, or more of the rest, not more is lost. -/
import Derived.Test.YtioimdegbdkppaaH15
namespace Go.Proofs.Ytioimdegbdkppaa.DK
open Go
set_option linter.unusedVariables false

section
variable {d d' : Day} {f f' : Nat → Int}
theorem until_mono {e e' : Sp → Int} (hv : dayV d = true) (hv' : dayV d' = true) (he : ∀ x, spB x = true → 0 ≤ e x) (he' : ∀ x, spB x = true → 0 ≤ e' x) (hh : d'.hours = d.hours) (hl : d'.lots.length = d.lots.length) {i : Nat} (hi : i < d.lots.length)
    (hla : (d'.lots.getD i default).la = (d.lots.getD i default).la) (hke : (d.lots.getD i default).ke ≤ (d'.lots.getD i default).ke) (hhe : ∀ h, h < d.heat.length → e' (d'.heat.getD h default) ≤ e (d.heat.getD h default)) : untils e d i ≤ untils e' d' i := by
  obtain ⟨a1, a2, a3, a4⟩ := until_spec hv he hi
  obtain ⟨b1, b2, b3, b4⟩ := until_spec hv' he' (i := i) (by omega)
  have hlo := lot_ok hv hi
  have hdd := day_ok hv; have hdd' := day_ok hv'
  rw [hla] at b1 b4
  by_cases hc : untils e d i ≤ untils e' d' i
  · exact hc
  · exfalso
    have c1 := b4 (by omega)
    have c2 := a3 (untils e' d' i + 2 - (d.lots.getD i default).la).toNat (by omega)
    have c3 : hsum e' d'.heat (d.lots.getD i default).la.toNat (untils e' d' i + 2 - (d.lots.getD i default).la).toNat ≤ hsum e d.heat (d.lots.getD i default).la.toNat (untils e' d' i + 2 - (d.lots.getD i default).la).toNat := by
      unfold hsum
      exact fsum_le _ fun j hj => hhe _ (by omega)
    omega
theorem canB_mono {lot : Int} {s : Int × Int} (hw : (d'.wks.getD s.1.toNat default).kd = (d.wks.getD s.1.toNat default).kd ∧ (d'.wks.getD s.1.toNat default).fr = (d.wks.getD s.1.toNat default).fr ∧ (d'.wks.getD s.1.toNat default).to = (d.wks.getD s.1.toNat default).to)
    (hl : (d'.lots.getD lot.toNat default).fi = (d.lots.getD lot.toNat default).fi ∧ (d'.lots.getD lot.toNat default).la = (d.lots.getD lot.toNat default).la) (hf : f lot.toNat ≤ f' lot.toNat) (h : canB d f lot s = true) : canB d' f' lot s = true := by
  unfold canB at h ⊢
  rw [hw.1, hw.2.1, hw.2.2, hl.1, hl.2]
  cases h1 : bitB (d.lots.getD lot.toNat default).fi (d.wks.getD s.1.toNat default).kd with
  | false => rw [h1] at h; cases h
  | true =>
    cases h2 : inB s.2 (d.wks.getD s.1.toNat default).fr (d.wks.getD s.1.toNat default).to with
    | false => rw [h1, h2] at h; cases h
    | true =>
      rw [h1, h2] at h
      have h3 := inB_iff.1 (show inB s.2 (d.lots.getD lot.toNat default).la (f lot.toNat) = true from h)
      exact inB_iff.2 ⟨h3.1, by omega⟩
theorem lost_mono (hv : dayV d = true) (hv' : dayV d' = true) (hl : d'.lots.length = d.lots.length) (hcr : ∀ i, i < d.lots.length → crI d' i = crI d i) (hW : d'.wks.length = d.wks.length) (hH : d'.hours = d.hours) (hR : ∀ i, i < d.wks.length → (d.wks.getD i default).rt ≤ (d'.wks.getD i default).rt)
    (hC : ∀ s ∈ grid d, ∀ x : Int, 0 ≤ x → x < d.lots.length → canB d f x s = true → canB d' f' x s = true) : (doneF d' f' d'.lots.length).2 ≤ (doneF d f d.lots.length).2 := by
  have h := lost_le (f := f) (f' := f') hv hv' 0 fun xs hr => ⟨xs, by rw [← hl]; exact hr, by
    rw [hl] at hr
    have hm := ris_mem _ _ hr
    refine defV_le ?_ hW hH (fun s hs x hx => hC s hs x (by have := hm x hx; omega) (hm x hx).2) fun s hs => ?_
    · rw [List.map_congr_left (f := fun x : Int => crI d' x.toNat) (g := fun x : Int => crI d x.toNat) fun x hx => hcr _ (by have := hm x hx; omega)]; omega
    · obtain ⟨g1, g2, _, _⟩ := mem_grid.1 hs
      have h1 := hR s.1.toNat (by omega)
      have h2 := wk_ok hv (i := s.1.toNat) (by omega)
      exact ⟨h1, Int.le_trans h2.2.2.2.2.2.1 h1⟩⟩
  omega

/-! ### Other heats -/
theorem dayHt_B {hs : List Sp} (hB : dayB d = true) (hl : hs.length = d.heat.length) (hs2 : ∀ x ∈ hs, spB x = true) : dayB (dayHt d hs) = true := by
  have e : dayB (dayHt d hs) = ((inB d.hours 1 24 && decide ((hs.length : Int) = d.hours) && decide ((d.lots.length : Int) ≤ 8) && decide ((d.wks.length : Int) ≤ 6)) && hs.all spB && d.lots.all (lotB d.hours) && d.wks.all (wkB d.hours)) := rfl
  rw [e, hl]
  simp only [dayB, headB, Bool.and_eq_true, List.all_eq_true] at hB ⊢
  exact ⟨⟨⟨hB.1.1.1, hs2⟩, hB.1.2⟩, hB.2⟩
theorem sp_mk {lo hi : Int} (h0 : 0 ≤ lo) (h1 : lo ≤ hi) (h2 : hi ≤ 100) : spB ⟨lo, hi⟩ = true := by
  unfold spB
  rw [decide_eq_true (show 0 ≤ (⟨lo, hi⟩ : Sp).lo from h0), decide_eq_true (show (⟨lo, hi⟩ : Sp).lo ≤ (⟨lo, hi⟩ : Sp).hi from h1), decide_eq_true (show (⟨lo, hi⟩ : Sp).hi ≤ 100 from h2)]; rfl
/-- With lower heats not more is lost. -/
theorem heat_lost {hs : List Sp} (hB : dayB d = true) (hB' : dayB (dayHt d hs) = true) (e : Sp → Int) (he : ∀ x, spB x = true → 0 ≤ e x) (hhe : ∀ h, h < d.heat.length → (hs.getD h default).hi ≤ e (d.heat.getD h default)) : bestN (dayHt d hs) ≤ (doneF d (untils e d) d.lots.length).2 := by
  have hv := dayB_V hB; have hv' := dayB_V hB'
  rw [bestN_eq (chk_of hB')]
  refine lost_mono hv hv' rfl (fun i _ => rfl) rfl rfl (fun i _ => Int.le_refl _) fun s hs2 x h0 h1 hc => canB_mono ⟨rfl, rfl, rfl⟩ ⟨rfl, rfl⟩ ?_ hc
  exact until_mono hv hv' he (fun x hx => sp_hi hx) rfl rfl (by omega) rfl (Int.le_refl _) hhe
theorem heat_lost' {hs : List Sp} (hB : dayB d = true) (hB' : dayB (dayHt d hs) = true) (e : Sp → Int) (he : ∀ x, spB x = true → 0 ≤ e x) (hhe : ∀ h, h < d.heat.length → e (d.heat.getD h default) ≤ (hs.getD h default).hi) : (doneF d (untils e d) d.lots.length).2 ≤ bestN (dayHt d hs) := by
  have hv := dayB_V hB; have hv' := dayB_V hB'
  rw [bestN_eq (chk_of hB')]
  have hlen : (dayHt d hs).heat.length = d.heat.length := by have h1 := day_ok hv; have h2 := day_ok hv'; have : (dayHt d hs).hours = d.hours := rfl; omega
  refine lost_mono (d := dayHt d hs) (d' := d) hv' hv rfl (fun i _ => rfl) rfl rfl (fun i _ => Int.le_refl _) fun s hs2 x h0 h1 hc => canB_mono ⟨rfl, rfl, rfl⟩ ⟨rfl, rfl⟩ ?_ hc
  exact until_mono hv' hv (fun x hx => sp_hi hx) he rfl rfl (by show x.toNat < d.lots.length; have : (dayHt d hs).lots.length = d.lots.length := rfl; omega) rfl (Int.le_refl _) fun h hh => hhe h (by omega)

def pairX (d : Day) (bits : List Int) (k : Nat) : List Sp := (List.range k).map fun h => ⟨warmI d bits h, warmI d bits h⟩
def pairC (d : Day) (k : Nat) : List Sp := (List.range k).map fun h => ⟨(d.heat.getD h default).lo, (d.heat.getD h default).lo⟩
theorem pairX_succ (bits : List Int) (k : Nat) : pairX d bits (k + 1) = pairX d bits k ++ [⟨warmI d bits k, warmI d bits k⟩] := by unfold pairX; rw [List.range_succ, List.map_append]; rfl
theorem pairC_succ (k : Nat) : pairC d (k + 1) = pairC d k ++ [⟨(d.heat.getD k default).lo, (d.heat.getD k default).lo⟩] := by unfold pairC; rw [List.range_succ, List.map_append]; rfl
theorem pairX_at {bits : List Int} {k h : Nat} (hh : h < k) : (pairX d bits k).getD h default = ⟨warmI d bits h, warmI d bits h⟩ := by
  unfold pairX; rw [List.getD_eq_getElem?_getD, List.getElem?_map, List.getElem?_range hh]; rfl
theorem pairC_at {k h : Nat} (hh : h < k) : (pairC d k).getD h default = ⟨(d.heat.getD h default).lo, (d.heat.getD h default).lo⟩ := by
  unfold pairC; rw [List.getD_eq_getElem?_getD, List.getElem?_map, List.getElem?_range hh]; rfl
structure BetweenR (d : Day) (X C : Day) : Prop where
  cx : chk X = 0
  cc : chk C = 0
  told : (gutTold d).1 = bestN C ∧ (gutTold d).2.1 = bestN d ∧ (gutTold d).2.2 = 0
  ord : 0 ≤ bestN C ∧ bestN C ≤ bestN X ∧ bestN X ≤ bestN d ∧ bestN d ≤ cransF d
theorem between (hB : dayB d = true) (bits : List Int) {n : Nat} (hn : d.heat.length = n) : BetweenR d (dayHt d (pairX d bits n)) (dayHt d (pairC d n)) := by
  subst hn
  have hv := dayB_V hB
  have hc := chk_of hB
  have hX : dayB (dayHt d (pairX d bits d.heat.length)) = true := dayHt_B hB (by unfold pairX; simp) fun x hx => by
    unfold pairX at hx
    obtain ⟨h, hh, rfl⟩ := List.mem_map.1 hx
    have hh := List.mem_range.1 hh
    have h1 := warm_in hv bits hh; have h2 := sp_ok hv hh
    exact sp_mk (by omega) (Int.le_refl _) (by omega)
  have hC : dayB (dayHt d (pairC d d.heat.length)) = true := dayHt_B hB (by unfold pairC; simp) fun x hx => by
    unfold pairC at hx
    obtain ⟨h, hh, rfl⟩ := List.mem_map.1 hx
    have hh := List.mem_range.1 hh
    have h2 := sp_ok hv hh
    exact sp_mk (by omega) (Int.le_refl _) (by omega)
  have t1 : (gutTold d).1 = toldLo d ∧ (gutTold d).2.1 = (doneF d (hot d) d.lots.length).2 ∧ (gutTold d).2.2 = 0 := by unfold gutTold; rw [if_neg (by simp [hc])]; exact ⟨rfl, rfl, rfl⟩
  have t2 : toldLo d = (doneF d (cool d) d.lots.length).2 := by rw [← told_lo hv, great_lost hv]
  have c1 : bestN (dayHt d (pairC d d.heat.length)) ≤ (doneF d (cool d) d.lots.length).2 := heat_lost hB hC Sp.lo (fun x hx => sp_lo hx) fun h hh => by rw [pairC_at hh]; exact Int.le_refl _
  have c2 : (doneF d (cool d) d.lots.length).2 ≤ bestN (dayHt d (pairC d d.heat.length)) := heat_lost' hB hC Sp.lo (fun x hx => sp_lo hx) fun h hh => by rw [pairC_at hh]; exact Int.le_refl _
  have x1 : bestN (dayHt d (pairX d bits d.heat.length)) ≤ (doneF d (hot d) d.lots.length).2 := heat_lost hB hX Sp.hi (fun x hx => sp_hi hx) fun h hh => by rw [pairX_at hh]; exact (warm_in hv bits hh).2
  have x2 : (doneF d (cool d) d.lots.length).2 ≤ bestN (dayHt d (pairX d bits d.heat.length)) := heat_lost' hB hX Sp.lo (fun x hx => sp_lo hx) fun h hh => by rw [pairX_at hh]; exact (warm_in hv bits hh).1
  have b1 := bestN_eq hc
  have b2 := best_R hv hc
  have b3 : 0 ≤ fsum d.lots.length (taken d (doneF d (hot d) d.lots.length).1) := fsum_nn _ fun i hi => gsum_nn fun s _ => b2.flow.nn s i (by have := (day_ok hv).2.2.2.1; omega)
  have b4 := b2.eq
  have b5 := lost_nn (f := cool d) hv
  exact ⟨chk_of hX, chk_of hC, ⟨by omega, by omega, t1.2.2⟩, by omega, by omega, by omega, by omega⟩
end
end Go.Proofs.Ytioimdegbdkppaa.DK
