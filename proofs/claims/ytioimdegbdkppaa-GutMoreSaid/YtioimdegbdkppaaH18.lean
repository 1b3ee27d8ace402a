/- With a lot more: what is lost then. -/
import Derived.Test.YtioimdegbdkppaaH13
namespace Go.Proofs.Ytioimdegbdkppaa.DK
open Go
set_option linter.unusedVariables false

section
variable {d : Day} {l : Lot}
abbrev dayM (d : Day) (l : Lot) : Day := dayLts d (d.lots ++ [l])
theorem more_len : (dayM d l).lots.length = d.lots.length + 1 := by show (d.lots ++ [l]).length = _; simp
theorem more_at {i : Nat} (hi : i < d.lots.length) : (dayM d l).lots.getD i default = d.lots.getD i default := by
  show (d.lots ++ [l]).getD i default = _
  rw [List.getD_eq_getElem?_getD, List.getElem?_append_left hi, List.getD_eq_getElem?_getD]
theorem more_last : (dayM d l).lots.getD d.lots.length default = l := by
  show (d.lots ++ [l]).getD d.lots.length default = _
  rw [List.getD_eq_getElem?_getD, List.getElem?_append_right (Nat.le_refl _), Nat.sub_self]; rfl
theorem more_hot {i : Nat} (hi : i < d.lots.length) : hot (dayM d l) i = hot d i := by
  unfold hot untils ufs
  rw [if_pos hi, if_pos (by rw [more_len]; omega), more_at hi]; rfl
theorem more_can {x : Int} (h0 : 0 ≤ x) (hx : x < d.lots.length) (s : Int × Int) : canB (dayM d l) (hot (dayM d l)) x s = canB d (hot d) x s := by
  have hi : x.toNat < d.lots.length := by omega
  exact canB_same (by rw [more_at hi]) (by rw [more_at hi]) (more_hot hi) rfl
theorem more_cov {xs : List Int} (h : risF d.lots.length (-1) xs = true) (s : Int × Int) : cov (dayM d l) (hot (dayM d l)) xs s = cov d (hot d) xs s := by
  have hm := ris_mem _ _ h
  rw [Bool.eq_iff_iff, cov_iff, cov_iff]
  exact ⟨fun ⟨x, a, b⟩ => ⟨x, a, by rw [← more_can (l := l) (by have := hm x a; omega) (hm x a).2]; exact b⟩, fun ⟨x, a, b⟩ => ⟨x, a, by rw [more_can (by have := hm x a; omega) (hm x a).2]; exact b⟩⟩
theorem more_cr {xs : List Int} (h : risF d.lots.length (-1) xs = true) : (xs.map fun x => crI (dayM d l) x.toNat).sum = (xs.map fun x => crI d x.toNat).sum := by
  have hm := ris_mem _ _ h
  rw [List.map_congr_left (f := fun x : Int => crI (dayM d l) x.toNat) (g := fun x : Int => crI d x.toNat) fun x hx => by
    have := hm x hx
    show ((dayM d l).lots.getD x.toNat default).cr = (d.lots.getD x.toNat default).cr
    rw [more_at (by omega)]]
theorem gsum_more (g : Int × Int → Int) : gsum (dayM d l) g = gsum d g := rfl
theorem more_def {xs : List Int} (h : risF d.lots.length (-1) xs = true) : defV (dayM d l) (hot (dayM d l)) xs = defV d (hot d) xs := by
  unfold defV
  rw [more_cr h, gsum_more, gsum_congr (d := d) (f := fun s => cond (cov (dayM d l) (hot (dayM d l)) xs s) (rate (dayM d l) s) 0) (g := fun s => cond (cov d (hot d) xs s) (rate d s) 0) fun s _ => by rw [more_cov h s]; rfl]
theorem more_ris {xs : List Int} (h : risF d.lots.length (-1) xs = true) : risF (dayM d l).lots.length (-1) xs = true ∧ risF (dayM d l).lots.length (-1) (xs ++ [(d.lots.length : Int)]) = true := by
  have key : ∀ (xs : List Int) (last : Int), last < d.lots.length → risF d.lots.length last xs = true → risF ((d.lots.length + 1 : Nat) : Int) last xs = true ∧ risF ((d.lots.length + 1 : Nat) : Int) last (xs ++ [(d.lots.length : Int)]) = true := by
    intro xs
    induction xs with
    | nil => intro last hl _; exact ⟨rfl, ris_cons.2 ⟨by omega, rfl⟩⟩
    | cons x r ih =>
      intro last hl h
      obtain ⟨h1, h2⟩ := ris_cons.1 h
      obtain ⟨h3, h4⟩ := ih x h1.2 h2
      exact ⟨ris_cons.2 ⟨by omega, h3⟩, ris_cons.2 ⟨by omega, h4⟩⟩
  rw [more_len]
  exact key xs (-1) (by omega) h
theorem more_split {xs : List Int} : ∀ (last : Int), risF ((d.lots.length + 1 : Nat) : Int) last xs = true → risF d.lots.length last xs = true ∨ ∃ ys, xs = ys ++ [(d.lots.length : Int)] ∧ risF d.lots.length last ys = true := by
  induction xs with
  | nil => intro last _; exact .inl rfl
  | cons x r ih =>
    intro last h
    obtain ⟨h1, h2⟩ := ris_cons.1 h
    by_cases e : x < d.lots.length
    · rcases ih x h2 with h3 | ⟨ys, h3, h4⟩
      · exact .inl (ris_cons.2 ⟨⟨h1.1, e⟩, h3⟩)
      · exact .inr ⟨x :: ys, by rw [h3]; rfl, ris_cons.2 ⟨⟨h1.1, e⟩, h4⟩⟩
    · have hx : x = (d.lots.length : Int) := by omega
      cases r with
      | nil => exact .inr ⟨[], by rw [hx]; rfl, rfl⟩
      | cons y r => obtain ⟨h3, _⟩ := ris_cons.1 h2; omega
theorem more_snoc (hv : dayV d = true) {xs : List Int} (h : risF d.lots.length (-1) xs = true) : defV (dayM d l) (hot (dayM d l)) (xs ++ [(d.lots.length : Int)]) ≤ defV d (hot d) xs + l.cr ∧
    ((∀ s, canB (dayM d l) (hot (dayM d l)) d.lots.length s = false) → defV (dayM d l) (hot (dayM d l)) (xs ++ [(d.lots.length : Int)]) = defV d (hot d) xs + l.cr) := by
  have hcr : ((xs ++ [(d.lots.length : Int)]).map fun x => crI (dayM d l) x.toNat).sum = (xs.map fun x => crI d x.toNat).sum + l.cr := by
    rw [List.map_append, List.sum_append, more_cr h]
    simp only [List.map_cons, List.map_nil, List.sum_cons, List.sum_nil, Int.toNat_natCast]
    show _ + (((dayM d l).lots.getD d.lots.length default).cr + 0) = _
    rw [more_last]; omega
  have hcov : ∀ s, cov (dayM d l) (hot (dayM d l)) (xs ++ [(d.lots.length : Int)]) s = (cov d (hot d) xs s || canB (dayM d l) (hot (dayM d l)) d.lots.length s) := fun s => by
    rw [← more_cov (l := l) h s]; unfold cov; rw [List.any_append]; simp
  have hg : gsum d (fun s => cond (cov d (hot d) xs s) (rate d s) 0) ≤ gsum d (fun s => cond (cov (dayM d l) (hot (dayM d l)) (xs ++ [(d.lots.length : Int)]) s) (rate d s) 0) := gsum_le fun s hs => by
    rw [hcov s]
    have := rate_nn hv hs
    cases cov d (hot d) xs s <;> cases canB (dayM d l) (hot (dayM d l)) d.lots.length s <;> simp [this]
  have hd : defV (dayM d l) (hot (dayM d l)) (xs ++ [(d.lots.length : Int)]) = (xs.map fun x => crI d x.toNat).sum + l.cr - gsum d (fun s => cond (cov (dayM d l) (hot (dayM d l)) (xs ++ [(d.lots.length : Int)]) s) (rate d s) 0) := by
    unfold defV; rw [hcr]; rfl
  refine ⟨by rw [hd]; unfold defV; omega, fun hno => ?_⟩
  have he : gsum d (fun s => cond (cov (dayM d l) (hot (dayM d l)) (xs ++ [(d.lots.length : Int)]) s) (rate d s) 0) = gsum d (fun s => cond (cov d (hot d) xs s) (rate d s) 0) := gsum_congr fun s _ => by rw [hcov s, hno s, Bool.or_false]
  rw [hd, he]; unfold defV; omega
def lotNo (l : Lot) : Lot := ⟨l.cr, l.la, l.ke, 0⟩
theorem bit0 {kd : Int} (h0 : 0 ≤ kd ∧ kd ≤ 2) : bitB 0 kd = false := by
  rcases (show kd = 0 ∨ kd = 1 ∨ kd = 2 by omega) with rfl | rfl | rfl <;> decide +kernel
/-- With a lot more not fewer are lost, and at most as many more as it has; if nobody can take it, just so many. -/
theorem more_lost (hc : chk d = 0) (hcM : chk (dayM d l) = 0) : bestN d ≤ bestN (dayM d l) ∧ bestN (dayM d l) ≤ bestN d + l.cr ∧ chk (dayM d (lotNo l)) = 0 ∧ bestN (dayM d (lotNo l)) = bestN d + l.cr ∧ 1 ≤ l.cr ∧ l.cr ≤ 50 := by
  have hB := chk_okB (d := d) (by simp [hc]); have hBM := chk_okB (d := dayM d l) (by simp [hcM])
  have hv := dayB_V hB; have hvM := dayB_V hBM
  have hl := lot_ok hvM (i := d.lots.length) (by rw [more_len]; omega)
  rw [more_last] at hl
  have up : ∀ l' : Lot, dayV (dayM d l') = true → 1 ≤ l'.cr → (doneF (dayM d l') (hot (dayM d l')) (dayM d l').lots.length).2 ≤ (doneF d (hot d) d.lots.length).2 + l'.cr := fun l' hv' hcr => lost_le hv hv' l'.cr fun xs' hr => by
    rw [more_len] at hr
    rcases more_split (-1) hr with h | ⟨ys, rfl, h⟩
    · exact ⟨xs', h, by rw [more_def h]; omega⟩
    · exact ⟨ys, h, (more_snoc hv h).1⟩
  have a1 : (doneF d (hot d) d.lots.length).2 ≤ (doneF (dayM d l) (hot (dayM d l)) (dayM d l).lots.length).2 + 0 := lost_le (d := dayM d l) (d' := d) hvM hv 0 fun xs hr => ⟨xs, (more_ris hr).1, by rw [more_def hr]; omega⟩
  have hBN : dayB (dayM d (lotNo l)) = true := by
    have e : ∀ l' : Lot, dayB (dayM d l') = ((inB d.hours 1 24 && decide ((d.heat.length : Int) = d.hours) && decide (((d.lots ++ [l']).length : Int) ≤ 8) && decide ((d.wks.length : Int) ≤ 6)) && d.heat.all spB && (d.lots ++ [l']).all (lotB d.hours) && d.wks.all (wkB d.hours)) := fun _ => rfl
    rw [e] at hBM ⊢
    have hll : lotB d.hours (lotNo l) = lotB d.hours l := by
      unfold lotB
      have e2 : inB (lotNo l).fi 0 7 = true := inB_iff.2 (by show (0 : Int) ≤ 0 ∧ (0 : Int) ≤ 7; omega)
      rw [e2, inB_iff.2 (show 0 ≤ l.fi ∧ l.fi ≤ 7 by omega)]; rfl
    simp only [List.length_append, List.length_singleton, List.all_append, List.all_cons, List.all_nil, hll] at hBM ⊢
    exact hBM
  have hvN := dayB_V hBN
  have hno : ∀ s, s ∈ grid d → canB (dayM d (lotNo l)) (hot (dayM d (lotNo l))) d.lots.length s = false := fun s hs => by
    obtain ⟨g1, g2, _, _⟩ := mem_grid.1 hs
    have hw := wk_ok hv (i := s.1.toNat) (by omega)
    unfold canB
    rw [Int.toNat_natCast, more_last]
    have e3 : bitB (lotNo l).fi ((dayM d (lotNo l)).wks.getD s.1.toNat default).kd = false := bit0 ⟨hw.1, hw.2.1⟩
    rw [e3]; rfl
  have a2 : (doneF d (hot d) d.lots.length).2 ≤ (doneF (dayM d (lotNo l)) (hot (dayM d (lotNo l))) (dayM d (lotNo l)).lots.length).2 + (-l.cr) := lost_le (d := dayM d (lotNo l)) (d' := d) hvN hv (-l.cr) fun xs hr => ⟨xs ++ [(d.lots.length : Int)], (more_ris hr).2, by
    have h1 : gsum d (fun s => cond (cov (dayM d (lotNo l)) (hot (dayM d (lotNo l))) (xs ++ [(d.lots.length : Int)]) s) (rate d s) 0) = gsum d (fun s => cond (cov d (hot d) xs s) (rate d s) 0) := gsum_congr fun s hs => by
      have hcv : cov (dayM d (lotNo l)) (hot (dayM d (lotNo l))) (xs ++ [(d.lots.length : Int)]) s = cov d (hot d) xs s := by
        rw [← more_cov (l := lotNo l) hr s]; unfold cov; rw [List.any_append]; simp [hno s hs]
      rw [hcv]
    have h2 : ((xs ++ [(d.lots.length : Int)]).map fun x => crI (dayM d (lotNo l)) x.toNat).sum = (xs.map fun x => crI d x.toNat).sum + l.cr := by
      rw [List.map_append, List.sum_append, more_cr hr]
      simp only [List.map_cons, List.map_nil, List.sum_cons, List.sum_nil, Int.toNat_natCast]
      show _ + (((dayM d (lotNo l)).lots.getD d.lots.length default).cr + 0) = _
      rw [more_last]; show _ + (l.cr + 0) = _; omega
    have h3 : defV (dayM d (lotNo l)) (hot (dayM d (lotNo l))) (xs ++ [(d.lots.length : Int)]) = (xs.map fun x => crI d x.toNat).sum + l.cr - gsum d (fun s => cond (cov (dayM d (lotNo l)) (hot (dayM d (lotNo l))) (xs ++ [(d.lots.length : Int)]) s) (rate d s) 0) := by
      unfold defV; rw [h2]; rfl
    rw [h3, h1]; unfold defV; omega⟩
  have b1 := up l hvM hl.1
  have b2 := up (lotNo l) hvN hl.1
  have e4 : (lotNo l).cr = l.cr := rfl
  rw [e4] at b2
  have c1 := bestN_eq hc; have c2 := bestN_eq hcM; have c3 := bestN_eq (chk_of hBN)
  exact ⟨by omega, by omega, chk_of hBN, by omega, hl.1, hl.2.1⟩
end
end Go.Proofs.Ytioimdegbdkppaa.DK
