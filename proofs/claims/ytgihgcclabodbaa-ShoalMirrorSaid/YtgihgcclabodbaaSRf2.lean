/- The reference's answers are the program's: the least, where the shoal can be, the liars, the casts. -/
import Derived.Test.YtgihgcclabodbaaSBeh
import Derived.Test.YtgihgcclabodbaaSAsk
namespace Go.Proofs.Ytgihgcclabodbaa.DK
open Go
set_option linter.unusedVariables false

/-! ### The least of a row -/
def lstF (g : Nat → Int) : Nat → Int
  | 0 => 1000
  | c + 1 => mn (lstF g c) (g c)
theorem lstF_le {g : Nat → Int} {m : Int} : ∀ c, lstF g c ≤ m ↔ 1000 ≤ m ∨ ∃ i, i < c ∧ g i ≤ m
  | 0 => by simp [lstF]
  | c + 1 => by
    rw [lstF, mn_le, lstF_le c]
    constructor
    · rintro ((h | ⟨i, hi, h⟩) | h)
      · exact .inl h
      · exact .inr ⟨i, by omega, h⟩
      · exact .inr ⟨c, by omega, h⟩
    · rintro (h | ⟨i, hi, h⟩)
      · exact .inl (.inl h)
      · by_cases e : i = c
        · subst e; exact .inr h
        · exact .inl (.inr ⟨i, by omega, h⟩)
theorem cellsA_lt (s : Sea) : (cellsA s 0).Pairwise (· < ·) := by
  unfold cellsA
  rw [List.pairwise_map]
  exact (List.Pairwise.filter _ (List.pairwise_lt_range' (s := 0) (n := (nC s).toNat - 0) (step := 1) (by omega))).imp fun h => by omega
section
variable {s : Sea} {rs : List Rp} (hv : seaB s = true) (hr : rpsB s rs = true)
include hv hr
theorem lst_min : lstF (behG s rs 0) (nC s).toNat = if minT s rs < 1048576 then minT s rs else 1000 := by
  have h1 := sea_ok hv
  have hb := minT_bd hv hr
  have h24 := (rp_ok hr).1
  have hle : lstF (behG s rs 0) (nC s).toNat ≤ 1000 := (lstF_le _).2 (.inl (Int.le_refl _))
  have hB : (if minT s rs < 1048576 then minT s rs else 1000) ≤ 1000 := by
    split
    · rename_i h; have := minT_24 hv hr h; omega
    · omega
  refine eq_of_le hle hB fun m hm => ?_
  have h2 : (if minT s rs < 1048576 then minT s rs else 1000) ≤ m ↔ minT s rs ≤ m := by split <;> omega
  rw [h2, lstF_le, minT_le hv hr (by omega)]
  constructor
  · rintro (h | ⟨i, hi, h⟩)
    · omega
    · obtain ⟨hx, e, l⟩ := behG_lt hv hr (h := 0) (c := i) (by omega) (by omega)
      rw [e, ← bwdR_all s rs (by omega)] at h
      obtain ⟨t, ht, _, hc⟩ := (bwdR_le hv hr (m := m) (by rcases Int.lt_or_le (minT s rs) 1048576 with h3 | h3; exact h3; exfalso; have h4 := (bwdR_all s rs (k := 0) (by omega)); rw [h4] at h; obtain ⟨t, ht, _, hc⟩ := (bwd_le hv hr (s.hours.toNat - 1 - 0) (by omega) (i : Int) hx m (by omega)).1 h; have := (minT_le hv hr (m := m) (by omega)).2 ⟨t, by rw [show s.hours.toNat - 1 - (s.hours.toNat - 1 - 0) = 0 by omega] at ht; exact ht, by rw [show s.hours.toNat - 1 - (s.hours.toNat - 1 - 0) = 0 by omega, show s.hours.toNat - 1 - 0 + 1 = s.hours.toNat by omega] at hc; exact hc⟩; omega) (h := 0) (by omega) hx (by omega)).1 h
      exact ⟨t, ht, by rw [Nat.sub_zero] at hc; exact hc⟩
  · rintro ⟨t, ht, hc⟩
    have hx := ht.1 0 (by omega) (by omega)
    have hm0 := (minT_le hv hr (m := m) (by omega)).2 ⟨t, ht, hc⟩
    have hx2 := mem_cellsA hx
    refine .inr ⟨(t 0).toNat, by omega, ?_⟩
    rw [behG_le hv hr (by omega) hm, ← bwdR_all s rs (by omega)]
    exact (bwdR_le hv hr (by omega) (h := 0) (by omega) hx (by omega)).2 ⟨t, ht, rfl, by rw [Nat.sub_zero]; exact hc⟩
/-- The reference's question is the program's. -/
def rfit (s : Sea) (rs : List Rp) (h c : Nat) (prev left : Int) : Bool := cond (behG s rs h c == left) (cond ((h : Int) == 0) true (stepP s ((h : Int) - 1) (pl s prev) (pl s (c : Int)))) false
omit hv hr in
theorem rfit_eq {h c : Nat} (hv : seaB s = true) (hr : rpsB s rs = true) (hh : h < s.hours.toNat) {prev left : Int} (hl : left ≤ 24) (hc : (c : Int) ∈ cellsA s 0) : rfit s rs h c prev left = fitB s rs h prev left (c : Int) := by
  unfold rfit fitB
  have e : (behG s rs h c == left) = (bwdR s rs s.hours.toNat h ((c : Int)).toNat == left) := by
    rw [bwdR_all s rs hh, show ((c : Int)).toNat = c from rfl]
    unfold behG
    split
    · rfl
    · rename_i h1
      rw [show ((1000 : Int) == left) = false by simp; omega, show (bwd s rs (s.hours.toNat - 1 - h) c == left) = false by simp; omega]
  rw [e]
omit hv hr in
theorem rfit_out {h c : Nat} (hv : seaB s = true) (hr : rpsB s rs = true) (hh : h < s.hours.toNat) {prev left : Int} (hl : left ≤ 24) (hc : ¬ (c : Int) ∈ cellsA s 0) : rfit s rs h c prev left = false := by
  unfold rfit
  have : ¬ behG s rs h c < 1000 := fun h1 => hc (behG_lt hv hr hh h1).1
  rw [show (behG s rs h c == left) = false by simp; omega]; rfl
theorem trk_lt (hm : minT s rs < 1048576) {h c : Nat} (hh : h < s.hours.toNat) (hc : (c : Int) < trkC s rs h) : rfit s rs h c ((trkS s rs h).1.getD ((h : Int) - 1).toNat default) (trkS s rs h).2 = false := by
  have hl : (trkS s rs h).2 ≤ 24 := by
    have h1 := trkS_left s rs h
    have h2 := costT_bd (s := s) (rs := rs) (t := trkC s rs) (a := 0) (n := h)
    have := minT_24 hv hr hm
    omega
  by_cases hx : (c : Int) ∈ cellsA s 0
  · rw [rfit_eq hv hr hh hl hx]
    have hf := trk_find hv hr hm hh
    rw [List.find?_eq_some_iff_append] at hf
    obtain ⟨_, l1, l2, hab, hno⟩ := hf
    have hpw := cellsA_lt s
    rw [hab] at hx hpw
    rcases List.mem_append.1 hx with h1 | h1
    · simpa using hno _ h1
    · have h3 := (List.pairwise_append.1 hpw).2.1
      rcases List.mem_cons.1 h1 with h2 | h2
      · omega
      · have := (List.pairwise_cons.1 h3).1 _ h2; omega
  · exact rfit_out hv hr hh hl hx
theorem trk_hit (hm : minT s rs < 1048576) {h c : Nat} (hh : h < s.hours.toNat) (hc : (c : Int) = trkC s rs h) : rfit s rs h c ((trkS s rs h).1.getD ((h : Int) - 1).toNat default) (trkS s rs h).2 = true := by
  have hl : (trkS s rs h).2 ≤ 24 := by
    have h1 := trkS_left s rs h
    have h2 := costT_bd (s := s) (rs := rs) (t := trkC s rs) (a := 0) (n := h)
    have := minT_24 hv hr hm
    omega
  have hf := trk_find hv hr hm hh
  have hx := List.mem_of_find?_eq_some hf
  rw [rfit_eq hv hr hh hl (by rw [hc]; exact hx), hc]
  exact List.find?_some hf
end

/-! ### Where the shoal can be -/
def rcB (s : Sea) (rs : List Rp) (wr h : Int) (c : Nat) : Bool := decide ((aheX s rs s.hours.toNat h.toNat).getD c default + (behX s rs s.hours.toNat h.toNat).getD c default ≤ wr)
def rcanK (s : Sea) (rs : List Rp) (wr h : Int) : Nat → List Int
  | 0 => []
  | k + 1 => cond (rcB s rs wr h k) (rcanK s rs wr h k ++ [(k : Int)]) (rcanK s rs wr h k)
theorem rcanK_len (s : Sea) (rs : List Rp) (wr h : Int) : ∀ k, (rcanK s rs wr h k).length ≤ k
  | 0 => Nat.le_refl _
  | k + 1 => by
    have := rcanK_len s rs wr h k
    rw [rcanK]
    cases rcB s rs wr h k
    · rw [cond_false]; omega
    · rw [cond_true, List.length_append]; show _ + 1 ≤ _; omega
theorem rcanK_filter (s : Sea) (rs : List Rp) (wr h : Int) : ∀ k, rcanK s rs wr h k = ((List.range k).filter (rcB s rs wr h)).map fun (c : Nat) => (c : Int)
  | 0 => rfl
  | k + 1 => by
    rw [rcanK, rcanK_filter s rs wr h k, List.range_succ, List.filter_append, List.map_append]
    cases hb : rcB s rs wr h k <;> simp [hb]
theorem rcan_eq {s : Sea} {rs : List Rp} (hv : seaB s = true) (hr : rpsB s rs = true) {wr h : Int} (hw : wr ≤ 24) (h0 : 0 ≤ h) (h1 : h < s.hours) : rcanK s rs wr h (nC s).toNat = canL s rs wr h := by
  rw [rcanK_filter]
  unfold canL cellsA
  rw [List.filter_map, List.filter_filter, Nat.sub_zero, ← List.range_eq_range']
  congr 1
  apply List.filter_congr
  intro c hc
  have hcn := List.mem_range.1 hc
  have hs := sea_ok hv
  have hh : h.toNat < s.hours.toNat := by omega
  have key := refcan hv hr (h := h.toNat) (c := c) hh (by omega) hw
  have hx : (c : Int) ∈ cellsA s 0 ↔ isLand s c = false := by
    constructor
    · intro h2; exact (mem_cellsA h2).2.2
    · intro h2; exact of_cellsA (by omega) (by omega) h2
  unfold rcB
  rw [aheX_at hh, behX_at hh, rowL_at hcn, rowL_at hcn]
  show decide (aheG s rs h.toNat c + behG s rs h.toNat c ≤ wr) = (decide (allR s rs s.hours.toNat h.toNat ((c : Int)).toNat ≤ wr) && !(isLand s c))
  rw [show ((c : Int)).toNat = c from rfl]
  by_cases h2 : aheG s rs h.toNat c + behG s rs h.toNat c ≤ wr
  · obtain ⟨h3, h4⟩ := key.1 h2
    rw [decide_eq_true h2, decide_eq_true h4, hx.1 h3]; rfl
  · rw [decide_eq_false h2]
    symm
    cases hl : isLand s c with
    | true => simp
    | false => simp; exact Int.lt_of_not_ge fun h5 => h2 (key.2 ⟨hx.2 hl, by omega⟩)

/-! ### The liars -/
theorem liar_any {s : Sea} {rs : List Rp} (hv : seaB s = true) (hr : rpsB s rs = true) (hm : minT s rs < 1048576) {i : Nat} (hi : i < rs.length) :
    ((canR s rs (minT s rs) (rs.getD i default).hr).1.any fun c => !(falB s (rs.getD i default) c)) = (cellsA s 0).any fun c => freeB s rs c ((rqs s rs).getD i default) := by
  have h24 := minT_24 hv hr hm
  have hb := minT_bd hv hr
  have hri := (rp_ok hr).2 i hi
  have ha : askB s (minT s rs) (rs.getD i default).hr = true := askB_iff.2 ⟨hb.1, h24.2, hri.1, by omega⟩
  have he : err s rs = 0 := err_ok hv hr
  have hc : (canR s rs (minT s rs) (rs.getD i default).hr).1 = canL s rs (minT s rs) (rs.getD i default).hr := by
    unfold canR
    rw [if_neg (by omega), if_neg (by rw [ha]; simp), canR1_eq]
  rw [hc]
  have hlow : ∀ c ∈ cellsA s 0, minT s rs ≤ allR s rs s.hours.toNat (rs.getD i default).hr.toNat c.toNat := by
    intro c hc
    have h1 := sea_ok hv
    rcases Int.lt_or_le (allR s rs s.hours.toNat (rs.getD i default).hr.toNat c.toNat) (minT s rs) with h | h
    · rw [allR_h (by omega)] at h
      obtain ⟨t, ht, _, h2⟩ := (allF_le hv hr (h := (rs.getD i default).hr.toNat) (by omega) hc (m := minT s rs - 1) (by omega)).1 (by omega)
      have := (minT_le hv hr (m := minT s rs - 1) (by omega)).2 ⟨t, ht, h2⟩
      omega
    · exact h
  unfold canL
  rw [rqs_at hi, Bool.eq_iff_iff, List.any_eq_true, List.any_eq_true]
  have hfr : ∀ c, freeB s rs c (rq s (rs.getD i default)) = true ↔ (allR s rs s.hours.toNat (rs.getD i default).hr.toNat c.toNat = minT s rs ∧ (!(falB s (rs.getD i default) c)) = true) := by
    intro c
    rw [fal_eq, Bool.not_not]
    unfold freeB
    show cond (allR s rs s.hours.toNat (rs.getD i default).hr.toNat c.toNat == minT s rs) _ false = true ↔ _
    cases hq : (allR s rs s.hours.toNat (rs.getD i default).hr.toNat c.toNat == minT s rs) with
    | true => simp at hq; simp [hq]
    | false => simp at hq; simp [hq]
  constructor
  · rintro ⟨c, h1, h2⟩
    obtain ⟨h3, h4⟩ := List.mem_filter.1 h1
    have h5 := hlow c h3
    have h6 := of_decide_eq_true h4
    exact ⟨c, h3, (hfr c).2 ⟨by omega, h2⟩⟩
  · rintro ⟨c, h1, h2⟩
    obtain ⟨h3, h4⟩ := (hfr c).1 h2
    exact ⟨c, List.mem_filter.2 ⟨h1, decide_eq_true (by omega)⟩, h4⟩

/-! ### The casts -/
/-- What the reference's asked answers. -/
def raskR (s : Sea) (rs : List Rp) (wr h : Int) (cs : List Cs) : List Int × Int :=
  if (canR s rs wr h).2 ≠ 0 ∧ (canR s rs wr h).2 ≠ 12 then ([], (canR s rs wr h).2) else if csB s cs = false then ([], 13) else canR s rs wr h
theorem raskR_eq (s : Sea) (rs : List Rp) (wr h : Int) (cs : List Cs) : (askedR s rs wr h cs).2.2 = (raskR s rs wr h cs).2 ∧ (askedR s rs wr h cs).1 = ((raskR s rs wr h cs).1.map (pl s)) ∧ ((raskR s rs wr h cs).2 = 0 → (askedR s rs wr h cs).2.1 = cs.map (ctOf s) ∧ (raskR s rs wr h cs).1 = canL s rs wr h ∧ seaB s = true ∧ csB s cs = true) := by
  unfold askedR raskR canR
  by_cases h1 : err s rs ≠ 0
  · have h2 : err s rs ≠ 12 := by unfold err chk; split <;> (try split) <;> (try split) <;> simp
    rw [if_pos h1, if_pos h1, if_pos ⟨h1, h2⟩]
    exact ⟨rfl, rfl, fun h => absurd h h1⟩
  · rw [if_neg h1, if_neg h1]
    by_cases h2 : askB s wr h = false
    · rw [if_pos h2, if_pos h2, if_pos ⟨by simp, by simp⟩]
      exact ⟨rfl, rfl, fun h => by simp at h⟩
    · rw [if_neg h2, if_neg h2]
      have h3 : ¬ ((canR1 s rs wr h).2 ≠ 0 ∧ (canR1 s rs wr h).2 ≠ 12) := by
        rw [canR1_err]; split <;> simp
      rw [if_neg h3]
      by_cases h4 : csB s cs = false
      · rw [if_pos h4, if_pos h4]; exact ⟨rfl, rfl, fun h => by simp at h⟩
      · rw [if_neg h4, if_neg h4]
        by_cases h5 : (canR1 s rs wr h).2 ≠ 0
        · rw [if_pos h5]
          refine ⟨rfl, ?_, fun h => absurd h h5⟩
          have : canL s rs wr h = [] := by
            rw [canR1_err] at h5
            by_cases e : canL s rs wr h = []
            · exact e
            · rw [if_neg e] at h5; simp at h5
          rw [canR1_eq, this]; rfl
        · rw [if_neg h5]
          have h6 : seaB s = true := by
            cases h7 : seaB s with
            | true => rfl
            | false => simp [err, chk, h7] at h1
          exact ⟨by simp at h5; exact h5.symm, rfl, fun _ => ⟨rfl, canR1_eq .., h6, by simpa using h4⟩⟩
def rcov (s : Sea) (x : Cs) (c : Int) : Bool := decide (farP (pl s x.cell) (pl s c) ≤ x.far)
theorem cov_eq (s : Sea) (x : Cs) (c : Int) : covB (ctOf s x) (pl s c) = rcov s x c := rfl
def rcovN (s : Sea) (cells : List Int) (x : Cs) : Int := ((cells.filter (rcov s x)).length : Int)
theorem covN_eq (s : Sea) (cells : List Int) (x : Cs) : covN (cells.map (pl s)) (ctOf s x) = rcovN s cells x := by
  unfold covN rcovN
  rw [List.filter_map, List.length_map]
  rfl
def rworN (s : Sea) (cells : List Int) (x : Cs) : Int := mx (rcovN s cells x) ((cells.length : Int) - rcovN s cells x)
theorem worN_eq (s : Sea) (cells : List Int) (x : Cs) : worN (cells.map (pl s)) (ctOf s x) = rworN s cells x := by
  unfold worN rworN
  rw [covN_eq, List.length_map]
def rnextK (s : Sea) (cells : List Int) (cs : List Cs) : Nat → Int × Int
  | 0 => (0, (cells.length : Int) + 1)
  | k + 1 => cond (decide (rworN s cells (cs.getD k default) < (rnextK s cells cs k).2)) ((k : Int), rworN s cells (cs.getD k default)) (rnextK s cells cs k)
theorem rcovN_bd (s : Sea) (cells : List Int) (x : Cs) : 0 ≤ rcovN s cells x ∧ rcovN s cells x ≤ cells.length := by
  unfold rcovN
  have := List.length_filter_le (rcov s x) cells
  omega
theorem rworN_bd (s : Sea) (cells : List Int) (x : Cs) : 0 ≤ rworN s cells x ∧ rworN s cells x ≤ cells.length := by
  have := rcovN_bd s cells x
  unfold rworN mx
  split <;> omega
theorem map_getD {α β : Type} [Inhabited α] [Inhabited β] (f : α → β) {xs : List α} {k : Nat} (h : k < xs.length) : (xs.map f).getD k default = f (xs.getD k default) := by
  simp [List.getD_eq_getElem?_getD, h]
theorem rnext_eq (s : Sea) (cells : List Int) (cs : List Cs) : ∀ k, 1 ≤ k → k ≤ cs.length → nextK (cells.map (pl s)) (cs.map (ctOf s)) k = rnextK s cells cs k
  | 0, h, _ => by omega
  | k + 1, _, hk => by
    rw [nextK, rnextK, map_getD _ (by omega), worN_eq]
    by_cases h0 : k = 0
    · subst h0
      have hb := rworN_bd s cells (cs.getD 0 default)
      rw [show (((0 : Nat) : Int) == 0) = true from rfl, cond_true, cond_true, rnextK, decide_eq_true (show rworN s cells (cs.getD 0 default) < (cells.length : Int) + 1 by omega)]
      rfl
    · rw [show ((k : Int) == 0) = false by simp; omega, cond_false, rnext_eq s cells cs k (by omega) (by omega)]
theorem rnextR_eq {s : Sea} {rs : List Rp} {wr h : Int} {cs : List Cs} : nextR s rs wr h cs = if (raskR s rs wr h cs).2 ≠ 0 then (0, 0, (raskR s rs wr h cs).2) else ((rnextK s (raskR s rs wr h cs).1 cs cs.length).1, (rnextK s (raskR s rs wr h cs).1 cs cs.length).2, 0) := by
  obtain ⟨h1, h2, h3⟩ := raskR_eq s rs wr h cs
  unfold nextR
  rw [h1]
  split
  · rfl
  · rename_i h4
    have h5 : (raskR s rs wr h cs).2 = 0 := by simpa using h4
    obtain ⟨h6, h7, h8, h9⟩ := h3 h5
    have h10 := csB_ok h9
    rw [h2, h6, List.length_map, rnext_eq s _ cs _ h10.1 (Nat.le_refl _)]
end Go.Proofs.Ytgihgcclabodbaa.DK
