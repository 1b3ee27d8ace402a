/- What the law of the mirror says, in plain words. -/
import Derived.Test.YtgihgcclabodbaaSLaw2
import Derived.Test.YtgihgcclabodbaaSU
namespace Go.Proofs.Ytgihgcclabodbaa.DK
open Go
set_option linter.unusedVariables false
set_option linter.unusedSectionVars false

theorem pl_of {s : Sea} {q m : Int} (h0 : 0 ≤ m) (h1 : m < s.wide) (hq : 0 ≤ q) : pl s (m + s.wide * q) = (m, q) := by
  have hp : 0 ≤ s.wide * q := Int.mul_nonneg (by omega) hq
  unfold pl
  rw [Int.tmod_eq_emod_of_nonneg (by omega), Int.tdiv_eq_ediv_of_nonneg (by omega), Int.add_mul_emod_self_left, Int.emod_eq_of_lt h0 h1, Int.add_mul_ediv_left _ _ (by omega), Int.ediv_eq_zero_of_lt h0 h1, Int.zero_add]
section
variable {s : Sea} (hv : seaB s = true)
include hv
theorem trn_form {c : Int} (h0 : 0 ≤ c) (h1 : c < nC s) : trn s c = (s.wide - 1 - (pl s c).1) + s.wide * (pl s c).2 ∧ 0 ≤ (pl s c).1 ∧ (pl s c).1 < s.wide ∧ 0 ≤ (pl s c).2 ∧ (pl s c).2 < s.high := by
  have hs := sea_ok hv
  have e : (pl s c).1 + s.wide * (pl s c).2 = c := Int.tmod_add_mul_tdiv c s.wide
  have a : 0 ≤ (pl s c).2 ∧ (pl s c).2 ≤ c := tdiv_bd h0 (by omega)
  have b : 0 ≤ (pl s c).1 ∧ (pl s c).1 < s.wide := tmod_nn0 h0 (by omega)
  refine ⟨by unfold trn; omega, b.1, b.2, a.1, ?_⟩
  rcases Int.lt_or_le (pl s c).2 s.high with h | h
  · exact h
  · have := Int.mul_le_mul_of_nonneg_left h (show 0 ≤ s.wide by omega)
    unfold nC at h1; omega
theorem pl_trn {c : Int} (h0 : 0 ≤ c) (h1 : c < nC s) : pl s (trn s c) = (s.wide - 1 - (pl s c).1, (pl s c).2) := by
  obtain ⟨e, a, b, d, _⟩ := trn_form hv h0 h1
  rw [e]; exact pl_of (by omega) (by omega) d
theorem trn_rg {c : Int} (h0 : 0 ≤ c) (h1 : c < nC s) : 0 ≤ trn s c ∧ trn s c < nC s := by
  obtain ⟨e, a, b, d, f⟩ := trn_form hv h0 h1
  have hs := sea_ok hv
  have h2 : 0 ≤ s.wide * (pl s c).2 := Int.mul_nonneg (by omega) d
  have h3 := Int.mul_le_mul_of_nonneg_left (show (pl s c).2 + 1 ≤ s.high by omega) (show 0 ≤ s.wide by omega)
  rw [Int.mul_add, Int.mul_one] at h3
  rw [e]
  unfold nC
  omega
theorem trn_trn {c : Int} (h0 : 0 ≤ c) (h1 : c < nC s) : trn s (trn s c) = c := by
  have h2 := trn_rg hv h0 h1
  refine pl_inj (s := s) ?_
  rw [pl_trn hv h2.1 h2.2, pl_trn hv h0 h1]
  exact Prod.ext (by show s.wide - 1 - (s.wide - 1 - (pl s c).1) = _; omega) rfl
end
/-- The sea, and a report, in the mirror. -/
def mirS (s : Sea) : Sea := ⟨s.wide, s.high, lotsL (nC s).toNat fun c => decide (trn s (c : Int) ∈ s.land), s.hours, s.drift.map fun x => ⟨-x.e, x.n⟩, s.speed⟩
def mirR (s : Sea) (x : Rp) : Rp := ⟨x.hr, trn s x.cell, x.far, x.th⟩
theorem mem_lots {n : Nat} {A : Nat → Bool} {x : Int} : x ∈ lotsL n A ↔ ∃ i, i < n ∧ A i = true ∧ x = (i : Int) := by
  unfold lotsL
  rw [List.mem_map]
  constructor
  · rintro ⟨i, hi, rfl⟩
    obtain ⟨h1, h2⟩ := List.mem_filter.1 hi
    exact ⟨i, List.mem_range.1 h1, h2, rfl⟩
  · rintro ⟨i, h1, h2, rfl⟩
    exact ⟨i, List.mem_filter.2 ⟨List.mem_range.2 h1, h2⟩, rfl⟩
theorem mem_cells {s : Sea} {c : Int} : c ∈ cellsA s 0 ↔ 0 ≤ c ∧ c < nC s ∧ ¬ c ∈ s.land := by
  constructor
  · intro h
    have := mem_cellsA h
    rw [landF_pl] at this
    refine ⟨by omega, this.2.1, by simpa using this.2.2⟩
  · rintro ⟨h0, h1, h2⟩
    unfold cellsA
    refine List.mem_map.2 ⟨c.toNat, List.mem_filter.2 ⟨List.mem_range'_1.2 ⟨by omega, by omega⟩, ?_⟩, by omega⟩
    unfold isLand
    rw [show ((c.toNat : Nat) : Int) = c by omega, landF_pl, decide_eq_false h2]; rfl
theorem inB_neg {x a : Int} : inB (-x) (-a) a = inB x (-a) a := by
  rw [Bool.eq_iff_iff, inB_iff, inB_iff]; omega
theorem far_mir {w : Int} {p o : Int × Int} : farP (w - 1 - p.1, p.2) (w - 1 - o.1, o.2) = farP p o := by
  simp only [farP, mx]
  repeat' split
  all_goals omega
section
variable {s : Sea} (hv : seaB s = true)
include hv
theorem mir_cells {c : Int} (h0 : 0 ≤ c) (h1 : c < nC s) : c ∈ cellsA (mirS s) 0 ↔ trn s c ∈ cellsA s 0 := by
  have h2 := trn_rg hv h0 h1
  rw [mem_cells, mem_cells]
  have e : c ∈ (mirS s).land ↔ trn s c ∈ s.land := by
    show c ∈ lotsL _ _ ↔ _
    rw [mem_lots]
    constructor
    · rintro ⟨i, _, h, rfl⟩; exact of_decide_eq_true h
    · intro h; exact ⟨c.toNat, by omega, by rw [show ((c.toNat : Nat) : Int) = c by omega]; exact decide_eq_true h, by omega⟩
  rw [e]
  exact ⟨fun h => ⟨h2.1, h2.2, h.2.2⟩, fun h => ⟨h0, h1, h.2.2⟩⟩
theorem mir_sea : seaB (mirS s) = true := by
  have hs := sea_ok hv
  have hd : headB (mirS s) = headB s := by unfold headB mirS; simp only [List.length_map]
  have hst := fun i hi => st_ok hv (i := i) hi
  simp only [seaB, Bool.and_eq_true] at hv ⊢
  refine ⟨⟨by rw [hd]; exact hv.1.1, ?_⟩, ?_⟩
  · have h := lotsL_ris (nC s).toNat fun c => decide (trn s (c : Int) ∈ s.land)
    rw [show (((nC s).toNat : Nat) : Int) = nC s by omega] at h
    exact h
  · refine List.all_eq_true.2 fun x hx => ?_
    obtain ⟨y, hy, rfl⟩ := List.mem_map.1 hx
    obtain ⟨i, hi, e⟩ := List.getElem_of_mem hy
    have h1 := hst i hi
    rw [show s.drift.getD i default = y by simp [List.getD_eq_getElem?_getD, hi, e]] at h1
    show cond (inB (-y.e) (-2) 2) (inB y.n (-2) 2) false = true
    rw [inB_iff.2 (show -2 ≤ -y.e ∧ -y.e ≤ 2 by omega), inB_iff.2 (show -2 ≤ y.n ∧ y.n ≤ 2 by omega)]; rfl
theorem mir_step {h : Nat} {a b : Int} (ha : 0 ≤ a ∧ a < nC s) (hb : 0 ≤ b ∧ b < nC s) (hh : h < s.drift.length) : stepP (mirS s) (h : Int) (pl s (trn s a)) (pl s (trn s b)) = stepP s (h : Int) (pl s a) (pl s b) := by
  have hs := sea_ok hv
  rw [pl_trn hv ha.1 ha.2, pl_trn hv hb.1 hb.2, ← step_eq _ _ (show 0 ≤ (mirS s).speed from hs.2.2.2.2.1), ← step_eq _ _ (show 0 ≤ s.speed by omega)]
  have e : (mirS s).drift.getD ((h : Int)).toNat default = ⟨-(s.drift.getD ((h : Int)).toNat default).e, (s.drift.getD ((h : Int)).toNat default).n⟩ := by
    rw [Int.toNat_natCast]; exact map_getD (fun x : St => (⟨-x.e, x.n⟩ : St)) hh
  rw [e]
  generalize s.drift.getD ((h : Int)).toNat default = d
  show cond (inB (s.wide - 1 - (pl s b).1 - (s.wide - 1 - (pl s a).1) - -d.e) (-s.speed) s.speed) (inB ((pl s b).2 - (pl s a).2 - d.n) (-s.speed) s.speed) false = _
  rw [show s.wide - 1 - (pl s b).1 - (s.wide - 1 - (pl s a).1) - -d.e = -((pl s b).1 - (pl s a).1 - d.e) by omega, inB_neg]
theorem mir_ok {t : Nat → Int} (ht : okT s t 0 s.hours.toNat) : okT (mirS s) (fun k => trn s (t k)) 0 s.hours.toNat := by
  have hs := sea_ok hv
  have hb : ∀ k, k < s.hours.toNat → 0 ≤ t k ∧ t k < nC s := fun k hk => by have := mem_cellsA (ht.1 k (by omega) hk); omega
  refine ⟨fun k k1 k2 => ?_, fun k k1 k2 => ?_⟩
  · have h1 := hb k k2
    have h2 := trn_rg hv h1.1 h1.2
    exact (mir_cells hv h2.1 h2.2).2 (by rw [trn_trn hv h1.1 h1.2]; exact ht.1 k k1 k2)
  · exact (mir_step hv (hb k (by omega)) (hb (k + 1) k2) (by omega)).trans (ht.2 k k1 k2)
theorem mir_back {t : Nat → Int} (ht : okT (mirS s) t 0 s.hours.toNat) : okT s (fun k => trn s (t k)) 0 s.hours.toNat := by
  have hs := sea_ok hv
  have hb : ∀ k, k < s.hours.toNat → 0 ≤ t k ∧ t k < nC s := fun k hk => by
    have h1 := mem_cellsA (ht.1 k (by omega) hk)
    have h2 : t k < nC (mirS s) := h1.2.1
    exact ⟨by omega, h2⟩
  refine ⟨fun k k1 k2 => ?_, fun k k1 k2 => ?_⟩
  · have h1 := hb k k2
    exact (mir_cells hv h1.1 h1.2).1 (ht.1 k k1 k2)
  · have h1 := hb k (by omega); have h2 := hb (k + 1) k2
    have h3 := mir_step hv (trn_rg hv h1.1 h1.2) (trn_rg hv h2.1 h2.2) (h := k) (by omega)
    rw [trn_trn hv h1.1 h1.2, trn_trn hv h2.1 h2.2] at h3
    exact h3.symm.trans (ht.2 k k1 k2)
variable {rs : List Rp} (hr : rpsB s rs = true)
include hr
theorem mir_rps : rpsB (mirS s) (rs.map (mirR s)) = true := by
  have hrp := rp_ok hr
  simp only [rpsB, Bool.and_eq_true, decide_eq_true_eq, List.all_eq_true]
  refine ⟨by rw [List.length_map]; omega, fun x hx => ?_⟩
  obtain ⟨y, hy, rfl⟩ := List.mem_map.1 hx
  obtain ⟨i, hi, e⟩ := List.getElem_of_mem hy
  have h1 := hrp.2 i hi
  rw [show rs.getD i default = y by simp [List.getD_eq_getElem?_getD, hi, e]] at h1
  have h2 := trn_rg hv (c := y.cell) (by omega) (by omega)
  exact rpB_of ⟨h1.1, h1.2.1⟩ ⟨h2.1, by show trn s y.cell ≤ nC s - 1; omega⟩ ⟨h1.2.2.2.2.1, by show y.far ≤ 9; omega⟩
theorem mir_cost {t : Nat → Int} (hb : ∀ k, k < s.hours.toNat → 0 ≤ t k ∧ t k < nC s) : costT (mirS s) (rs.map (mirR s)) (fun k => trn s (t k)) 0 s.hours.toNat = costT s rs t 0 s.hours.toNat := by
  have hrp := rp_ok hr
  have hs := sea_ok hv
  rw [costT_count, costT_count]
  unfold rqs
  rw [List.map_map, List.filter_map, List.length_map, List.filter_map, List.length_map]
  congr 2
  apply List.filter_congr
  intro x hx
  obtain ⟨i, hi, e⟩ := List.getElem_of_mem hx
  have h1 := hrp.2 i hi
  rw [show rs.getD i default = x by simp [List.getD_eq_getElem?_getD, hi, e]] at h1
  have h2 := hb x.hr.toNat (by omega)
  show (inH 0 s.hours.toNat (rq s x) && badX (mirS s) (fun k => trn s (t k)) (rq (mirS s) (mirR s x))) = (inH 0 s.hours.toNat (rq s x) && badX s t (rq s x))
  congr 1
  show (!(x.th == decide (farP ((pl s (trn s x.cell)).1, (pl s (trn s x.cell)).2) (pl s (trn s (t x.hr.toNat))) ≤ x.far))) = !(x.th == decide (farP ((pl s x.cell).1, (pl s x.cell).2) (pl s (t x.hr.toNat)) ≤ x.far))
  rw [pl_trn hv (c := x.cell) (by omega) (by omega), pl_trn hv h2.1 h2.2]
  show (!(x.th == decide (farP (s.wide - 1 - (pl s x.cell).1, (pl s x.cell).2) (s.wide - 1 - (pl s (t x.hr.toNat)).1, (pl s (t x.hr.toNat)).2) ≤ x.far))) = _
  rw [far_mir]
theorem mir_cost2 {t : Nat → Int} (hb : ∀ k, k < s.hours.toNat → 0 ≤ t k ∧ t k < nC s) : costT s rs (fun k => trn s (t k)) 0 s.hours.toNat = costT (mirS s) (rs.map (mirR s)) t 0 s.hours.toNat := by
  rw [← mir_cost hv hr fun k hk => trn_rg hv (hb k hk).1 (hb k hk).2]
  exact costT_congr fun k _ hk => trn_trn hv (hb k (by omega)).1 (hb k (by omega)).2
theorem mir_in {t : Nat → Int} (ht : okT s t 0 s.hours.toNat) : ∀ k, k < s.hours.toNat → 0 ≤ t k ∧ t k < nC s := fun k hk => by have := mem_cellsA (ht.1 k (by omega) hk); omega
theorem mir_in2 {t : Nat → Int} (ht : okT (mirS s) t 0 s.hours.toNat) : ∀ k, k < s.hours.toNat → 0 ≤ t k ∧ t k < nC s := fun k hk => by
  have h1 := mem_cellsA (ht.1 k (by omega) hk)
  have h2 : t k < nC (mirS s) := h1.2.1
  exact ⟨by omega, h2⟩
theorem mir_min {m : Int} (hm : m < 1048576) : minT (mirS s) (rs.map (mirR s)) ≤ m ↔ minT s rs ≤ m := by
  rw [minT_le (mir_sea hv) (mir_rps hv hr) hm, minT_le hv hr hm]
  constructor
  · rintro ⟨t, ht, hc⟩
    exact ⟨_, mir_back hv ht, by rw [mir_cost2 hv hr (mir_in2 hv hr ht)]; exact hc⟩
  · rintro ⟨t, ht, hc⟩
    exact ⟨_, mir_ok hv ht, by show costT _ _ _ 0 s.hours.toNat ≤ m; rw [mir_cost hv hr (mir_in hv hr ht)]; exact hc⟩
theorem mir_can {wr h c : Int} (hw : wr < 1048576) (h0 : 0 ≤ h) (h1 : h < s.hours) (c0 : 0 ≤ c) (c1 : c < nC s) : c ∈ canL (mirS s) (rs.map (mirR s)) wr h ↔ trn s c ∈ canL s rs wr h := by
  rw [mem_canL (mir_sea hv) (mir_rps hv hr) hw h0 h1, mem_canL hv hr hw h0 h1]
  constructor
  · rintro ⟨t, ht, e, hc⟩
    exact ⟨_, mir_back hv ht, by show trn s (t h.toNat) = _; rw [e], by rw [mir_cost2 hv hr (mir_in2 hv hr ht)]; exact hc⟩
  · rintro ⟨t, ht, e, hc⟩
    exact ⟨_, mir_ok hv ht, by show trn s (t h.toNat) = c; rw [e, trn_trn hv c0 c1], by show costT _ _ _ 0 s.hours.toNat ≤ wr; rw [mir_cost hv hr (mir_in hv hr ht)]; exact hc⟩
end
theorem nodup_sub : ∀ (xs ys : List Int), xs.Nodup → (∀ x ∈ xs, x ∈ ys) → xs.length ≤ ys.length
  | [], _, _, _ => Nat.zero_le _
  | x :: xs, ys, hn, h => by
    have hx := h x (List.mem_cons_self ..)
    obtain ⟨h1, h2⟩ := List.nodup_cons.1 hn
    have ih := nodup_sub xs (ys.erase x) h2 fun y hy => (List.mem_erase_of_ne (show y ≠ x from fun e => h1 (by rw [← e]; exact hy))).2 (h y (List.mem_cons_of_mem _ hy))
    rw [List.length_erase_of_mem hx] at ih
    have := List.length_pos_of_mem hx
    rw [List.length_cons]; omega
theorem canL_nodup (s : Sea) (rs : List Rp) (wr h : Int) : (canL s rs wr h).Nodup := List.Pairwise.filter _ (cellsA_nodup s 0)
theorem canL_rg {s : Sea} {rs : List Rp} {wr h c : Int} (hc : c ∈ canL s rs wr h) : 0 ≤ c ∧ c < nC s := by
  have := mem_cellsA (List.mem_filter.1 hc).1; omega
theorem map_nodup {f : Int → Int} : ∀ {xs : List Int}, xs.Nodup → (∀ x ∈ xs, ∀ y ∈ xs, f x = f y → x = y) → (xs.map f).Nodup
  | [], _, _ => List.nodup_nil
  | x :: xs, hn, h => by
    obtain ⟨h1, h2⟩ := List.nodup_cons.1 hn
    rw [List.map_cons]
    refine List.nodup_cons.2 ⟨fun hm => ?_, map_nodup h2 fun a ha b hb => h a (List.mem_cons_of_mem _ ha) b (List.mem_cons_of_mem _ hb)⟩
    obtain ⟨y, hy, e⟩ := List.mem_map.1 hm
    have := h y (List.mem_cons_of_mem _ hy) x (List.mem_cons_self ..) e
    exact h1 (this ▸ hy)
section
variable {s : Sea} {rs : List Rp} (her : err s rs = 0)
include her
theorem mir_err : err (mirS s) (rs.map (mirR s)) = 0 := by
  obtain ⟨hv, hr⟩ := err_hd her
  unfold err chk
  rw [if_pos (mir_sea hv), if_neg (by simp), if_pos (mir_rps hv hr)]
theorem mir_len {wr h : Int} (ha : askB s wr h = true) : (canL (mirS s) (rs.map (mirR s)) wr h).length = (canL s rs wr h).length := by
  obtain ⟨hv, hr⟩ := err_hd her
  have hk := askB_iff.1 ha
  apply Nat.le_antisymm
  · rw [← List.length_map (f := trn s)]
    refine nodup_sub _ _ (map_nodup (canL_nodup ..) fun a ha2 b hb2 e => ?_) fun x hx => ?_
    · have h1 : 0 ≤ a ∧ a < nC (mirS s) := canL_rg ha2
      have h2 : 0 ≤ b ∧ b < nC (mirS s) := canL_rg hb2
      have h1 : 0 ≤ a ∧ a < nC s := h1
      have h2 : 0 ≤ b ∧ b < nC s := h2
      rw [← trn_trn hv h1.1 h1.2, e, trn_trn hv h2.1 h2.2]
    · obtain ⟨y, hy, rfl⟩ := List.mem_map.1 hx
      have h1 : 0 ≤ y ∧ y < nC (mirS s) := canL_rg hy
      have h1 : 0 ≤ y ∧ y < nC s := h1
      exact (mir_can hv hr (by omega) hk.2.2.1 hk.2.2.2 h1.1 h1.2).1 hy
  · rw [← List.length_map (f := trn s)]
    refine nodup_sub _ _ (map_nodup (canL_nodup ..) fun a ha2 b hb2 e => ?_) fun x hx => ?_
    · have h1 := canL_rg ha2
      have h2 := canL_rg hb2
      rw [← trn_trn hv h1.1 h1.2, e, trn_trn hv h2.1 h2.2]
    · obtain ⟨y, hy, rfl⟩ := List.mem_map.1 hx
      have h1 := canL_rg hy
      have h2 := trn_rg hv h1.1 h1.2
      exact (mir_can hv hr (by omega) hk.2.2.1 hk.2.2.2 h2.1 h2.2).2 (by rw [trn_trn hv h1.1 h1.2]; exact hy)
theorem mir_canR {wr h : Int} (ha : askB s wr h = true) : (canR (mirS s) (rs.map (mirR s)) wr h).2 = (canR s rs wr h).2 ∧ (canR (mirS s) (rs.map (mirR s)) wr h).1.length = (canR s rs wr h).1.length ∧ ∀ c ∈ (canR s rs wr h).1, 0 ≤ c ∧ c < nC s ∧ trn s c ∈ (canR (mirS s) (rs.map (mirR s)) wr h).1 := by
  obtain ⟨hv, hr⟩ := err_hd her
  have hk := askB_iff.1 ha
  have hl := mir_len her ha
  have ha2 : askB (mirS s) wr h = true := ha
  rcases can_cases her ha with ⟨h1, h2⟩ | ⟨h1, h2⟩
  · rw [h1] at hl
    have h3 : canL (mirS s) (rs.map (mirR s)) wr h = [] := List.length_eq_zero_iff.1 hl
    rcases can_cases (mir_err her) ha2 with ⟨_, h4⟩ | ⟨h4, _⟩
    · rw [h2, h4]; exact ⟨rfl, rfl, fun c hc => by simp at hc⟩
    · exact absurd h3 h4
  · rcases can_cases (mir_err her) ha2 with ⟨h3, _⟩ | ⟨_, h4⟩
    · rw [h3] at hl
      exact absurd (List.length_eq_zero_iff.1 hl.symm) h1
    · rw [h2, h4]
      refine ⟨rfl, hl, fun c hc => ?_⟩
      have h5 := canL_rg hc
      have h6 := trn_rg hv h5.1 h5.2
      exact ⟨h5.1, h5.2, (mir_can hv hr (by omega) hk.2.2.1 hk.2.2.2 h6.1 h6.2).2 (by rw [trn_trn hv h5.1 h5.2]; exact hc)⟩
theorem mir_least : (leastR (mirS s) (rs.map (mirR s))).1 = (leastR s rs).1 ∧ (leastR (mirS s) (rs.map (mirR s))).2.2 = (leastR s rs).2.2 := by
  obtain ⟨hv, hr⟩ := err_hd her
  rcases least_cases her with ⟨h1, h2⟩ | ⟨h1, h2⟩
  · rcases least_cases (mir_err her) with ⟨_, h4⟩ | ⟨h3, _⟩
    · rw [h2, h4]; exact ⟨rfl, rfl⟩
    · have := (mir_min hv hr (m := minT (mirS s) (rs.map (mirR s))) h3).1 (Int.le_refl _)
      omega
  · have h3 := (mir_min hv hr (m := minT s rs) h1).2 (Int.le_refl _)
    have h5 := (mir_min hv hr (m := minT (mirS s) (rs.map (mirR s))) (by omega)).1 (Int.le_refl _)
    rcases least_cases (mir_err her) with ⟨h4, _⟩ | ⟨_, h4⟩
    · omega
    · rw [h2, h4]; exact ⟨by show minT _ _ = minT s rs; omega, rfl⟩
theorem mir_dead {wr h : Int} (ha : askB s wr h = true) {a b : Nat} (hA : (canR s rs wr h).1.length = a) (hB : (canR (mirS s) (rs.map (mirR s)) wr h).1.length = b) :
    cond (cond (cond ((canR s rs wr h).2 != (canR (mirS s) (rs.map (mirR s)) wr h).2) true ((leastR s rs).2.2 != (leastR (mirS s) (rs.map (mirR s))).2.2)) true ((leastR s rs).1 != (leastR (mirS s) (rs.map (mirR s))).1)) true ((a : Int) != (b : Int)) = false := by
  obtain ⟨h1, h2, _⟩ := mir_canR her ha
  obtain ⟨h3, h4⟩ := mir_least her
  rw [h1, h3, h4, show a = b by omega, bne_self_eq_false, bne_self_eq_false, bne_self_eq_false, bne_self_eq_false]; rfl
end
end Go.Proofs.Ytgihgcclabodbaa.DK
