/- What the laws' helpers say: tracks that numbers choose, reports told, what is sound. -/
import Derived.Test.YtgihgcclabodbaaSSure
namespace Go.Proofs.Ytgihgcclabodbaa.DK
open Go
set_option linter.unusedVariables false

/-! ### Sound -/
theorem track_nil {s : Sea} {rs : List Rp} : (trackR s rs []).2.2 = err s rs := by
  unfold trackR
  split
  · rfl
  · rename_i h1
    have h0 : err s rs = 0 := by simpa using h1
    rw [h0]; split
    · rfl
    · split <;> rfl
theorem err_hd {s : Sea} {rs : List Rp} (h : err s rs = 0) : seaB s = true ∧ rpsB s rs = true := by
  cases h1 : seaB s <;> cases h2 : rpsB s rs <;> simp [err, chk, h1, h2] at h ⊢
theorem sound_eq {s : Sea} {rs : List Rp} : cond (cond (cond (cond (cond (cond ((trackR s rs []).2.2 == 0) (inB s.wide 1 10) false) (inB s.high 1 8) false) (inB s.hours 1 12) false) ((s.drift.length : Int) == (s.hours - 1)) false) (decide ((rs.length : Int) ≤ 24)) false) (inB s.speed 0 2) false = (err s rs == 0) := by
  rw [track_nil]
  cases he : (err s rs == 0) with
  | false => rfl
  | true =>
    obtain ⟨hv, hr⟩ := err_hd (by simpa using he)
    have h1 := sea_ok hv; have h2 := rp_ok hr
    rw [inB_iff.2 (show 1 ≤ s.wide ∧ s.wide ≤ 10 by omega), inB_iff.2 (show 1 ≤ s.high ∧ s.high ≤ 8 by omega), inB_iff.2 (show 1 ≤ s.hours ∧ s.hours ≤ 12 by omega), inB_iff.2 (show 0 ≤ s.speed ∧ s.speed ≤ 2 by omega),
      show ((s.drift.length : Int) == (s.hours - 1)) = true by simp; omega, decide_eq_true (show (rs.length : Int) ≤ 24 by omega)]
    rfl
theorem sound_rp {s : Sea} {rs : List Rp} (h : err s rs = 0) {k : Nat} (hk : k < rs.length) : cond (inB (rs.getD k default).hr 0 (s.hours - 1)) (inB (rs.getD k default).cell 0 (s.wide * s.high - 1)) false = true := by
  obtain ⟨hv, hr⟩ := err_hd h
  have h1 := (rp_ok hr).2 k hk
  unfold nC at h1
  rw [inB_iff.2 (by omega), inB_iff.2 (by omega)]; rfl

/-! ### Told -/
def toldB (s : Sea) (x : Rp) (t : List Int) : Bool := decide (farP (pl s x.cell) (pl s (t.getD x.hr.toNat default)) ≤ x.far) == x.th
theorem told_eq {s : Sea} {x : Rp} {t : List Int} : toldB s x t = !(badX s (tkF t) (rq s x)) := by
  unfold badX trueB toldB rq tkF
  rw [Bool.not_not]
  show (decide (farP (pl s x.cell) (pl s (t.getD x.hr.toNat default)) ≤ x.far) == x.th) = (x.th == decide (farP ((pl s x.cell).1, (pl s x.cell).2) (pl s (t.getD x.hr.toNat default)) ≤ x.far))
  cases decide (farP (pl s x.cell) (pl s (t.getD x.hr.toNat default)) ≤ x.far) <;> cases x.th <;> rfl

/-! ### Tracks that numbers choose -/
def stepH (s : Sea) (h : Nat) (t : List Int) (c : Int) : Bool := cond (decide ((h : Int) > 0)) (stepP s ((h : Int) - 1) (pl s (t.getD ((h : Int) - 1).toNat default)) (pl s c)) true
def nextL (s : Sea) (h : Nat) (t : List Int) : List Int := (cellsA s 0).filter (stepH s h t)
def nxB (s : Sea) (h : Nat) (t : List Int) (c : Nat) : Bool := cond (isLand s c) false (stepH s h t (c : Int))
def nxtK (s : Sea) (h : Nat) (t : List Int) : Nat → List Int
  | 0 => []
  | c + 1 => cond (nxB s h t c) (nxtK s h t c ++ [(c : Int)]) (nxtK s h t c)
theorem nxtK_len (s : Sea) (h : Nat) (t : List Int) : ∀ k, (nxtK s h t k).length ≤ k
  | 0 => Nat.le_refl _
  | k + 1 => by
    have := nxtK_len s h t k
    rw [nxtK]
    cases nxB s h t k
    · rw [cond_false]; omega
    · rw [cond_true, List.length_append]; show _ + 1 ≤ _; omega
theorem nxtK_filter (s : Sea) (h : Nat) (t : List Int) : ∀ k, nxtK s h t k = ((List.range k).filter (nxB s h t)).map fun (c : Nat) => (c : Int)
  | 0 => rfl
  | k + 1 => by
    rw [nxtK, nxtK_filter s h t k, List.range_succ, List.filter_append, List.map_append]
    cases hb : nxB s h t k <;> simp [hb]
theorem nxt_eq (s : Sea) (h : Nat) (t : List Int) : nxtK s h t (nC s).toNat = nextL s h t := by
  rw [nxtK_filter]
  unfold nextL cellsA
  rw [List.filter_map, List.filter_filter, Nat.sub_zero, ← List.range_eq_range']
  congr 1
  apply List.filter_congr
  intro c _
  show cond (isLand s c) false (stepH s h t (c : Int)) = (stepH s h t (c : Int) && !(isLand s c))
  cases isLand s c <;> cases stepH s h t (c : Int) <;> rfl
theorem step_abs {s : Sea} {h : Int} (p q : Int × Int) (hsp : 0 ≤ s.speed) : cond (decide (absI (q.1 - p.1 - (s.drift.getD h.toNat default).e) > s.speed)) true (decide (absI (q.2 - p.2 - (s.drift.getD h.toNat default).n) > s.speed)) = !(stepP s h p q) := by
  rw [← step_eq p q hsp]
  generalize q.1 - p.1 - (s.drift.getD h.toNat default).e = x
  generalize q.2 - p.2 - (s.drift.getD h.toNat default).n = y
  have key : ∀ z : Int, decide (absI z > s.speed) = !(inB z (-s.speed) s.speed) := by
    intro z
    cases hb : inB z (-s.speed) s.speed with
    | true => have := inB_iff.1 hb; rw [decide_eq_false]; rfl; unfold absI mx; split <;> omega
    | false =>
      rw [decide_eq_true]; rfl
      rcases Int.lt_or_le s.speed (absI z) with h1 | h1
      · exact h1
      · have : inB z (-s.speed) s.speed = true := inB_iff.2 (by unfold absI mx at h1; split at h1 <;> omega)
        rw [hb] at this; cases this
  rw [key, key]
  cases inB x (-s.speed) s.speed <;> cases inB y (-s.speed) s.speed <;> rfl
def swL (s : Sea) (bits : List Int) : Nat → List Int
  | 0 => []
  | h + 1 => if (swL s bits h).length < h then swL s bits h else match nextL s h (swL s bits h) with
    | [] => swL s bits h
    | nx => swL s bits h ++ [pickI nx (pickI bits (h : Int))]
theorem swL_go {s : Sea} {bits : List Int} {h : Nat} (hl : (swL s bits h).length = h) (hn : nextL s h (swL s bits h) ≠ []) : swL s bits (h + 1) = swL s bits h ++ [pickI (nextL s h (swL s bits h)) (pickI bits (h : Int))] := by
  rw [swL, if_neg (by omega)]
  split
  · rename_i e; exact absurd e hn
  · rfl
theorem swL_stop {s : Sea} {bits : List Int} {h : Nat} (hl : (swL s bits h).length = h) (hn : nextL s h (swL s bits h) = []) : ∀ k, swL s bits (h + 1 + k) = swL s bits h
  | 0 => by rw [Nat.add_zero, swL, if_neg (by omega), hn]
  | k + 1 => by
    have ih := swL_stop hl hn k
    rw [show h + 1 + (k + 1) = (h + 1 + k) + 1 by omega, swL, ih, if_pos (by omega)]
theorem swL_len (s : Sea) (bits : List Int) : ∀ h, (swL s bits h).length ≤ h
  | 0 => Nat.le_refl _
  | h + 1 => by
    have ih := swL_len s bits h
    rw [swL]
    split
    · omega
    · split
      · omega
      · rw [List.length_append]; show _ + 1 ≤ _; omega
theorem pickI_mem {xs : List Int} {i : Int} (h : xs ≠ []) : pickI xs i ∈ xs := by
  have hl : 0 < xs.length := List.length_pos_iff.2 h
  unfold pickI
  rw [show ((xs.length : Int) == 0) = false by simp; omega]
  have h1 := Int.emod_nonneg i (show (xs.length : Int) ≠ 0 by omega)
  have h2 := Int.emod_lt_of_pos i (show (0 : Int) < xs.length by omega)
  exact getD_mem (by omega)
theorem getD_app {xs ys : List Int} {i : Nat} (h : i < xs.length) : (xs ++ ys).getD i default = xs.getD i default := by
  rw [List.getD_eq_getElem?_getD, List.getElem?_append_left h, ← List.getD_eq_getElem?_getD]
theorem getD_last {xs : List Int} {x : Int} {i : Nat} (h : i = xs.length) : (xs ++ [x]).getD i default = x := by
  rw [List.getD_eq_getElem?_getD, List.getElem?_append_right (by omega), show i - xs.length = 0 by omega]; rfl
/-- What is not stuck is a track. -/
theorem swL_ok {s : Sea} {bits : List Int} : ∀ {h : Nat}, (swL s bits h).length = h → okT s (tkF (swL s bits h)) 0 h
  | 0, _ => ⟨fun k _ h2 => by omega, fun k _ h2 => by omega⟩
  | h + 1, hl => by
    have hlh : (swL s bits h).length = h := by
      have h1 := swL_len s bits h
      rw [swL] at hl
      split at hl
      · omega
      · omega
    have hn : nextL s h (swL s bits h) ≠ [] := by
      intro e
      have := swL_stop hlh e 0
      rw [Nat.add_zero] at this
      rw [this] at hl; omega
    have ih := swL_ok (s := s) (bits := bits) hlh
    rw [swL_go hlh hn]
    generalize hc : pickI (nextL s h (swL s bits h)) (pickI bits (h : Int)) = c
    have hmc : c ∈ nextL s h (swL s bits h) := by rw [← hc]; exact pickI_mem hn
    obtain ⟨hx, hs⟩ := List.mem_filter.1 hmc
    have e1 : ∀ k, k < h → tkF (swL s bits h ++ [c]) k = tkF (swL s bits h) k := fun k hk => getD_app (by omega)
    have e2 : tkF (swL s bits h ++ [c]) h = c := getD_last hlh.symm
    refine ⟨fun k k1 k2 => ?_, fun k k1 k2 => ?_⟩
    · by_cases e : k < h
      · rw [e1 k e]; exact ih.1 k k1 e
      · rw [show k = h by omega, e2]; exact hx
    · by_cases e : k + 1 < h
      · rw [e1 k (by omega), e1 (k + 1) e]; exact ih.2 k k1 e
      · have ek : k + 1 = h := by omega
        rw [e1 k (by omega), ek, e2]
        unfold stepH at hs
        rw [decide_eq_true (by omega), cond_true, show ((h : Int) - 1).toNat = k by omega, show ((h : Int) - 1) = (k : Int) by omega] at hs
        exact hs
end Go.Proofs.Ytgihgcclabodbaa.DK
