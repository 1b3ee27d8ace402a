/- Walks: the reference's tracks. Printed by my gen.py out of shoal/j.py. -/
import Derived.Test.YtgihgcclabodbaaSS
namespace Go.Proofs.Ytgihgcclabodbaa.DK
open Go Go.Proofs
set_option linter.unusedVariables false
set_option linter.unusedSimpArgs false

theorem err_0 {s : Sea} {rs : List Rp} (h : err s rs = 0) : seaB s = true ∧ rpsB s rs = true := by
  cases h1 : seaB s <;> cases h2 : rpsB s rs <;> simp [err, chk, h1, h2] at h ⊢
theorem badT_w (s : Sea) (t : List Int) (k : Nat) : badT s t k = cond (!(watB s (t.getD k default))) true (cond (decide ((k : Int) > 0)) (!(stepP s ((k : Int) - 1) (pl s (t.getD ((k : Int) - 1).toNat default)) (pl s (t.getD k default)))) false) := by
  unfold badT watB
  cases inB (t.getD k default) 0 (nC s - 1) <;> cases landF s (pl s (t.getD k default)) <;> rfl
theorem trk_g3 {x : Int} {s : Sea} {k : Nat} (h : ((!(!(watB s x))) && (decide ((k : Int) > 0))) = true) : 0 ≤ x ∧ x < nC s ∧ 0 < k := by
  simp only [Bool.and_eq_true, Bool.not_not, decide_eq_true_eq] at h
  have := mem_cellsA (watB_iff.1 h.1)
  omega
set_option maxHeartbeats 4000000 in
set_option maxRecDepth 100000 in
theorem refIsTrack_calls (s : Sea) (v : SV) (rs : List Rp) (p : Option Addr) (n c : Nat) (t : List Int) (tp : Option Addr) (tn tc : Nat) (w0 : World) (hs : SeaR w0.heap.size w0 v s) (hx : Rd encRp 4 w0.heap.size w0 p n rs) (ht : Rd encI 1 w0.heap.size w0 tp tn t) :
    Calls Try.prog 17 #[.agg (sS6 s v), .slice p n c, .slice tp tn tc] w0 (fun e w' => e = .returned (.tuple #[iv (trackR s rs t).1, .bool (trackR s rs t).2.1, iv (trackR s rs t).2.2]) ∧ Ext w0 w') := by
  have hl1 := hs.land.len; have hl2 := hs.drift.len; have hs1 := hs.land.size; have hs2 := hs.drift.size; have hr_ := hs.rg; unfold i64 at hr_; have hl3 := hx.len; have hs3 := hx.size; have ht1 := ht.len; have ht2 := ht.size
  refine calls_of_W Try.func17 rfl (by kernel_rfl) (args := [.agg (sS6 s v), .slice p n c, .slice tp tn tc]) fun a hF => ?_
  replace hF : Fr 67 [] [(0, .agg (sS6 s v)), (1, .slice p n c), (2, .slice tp tn tc)] a := hF
  have hO : Own w0 none_ [] w0 := Own.start w0 _
  refine W_seq (region_seq ?_)
  refine op_box (i := 0) (t := 25) (v := .agg (sS6 s v)) (d := 3) hF hO (by kernel_rfl) fun a w b1 hF hO _ => ?_
  refine seq_quiet {} TBok hF (F' := [(1, .slice p n c), (2, .slice tp tn tc), (3, pv b1), (6, iv 0), (7, .bool false), (8, iv 0)]) (rs := []) [1, 2, 3] [] [1, 2, 3, 6, 7, 8] .nil (by kernel_rfl) fun a w hF hE => ?_
  replace hO := hO.ext hE; clear hE
  refine W_seq ?_
  refine W_seq (region_q {} TBok hF (F' := [(1, .slice p n c), (2, .slice tp tn tc), (3, pv b1), (6, iv 0), (7, .bool false), (8, iv 0), (9, iv (err s rs))]) (rs := [.lds ⟨b1, 0, none⟩ (sL6 s v), .call 53 #[.agg (sS6 s v), .slice p n c] (iv (err s rs))]) [1, 2, 3, 6, 7, 8, 9] (.cons (ldso hO.st 0 rfl 0 rfl) <| .cons (fun w hE => Asked_calls s v rs p n c w (hs.upM (hO.st w hE).kp nom (Nat.le_refl _)) (hx.upM (hO.st w hE).kp nom (Nat.le_refl _))) <| .nil) (by kernel_rfl) fun a w hF hE => ?_)
  replace hO := hO.ext hE; clear hE
  refine W_seq (region_q {} TBok hF (F' := [(1, .slice p n c), (2, .slice tp tn tc), (3, pv b1), (6, iv 0), (7, .bool false), (8, iv 0), (9, iv (err s rs)), (16, .bool ((err s rs) != 0))]) (rs := []) [1, 2, 3, 6, 7, 8, 9, 16] .nil (by kernel_rfl) fun a w hF hE => ?_)
  replace hO := hO.ext hE; clear hE
  rcases Bool.eq_false_or_eq_true ((err s rs) != 0) with hc2 | hc2
  · refine (W_true ((evOp hF (by kernel_rfl)).trans (congrArg Value.bool hc2)) ?_)
    have her : err s rs ≠ 0 := by simpa using (by assumption : ((err s rs) != 0) = true)
    refine W_seq (region_q {} TBok hF (F' := [(1, .slice p n c), (2, .slice tp tn tc), (3, pv b1), (6, iv 0), (7, .bool false), (8, iv (err s rs))]) (rs := []) [1, 2, 3, 6, 7, 8] .nil (by kernel_rfl) fun a w hF hE => ?_)
    replace hO := hO.ext hE; clear hE
    refine W_ret ?_
    show bodyPostM (FW none) 0 _ _ _ Exit.ret a w
    have hres : trackR s rs t = (0, false, err s rs) := by unfold trackR; rw [if_pos her]
    exact leave_r TBok hF (.nil _) (vs := [iv 0, .bool false, iv (err s rs)]) (rs := []) .nil (by kernel_rfl) ⟨by rw [hres]; rfl, hO.kp⟩
  · refine (W_false ((evOp hF (by kernel_rfl)).trans (congrArg Value.bool hc2)) ?_)
    have her : err s rs = 0 := by simpa using (by assumption : ((err s rs) != 0) = false)
    obtain ⟨hv, hr⟩ := err_0 her
    have hv1 := sea_ok hv; have hrp := rp_ok hr; have hrl := rqs_len (s := s) (rs := rs)
    refine (W_skip ?_)
    refine W_seq ?_
    refine W_seq (region_q {} TBok hF (F' := [(1, .slice p n c), (2, .slice tp tn tc), (3, pv b1), (6, iv 0), (7, .bool false), (8, iv 0), (22, .bool ((tn : Int) != s.hours))]) (rs := [.ld ⟨b1, 3, none⟩ (iv s.hours)]) [1, 2, 3, 6, 7, 8, 22] (.cons (ldo hO.st 0 rfl 3 rfl) <| .nil) (by kernel_rfl) fun a w hF hE => ?_)
    replace hO := hO.ext hE; clear hE
    rcases Bool.eq_false_or_eq_true ((tn : Int) != s.hours) with hc3 | hc3
    · refine (W_true ((evOp hF (by kernel_rfl)).trans (congrArg Value.bool hc3)) ?_)
      have hne := (by assumption : ((tn : Int) != s.hours) = true)
      have hne2 : (t.length : Int) ≠ s.hours := by rw [ht1]; simpa using hne
      refine W_seq (region_q {} TBok hF (F' := [(1, .slice p n c), (2, .slice tp tn tc), (3, pv b1), (6, iv 0), (7, .bool false), (8, iv 0)]) (rs := []) [1, 2, 3, 6, 7, 8] .nil (by kernel_rfl) fun a w hF hE => ?_)
      replace hO := hO.ext hE; clear hE
      refine W_ret ?_
      show bodyPostM (FW none) 0 _ _ _ Exit.ret a w
      have hres : trackR s rs t = (0, false, 0) := by unfold trackR; rw [if_neg (by omega), if_pos hne2]
      exact leave_r TBok hF (.nil _) (vs := [iv 0, .bool false, iv 0]) (rs := []) .nil (by kernel_rfl) ⟨by rw [hres]; rfl, hO.kp⟩
    · refine (W_false ((evOp hF (by kernel_rfl)).trans (congrArg Value.bool hc3)) ?_)
      have hne := (by assumption : ((tn : Int) != s.hours) = false)
      have hne2 : (tn : Int) = s.hours := by simpa using hne
      have hne3 : ¬ (t.length : Int) ≠ s.hours := by omega
      refine (W_skip ?_)
      refine W_seq (region_q {} TBok hF (F' := [(1, .slice p n c), (2, .slice tp tn tc), (3, pv b1), (6, iv 0), (7, .bool false), (8, iv 0), (10, iv 0)]) (rs := []) [1, 2, 3, 6, 7, 8, 10] .nil (by kernel_rfl) fun a w hF hE => ?_)
      replace hO := hO.ext hE; clear hE
      refine W_seq ?_
      refine W_seq (region_q {} TBok hF (F' := [(1, .slice p n c), (2, .slice tp tn tc), (3, pv b1), (6, iv 0), (7, .bool false), (8, iv 0), (10, iv 0), (11, iv 0)]) (rs := []) [1, 2, 3, 6, 7, 8, 10, 11] .nil (by kernel_rfl) fun a w hF hE => ?_)
      replace hO := hO.ext hE; clear hE
      refine (W_block ?_)
      replace hF := hF.sel [1, 2, 3, 10, 11]
      refine (W_loop (fun m a w => ∃ (k : Nat), m = tn - k ∧ k ≤ tn ∧ (∀ j, j < k → badT s t j = false) ∧ Fr 67 [] [(1, .slice p n c), (2, .slice tp tn tc), (3, pv b1), (10, iv (lieS s rs t k)), (11, iv (k : Int))] a ∧ Own w0 none_ [cel b1 (sS6 s v) 25] w) _ ⟨0, rfl, Nat.zero_le _, fun j hj => absurd hj (Nat.not_lt_zero j), hF, hO⟩ ?_)
      clear hF hO
      rintro _ a w ⟨k, rfl, hk, hall, hF, hO⟩
      have hli := lieS_bd hr t k
      refine W_seq ?_
      refine W_seq (region_q {} TBok hF (F' := [(1, .slice p n c), (2, .slice tp tn tc), (3, pv b1), (10, iv (lieS s rs t k)), (11, iv (k : Int)), (26, .bool (decide ((k : Int) < (tn : Int))))]) (rs := []) [1, 2, 3, 10, 11, 26] .nil (by kernel_rfl) fun a w hF hE => ?_)
      replace hO := hO.ext hE; clear hE
      rcases Bool.eq_false_or_eq_true (decide ((k : Int) < (tn : Int))) with hc4 | hc4
      · refine (W_true ((evOp hF (by kernel_rfl)).trans (congrArg Value.bool hc4)) ?_)
        have hc4_ := of_decide_eq_true hc4
        refine (W_skip ?_)
        refine W_seq (W_block ?_)
        refine W_seq ?_
        refine W_seq (region_d { sy := [7, 10] } mixed TBok hF (F' := [(1, .slice p n c), (2, .slice tp tn tc), (3, pv b1), (10, iv (lieS s rs t k)), (11, iv (k : Int)), (55, .bool (cond (!(watB s (t.getD k default))) true (cond (decide ((k : Int) > 0)) (!(stepP s ((k : Int) - 1) (pl s (t.getD ((k : Int) - 1).toNat default)) (pl s (t.getD k default)))) false)))]) (rs := [.lds ⟨b1, 0, none⟩ (sL6 s v), .idx tp tn (k : Int) 1 (adr tp 1 (k : Int)), .ld (adr tp 1 (k : Int)) (iv (t.getD k default)), .call 54 #[.agg (sS6 s v), iv (t.getD k default)] (.bool (watB s (t.getD k default))), .und ((!(!(watB s (t.getD k default)))) && (decide ((k : Int) > 0))) (.lds ⟨b1, 0, none⟩ (sL6 s v)), .und ((!(!(watB s (t.getD k default)))) && (decide ((k : Int) > 0))) (.rng ((k : Int) - 1)), .und ((!(!(watB s (t.getD k default)))) && (decide ((k : Int) > 0))) (.rng ((k : Int) - 1)), .und ((!(!(watB s (t.getD k default)))) && (decide ((k : Int) > 0))) (.idx tp tn ((k : Int) - 1) 1 (adr tp 1 ((k : Int) - 1))), .und ((!(!(watB s (t.getD k default)))) && (decide ((k : Int) > 0))) (.ld (adr tp 1 ((k : Int) - 1)) (iv (t.getD ((k : Int) - 1).toNat default))), .und ((!(!(watB s (t.getD k default)))) && (decide ((k : Int) > 0))) (.idx tp tn (k : Int) 1 (adr tp 1 (k : Int))), .und ((!(!(watB s (t.getD k default)))) && (decide ((k : Int) > 0))) (.ld (adr tp 1 (k : Int)) (iv (t.getD k default))), .und ((!(!(watB s (t.getD k default)))) && (decide ((k : Int) > 0))) (.call 55 #[.agg (sS6 s v), iv ((k : Int) - 1), iv (t.getD ((k : Int) - 1).toNat default), iv (t.getD k default)] (.bool (stepP s ((k : Int) - 1) (pl s (t.getD ((k : Int) - 1).toNat default)) (pl s (t.getD k default)))))]) [1, 2, 3, 10, 11, 55] (.cons (ldso hO.st 0 rfl 0 rfl) <| .cons (ix ht (by omega) (by omega)) <| .cons (ldx hO.st nom ht (by omega) (by omega) 0 rfl) <| .cons (fun w hE => water_calls s v (t.getD k default) w (hs.upM (hO.st w hE).kp nom (Nat.le_refl _)) hv) <| .cons (fun hg => (ldso hO.st 0 rfl 0 rfl)) <| .cons (fun hg_ => by have hin := trk_g3 (x := (t.getD k default)) (s := s) (k := k) hg_; have hpv := badT_in (s := s) (t := t) (hall (((k : Int) - 1).toNat) (by omega)); exact (rg (by omega))) <| .cons (fun hg_ => by have hin := trk_g3 (x := (t.getD k default)) (s := s) (k := k) hg_; have hpv := badT_in (s := s) (t := t) (hall (((k : Int) - 1).toNat) (by omega)); exact (rg (by omega))) <| .cons (fun hg_ => by have hin := trk_g3 (x := (t.getD k default)) (s := s) (k := k) hg_; have hpv := badT_in (s := s) (t := t) (hall (((k : Int) - 1).toNat) (by omega)); exact (ix ht (by omega) (by omega))) <| .cons (fun hg_ => by have hin := trk_g3 (x := (t.getD k default)) (s := s) (k := k) hg_; have hpv := badT_in (s := s) (t := t) (hall (((k : Int) - 1).toNat) (by omega)); exact (ldx hO.st nom ht (by omega) (by omega) 0 rfl)) <| .cons (fun hg => (ix ht (by omega) (by omega))) <| .cons (fun hg => (ldx hO.st nom ht (by omega) (by omega) 0 rfl)) <| .cons (fun hg_ => by have hin := trk_g3 (x := (t.getD k default)) (s := s) (k := k) hg_; have hpv := badT_in (s := s) (t := t) (hall (((k : Int) - 1).toNat) (by omega)); exact (fun w hE => step_calls s v ((k : Int) - 1) (t.getD ((k : Int) - 1).toNat default) (t.getD k default) w (hs.upM (hO.st w hE).kp nom (Nat.le_refl _)) hv (by omega) (by omega) (by omega))) <| .nil) (by kernel_rfl) (by kernel_rfl) fun a w hF hE => ?_)
        replace hO := hO.ext hE; clear hE
        rcases Bool.eq_false_or_eq_true (cond (!(watB s (t.getD k default))) true (cond (decide ((k : Int) > 0)) (!(stepP s ((k : Int) - 1) (pl s (t.getD ((k : Int) - 1).toNat default)) (pl s (t.getD k default)))) false)) with hc5 | hc5
        · refine (W_true ((evOp hF (by kernel_rfl)).trans (congrArg Value.bool hc5)) ?_)
          have hbk : badT s t k = true := (badT_w s t k).trans (by assumption : (cond (!(watB s (t.getD k default))) true (cond (decide ((k : Int) > 0)) (!(stepP s ((k : Int) - 1) (pl s (t.getD ((k : Int) - 1).toNat default)) (pl s (t.getD k default)))) false)) = true)
          refine W_seq (region_q {} TBok hF (F' := [(1, .slice p n c), (2, .slice tp tn tc), (3, pv b1), (6, iv 0), (7, .bool false), (8, iv 0), (10, iv (lieS s rs t k)), (11, iv (k : Int))]) (rs := []) [1, 2, 3, 6, 7, 8, 10, 11] .nil (by kernel_rfl) fun a w hF hE => ?_)
          replace hO := hO.ext hE; clear hE
          refine W_ret ?_
          show bodyPostM (FW none) 0 _ _ _ Exit.ret a w
          have hres : trackR s rs t = (0, false, 0) := by unfold trackR; rw [if_neg (by omega), if_neg hne3, if_neg (by rw [isTrB_bad (k := k) (by omega) hbk]; simp)]
          exact leave_r TBok hF (.nil _) (vs := [iv 0, .bool false, iv 0]) (rs := []) .nil (by kernel_rfl) ⟨by rw [hres]; rfl, hO.kp⟩
        · refine (W_false ((evOp hF (by kernel_rfl)).trans (congrArg Value.bool hc5)) ?_)
          have hbk : badT s t k = false := (badT_w s t k).trans (by assumption : (cond (!(watB s (t.getD k default))) true (cond (decide ((k : Int) > 0)) (!(stepP s ((k : Int) - 1) (pl s (t.getD ((k : Int) - 1).toNat default)) (pl s (t.getD k default)))) false)) = false)
          refine (W_skip ?_)
          refine (region_d {} mixed TBok hF (F' := [(1, .slice p n c), (2, .slice tp tn tc), (3, pv b1), (10, iv ((lieS s rs t k) + (untr s rs (k : Int) (t.getD k default)))), (11, iv (k : Int))]) (rs := [.lds ⟨b1, 0, none⟩ (sL6 s v), .idx tp tn (k : Int) 1 (adr tp 1 (k : Int)), .ld (adr tp 1 (k : Int)) (iv (t.getD k default)), .call 56 #[.agg (sS6 s v), .slice p n c, iv (k : Int), iv (t.getD k default)] (iv (untr s rs (k : Int) (t.getD k default))), .rng ((lieS s rs t k) + (untr s rs (k : Int) (t.getD k default)))]) [1, 2, 3, 10, 11] (.cons (ldso hO.st 0 rfl 0 rfl) <| .cons (ix ht (by omega) (by omega)) <| .cons (ldx hO.st nom ht (by omega) (by omega) 0 rfl) <| .cons (fun w hE => lies_calls s v rs p n c (k : Int) (t.getD k default) w hv (hx.upM (hO.st w hE).kp nom (Nat.le_refl _)) hr (by have h_ := badT_in hbk; omega)) <| .cons (rg (by have hu := untr_bd (s := s) (rs := rs) (k : Int) (t.getD k default); omega)) <| .nil) (by kernel_rfl) (by kernel_rfl) fun a w hF hE => ?_)
          replace hO := hO.ext hE; clear hE
          refine (region_q {} TBok hF (F' := [(1, .slice p n c), (2, .slice tp tn tc), (3, pv b1), (10, iv ((lieS s rs t k) + (untr s rs (k : Int) (t.getD k default)))), (11, iv ((k : Int) + 1))]) (rs := [.rng ((k : Int) + 1)]) [1, 2, 3, 10, 11] (.cons (rg (by omega)) <| .nil) (by kernel_rfl) fun a w hF hE => ?_)
          replace hO := hO.ext hE; clear hE
          exact ⟨_, by omega, k + 1, rfl, by omega, fun j hj => by rcases Nat.lt_or_ge j k with h_ | h_; exact hall j h_; rw [show j = k by omega]; exact hbk, hF, hO⟩
      · refine (W_false ((evOp hF (by kernel_rfl)).trans (congrArg Value.bool hc4)) ?_)
        have hc4_ := of_decide_eq_false hc4
        refine (W_exit ?_)
        refine W_seq (region_q {} TBok hF (F' := [(6, iv (lieS s rs t k)), (7, .bool true), (8, iv 0)]) (rs := []) [6, 7, 8] .nil (by kernel_rfl) fun a w hF hE => ?_)
        replace hO := hO.ext hE; clear hE
        refine W_ret ?_
        show bodyPostM (FW none) 0 _ _ _ Exit.ret a w
        have hkk : k = t.length := by omega
        have hres : trackR s rs t = (lieS s rs t k, true, 0) := by unfold trackR; rw [if_neg (by omega), if_neg hne3, if_pos (isTrB_all (fun j hj => hall j (by omega))), hkk]
        exact leave_r TBok hF (.nil _) (vs := [iv (lieS s rs t k), .bool true, iv 0]) (rs := []) .nil (by kernel_rfl) ⟨by rw [hres]; rfl, hO.kp⟩

set_option maxHeartbeats 4000000 in
set_option maxRecDepth 100000 in
theorem Plus_calls (xs : List Int) (p : Option Addr) (n c : Nat) (x : Int) (w0 : World) (hx : Rd encI 1 w0.heap.size w0 p n xs) (hn : n ≤ 1000000) :
    Calls Try.prog 61 #[.slice p n c, iv x] w0 (fun e w' => ∃ q c2, e = .returned (.slice q (n + 1) c2) ∧ Own w0 none_ [rowR 3 1 (.slice q (n + 1) c2) (n + 1) ((xs ++ [x]).flatMap encI)] w') := by
  have hl1 := hx.len; have hs1 := hx.size
  refine calls_of_W Try.func61 rfl (by kernel_rfl) (args := [.slice p n c, iv x]) fun a hF => ?_
  replace hF : Fr 13 [] [(0, .slice p n c), (1, iv x)] a := hF
  have hO : Own w0 none_ [] w0 := Own.start w0 _
  refine W_seq (region_q {} TBok hF (F' := [(0, .slice p n c), (1, iv x), (4, .slice none 0 0)]) (rs := []) [0, 1, 4] .nil (by kernel_rfl) fun a w hF hE => ?_)
  replace hO := hO.ext hE; clear hE
  refine W_seq (region_seq ?_)
  refine op_bsl (i := 0) (t := 22) (e := 3) (len := 0) (ps := []) (d := 6) (sz := 1) (cs := #[]) (z := iv 0) hF hO (by kernel_rfl) (by kernel_rfl) (by kernel_rfl) (by kernel_rfl) (by kernel_rfl) fun a w b1 hF hO _ => ?_
  refine seq_quiet {} TBok hF (F' := [(1, iv x), (4, .slice none 0 0), (6, .slice (some ⟨b1, 0, none⟩) 0 0), (7, .slice p n c)]) (rs := []) [1] [2, 3] [1, 4, 6, 7] .nil (by kernel_rfl) fun a w hF hE => ?_
  replace hO := hO.ext hE; clear hE
  replace hO := hO.emptyRow 0 rfl 1
  refine op_appX (i := 2) (t := 22) (ty := 22) (e := 3) (d := 8) (c2 := c) (enc := encI) (ys := xs) rowT22 (fun _ => rfl) (fun _ => rfl) hF hO (by kernel_rfl) ((hx.upM hO.kp nom (Nat.le_refl _))) 0 rfl (by omega) fun a w p2 c3 hF hO hx => ?_
  clear hx
  have hn4 : 0 + n = n := Nat.zero_add _
  rw [hn4] at hO hF
  clear hn4
  replace hO : Own w0 none_ [rowR 3 1 (.slice p2 n c3) n (xs.flatMap encI)] w := hO
  refine seq_quiet {} TBok hF (F' := [(1, iv x), (4, .slice none 0 0), (5, .slice p2 n c3)]) (rs := []) [3] [] [1, 4, 5] .nil (by kernel_rfl) fun a w hF hE => ?_
  replace hO := hO.ext hE; clear hE
  refine W_seq (region_seq ?_)
  refine seq_quiet {} TBok hF (F' := [(4, .slice none 0 0), (9, .slice p2 n c3), (10, iv x)]) (rs := []) [0, 1] [2, 3, 4] [4, 9, 10] .nil (by kernel_rfl) fun a w hF hE => ?_
  replace hO := hO.ext hE; clear hE
  refine op_bsl (i := 2) (t := 22) (e := 3) (len := 1) (ps := [(0, iv x)]) (d := 11) (sz := 1) (cs := #[iv x]) (z := iv 0) hF hO (by kernel_rfl) (by kernel_rfl) (by kernel_rfl) (by kernel_rfl) (by kernel_rfl) fun a w b5 hF hO _ => ?_
  refine op_appR (i := 3) (t := 22) (ty := 22) (e := 3) (d := 12) rowT22 hF hO (by kernel_rfl) 0 rfl 1 rfl (by kernel_rfl) (by omega) fun a w p6 c7 hF hO hx => ?_
  clear hx
  refine seq_quiet {} TBok hF (F' := [(4, .slice p6 (n + 1) c7)]) (rs := []) [4] [] [4] .nil (by kernel_rfl) fun a w hF hE => ?_
  replace hO := hO.ext hE; clear hE
  refine W_ret ?_
  show bodyPostM (FW none) 0 _ _ _ Exit.ret a w
  have hO3 := hO.sel [0] (by decide)
  exact leave_r TBok hF (.nil _) (vs := [.slice p6 (n + 1) c7]) (rs := []) .nil (by kernel_rfl) ⟨_, _, rfl, hO3.cast (by rw [List.flatMap_append]; rfl)⟩

end Go.Proofs.Ytgihgcclabodbaa.DK
