/- Walks: the reference's checks. Printed by my gen.py out of shoal/i.py. -/
import Derived.Test.YtgihgcclabodbaaSR
import Derived.Test.YtgihgcclabodbaaSD
namespace Go.Proofs.Ytgihgcclabodbaa.DK
open Go Go.Proofs
set_option linter.unusedVariables false
set_option linter.unusedSimpArgs false

set_option maxHeartbeats 4000000 in
set_option maxRecDepth 100000 in
theorem refCheck_calls (s : Sea) (v : SV) (w0 : World) (hs : SeaR w0.heap.size w0 v s) :
    Calls Try.prog 19 #[.agg (sS6 s v)] w0 (fun e w' => e = .returned (iv (chk s)) ∧ Ext w0 w') := by
  have hl1 := hs.land.len; have hl2 := hs.drift.len; have hs1 := hs.land.size; have hs2 := hs.drift.size; have hr_ := hs.rg; unfold i64 at hr_
  refine calls_of_W Try.func19 rfl (by kernel_rfl) (args := [.agg (sS6 s v)]) fun a hF => ?_
  replace hF : Fr 71 [] [(0, .agg (sS6 s v))] a := hF
  have hO : Own w0 none_ [] w0 := Own.start w0 _
  refine W_seq (region_seq ?_)
  refine op_box (i := 0) (t := 25) (v := .agg (sS6 s v)) (d := 1) hF hO (by kernel_rfl) fun a w b1 hF hO _ => ?_
  refine seq_quiet {} TBok hF (F' := [(1, pv b1), (2, iv 0)]) (rs := []) [1] [] [1, 2] .nil (by kernel_rfl) fun a w hF hE => ?_
  replace hO := hO.ext hE; clear hE
  refine W_seq (region_q { sy := [3, 8, 13, 18] } TBok hF (F' := [(1, pv b1), (2, iv 0), (3, .bool (cond (cond (cond (cond (inB s.wide 1 10) (inB s.high 1 8) false) (inB s.speed 0 2) false) (inB s.hours 1 12) false) ((v.dn : Int) == (s.hours - 1)) false))]) (rs := [.ld ⟨b1, 0, none⟩ (iv s.wide), .call 40 #[iv s.wide, iv 1, iv 10] (.bool (inB s.wide 1 10)), .und (inB s.wide 1 10) (.ld ⟨b1, 1, none⟩ (iv s.high)), .und (inB s.wide 1 10) (.call 40 #[iv s.high, iv 1, iv 8] (.bool (inB s.high 1 8))), .und (cond (inB s.wide 1 10) (inB s.high 1 8) false) (.ld ⟨b1, 5, none⟩ (iv s.speed)), .und (cond (inB s.wide 1 10) (inB s.high 1 8) false) (.call 40 #[iv s.speed, iv 0, iv 2] (.bool (inB s.speed 0 2))), .und (cond (cond (inB s.wide 1 10) (inB s.high 1 8) false) (inB s.speed 0 2) false) (.ld ⟨b1, 3, none⟩ (iv s.hours)), .und (cond (cond (inB s.wide 1 10) (inB s.high 1 8) false) (inB s.speed 0 2) false) (.call 40 #[iv s.hours, iv 1, iv 12] (.bool (inB s.hours 1 12))), .und (cond (cond (cond (inB s.wide 1 10) (inB s.high 1 8) false) (inB s.speed 0 2) false) (inB s.hours 1 12) false) (.ld ⟨b1, 4, none⟩ (.slice v.da v.dn v.dc)), .und (cond (cond (cond (inB s.wide 1 10) (inB s.high 1 8) false) (inB s.speed 0 2) false) (inB s.hours 1 12) false) (.ld ⟨b1, 3, none⟩ (iv s.hours)), .und (cond (cond (cond (inB s.wide 1 10) (inB s.high 1 8) false) (inB s.speed 0 2) false) (inB s.hours 1 12) false) (.rng (s.hours - 1))]) [1, 2, 3] (.cons (ldo hO.st 0 rfl 0 rfl) <| .cons (fun w _ => In_calls _ _ _ w) <| .cons (fun hg => (ldo hO.st 0 rfl 1 rfl)) <| .cons (fun hg => (fun w _ => In_calls _ _ _ w)) <| .cons (fun hg => (ldo hO.st 0 rfl 5 rfl)) <| .cons (fun hg => (fun w _ => In_calls _ _ _ w)) <| .cons (fun hg => (ldo hO.st 0 rfl 3 rfl)) <| .cons (fun hg => (fun w _ => In_calls _ _ _ w)) <| .cons (fun hg => (ldo hO.st 0 rfl 4 rfl)) <| .cons (fun hg => (ldo hO.st 0 rfl 3 rfl)) <| .cons (fun hg => rg (by have h_ := guard4 hg; omega)) <| .nil) (by kernel_rfl) fun a w hF hE => ?_)
  replace hO := hO.ext hE; clear hE
  refine W_seq (region_q { sy := [1] } TBok hF (F' := [(1, pv b1), (2, iv 0), (3, .bool (cond (cond (cond (cond (cond (inB s.wide 1 10) (inB s.high 1 8) false) (inB s.speed 0 2) false) (inB s.hours 1 12) false) ((v.dn : Int) == (s.hours - 1)) false) (risF (s.wide * s.high) (-1) s.land) false))]) (rs := [.und (cond (cond (cond (cond (inB s.wide 1 10) (inB s.high 1 8) false) (inB s.speed 0 2) false) (inB s.hours 1 12) false) ((v.dn : Int) == (s.hours - 1)) false) (.ld ⟨b1, 2, none⟩ (.slice v.la v.ln v.lc)), .und (cond (cond (cond (cond (inB s.wide 1 10) (inB s.high 1 8) false) (inB s.speed 0 2) false) (inB s.hours 1 12) false) ((v.dn : Int) == (s.hours - 1)) false) (.ld ⟨b1, 0, none⟩ (iv s.wide)), .und (cond (cond (cond (cond (inB s.wide 1 10) (inB s.high 1 8) false) (inB s.speed 0 2) false) (inB s.hours 1 12) false) ((v.dn : Int) == (s.hours - 1)) false) (.ld ⟨b1, 1, none⟩ (iv s.high)), .und (cond (cond (cond (cond (inB s.wide 1 10) (inB s.high 1 8) false) (inB s.speed 0 2) false) (inB s.hours 1 12) false) ((v.dn : Int) == (s.hours - 1)) false) (.rng (s.wide * s.high)), .und (cond (cond (cond (cond (inB s.wide 1 10) (inB s.high 1 8) false) (inB s.speed 0 2) false) (inB s.hours 1 12) false) ((v.dn : Int) == (s.hours - 1)) false) (.call 36 #[.slice v.la v.ln v.lc, iv (s.wide * s.high)] (.bool (risF (s.wide * s.high) (-1) s.land)))]) [1, 2, 3] (.cons (fun hg => (ldo hO.st 0 rfl 2 rfl)) <| .cons (fun hg => (ldo hO.st 0 rfl 0 rfl)) <| .cons (fun hg => (ldo hO.st 0 rfl 1 rfl)) <| .cons (fun hg => by have h_ := head_ok (s := s) (show headB s = true by unfold headB; rw [hl2]; exact hg); have h2_ := nC_bd (s := s) (by omega) (by omega) (by omega) (by omega); unfold nC at h2_; exact (rg (by omega))) <| .cons (fun hg => by have h_ := head_ok (s := s) (show headB s = true by unfold headB; rw [hl2]; exact hg); have h2_ := nC_bd (s := s) (by omega) (by omega) (by omega) (by omega); unfold nC at h2_; exact (fun w hE => Rising_calls s.land v.la v.ln v.lc (s.wide * s.high) w (hs.land.upM (hO.st w hE).kp nom (Nat.le_refl _)) (by omega))) <| .nil) (by kernel_rfl) fun a w hF hE => ?_)
  replace hO := hO.ext hE; clear hE
  refine W_seq ?_
  refine W_seq (region_q {} TBok hF (F' := [(1, pv b1), (2, iv 0), (3, .bool (cond (cond (cond (cond (cond (inB s.wide 1 10) (inB s.high 1 8) false) (inB s.speed 0 2) false) (inB s.hours 1 12) false) ((v.dn : Int) == (s.hours - 1)) false) (risF (s.wide * s.high) (-1) s.land) false)), (4, iv 0)]) (rs := []) [1, 2, 3, 4] .nil (by kernel_rfl) fun a w hF hE => ?_)
  replace hO := hO.ext hE; clear hE
  refine (W_block ?_)
  have hh0 : (headB s && risF (nC s) (-1) s.land) = (cond (cond (cond (cond (cond (inB s.wide 1 10) (inB s.high 1 8) false) (inB s.speed 0 2) false) (inB s.hours 1 12) false) ((v.dn : Int) == (s.hours - 1)) false) (risF (s.wide * s.high) (-1) s.land) false) := by unfold headB nC; rw [hl2]; cases (cond (cond (cond (cond (inB s.wide 1 10) (inB s.high 1 8) false) (inB s.speed 0 2) false) (inB s.hours 1 12) false) ((v.dn : Int) == s.hours - 1) false) <;> rfl
  refine (W_loop (fun m a w => ∃ (k : Nat), ∃ (ok : Bool), m = v.dn - k ∧ k ≤ v.dn ∧ (ok && (s.drift.drop k).all stB) = (headB s && risF (nC s) (-1) s.land && s.drift.all stB) ∧ Fr 71 [] [(1, pv b1), (2, iv 0), (3, .bool ok), (4, iv (k : Int))] a ∧ Own w0 none_ [cel b1 (sS6 s v) 25] w) _ ⟨0, _, rfl, Nat.zero_le _, (by rw [← hh0]; rfl), hF, hO⟩ ?_)
  clear hF hO
  rintro _ a w ⟨k, ok, rfl, hk, hok, hF, hO⟩
  refine W_seq ?_
  refine W_seq (region_q { sy := [1] } TBok hF (F' := [(1, pv b1), (2, iv 0), (3, .bool ok), (4, iv (k : Int)), (50, .bool (cond ok (decide ((k : Int) < (v.dn : Int))) false))]) (rs := [.und ok (.ld ⟨b1, 4, none⟩ (.slice v.da v.dn v.dc))]) [1, 2, 3, 4, 50] (.cons (fun hg => (ldo hO.st 0 rfl 4 rfl)) <| .nil) (by kernel_rfl) fun a w hF hE => ?_)
  replace hO := hO.ext hE; clear hE
  rcases Bool.eq_false_or_eq_true (cond ok (decide ((k : Int) < (v.dn : Int))) false) with hc2 | hc2
  · refine (W_true ((evOp hF (by kernel_rfl)).trans (congrArg Value.bool hc2)) ?_)
    have hoc : ok = true ∧ k < v.dn := by have hx_ := (by assumption : (cond ok (decide ((k : Int) < (v.dn : Int))) false) = true); cases ok <;> simp at hx_; exact ⟨rfl, hx_⟩
    obtain ⟨hok1, hkn⟩ := hoc
    refine (W_skip ?_)
    refine W_seq (W_block ?_)
    refine (region_q { sy := [7] } TBok hF (F' := [(1, pv b1), (2, iv 0), (3, .bool (cond (inB ((s.drift.getD k default).e) (-2) 2) (inB ((s.drift.getD k default).n) (-2) 2) false)), (4, iv (k : Int))]) (rs := [.ld ⟨b1, 4, none⟩ (.slice v.da v.dn v.dc), .idx v.da v.dn (k : Int) 2 (adr v.da 2 (k : Int)), .ld (adr v.da 2 (k : Int)) (iv ((s.drift.getD k default).e)), .call 40 #[iv ((s.drift.getD k default).e), iv (-2), iv 2] (.bool (inB ((s.drift.getD k default).e) (-2) 2)), .und (inB ((s.drift.getD k default).e) (-2) 2) (.ld ⟨b1, 4, none⟩ (.slice v.da v.dn v.dc)), .und (inB ((s.drift.getD k default).e) (-2) 2) (.idx v.da v.dn (k : Int) 2 (adr v.da 2 (k : Int))), .und (inB ((s.drift.getD k default).e) (-2) 2) (.ld ((adr v.da 2 (k : Int)).add 1) (iv ((s.drift.getD k default).n))), .und (inB ((s.drift.getD k default).e) (-2) 2) (.call 40 #[iv ((s.drift.getD k default).n), iv (-2), iv 2] (.bool (inB ((s.drift.getD k default).n) (-2) 2)))]) [1, 2, 3, 4] (.cons (ldo hO.st 0 rfl 4 rfl) <| .cons (ix hs.drift (by omega) (by omega)) <| .cons (ldx hO.st nom hs.drift (by omega) (by omega) 0 rfl) <| .cons (fun w _ => In_calls _ _ _ w) <| .cons (fun hg => (ldo hO.st 0 rfl 4 rfl)) <| .cons (fun hg => (ix hs.drift (by omega) (by omega))) <| .cons (fun hg => (ldx hO.st nom hs.drift (by omega) (by omega) 1 rfl)) <| .cons (fun hg => (fun w _ => In_calls _ _ _ w)) <| .nil) (by kernel_rfl) fun a w hF hE => ?_)
    replace hO := hO.ext hE; clear hE
    refine (region_q {} TBok hF (F' := [(1, pv b1), (2, iv 0), (3, .bool (cond (inB ((s.drift.getD k default).e) (-2) 2) (inB ((s.drift.getD k default).n) (-2) 2) false)), (4, iv ((k : Int) + 1))]) (rs := [.rng ((k : Int) + 1)]) [1, 2, 3, 4] (.cons (rg (by omega)) <| .nil) (by kernel_rfl) fun a w hF hE => ?_)
    replace hO := hO.ext hE; clear hE
    rw [drop_getD (by omega), List.all_cons, hok1, Bool.true_and] at hok
    exact ⟨_, by omega, k + 1, _, rfl, by omega, hok, hF, hO⟩
  · refine (W_false ((evOp hF (by kernel_rfl)).trans (congrArg Value.bool hc2)) ?_)
    have hoc : ok = false ∨ v.dn ≤ k := by have hx_ := (by assumption : (cond ok (decide ((k : Int) < (v.dn : Int))) false) = false); cases ok <;> simp at hx_; exact .inl rfl; exact .inr hx_
    refine (W_exit ?_)
    refine W_seq ?_
    refine W_seq (region_q {} TBok hF (F' := [(2, iv 0), (70, .bool (!ok))]) (rs := []) [2, 70] .nil (by kernel_rfl) fun a w hF hE => ?_)
    replace hO := hO.ext hE; clear hE
    rcases Bool.eq_false_or_eq_true (!ok) with hc3 | hc3
    · refine (W_true ((evOp hF (by kernel_rfl)).trans (congrArg Value.bool hc3)) ?_)
      refine W_seq (region_q {} TBok hF (F' := [(2, iv 10)]) (rs := []) [2] .nil (by kernel_rfl) fun a w hF hE => ?_)
      replace hO := hO.ext hE; clear hE
      refine W_ret ?_
      show bodyPostM (FW none) 0 _ _ _ Exit.ret a w
      have hse : seaB s = ok := by
        rcases hoc with h_ | h_
        · rw [h_, Bool.false_and] at hok; rw [seaB, ← hok, h_]
        · rw [List.drop_of_length_le (by omega), List.all_nil, Bool.and_true] at hok; rw [seaB, ← hok]
      have hok3 : ok = false := by simpa using hc3
      exact leave_r TBok hF (.nil _) (vs := [iv 10]) (rs := []) .nil (by kernel_rfl) ⟨by rw [chk, hse, hok3]; rfl, hO.kp⟩
    · refine (W_false ((evOp hF (by kernel_rfl)).trans (congrArg Value.bool hc3)) ?_)
      refine (W_skip ?_)
      refine W_seq (region_q {} TBok hF (F' := [(2, iv 0)]) (rs := []) [2] .nil (by kernel_rfl) fun a w hF hE => ?_)
      replace hO := hO.ext hE; clear hE
      refine W_ret ?_
      show bodyPostM (FW none) 0 _ _ _ Exit.ret a w
      have hse : seaB s = ok := by
        rcases hoc with h_ | h_
        · rw [h_, Bool.false_and] at hok; rw [seaB, ← hok, h_]
        · rw [List.drop_of_length_le (by omega), List.all_nil, Bool.and_true] at hok; rw [seaB, ← hok]
      have hok3 : ok = true := by simpa using hc3
      exact leave_r TBok hF (.nil _) (vs := [iv 0]) (rs := []) .nil (by kernel_rfl) ⟨by rw [chk, hse, hok3]; rfl, hO.kp⟩

set_option maxHeartbeats 4000000 in
set_option maxRecDepth 100000 in
theorem Asked_calls (s : Sea) (v : SV) (rs : List Rp) (p : Option Addr) (n c : Nat) (w0 : World) (hs : SeaR w0.heap.size w0 v s) (hx : Rd encRp 4 w0.heap.size w0 p n rs) :
    Calls Try.prog 53 #[.agg (sS6 s v), .slice p n c] w0 (fun e w' => e = .returned (iv (err s rs)) ∧ Ext w0 w') := by
  have hl1 := hs.land.len; have hl2 := hs.drift.len; have hs1 := hs.land.size; have hs2 := hs.drift.size; have hr_ := hs.rg; unfold i64 at hr_; have hl3 := hx.len; have hs3 := hx.size
  refine calls_of_W Try.func53 rfl (by kernel_rfl) (args := [.agg (sS6 s v), .slice p n c]) fun a hF => ?_
  replace hF : Fr 58 [] [(0, .agg (sS6 s v)), (1, .slice p n c)] a := hF
  have hO : Own w0 none_ [] w0 := Own.start w0 _
  refine W_seq (region_seq ?_)
  refine op_box (i := 0) (t := 25) (v := .agg (sS6 s v)) (d := 2) hF hO (by kernel_rfl) fun a w b1 hF hO _ => ?_
  refine seq_quiet {} TBok hF (F' := [(1, .slice p n c), (2, pv b1), (4, iv 0)]) (rs := []) [1] [] [1, 2, 4] .nil (by kernel_rfl) fun a w hF hE => ?_
  replace hO := hO.ext hE; clear hE
  refine W_seq ?_
  refine W_seq (region_q {} TBok hF (F' := [(1, .slice p n c), (2, pv b1), (4, iv 0), (5, iv (chk s))]) (rs := [.lds ⟨b1, 0, none⟩ (sL6 s v), .call 19 #[.agg (sS6 s v)] (iv (chk s))]) [1, 2, 4, 5] (.cons (ldso hO.st 0 rfl 0 rfl) <| .cons (fun w hE => refCheck_calls s v w (hs.upM (hO.st w hE).kp nom (Nat.le_refl _))) <| .nil) (by kernel_rfl) fun a w hF hE => ?_)
  replace hO := hO.ext hE; clear hE
  refine W_seq (region_q {} TBok hF (F' := [(1, .slice p n c), (2, pv b1), (4, iv 0), (5, iv (chk s)), (11, .bool ((chk s) != 0))]) (rs := []) [1, 2, 4, 5, 11] .nil (by kernel_rfl) fun a w hF hE => ?_)
  replace hO := hO.ext hE; clear hE
  rcases Bool.eq_false_or_eq_true ((chk s) != 0) with hc2 | hc2
  · refine (W_true ((evOp hF (by kernel_rfl)).trans (congrArg Value.bool hc2)) ?_)
    have hc0 := chk_no (by assumption : ((chk s) != 0) = true); have her := err_no (rs := rs) hc0
    refine W_seq (region_q {} TBok hF (F' := [(1, .slice p n c), (2, pv b1), (4, iv (chk s))]) (rs := []) [1, 2, 4] .nil (by kernel_rfl) fun a w hF hE => ?_)
    replace hO := hO.ext hE; clear hE
    refine W_ret ?_
    show bodyPostM (FW none) 0 _ _ _ Exit.ret a w
    exact leave_r TBok hF (.nil _) (vs := [iv (chk s)]) (rs := []) .nil (by kernel_rfl) ⟨by rw [her, hc0]; rfl, hO.kp⟩
  · refine (W_false ((evOp hF (by kernel_rfl)).trans (congrArg Value.bool hc2)) ?_)
    have hv := chk_ok (by assumption : ((chk s) != 0) = false); have hv1 := sea_ok hv
    refine (W_skip ?_)
    refine W_seq (region_q {} TBok hF (F' := [(1, .slice p n c), (2, pv b1), (4, iv 0), (6, .bool (decide ((n : Int) ≤ 24)))]) (rs := []) [1, 2, 4, 6] .nil (by kernel_rfl) fun a w hF hE => ?_)
    replace hO := hO.ext hE; clear hE
    refine W_seq ?_
    refine W_seq (region_q {} TBok hF (F' := [(1, .slice p n c), (2, pv b1), (4, iv 0), (6, .bool (decide ((n : Int) ≤ 24))), (7, iv 0)]) (rs := []) [1, 2, 4, 6, 7] .nil (by kernel_rfl) fun a w hF hE => ?_)
    replace hO := hO.ext hE; clear hE
    refine (W_block ?_)
    refine (W_loop (fun m a w => ∃ (k : Nat), ∃ (ok : Bool), m = n - k ∧ k ≤ n ∧ (ok && (rs.drop k).all (rpB s)) = rpsB s rs ∧ Fr 58 [] [(1, .slice p n c), (2, pv b1), (4, iv 0), (6, .bool ok), (7, iv (k : Int))] a ∧ Own w0 none_ [cel b1 (sS6 s v) 25] w) _ ⟨0, _, rfl, Nat.zero_le _, (by rw [rpsB, hl3]; rfl), hF, hO⟩ ?_)
    clear hF hO
    rintro _ a w ⟨k, ok, rfl, hk, hok, hF, hO⟩
    refine W_seq ?_
    refine W_seq (region_q { sy := [1] } TBok hF (F' := [(1, .slice p n c), (2, pv b1), (4, iv 0), (6, .bool ok), (7, iv (k : Int)), (22, .bool (cond ok (decide ((k : Int) < (n : Int))) false))]) (rs := []) [1, 2, 4, 6, 7, 22] .nil (by kernel_rfl) fun a w hF hE => ?_)
    replace hO := hO.ext hE; clear hE
    rcases Bool.eq_false_or_eq_true (cond ok (decide ((k : Int) < (n : Int))) false) with hc3 | hc3
    · refine (W_true ((evOp hF (by kernel_rfl)).trans (congrArg Value.bool hc3)) ?_)
      have hoc : ok = true ∧ k < n := by have hx_ := (by assumption : (cond ok (decide ((k : Int) < (n : Int))) false) = true); cases ok <;> simp at hx_; exact ⟨rfl, hx_⟩
      obtain ⟨hok1, hkn⟩ := hoc
      refine (W_skip ?_)
      refine W_seq (W_block ?_)
      refine (region_d { sy := [9, 23] } mixed TBok hF (F' := [(1, .slice p n c), (2, pv b1), (4, iv 0), (6, .bool (cond (cond (inB ((rs.getD k default).hr) 0 (s.hours - 1)) (inB ((rs.getD k default).cell) 0 ((s.wide * s.high) - 1)) false) (inB ((rs.getD k default).far) 0 9) false)), (7, iv (k : Int))]) (rs := [.idx p n (k : Int) 4 (adr p 4 (k : Int)), .ld (adr p 4 (k : Int)) (iv ((rs.getD k default).hr)), .ld ⟨b1, 3, none⟩ (iv s.hours), .rng (s.hours - 1), .call 40 #[iv ((rs.getD k default).hr), iv 0, iv (s.hours - 1)] (.bool (inB ((rs.getD k default).hr) 0 (s.hours - 1))), .und (inB ((rs.getD k default).hr) 0 (s.hours - 1)) (.idx p n (k : Int) 4 (adr p 4 (k : Int))), .und (inB ((rs.getD k default).hr) 0 (s.hours - 1)) (.ld ((adr p 4 (k : Int)).add 1) (iv ((rs.getD k default).cell))), .und (inB ((rs.getD k default).hr) 0 (s.hours - 1)) (.ld ⟨b1, 0, none⟩ (iv s.wide)), .und (inB ((rs.getD k default).hr) 0 (s.hours - 1)) (.ld ⟨b1, 1, none⟩ (iv s.high)), .und (inB ((rs.getD k default).hr) 0 (s.hours - 1)) (.rng (s.wide * s.high)), .und (inB ((rs.getD k default).hr) 0 (s.hours - 1)) (.rng ((s.wide * s.high) - 1)), .und (inB ((rs.getD k default).hr) 0 (s.hours - 1)) (.call 40 #[iv ((rs.getD k default).cell), iv 0, iv ((s.wide * s.high) - 1)] (.bool (inB ((rs.getD k default).cell) 0 ((s.wide * s.high) - 1)))), .und (cond (inB ((rs.getD k default).hr) 0 (s.hours - 1)) (inB ((rs.getD k default).cell) 0 ((s.wide * s.high) - 1)) false) (.idx p n (k : Int) 4 (adr p 4 (k : Int))), .und (cond (inB ((rs.getD k default).hr) 0 (s.hours - 1)) (inB ((rs.getD k default).cell) 0 ((s.wide * s.high) - 1)) false) (.ld ((adr p 4 (k : Int)).add 2) (iv ((rs.getD k default).far))), .und (cond (inB ((rs.getD k default).hr) 0 (s.hours - 1)) (inB ((rs.getD k default).cell) 0 ((s.wide * s.high) - 1)) false) (.call 40 #[iv ((rs.getD k default).far), iv 0, iv 9] (.bool (inB ((rs.getD k default).far) 0 9)))]) [1, 2, 4, 6, 7] (.cons (ix hx (by omega) (by omega)) <| .cons (ldx hO.st nom hx (by omega) (by omega) 0 rfl) <| .cons (ldo hO.st 0 rfl 3 rfl) <| .cons (rg (by omega)) <| .cons (fun w _ => In_calls _ _ _ w) <| .cons (fun hg => (ix hx (by omega) (by omega))) <| .cons (fun hg => (ldx hO.st nom hx (by omega) (by omega) 1 rfl)) <| .cons (fun hg => (ldo hO.st 0 rfl 0 rfl)) <| .cons (fun hg => (ldo hO.st 0 rfl 1 rfl)) <| .cons (fun hg => rg (by unfold nC at hv1; omega)) <| .cons (fun hg => rg (by unfold nC at hv1; omega)) <| .cons (fun hg => (fun w _ => In_calls _ _ _ w)) <| .cons (fun hg => (ix hx (by omega) (by omega))) <| .cons (fun hg => (ldx hO.st nom hx (by omega) (by omega) 2 rfl)) <| .cons (fun hg => (fun w _ => In_calls _ _ _ w)) <| .nil) (by kernel_rfl) (by kernel_rfl) fun a w hF hE => ?_)
      replace hO := hO.ext hE; clear hE
      refine (region_q {} TBok hF (F' := [(1, .slice p n c), (2, pv b1), (4, iv 0), (6, .bool (cond (cond (inB ((rs.getD k default).hr) 0 (s.hours - 1)) (inB ((rs.getD k default).cell) 0 ((s.wide * s.high) - 1)) false) (inB ((rs.getD k default).far) 0 9) false)), (7, iv ((k : Int) + 1))]) (rs := [.rng ((k : Int) + 1)]) [1, 2, 4, 6, 7] (.cons (rg (by omega)) <| .nil) (by kernel_rfl) fun a w hF hE => ?_)
      replace hO := hO.ext hE; clear hE
      rw [drop_getD (by omega), List.all_cons, hok1, Bool.true_and] at hok
      exact ⟨_, by omega, k + 1, _, rfl, by omega, hok, hF, hO⟩
    · refine (W_false ((evOp hF (by kernel_rfl)).trans (congrArg Value.bool hc3)) ?_)
      have hoc : ok = false ∨ n ≤ k := by have hx_ := (by assumption : (cond ok (decide ((k : Int) < (n : Int))) false) = false); cases ok <;> simp at hx_; exact .inl rfl; exact .inr hx_
      refine (W_exit ?_)
      refine W_seq ?_
      refine W_seq (region_q {} TBok hF (F' := [(4, iv 0), (57, .bool (!ok))]) (rs := []) [4, 57] .nil (by kernel_rfl) fun a w hF hE => ?_)
      replace hO := hO.ext hE; clear hE
      rcases Bool.eq_false_or_eq_true (!ok) with hc4 | hc4
      · refine (W_true ((evOp hF (by kernel_rfl)).trans (congrArg Value.bool hc4)) ?_)
        refine W_seq (region_q {} TBok hF (F' := [(4, iv 11)]) (rs := []) [4] .nil (by kernel_rfl) fun a w hF hE => ?_)
        replace hO := hO.ext hE; clear hE
        refine W_ret ?_
        show bodyPostM (FW none) 0 _ _ _ Exit.ret a w
        have hse : rpsB s rs = ok := by
          rcases hoc with h_ | h_
          · rw [h_, Bool.false_and] at hok; rw [← hok, h_]
          · rw [List.drop_of_length_le (by omega), List.all_nil, Bool.and_true] at hok; rw [← hok]
        have hok3 : ok = false := by simpa using hc4
        have her : err s rs = 11 := err_rep hv (by rw [hse, hok3])
        exact leave_r TBok hF (.nil _) (vs := [iv 11]) (rs := []) .nil (by kernel_rfl) ⟨by rw [her]; rfl, hO.kp⟩
      · refine (W_false ((evOp hF (by kernel_rfl)).trans (congrArg Value.bool hc4)) ?_)
        refine (W_skip ?_)
        refine W_seq (region_q {} TBok hF (F' := [(4, iv 0)]) (rs := []) [4] .nil (by kernel_rfl) fun a w hF hE => ?_)
        replace hO := hO.ext hE; clear hE
        refine W_ret ?_
        show bodyPostM (FW none) 0 _ _ _ Exit.ret a w
        have hse : rpsB s rs = ok := by
          rcases hoc with h_ | h_
          · rw [h_, Bool.false_and] at hok; rw [← hok, h_]
          · rw [List.drop_of_length_le (by omega), List.all_nil, Bool.and_true] at hok; rw [← hok]
        have hok3 : ok = true := by simpa using hc4
        have her : err s rs = 0 := err_ok hv (by rw [hse, hok3])
        exact leave_r TBok hF (.nil _) (vs := [iv 0]) (rs := []) .nil (by kernel_rfl) ⟨by rw [her]; rfl, hO.kp⟩

end Go.Proofs.Ytgihgcclabodbaa.DK
