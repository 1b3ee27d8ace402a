/- Walks of the laws' own functions; the law GutFresh. Printed by my gen.py out of gut/w.py. -/
import Derived.Test.YtioimdegbdkppaaHA
import Derived.Test.YtioimdegbdkppaaH11
namespace Go.Proofs.Ytioimdegbdkppaa.DK
open Go Go.Proofs
set_option linter.unusedVariables false

set_option maxHeartbeats 4000000 in
set_option maxRecDepth 100000 in
theorem Mod_calls (n b_ : Int) (w0 : World) (hb0 : 0 < b_) (hb1 : b_ ≤ 9223372036854775807) :
    Calls Try.prog 40 #[.int .i64 n, .int .i64 b_] w0 (fun e w' => e = .returned (.int .i64 (n % b_)) ∧ Ext w0 w') := by
  refine calls_of_W Try.func40 rfl (by kernel_rfl) (args := [.int .i64 n, .int .i64 b_]) fun a hF => ?_
  replace hF : Fr 15 [] [(0, .int .i64 n), (1, .int .i64 b_)] a := hF
  have hO : Own w0 none_ [] w0 := Own.start w0 _
  refine W_seq (region_q {} TBok hF (F' := [(0, .int .i64 n), (1, .int .i64 b_), (4, .int .i64 0)]) (rs := []) [0, 1, 4] .nil (by kernel_rfl) fun a w hF hE => ?_)
  replace hO := hO.ext hE; clear hE
  refine W_seq (region_q { md := [(2, 3)] } TBok hF (F' := [(1, .int .i64 b_), (4, .int .i64 0), (5, .int .i64 (Int.tmod n b_))]) (rs := [.raw (do eqGuard .rem 3 (.tmp 6) (.tmp 7) (.int .i64 n) (.int .i64 b_); Go.binOp .rem 3 (.int .i64 n) (.int .i64 b_)) (.int .i64 (Int.tmod n b_))]) [1, 4, 5] (.cons (raw_tmod hb0) <| .nil) (by kernel_rfl) fun a w hF hE => ?_)
  replace hO := hO.ext hE; clear hE
  refine W_seq ?_
  refine W_seq (region_q {} TBok hF (F' := [(1, .int .i64 b_), (4, .int .i64 0), (5, .int .i64 (Int.tmod n b_)), (10, .bool (decide ((Int.tmod n b_) < 0)))]) (rs := []) [1, 4, 5, 10] .nil (by kernel_rfl) fun a w hF hE => ?_)
  replace hO := hO.ext hE; clear hE
  rcases Bool.eq_false_or_eq_true (decide ((Int.tmod n b_) < 0)) with hc1 | hc1
  · refine (W_true ((evOp hF (by kernel_rfl)).trans (congrArg Value.bool hc1)) ?_)
    have htb := tmod_bd (n := n) hb0
    have hng := of_decide_eq_true (by assumption : (decide ((Int.tmod n b_) < 0)) = true)
    refine (region_q {} TBok hF (F' := [(4, .int .i64 0), (5, .int .i64 ((Int.tmod n b_) + b_))]) (rs := [.rng ((Int.tmod n b_) + b_)]) [4, 5] (.cons (rg (by omega)) <| .nil) (by kernel_rfl) fun a w hF hE => ?_)
    replace hO := hO.ext hE; clear hE
    refine W_seq (region_q {} TBok hF (F' := [(4, .int .i64 ((Int.tmod n b_) + b_))]) (rs := []) [4] .nil (by kernel_rfl) fun a w hF hE => ?_)
    replace hO := hO.ext hE; clear hE
    refine W_ret ?_
    show bodyPostM (FW none) 0 _ _ _ Exit.ret a w
    exact leave_r TBok hF (.nil _) (vs := [.int .i64 ((Int.tmod n b_) + b_)]) (rs := []) .nil (by kernel_rfl) ⟨by rw [tmod_neg hb0 (of_decide_eq_true hc1)]; rfl, hO.kp⟩
  · refine (W_false ((evOp hF (by kernel_rfl)).trans (congrArg Value.bool hc1)) ?_)
    have htb := tmod_bd (n := n) hb0
    refine (W_skip ?_)
    refine W_seq (region_q {} TBok hF (F' := [(4, .int .i64 (Int.tmod n b_))]) (rs := []) [4] .nil (by kernel_rfl) fun a w hF hE => ?_)
    replace hO := hO.ext hE; clear hE
    refine W_ret ?_
    show bodyPostM (FW none) 0 _ _ _ Exit.ret a w
    exact leave_r TBok hF (.nil _) (vs := [.int .i64 (Int.tmod n b_)]) (rs := []) .nil (by kernel_rfl) ⟨by rw [tmod_nn hb0 (of_decide_eq_false hc1)]; rfl, hO.kp⟩

set_option maxHeartbeats 4000000 in
set_option maxRecDepth 100000 in
theorem Pick_calls (xs : List Int) (p : Option Addr) (n c : Nat) (h : Int) (w0 : World) (hx : Rd encI 1 w0.heap.size w0 p n xs) :
    Calls Try.prog 68 #[.slice p n c, .int .i64 h] w0 (fun e w' => e = .returned (.int .i64 (pickI xs h)) ∧ Ext w0 w') := by
  have hl1 := hx.len; have hs1 := hx.size
  refine calls_of_W Try.func68 rfl (by kernel_rfl) (args := [.slice p n c, .int .i64 h]) fun a hF => ?_
  replace hF : Fr 15 [] [(0, .slice p n c), (1, .int .i64 h)] a := hF
  have hO : Own w0 none_ [] w0 := Own.start w0 _
  refine W_seq (region_q {} TBok hF (F' := [(0, .slice p n c), (1, .int .i64 h), (4, .int .i64 0)]) (rs := []) [0, 1, 4] .nil (by kernel_rfl) fun a w hF hE => ?_)
  replace hO := hO.ext hE; clear hE
  refine W_seq ?_
  refine W_seq (region_q {} TBok hF (F' := [(0, .slice p n c), (1, .int .i64 h), (4, .int .i64 0), (7, .bool ((n : Int) == 0))]) (rs := []) [0, 1, 4, 7] .nil (by kernel_rfl) fun a w hF hE => ?_)
  replace hO := hO.ext hE; clear hE
  rcases Bool.eq_false_or_eq_true ((n : Int) == 0) with hc1 | hc1
  · refine (W_true ((evOp hF (by kernel_rfl)).trans (congrArg Value.bool hc1)) ?_)
    have hn0 := (by assumption : ((n : Int) == 0) = true)
    refine W_seq (region_q {} TBok hF (F' := [(0, .slice p n c), (1, .int .i64 h), (4, .int .i64 0)]) (rs := []) [0, 1, 4] .nil (by kernel_rfl) fun a w hF hE => ?_)
    replace hO := hO.ext hE; clear hE
    refine W_ret ?_
    show bodyPostM (FW none) 0 _ _ _ Exit.ret a w
    exact leave_r TBok hF (.nil _) (vs := [.int .i64 0]) (rs := []) .nil (by kernel_rfl) ⟨by rw [pickI, hl1, hn0]; rfl, hO.kp⟩
  · refine (W_false ((evOp hF (by kernel_rfl)).trans (congrArg Value.bool hc1)) ?_)
    have hn0 := (by assumption : ((n : Int) == 0) = false)
    have hn1 : (n : Int) ≠ 0 := by simpa using hn0
    have he1 := Int.emod_nonneg h hn1; have he2 := Int.emod_lt_of_pos h (show (0 : Int) < n by omega)
    refine (W_skip ?_)
    refine W_seq (region_q {} TBok hF (F' := [(4, .int .i64 (xs.getD (h % (n : Int)).toNat default))]) (rs := [.call 40 #[.int .i64 h, .int .i64 (n : Int)] (.int .i64 (h % (n : Int))), .idx p n (h % (n : Int)) 1 (adr p 1 (h % (n : Int))), .ld (adr p 1 (h % (n : Int))) (.int .i64 (xs.getD (h % (n : Int)).toNat default))]) [4] (.cons (fun w hE => Mod_calls h (n : Int) w (by omega) (by omega)) <| .cons (ix hx (by omega) (by omega)) <| .cons (ldx hO.st nom hx (by omega) (by omega) 0 rfl) <| .nil) (by kernel_rfl) fun a w hF hE => ?_)
    replace hO := hO.ext hE; clear hE
    refine W_ret ?_
    show bodyPostM (FW none) 0 _ _ _ Exit.ret a w
    exact leave_r TBok hF (.nil _) (vs := [.int .i64 (xs.getD (h % (n : Int)).toNat default)]) (rs := []) .nil (by kernel_rfl) ⟨by rw [pickI, hl1, hn0]; rfl, hO.kp⟩

set_option maxHeartbeats 4000000 in
set_option maxRecDepth 100000 in
theorem Chosen_calls (lo hi n : Int) (w0 : World) (h1 : -1000000 ≤ lo) (h2 : hi ≤ 1000000) :
    Calls Try.prog 45 #[.int .i64 lo, .int .i64 hi, .int .i64 n] w0 (fun e w' => e = .returned (.int .i64 (chosenI lo hi n)) ∧ Ext w0 w') := by
  refine calls_of_W Try.func45 rfl (by kernel_rfl) (args := [.int .i64 lo, .int .i64 hi, .int .i64 n]) fun a hF => ?_
  replace hF : Fr 28 [] [(0, .int .i64 lo), (1, .int .i64 hi), (2, .int .i64 n)] a := hF
  have hO : Own w0 none_ [] w0 := Own.start w0 _
  refine W_seq (region_q {} TBok hF (F' := [(0, .int .i64 lo), (1, .int .i64 hi), (2, .int .i64 n), (6, .int .i64 0)]) (rs := []) [0, 1, 2, 6] .nil (by kernel_rfl) fun a w hF hE => ?_)
  replace hO := hO.ext hE; clear hE
  refine W_seq ?_
  refine W_seq (region_q {} TBok hF (F' := [(0, .int .i64 lo), (1, .int .i64 hi), (2, .int .i64 n), (6, .int .i64 0), (10, .bool (decide (hi ≤ lo)))]) (rs := []) [0, 1, 2, 6, 10] .nil (by kernel_rfl) fun a w hF hE => ?_)
  replace hO := hO.ext hE; clear hE
  rcases Bool.eq_false_or_eq_true (decide (hi ≤ lo)) with hc1 | hc1
  · refine (W_true ((evOp hF (by kernel_rfl)).trans (congrArg Value.bool hc1)) ?_)
    have hch := (by assumption : (decide (hi ≤ lo)) = true)
    refine W_seq (region_q {} TBok hF (F' := [(0, .int .i64 lo), (1, .int .i64 hi), (2, .int .i64 n), (6, .int .i64 lo)]) (rs := []) [0, 1, 2, 6] .nil (by kernel_rfl) fun a w hF hE => ?_)
    replace hO := hO.ext hE; clear hE
    refine W_ret ?_
    show bodyPostM (FW none) 0 _ _ _ Exit.ret a w
    exact leave_r TBok hF (.nil _) (vs := [.int .i64 lo]) (rs := []) .nil (by kernel_rfl) ⟨by rw [chosenI, hch]; rfl, hO.kp⟩
  · refine (W_false ((evOp hF (by kernel_rfl)).trans (congrArg Value.bool hc1)) ?_)
    have hch := (by assumption : (decide (hi ≤ lo)) = false)
    have hlh := of_decide_eq_false hch
    have he1 := Int.emod_nonneg n (show (hi - lo) + 1 ≠ 0 by omega); have he2 := Int.emod_lt_of_pos n (show (0 : Int) < (hi - lo) + 1 by omega)
    refine (W_skip ?_)
    refine W_seq (region_q {} TBok hF (F' := [(0, .int .i64 lo), (1, .int .i64 hi), (2, .int .i64 n), (6, .int .i64 0), (7, .int .i64 ((hi - lo) + 1))]) (rs := [.rng (hi - lo), .rng ((hi - lo) + 1)]) [0, 1, 2, 6, 7] (.cons (rg (by omega)) <| .cons (rg (by omega)) <| .nil) (by kernel_rfl) fun a w hF hE => ?_)
    replace hO := hO.ext hE; clear hE
    refine W_seq ?_
    refine W_seq (region_q { md := [(1, 1)] } TBok hF (F' := [(0, .int .i64 lo), (1, .int .i64 hi), (2, .int .i64 n), (6, .int .i64 0), (7, .int .i64 ((hi - lo) + 1)), (17, .bool false)]) (rs := [.dec (decide (((hi - lo) + 1) < 1)) false]) [0, 1, 2, 6, 7, 17] (.cons (decide_eq_false (by omega)) <| .nil) (by kernel_rfl) fun a w hF hE => ?_)
    replace hO := hO.ext hE; clear hE
    refine (W_false (evOp hF (by kernel_rfl)) ?_)
    refine (W_skip ?_)
    refine W_seq (region_q {} TBok hF (F' := [(6, .int .i64 (lo + (n % ((hi - lo) + 1))))]) (rs := [.call 40 #[.int .i64 n, .int .i64 ((hi - lo) + 1)] (.int .i64 (n % ((hi - lo) + 1))), .rng (lo + (n % ((hi - lo) + 1)))]) [6] (.cons (fun w hE => Mod_calls n ((hi - lo) + 1) w (by omega) (by omega)) <| .cons (rg (by omega)) <| .nil) (by kernel_rfl) fun a w hF hE => ?_)
    replace hO := hO.ext hE; clear hE
    refine W_ret ?_
    show bodyPostM (FW none) 0 _ _ _ Exit.ret a w
    exact leave_r TBok hF (.nil _) (vs := [.int .i64 (lo + (n % ((hi - lo) + 1)))]) (rs := []) .nil (by kernel_rfl) ⟨by rw [chosenI, hch]; rfl, hO.kp⟩

set_option maxHeartbeats 4000000 in
set_option maxRecDepth 100000 in
theorem sound_calls (d : Day) (v : DV) (w0 : World) (hd : DayR w0.heap.size w0 v d) (hc0 : chk d = 0) :
    Calls Try.prog 34 #[.agg #[.int .i64 d.hours, .slice v.ha v.hn v.hc, .slice v.la v.ln v.lc, .slice v.wa v.wn v.wc]] w0 (fun e w' => e = .returned (.bool true) ∧ Ext w0 w') := by
  have hl1 := hd.heat.len; have hl2 := hd.lots.len; have hl3 := hd.wks.len; have hs1 := hd.heat.size; have hs2 := hd.lots.size; have hs3 := hd.wks.size; have hvB := chk_okB (d := d) (by simp [hc0]); have hv := dayB_V hvB; have hv1 := day_ok hv; have hw6 := dayB_wks hvB
  refine calls_of_W Try.func34 rfl (by kernel_rfl) (args := [.agg #[.int .i64 d.hours, .slice v.ha v.hn v.hc, .slice v.la v.ln v.lc, .slice v.wa v.wn v.wc]]) fun a hF => ?_
  replace hF : Fr 99 [] [(0, .agg #[.int .i64 d.hours, .slice v.ha v.hn v.hc, .slice v.la v.ln v.lc, .slice v.wa v.wn v.wc])] a := hF
  have hO : Own w0 none_ [] w0 := Own.start w0 _
  refine W_seq (region_seq ?_)
  refine op_box (i := 0) (t := 26) (v := .agg #[.int .i64 d.hours, .slice v.ha v.hn v.hc, .slice v.la v.ln v.lc, .slice v.wa v.wn v.wc]) (d := 1) hF hO (by kernel_rfl) fun a w b1 hF hO _ => ?_
  replace hO : Own w0 none_ [cel b1 #[.int .i64 d.hours, .slice v.ha v.hn v.hc, .slice v.la v.ln v.lc, .slice v.wa v.wn v.wc] 26] w := hO
  refine seq_quiet {} TBok hF (F' := [(1, .pointer (some ⟨b1, 0, none⟩)), (2, .bool false)]) (rs := []) [1] [] [1, 2] .nil (by kernel_rfl) fun a w hF hE => ?_
  replace hO := hO.ext hE; clear hE
  refine W_seq (region_q { md := [(2, 1), (14, 1), (20, 1), (26, 1)] } TBok hF (F' := [(1, .pointer (some ⟨b1, 0, none⟩)), (2, .bool false), (3, .bool true)]) (rs := [.lds ⟨b1, 0, none⟩ [.int .i64 d.hours, .slice v.ha v.hn v.hc, .slice v.la v.ln v.lc, .slice v.wa v.wn v.wc], .call 18 #[.agg #[.int .i64 d.hours, .slice v.ha v.hn v.hc, .slice v.la v.ln v.lc, .slice v.wa v.wn v.wc]] (.int .i64 (chk d)), .dec ((chk d) == 0) true, .ld ⟨b1, 0, none⟩ (.int .i64 d.hours), .call 36 #[.int .i64 d.hours, .int .i64 1, .int .i64 24] (.bool true), .ld ⟨b1, 1, none⟩ (.slice v.ha v.hn v.hc), .ld ⟨b1, 0, none⟩ (.int .i64 d.hours), .dec ((v.hn : Int) == d.hours) true, .ld ⟨b1, 2, none⟩ (.slice v.la v.ln v.lc), .dec (decide ((v.ln : Int) ≤ 8)) true, .ld ⟨b1, 3, none⟩ (.slice v.wa v.wn v.wc), .dec (decide ((v.wn : Int) ≤ 6)) true]) [1, 2, 3] (.cons (ldso hO.st 0 rfl 0 rfl) <| .cons (fun w hE => Check_calls d v w (hd.upM (hO.st w hE).kp nom (Nat.le_refl _))) <| .cons (by rw [hc0]; rfl) <| .cons (ldo hO.st 0 rfl 0 rfl) <| .cons (fun w hE => calls_castB (In_calls _ _ _ w) (inB_iff.2 (by omega))) <| .cons (ldo hO.st 0 rfl 1 rfl) <| .cons (ldo hO.st 0 rfl 0 rfl) <| .cons (beq_iff_eq.2 (by omega)) <| .cons (ldo hO.st 0 rfl 2 rfl) <| .cons (decide_eq_true (by omega)) <| .cons (ldo hO.st 0 rfl 3 rfl) <| .cons (decide_eq_true (by omega)) <| .nil) (by kernel_rfl) fun a w hF hE => ?_)
  replace hO := hO.ext hE; clear hE
  refine W_seq ?_
  refine W_seq (region_q {} TBok hF (F' := [(1, .pointer (some ⟨b1, 0, none⟩)), (2, .bool false), (3, .bool true), (4, .int .i64 0)]) (rs := []) [1, 2, 3, 4] .nil (by kernel_rfl) fun a w hF hE => ?_)
  replace hO := hO.ext hE; clear hE
  refine (W_block ?_)
  refine (W_loop (fun m a w => ∃ (k : Nat), m = v.ln - k ∧ k ≤ v.ln ∧ Fr 99 [] [(1, .pointer (some ⟨b1, 0, none⟩)), (2, .bool false), (3, .bool true), (4, .int .i64 (k : Int))] a ∧ Own w0 none_ [cel b1 #[.int .i64 d.hours, .slice v.ha v.hn v.hc, .slice v.la v.ln v.lc, .slice v.wa v.wn v.wc] 26] w) _ ⟨0, rfl, Nat.zero_le _, hF, hO⟩ ?_)
  clear hF hO
  rintro _ a w ⟨k, rfl, hk, hF, hO⟩
  refine W_seq ?_
  refine W_seq (region_q {} TBok hF (F' := [(1, .pointer (some ⟨b1, 0, none⟩)), (2, .bool false), (3, .bool true), (4, .int .i64 (k : Int)), (41, .bool (decide ((k : Int) < (v.ln : Int))))]) (rs := [.ld ⟨b1, 2, none⟩ (.slice v.la v.ln v.lc)]) [1, 2, 3, 4, 41] (.cons (ldo hO.st 0 rfl 2 rfl) <| .nil) (by kernel_rfl) fun a w hF hE => ?_)
  replace hO := hO.ext hE; clear hE
  rcases Bool.eq_false_or_eq_true (decide ((k : Int) < (v.ln : Int))) with hc2 | hc2
  · refine (W_true ((evOp hF (by kernel_rfl)).trans (congrArg Value.bool hc2)) ?_)
    have hkn := of_decide_eq_true (by assumption : (decide ((k : Int) < (v.ln : Int))) = true)
    have hlk := lot_ok hv (i := k) (by omega)
    refine (W_skip ?_)
    refine W_seq (W_block ?_)
    refine (region_d {} mixed TBok hF (F' := [(1, .pointer (some ⟨b1, 0, none⟩)), (2, .bool false), (3, .bool true), (4, .int .i64 (k : Int))]) (rs := [.ld ⟨b1, 2, none⟩ (.slice v.la v.ln v.lc), .idx v.la v.ln (k : Int) 4 (adr v.la 4 (k : Int)), .ld (adr v.la 4 (k : Int)) (.int .i64 ((d.lots.getD k default).cr)), .call 36 #[.int .i64 ((d.lots.getD k default).cr), .int .i64 1, .int .i64 50] (.bool true), .ld ⟨b1, 2, none⟩ (.slice v.la v.ln v.lc), .idx v.la v.ln (k : Int) 4 (adr v.la 4 (k : Int)), .ld ((adr v.la 4 (k : Int)).add 1) (.int .i64 ((d.lots.getD k default).la)), .ld ⟨b1, 0, none⟩ (.int .i64 d.hours), .rng (d.hours - 1), .call 36 #[.int .i64 ((d.lots.getD k default).la), .int .i64 0, .int .i64 (d.hours - 1)] (.bool true), .ld ⟨b1, 2, none⟩ (.slice v.la v.ln v.lc), .idx v.la v.ln (k : Int) 4 (adr v.la 4 (k : Int)), .ld ((adr v.la 4 (k : Int)).add 3) (.int .i64 ((d.lots.getD k default).fi)), .call 36 #[.int .i64 ((d.lots.getD k default).fi), .int .i64 0, .int .i64 7] (.bool true)]) [1, 2, 3, 4] (.cons (ldo hO.st 0 rfl 2 rfl) <| .cons (ix hd.lots (by omega) (by omega)) <| .cons (ldx hO.st nom hd.lots (by omega) (by omega) 0 rfl) <| .cons (fun w hE => calls_castB (In_calls _ _ _ w) (inB_iff.2 (by omega))) <| .cons (ldo hO.st 0 rfl 2 rfl) <| .cons (ix hd.lots (by omega) (by omega)) <| .cons (ldx hO.st nom hd.lots (by omega) (by omega) 1 rfl) <| .cons (ldo hO.st 0 rfl 0 rfl) <| .cons (rg (by omega)) <| .cons (fun w hE => calls_castB (In_calls _ _ _ w) (inB_iff.2 (by omega))) <| .cons (ldo hO.st 0 rfl 2 rfl) <| .cons (ix hd.lots (by omega) (by omega)) <| .cons (ldx hO.st nom hd.lots (by omega) (by omega) 3 rfl) <| .cons (fun w hE => calls_castB (In_calls _ _ _ w) (inB_iff.2 (by omega))) <| .nil) (by kernel_rfl) (by kernel_rfl) fun a w hF hE => ?_)
    replace hO := hO.ext hE; clear hE
    refine (region_q {} TBok hF (F' := [(1, .pointer (some ⟨b1, 0, none⟩)), (2, .bool false), (3, .bool true), (4, .int .i64 ((k : Int) + 1))]) (rs := [.rng ((k : Int) + 1)]) [1, 2, 3, 4] (.cons (rg (by omega)) <| .nil) (by kernel_rfl) fun a w hF hE => ?_)
    replace hO := hO.ext hE; clear hE
    exact ⟨_, by omega, k + 1, rfl, by omega, hF, hO⟩
  · refine (W_false ((evOp hF (by kernel_rfl)).trans (congrArg Value.bool hc2)) ?_)
    refine (W_exit ?_)
    refine W_seq ?_
    refine W_seq (region_q {} TBok hF (F' := [(1, .pointer (some ⟨b1, 0, none⟩)), (2, .bool false), (3, .bool true), (5, .int .i64 0)]) (rs := []) [1, 2, 3, 5] .nil (by kernel_rfl) fun a w hF hE => ?_)
    replace hO := hO.ext hE; clear hE
    refine (W_block ?_)
    refine (W_loop (fun m a w => ∃ (k : Nat), m = v.wn - k ∧ k ≤ v.wn ∧ Fr 99 [] [(1, .pointer (some ⟨b1, 0, none⟩)), (2, .bool false), (3, .bool true), (5, .int .i64 (k : Int))] a ∧ Own w0 none_ [cel b1 #[.int .i64 d.hours, .slice v.ha v.hn v.hc, .slice v.la v.ln v.lc, .slice v.wa v.wn v.wc] 26] w) _ ⟨0, rfl, Nat.zero_le _, hF, hO⟩ ?_)
    clear hF hO
    rintro _ a w ⟨k, rfl, hk, hF, hO⟩
    refine W_seq ?_
    refine W_seq (region_q {} TBok hF (F' := [(1, .pointer (some ⟨b1, 0, none⟩)), (2, .bool false), (3, .bool true), (5, .int .i64 (k : Int)), (79, .bool (decide ((k : Int) < (v.wn : Int))))]) (rs := [.ld ⟨b1, 3, none⟩ (.slice v.wa v.wn v.wc)]) [1, 2, 3, 5, 79] (.cons (ldo hO.st 0 rfl 3 rfl) <| .nil) (by kernel_rfl) fun a w hF hE => ?_)
    replace hO := hO.ext hE; clear hE
    rcases Bool.eq_false_or_eq_true (decide ((k : Int) < (v.wn : Int))) with hc3 | hc3
    · refine (W_true ((evOp hF (by kernel_rfl)).trans (congrArg Value.bool hc3)) ?_)
      have hkn := of_decide_eq_true (by assumption : (decide ((k : Int) < (v.wn : Int))) = true)
      have hlk := wk_ok hv (i := k) (by omega)
      refine (W_skip ?_)
      refine W_seq (W_block ?_)
      refine (region_q {} TBok hF (F' := [(1, .pointer (some ⟨b1, 0, none⟩)), (2, .bool false), (3, .bool true), (5, .int .i64 (k : Int))]) (rs := [.ld ⟨b1, 3, none⟩ (.slice v.wa v.wn v.wc), .idx v.wa v.wn (k : Int) 4 (adr v.wa 4 (k : Int)), .ld (adr v.wa 4 (k : Int)) (.int .i64 ((d.wks.getD k default).kd)), .call 36 #[.int .i64 ((d.wks.getD k default).kd), .int .i64 0, .int .i64 2] (.bool true), .ld ⟨b1, 3, none⟩ (.slice v.wa v.wn v.wc), .idx v.wa v.wn (k : Int) 4 (adr v.wa 4 (k : Int)), .ld ((adr v.wa 4 (k : Int)).add 3) (.int .i64 ((d.wks.getD k default).rt)), .call 36 #[.int .i64 ((d.wks.getD k default).rt), .int .i64 0, .int .i64 20] (.bool true)]) [1, 2, 3, 5] (.cons (ldo hO.st 0 rfl 3 rfl) <| .cons (ix hd.wks (by omega) (by omega)) <| .cons (ldx hO.st nom hd.wks (by omega) (by omega) 0 rfl) <| .cons (fun w hE => calls_castB (In_calls _ _ _ w) (inB_iff.2 (by omega))) <| .cons (ldo hO.st 0 rfl 3 rfl) <| .cons (ix hd.wks (by omega) (by omega)) <| .cons (ldx hO.st nom hd.wks (by omega) (by omega) 3 rfl) <| .cons (fun w hE => calls_castB (In_calls _ _ _ w) (inB_iff.2 (by omega))) <| .nil) (by kernel_rfl) fun a w hF hE => ?_)
      replace hO := hO.ext hE; clear hE
      refine (region_q {} TBok hF (F' := [(1, .pointer (some ⟨b1, 0, none⟩)), (2, .bool false), (3, .bool true), (5, .int .i64 ((k : Int) + 1))]) (rs := [.rng ((k : Int) + 1)]) [1, 2, 3, 5] (.cons (rg (by omega)) <| .nil) (by kernel_rfl) fun a w hF hE => ?_)
      replace hO := hO.ext hE; clear hE
      exact ⟨_, by omega, k + 1, rfl, by omega, hF, hO⟩
    · refine (W_false ((evOp hF (by kernel_rfl)).trans (congrArg Value.bool hc3)) ?_)
      refine (W_exit ?_)
      refine W_seq (region_q {} TBok hF (F' := [(2, .bool true)]) (rs := []) [2] .nil (by kernel_rfl) fun a w hF hE => ?_)
      replace hO := hO.ext hE; clear hE
      refine W_ret ?_
      show bodyPostM (FW none) 0 _ _ _ Exit.ret a w
      exact leave_r TBok hF (.nil _) (vs := [.bool true]) (rs := []) .nil (by kernel_rfl) ⟨rfl, hO.kp⟩

set_option maxHeartbeats 4000000 in
set_option maxRecDepth 100000 in
theorem crans0_calls (d : Day) (v : DV) (w0 : World) (hd : DayR w0.heap.size w0 v d) (hv : dayV d = true) :
    Calls Try.prog 38 #[.agg #[.int .i64 d.hours, .slice v.ha v.hn v.hc, .slice v.la v.ln v.lc, .slice v.wa v.wn v.wc]] w0 (fun e w' => e = .returned (.int .i64 (cransF d)) ∧ Ext w0 w') := by
  have hl1 := hd.heat.len; have hl2 := hd.lots.len; have hl3 := hd.wks.len; have hs1 := hd.heat.size; have hs2 := hd.lots.size; have hs3 := hd.wks.size; have hv1 := day_ok hv
  refine calls_of_W Try.func38 rfl (by kernel_rfl) (args := [.agg #[.int .i64 d.hours, .slice v.ha v.hn v.hc, .slice v.la v.ln v.lc, .slice v.wa v.wn v.wc]]) fun a hF => ?_
  replace hF : Fr 21 [] [(0, .agg #[.int .i64 d.hours, .slice v.ha v.hn v.hc, .slice v.la v.ln v.lc, .slice v.wa v.wn v.wc])] a := hF
  have hO : Own w0 none_ [] w0 := Own.start w0 _
  refine W_seq (region_seq ?_)
  refine op_box (i := 0) (t := 26) (v := .agg #[.int .i64 d.hours, .slice v.ha v.hn v.hc, .slice v.la v.ln v.lc, .slice v.wa v.wn v.wc]) (d := 1) hF hO (by kernel_rfl) fun a w b1 hF hO _ => ?_
  replace hO : Own w0 none_ [cel b1 #[.int .i64 d.hours, .slice v.ha v.hn v.hc, .slice v.la v.ln v.lc, .slice v.wa v.wn v.wc] 26] w := hO
  refine seq_quiet {} TBok hF (F' := [(1, .pointer (some ⟨b1, 0, none⟩)), (2, .int .i64 0)]) (rs := []) [1] [] [1, 2] .nil (by kernel_rfl) fun a w hF hE => ?_
  replace hO := hO.ext hE; clear hE
  refine W_seq (region_q {} TBok hF (F' := [(1, .pointer (some ⟨b1, 0, none⟩)), (2, .int .i64 0), (3, .int .i64 0)]) (rs := []) [1, 2, 3] .nil (by kernel_rfl) fun a w hF hE => ?_)
  replace hO := hO.ext hE; clear hE
  refine W_seq ?_
  refine W_seq (region_q {} TBok hF (F' := [(1, .pointer (some ⟨b1, 0, none⟩)), (2, .int .i64 0), (3, .int .i64 0), (4, .int .i64 0)]) (rs := []) [1, 2, 3, 4] .nil (by kernel_rfl) fun a w hF hE => ?_)
  replace hO := hO.ext hE; clear hE
  refine (W_block ?_)
  refine (W_loop (fun m a w => ∃ (k : Nat), m = v.ln - k ∧ k ≤ v.ln ∧ Fr 21 [] [(1, .pointer (some ⟨b1, 0, none⟩)), (2, .int .i64 0), (3, .int .i64 (((d.lots.take k).map (·.cr)).sum)), (4, .int .i64 (k : Int))] a ∧ Own w0 none_ [cel b1 #[.int .i64 d.hours, .slice v.ha v.hn v.hc, .slice v.la v.ln v.lc, .slice v.wa v.wn v.wc] 26] w) _ ⟨0, rfl, Nat.zero_le _, hF, hO⟩ ?_)
  clear hF hO
  rintro _ a w ⟨k, rfl, hk, hF, hO⟩
  refine W_seq ?_
  refine W_seq (region_q {} TBok hF (F' := [(1, .pointer (some ⟨b1, 0, none⟩)), (2, .int .i64 0), (3, .int .i64 (((d.lots.take k).map (·.cr)).sum)), (4, .int .i64 (k : Int)), (9, .bool (decide ((k : Int) < (v.ln : Int))))]) (rs := [.ld ⟨b1, 2, none⟩ (.slice v.la v.ln v.lc)]) [1, 2, 3, 4, 9] (.cons (ldo hO.st 0 rfl 2 rfl) <| .nil) (by kernel_rfl) fun a w hF hE => ?_)
  replace hO := hO.ext hE; clear hE
  rcases Bool.eq_false_or_eq_true (decide ((k : Int) < (v.ln : Int))) with hc2 | hc2
  · refine (W_true ((evOp hF (by kernel_rfl)).trans (congrArg Value.bool hc2)) ?_)
    have hc2_ := of_decide_eq_true hc2
    refine (W_skip ?_)
    refine W_seq (W_block ?_)
    refine (region_q {} TBok hF (F' := [(1, .pointer (some ⟨b1, 0, none⟩)), (2, .int .i64 0), (3, .int .i64 (((d.lots.take k).map (·.cr)).sum + (d.lots.getD k default).cr)), (4, .int .i64 (k : Int))]) (rs := [.ld ⟨b1, 2, none⟩ (.slice v.la v.ln v.lc), .idx v.la v.ln (k : Int) 4 (adr v.la 4 (k : Int)), .ld (adr v.la 4 (k : Int)) (.int .i64 ((d.lots.getD k default).cr)), .rng (((d.lots.take k).map (·.cr)).sum + (d.lots.getD k default).cr)]) [1, 2, 3, 4] (.cons (ldo hO.st 0 rfl 2 rfl) <| .cons (ix hd.lots (by omega) (by omega)) <| .cons (ldx hO.st nom hd.lots (by omega) (by omega) 0 rfl) <| .cons (rg (by have h1 := sum_bd (bdd_cr hv (k + 1)) (k + 1); rw [List.take_of_length_le (by rw [List.length_map, List.length_take]; omega), msum_take _ (by omega)] at h1; omega)) <| .nil) (by kernel_rfl) fun a w hF hE => ?_)
    replace hO := hO.ext hE; clear hE
    refine (region_q {} TBok hF (F' := [(1, .pointer (some ⟨b1, 0, none⟩)), (2, .int .i64 0), (3, .int .i64 (((d.lots.take k).map (·.cr)).sum + (d.lots.getD k default).cr)), (4, .int .i64 ((k : Int) + 1))]) (rs := [.rng ((k : Int) + 1)]) [1, 2, 3, 4] (.cons (rg (by omega)) <| .nil) (by kernel_rfl) fun a w hF hE => ?_)
    replace hO := hO.ext hE; clear hE
    exact ⟨_, by omega, k + 1, rfl, by omega, hF.cast (by rw [msum_take _ (by omega)]; rfl), hO⟩
  · refine (W_false ((evOp hF (by kernel_rfl)).trans (congrArg Value.bool hc2)) ?_)
    have hc2_ := of_decide_eq_false hc2
    refine (W_exit ?_)
    refine W_seq (region_q {} TBok hF (F' := [(2, .int .i64 (((d.lots.take k).map (·.cr)).sum))]) (rs := []) [2] .nil (by kernel_rfl) fun a w hF hE => ?_)
    replace hO := hO.ext hE; clear hE
    refine W_ret ?_
    show bodyPostM (FW none) 0 _ _ _ Exit.ret a w
    have hkk : k = d.lots.length := by omega
    exact leave_r TBok hF (.nil _) (vs := [.int .i64 (((d.lots.take k).map (·.cr)).sum)]) (rs := []) .nil (by kernel_rfl) ⟨by rw [hkk, List.take_length]; rfl, hO.kp⟩

set_option maxHeartbeats 4000000 in
set_option maxRecDepth 100000 in
theorem warmed_calls (d : Day) (v : DV) (bits : List Int) (p : Option Addr) (n c : Nat) (w0 : World) (hd : DayR w0.heap.size w0 v d) (hv : dayV d = true) (hx : Rd encI 1 w0.heap.size w0 p n bits) :
    Calls Try.prog 35 #[.agg #[.int .i64 d.hours, .slice v.ha v.hn v.hc, .slice v.la v.ln v.lc, .slice v.wa v.wn v.wc], .slice p n c] w0 (fun e w' => ∃ p c, e = .returned (.slice p v.hn c) ∧ Own w0 none_ [rowR 3 1 (.slice p v.hn c) v.hn ((warmL d bits v.hn).flatMap encI)] w') := by
  have hl1 := hd.heat.len; have hl2 := hd.lots.len; have hl3 := hd.wks.len; have hs1 := hd.heat.size; have hs2 := hd.lots.size; have hs3 := hd.wks.size; have hv1 := day_ok hv; have hx1 := hx.len; have hx2 := hx.size
  refine calls_of_W Try.func35 rfl (by kernel_rfl) (args := [.agg #[.int .i64 d.hours, .slice v.ha v.hn v.hc, .slice v.la v.ln v.lc, .slice v.wa v.wn v.wc], .slice p n c]) fun a hF => ?_
  replace hF : Fr 34 [] [(0, .agg #[.int .i64 d.hours, .slice v.ha v.hn v.hc, .slice v.la v.ln v.lc, .slice v.wa v.wn v.wc]), (1, .slice p n c)] a := hF
  have hO : Own w0 none_ [] w0 := Own.start w0 _
  refine W_seq (region_seq ?_)
  refine op_box (i := 0) (t := 26) (v := .agg #[.int .i64 d.hours, .slice v.ha v.hn v.hc, .slice v.la v.ln v.lc, .slice v.wa v.wn v.wc]) (d := 2) hF hO (by kernel_rfl) fun a w b1 hF hO _ => ?_
  replace hO : Own w0 none_ [cel b1 #[.int .i64 d.hours, .slice v.ha v.hn v.hc, .slice v.la v.ln v.lc, .slice v.wa v.wn v.wc] 26] w := hO
  refine seq_quiet {} TBok hF (F' := [(1, .slice p n c), (2, .pointer (some ⟨b1, 0, none⟩)), (4, .slice none 0 0)]) (rs := []) [1] [] [1, 2, 4] .nil (by kernel_rfl) fun a w hF hE => ?_
  replace hO := hO.ext hE; clear hE
  refine W_seq (region_q {} TBok hF (F' := [(1, .slice p n c), (2, .pointer (some ⟨b1, 0, none⟩)), (4, .slice none 0 0), (5, .slice none 0 0)]) (rs := []) [1, 2, 4, 5] .nil (by kernel_rfl) fun a w hF hE => ?_)
  replace hO := hO.ext hE; clear hE
  refine W_seq ?_
  refine W_seq (region_q {} TBok hF (F' := [(1, .slice p n c), (2, .pointer (some ⟨b1, 0, none⟩)), (4, .slice none 0 0), (5, .slice none 0 0), (6, .int .i64 0)]) (rs := []) [1, 2, 4, 5, 6] .nil (by kernel_rfl) fun a w hF hE => ?_)
  replace hO := hO.ext hE; clear hE
  refine (W_block ?_)
  replace hO := hO.nilRow 3 1
  refine (W_loop (fun m a w => ∃ (k : Nat), ∃ (q : Option Addr), ∃ (c2 : Nat), m = v.hn - k ∧ k ≤ v.hn ∧ Fr 34 [] [(1, .slice p n c), (2, .pointer (some ⟨b1, 0, none⟩)), (4, .slice none 0 0), (5, .slice q k c2), (6, .int .i64 (k : Int))] a ∧ Own w0 none_ [cel b1 #[.int .i64 d.hours, .slice v.ha v.hn v.hc, .slice v.la v.ln v.lc, .slice v.wa v.wn v.wc] 26, rowR 3 1 (.slice q k c2) k ((warmL d bits k).flatMap encI)] w) _ ⟨0, none, 0, rfl, Nat.zero_le _, hF, hO⟩ ?_)
  clear hF hO
  rintro _ a w ⟨k, q, c2, rfl, hk, hF, hO⟩
  refine W_seq ?_
  refine W_seq (region_q {} TBok hF (F' := [(1, .slice p n c), (2, .pointer (some ⟨b1, 0, none⟩)), (4, .slice none 0 0), (5, .slice q k c2), (6, .int .i64 (k : Int)), (11, .bool (decide ((k : Int) < (v.hn : Int))))]) (rs := [.ld ⟨b1, 1, none⟩ (.slice v.ha v.hn v.hc)]) [1, 2, 4, 5, 6, 11] (.cons (ldo hO.st 0 rfl 1 rfl) <| .nil) (by kernel_rfl) fun a w hF hE => ?_)
  replace hO := hO.ext hE; clear hE
  rcases Bool.eq_false_or_eq_true (decide ((k : Int) < (v.hn : Int))) with hc2 | hc2
  · refine (W_true ((evOp hF (by kernel_rfl)).trans (congrArg Value.bool hc2)) ?_)
    have hkn := of_decide_eq_true (by assumption : (decide ((k : Int) < (v.hn : Int))) = true)
    have hsp := sp_ok hv (i := k) (by omega)
    refine (W_skip ?_)
    refine W_seq (W_block ?_)
    refine (draw_start (R := (rowR 3 1 (.slice q k c2) k ((warmL d bits k).flatMap encI)).fp) mixed [] 20 (by kernel_rfl) fun w hS => ?_)
    replace hO := hO.ext hS
    have hH := hO.but 1 rfl; replace hS := Ext.kp (M := (rowR 3 1 (.slice q k c2) k ((warmL d bits k).flatMap encI)).fp) hS
    refine draw_q {} TBok hF hS (F' := [(1, .slice p n c), (2, .pointer (some ⟨b1, 0, none⟩)), (4, .slice none 0 0), (5, .slice q k c2), (6, .int .i64 (k : Int)), (14, .slice q k c2), (30, .int .i64 (chosenI ((d.heat.getD k default).lo) ((d.heat.getD k default).hi) (pickI bits (k : Int))))]) (rs := [.ld ⟨b1, 1, none⟩ (.slice v.ha v.hn v.hc), .idx v.ha v.hn (k : Int) 2 (adr v.ha 2 (k : Int)), .ld (adr v.ha 2 (k : Int)) (.int .i64 ((d.heat.getD k default).lo)), .ld ⟨b1, 1, none⟩ (.slice v.ha v.hn v.hc), .idx v.ha v.hn (k : Int) 2 (adr v.ha 2 (k : Int)), .ld ((adr v.ha 2 (k : Int)).add 1) (.int .i64 ((d.heat.getD k default).hi)), .call 68 #[.slice p n c, .int .i64 (k : Int)] (.int .i64 (pickI bits (k : Int))), .call 45 #[.int .i64 ((d.heat.getD k default).lo), .int .i64 ((d.heat.getD k default).hi), .int .i64 (pickI bits (k : Int))] (.int .i64 (chosenI ((d.heat.getD k default).lo) ((d.heat.getD k default).hi) (pickI bits (k : Int))))]) [0, 1, 2, 3, 4, 5, 6, 7, 8, 9, 10, 11, 12, 13, 14, 15, 16] 20 3 (by kernel_rfl) #[true, true, true, true, true, true, true, true, true, true, true, true, true, true, true, true, true, false, false, false] [1, 2, 4, 5, 6, 14, 30] (.cons (ldo hH 0 rfl 1 rfl) <| .cons (ix hd.heat (by omega) (by omega)) <| .cons (ldx hH nom hd.heat (by omega) (by omega) 0 rfl) <| .cons (ldo hH 0 rfl 1 rfl) <| .cons (ix hd.heat (by omega) (by omega)) <| .cons (ldx hH nom hd.heat (by omega) (by omega) 1 rfl) <| .cons (fun w hE => Pick_calls bits p n c (k : Int) w (hx.upM (hH w hE).kp nom (Nat.le_refl _))) <| .cons (fun w hE => Chosen_calls ((d.heat.getD k default).lo) ((d.heat.getD k default).hi) (pickI bits (k : Int)) w (by omega) (by omega)) <| .nil) (by kernel_rfl) (by kernel_rfl) fun a hF => ?_
    replace hS := Kp.refl (rowR 3 1 (.slice q k c2) k ((warmL d bits k).flatMap encI)).fp w
    refine any_pick (rs := [17]) (by kernel_rfl) (by simp) fun w hE => all1 ?_
    replace hO := hO.ext hE; replace hS := hS.trans (Ext.kp hE)
    refine op_bsl (i := 17) (t := 41) (e := 3) (len := 1) (ps := [(0, .int .i64 (chosenI ((d.heat.getD k default).lo) ((d.heat.getD k default).hi) (pickI bits (k : Int))))]) (d := 31) (sz := 1) (cs := #[.int .i64 (chosenI ((d.heat.getD k default).lo) ((d.heat.getD k default).hi) (pickI bits (k : Int)))]) (z := .int .i64 0) hF hO (by kernel_rfl) (by kernel_rfl) (by kernel_rfl) (by kernel_rfl) (by kernel_rfl) fun a w b3 hF hO hx => ⟨.inr (hS.trans (Ext.kp hx.1)), ?_⟩
    have hf_b3 := Nat.le_trans hS.size hx.2; replace hS := hS.trans (Ext.kp hx.1); clear hx
    replace hO : Own w0 none_ [cel b1 #[.int .i64 d.hours, .slice v.ha v.hn v.hc, .slice v.la v.ln v.lc, .slice v.wa v.wn v.wc] 26, rowR 3 1 (.slice q k c2) k ((warmL d bits k).flatMap encI), cel b3 #[.int .i64 (chosenI ((d.heat.getD k default).lo) ((d.heat.getD k default).hi) (pickI bits (k : Int)))] 3] w := hO
    refine any_pick (rs := [18]) (by kernel_rfl) (by simp) fun w hE => all1 ?_
    replace hO := hO.ext hE; replace hS := hS.trans (Ext.kp hE)
    refine op_appR (i := 18) (t := 41) (ty := 41) (e := 3) (d := 32) rowT41 hF hO (by kernel_rfl) 1 rfl 2 rfl (by kernel_rfl) (by omega) fun a w p4 c5 hF hO hx => ⟨.inr (hS.trans hx), ?_⟩
    replace hS := hS.trans hx
    clear hx
    replace hO : Own w0 none_ [cel b1 #[.int .i64 d.hours, .slice v.ha v.hn v.hc, .slice v.la v.ln v.lc, .slice v.wa v.wn v.wc] 26, rowR 3 1 (.slice p4 (k + 1) c5) (k + 1) (((warmL d bits k).flatMap encI) ++ (#[.int .i64 (chosenI ((d.heat.getD k default).lo) ((d.heat.getD k default).hi) (pickI bits (k : Int)))] : Array Value).toList), cel b3 #[.int .i64 (chosenI ((d.heat.getD k default).lo) ((d.heat.getD k default).hi) (pickI bits (k : Int)))] 3] w := hO
    refine draw_q0 {} TBok hF hS (F' := [(1, .slice p n c), (2, .pointer (some ⟨b1, 0, none⟩)), (4, .slice none 0 0), (5, .slice p4 (k + 1) c5), (6, .int .i64 (k : Int))]) [19] 1 0 (by kernel_rfl) #[true, true, true, true, true, true, true, true, true, true, true, true, true, true, true, true, true, true, true, true] [1, 2, 4, 5, 6] (by kernel_rfl) (by kernel_rfl) fun a hF => ?_
    refine any_done (by kernel_rfl) (fun w hE => ?_) _
    replace hO := hO.ext hE
    replace hF := hF.sel [1, 2, 4, 5, 6]
    replace hF : Fr 34 [] [(1, .slice p n c), (2, .pointer (some ⟨b1, 0, none⟩)), (4, .slice none 0 0), (5, .slice p4 (k + 1) c5), (6, .int .i64 (k : Int))] a := hF
    refine (region_q {} TBok hF (F' := [(1, .slice p n c), (2, .pointer (some ⟨b1, 0, none⟩)), (4, .slice none 0 0), (5, .slice p4 (k + 1) c5), (6, .int .i64 ((k : Int) + 1))]) (rs := [.rng ((k : Int) + 1)]) [1, 2, 4, 5, 6] (.cons (rg (by omega)) <| .nil) (by kernel_rfl) fun a w hF hE => ?_)
    replace hO := hO.ext hE; clear hE
    replace hO := hO.drop1 2
    replace hO : Own w0 none_ [cel b1 #[.int .i64 d.hours, .slice v.ha v.hn v.hc, .slice v.la v.ln v.lc, .slice v.wa v.wn v.wc] 26, rowR 3 1 (.slice p4 (k + 1) c5) (k + 1) (((warmL d bits k).flatMap encI) ++ (#[.int .i64 (chosenI ((d.heat.getD k default).lo) ((d.heat.getD k default).hi) (pickI bits (k : Int)))] : Array Value).toList)] w := hO
    replace hO : Own w0 none_ [cel b1 #[.int .i64 d.hours, .slice v.ha v.hn v.hc, .slice v.la v.ln v.lc, .slice v.wa v.wn v.wc] 26, rowR 3 1 (.slice p4 (k + 1) c5) (k + 1) ((warmL d bits (k + 1)).flatMap encI)] w := hO.cast (by rw [warmL_succ, List.flatMap_append]; rfl)
    exact ⟨_, by omega, k + 1, p4, c5, rfl, by omega, hF, hO⟩
  · refine (W_false ((evOp hF (by kernel_rfl)).trans (congrArg Value.bool hc2)) ?_)
    have hkn := of_decide_eq_false (by assumption : (decide ((k : Int) < (v.hn : Int))) = false)
    refine (W_exit ?_)
    refine W_seq (region_q {} TBok hF (F' := [(4, .slice q k c2)]) (rs := []) [4] .nil (by kernel_rfl) fun a w hF hE => ?_)
    replace hO := hO.ext hE; clear hE
    refine W_ret ?_
    show bodyPostM (FW none) 0 _ _ _ Exit.ret a w
    have hkk : k = v.hn := by omega
    rw [hkk] at hO
    exact leave_r TBok hF (.nil _) (vs := [.slice q k c2]) (rs := []) .nil (by kernel_rfl) ⟨q, c2, by rw [hkk]; rfl, hO.sel [1] (by decide)⟩

set_option maxHeartbeats 4000000 in
set_option maxRecDepth 100000 in
theorem GutFresh_calls (d : Day) (v : DV) (bits : List Int) (p : Option Addr) (n c : Nat) (w0 : World) (hd : DayR w0.heap.size w0 v d) (hx : Rd encI 1 w0.heap.size w0 p n bits) :
    Calls Try.prog 7 #[.agg #[.int .i64 d.hours, .slice v.ha v.hn v.hc, .slice v.la v.ln v.lc, .slice v.wa v.wn v.wc], .slice p n c] w0 (fun e w' => e = .returned (.bool true) ∧ Ext w0 w') := by
  have hl1 := hd.heat.len; have hl2 := hd.lots.len; have hl3 := hd.wks.len; have hs1 := hd.heat.size; have hs2 := hd.lots.size; have hs3 := hd.wks.size
  refine calls_of_W Try.func7 rfl (by kernel_rfl) (args := [.agg #[.int .i64 d.hours, .slice v.ha v.hn v.hc, .slice v.la v.ln v.lc, .slice v.wa v.wn v.wc], .slice p n c]) fun a hF => ?_
  replace hF : Fr 143 [] [(0, .agg #[.int .i64 d.hours, .slice v.ha v.hn v.hc, .slice v.la v.ln v.lc, .slice v.wa v.wn v.wc]), (1, .slice p n c)] a := hF
  have hO : Own w0 none_ [] w0 := Own.start w0 _
  refine W_seq (region_seq ?_)
  refine op_box (i := 0) (t := 26) (v := .agg #[.int .i64 d.hours, .slice v.ha v.hn v.hc, .slice v.la v.ln v.lc, .slice v.wa v.wn v.wc]) (d := 2) hF hO (by kernel_rfl) fun a w b1 hF hO _ => ?_
  replace hO : Own w0 none_ [cel b1 #[.int .i64 d.hours, .slice v.ha v.hn v.hc, .slice v.la v.ln v.lc, .slice v.wa v.wn v.wc] 26] w := hO
  refine seq_quiet {} TBok hF (F' := [(1, .slice p n c), (2, .pointer (some ⟨b1, 0, none⟩)), (4, .bool false)]) (rs := []) [1] [] [1, 2, 4] .nil (by kernel_rfl) fun a w hF hE => ?_
  replace hO := hO.ext hE; clear hE
  refine W_seq (region_seq ?_)
  refine seq_quiet {} TBok hF (F' := [(1, .slice p n c), (2, .pointer (some ⟨b1, 0, none⟩)), (4, .bool false), (16, .agg #[.int .i64 d.hours, .slice v.ha v.hn v.hc, .slice v.la v.ln v.lc, .slice v.wa v.wn v.wc])]) (rs := [.lds ⟨b1, 0, none⟩ [.int .i64 d.hours, .slice v.ha v.hn v.hc, .slice v.la v.ln v.lc, .slice v.wa v.wn v.wc]]) [0] [1, 2, 3, 4, 5, 6, 7, 8] [1, 2, 4, 16] (.cons (ldso hO.st 0 rfl 0 rfl) <| .nil) (by kernel_rfl) fun a w hF hE => ?_
  replace hO := hO.ext hE; clear hE
  refine op_call (i := 1) (f := 23) (args := #[.agg #[.int .i64 d.hours, .slice v.ha v.hn v.hc, .slice v.la v.ln v.lc, .slice v.wa v.wn v.wc]]) (d := some 17) TBok (by kernel_rfl) hF (by kernel_rfl) (Best_calls d v _ (hd.upM hO.kp nom (Nat.le_refl _))) fun e w hR => ?_
  obtain ⟨p2, c3, he, hO2⟩ := hR
  refine ⟨_, he, fun a hF => ?_⟩
  replace hO := hO.joinE hO2; clear hO2 he
  replace hO : Own w0 none_ [cel b1 #[.int .i64 d.hours, .slice v.ha v.hn v.hc, .slice v.la v.ln v.lc, .slice v.wa v.wn v.wc] 26, rowR 56 4 (.slice p2 ((bestP d).length) c3) ((bestP d).length) ((bestP d).flatMap encTk)] w := hO
  refine seq_quiet {} TBok hF (F' := [(1, .slice p n c), (2, .pointer (some ⟨b1, 0, none⟩)), (4, .bool false), (5, .slice p2 ((bestP d).length) ((bestP d).length)), (6, .int .i64 (bestN d)), (7, .int .i64 (chk d))]) (rs := []) [2, 3, 4, 5, 6, 7, 8] [] [1, 2, 4, 5, 6, 7] .nil (by kernel_rfl) fun a w hF hE => ?_
  replace hO := hO.ext hE; clear hE
  refine W_seq ?_
  refine W_seq (region_q { sy := [2] } TBok hF (F' := [(1, .slice p n c), (2, .pointer (some ⟨b1, 0, none⟩)), (4, .bool false), (5, .slice p2 ((bestP d).length) ((bestP d).length)), (6, .int .i64 (bestN d)), (7, .int .i64 (chk d)), (27, .bool (cond ((chk d) != 0) true false))]) (rs := [.und (!((chk d) != 0)) (.lds ⟨b1, 0, none⟩ [.int .i64 d.hours, .slice v.ha v.hn v.hc, .slice v.la v.ln v.lc, .slice v.wa v.wn v.wc]), .und (!((chk d) != 0)) (.call 34 #[.agg #[.int .i64 d.hours, .slice v.ha v.hn v.hc, .slice v.la v.ln v.lc, .slice v.wa v.wn v.wc]] (.bool true))]) [1, 2, 4, 5, 6, 7, 27] (.cons (fun hg => (ldso hO.st 0 rfl 0 rfl)) <| .cons (fun hg => (fun w hE => sound_calls d v w (hd.upM (hO.st w hE).kp nom (Nat.le_refl _)) (by simpa using hg))) <| .nil) (by kernel_rfl) fun a w hF hE => ?_)
  replace hO := hO.ext hE; clear hE
  rcases Bool.eq_false_or_eq_true (cond ((chk d) != 0) true false) with hc4 | hc4
  · refine (W_true ((evOp hF (by kernel_rfl)).trans (congrArg Value.bool hc4)) ?_)
    have hck : ((chk d) != 0) = true := (cond_tf _).symm.trans (by assumption)
    have hbp : bestP d = [] := by rw [bestP, if_pos (by simpa using hck)]
    have hbn : ((bestN d) == 0) = true := by rw [bestN, if_pos (by simpa using hck)]; rfl
    have hbl : (((bestP d).length : Int) == 0) = true := by rw [hbp]; rfl
    refine W_seq (region_q { md := [(1, 1), (5, 1), (9, 1)] } TBok hF (F' := [(1, .slice p n c), (2, .pointer (some ⟨b1, 0, none⟩)), (4, .bool true), (5, .slice p2 ((bestP d).length) ((bestP d).length))]) (rs := [.dec ((chk d) != 0) true, .dec (((bestP d).length : Int) == 0) true, .dec ((bestN d) == 0) true, .call 20 #[] (.bool true)]) [1, 2, 4, 5] (.cons hck <| .cons hbl <| .cons hbn <| .cons (fun w _ => works_calls w) <| .nil) (by kernel_rfl) fun a w hF hE => ?_)
    replace hO := hO.ext hE; clear hE
    refine W_ret ?_
    show bodyPostM (FW none) 0 _ _ _ Exit.ret a w
    exact leave_r TBok hF (.nil _) (vs := [.bool true]) (rs := []) .nil (by kernel_rfl) ⟨rfl, hO.kp⟩
  · refine (W_false ((evOp hF (by kernel_rfl)).trans (congrArg Value.bool hc4)) ?_)
    have hc0 : chk d = 0 := by have h_ := (cond_tf _).symm.trans (by assumption : (cond ((chk d) != 0) true false) = false); simpa using h_
    have hvB := chk_okB (d := d) (by simp [hc0])
    have hv := dayB_V hvB
    have hv1 := day_ok hv
    have hbR := best_R hv hc0
    have hbl := hbR.len
    have hcz : ((chk d) != 0) = false := by rw [hc0]; rfl
    refine (W_skip ?_)
    refine W_seq (region_seq ?_)
    refine seq_quiet {} TBok hF (F' := [(2, .pointer (some ⟨b1, 0, none⟩)), (4, .bool false), (5, .slice p2 ((bestP d).length) ((bestP d).length)), (42, .agg #[.int .i64 d.hours, .slice v.ha v.hn v.hc, .slice v.la v.ln v.lc, .slice v.wa v.wn v.wc]), (43, .slice p n c)]) (rs := [.lds ⟨b1, 0, none⟩ [.int .i64 d.hours, .slice v.ha v.hn v.hc, .slice v.la v.ln v.lc, .slice v.wa v.wn v.wc]]) [0, 1] [2, 3] [2, 4, 5, 42, 43] (.cons (ldso hO.st 0 rfl 0 rfl) <| .nil) (by kernel_rfl) fun a w hF hE => ?_
    replace hO := hO.ext hE; clear hE
    refine op_call (i := 2) (f := 35) (args := #[.agg #[.int .i64 d.hours, .slice v.ha v.hn v.hc, .slice v.la v.ln v.lc, .slice v.wa v.wn v.wc], .slice p n c]) (d := some 44) TBok (by kernel_rfl) hF (by kernel_rfl) (warmed_calls d v bits p n c _ (hd.upM hO.kp nom (Nat.le_refl _)) hv (hx.upM hO.kp nom (Nat.le_refl _))) fun e w hR => ?_
    obtain ⟨p5, c6, he, hO2⟩ := hR
    refine ⟨_, he, fun a hF => ?_⟩
    replace hO := hO.joinE hO2; clear hO2 he
    replace hO : Own w0 none_ [cel b1 #[.int .i64 d.hours, .slice v.ha v.hn v.hc, .slice v.la v.ln v.lc, .slice v.wa v.wn v.wc] 26, rowR 56 4 (.slice p2 ((bestP d).length) c3) ((bestP d).length) ((bestP d).flatMap encTk), rowR 3 1 (.slice p5 v.hn c6) v.hn ((warmL d bits v.hn).flatMap encI)] w := hO
    refine seq_quiet {} TBok hF (F' := [(2, .pointer (some ⟨b1, 0, none⟩)), (4, .bool false), (5, .slice p2 ((bestP d).length) ((bestP d).length)), (8, .slice p5 v.hn c6)]) (rs := []) [3] [] [2, 4, 5, 8] .nil (by kernel_rfl) fun a w hF hE => ?_
    replace hO := hO.ext hE; clear hE
    refine W_seq ?_
    refine W_seq (region_q {} TBok hF (F' := [(2, .pointer (some ⟨b1, 0, none⟩)), (4, .bool false), (5, .slice p2 ((bestP d).length) ((bestP d).length)), (8, .slice p5 v.hn c6), (9, .int .i64 0)]) (rs := []) [2, 4, 5, 8, 9] .nil (by kernel_rfl) fun a w hF hE => ?_)
    replace hO := hO.ext hE; clear hE
    refine (W_block ?_)
    replace hF := hF.sel [2, 5, 8, 9]
    refine (W_loop (fun m a w => ∃ (k : Nat), m = (bestP d).length - k ∧ k ≤ (bestP d).length ∧ Fr 143 [] [(2, .pointer (some ⟨b1, 0, none⟩)), (5, .slice p2 ((bestP d).length) ((bestP d).length)), (8, .slice p5 v.hn c6), (9, .int .i64 (k : Int))] a ∧ Own w0 none_ [cel b1 #[.int .i64 d.hours, .slice v.ha v.hn v.hc, .slice v.la v.ln v.lc, .slice v.wa v.wn v.wc] 26, rowR 56 4 (.slice p2 ((bestP d).length) c3) ((bestP d).length) ((bestP d).flatMap encTk), rowR 3 1 (.slice p5 v.hn c6) v.hn ((warmL d bits v.hn).flatMap encI)] w) _ ⟨0, rfl, Nat.zero_le _, hF, hO⟩ ?_)
    clear hF hO
    rintro _ a w ⟨k, rfl, hk, hF, hO⟩
    refine W_seq ?_
    refine W_seq (region_q {} TBok hF (F' := [(2, .pointer (some ⟨b1, 0, none⟩)), (5, .slice p2 ((bestP d).length) ((bestP d).length)), (8, .slice p5 v.hn c6), (9, .int .i64 (k : Int)), (48, .bool (decide ((k : Int) < ((bestP d).length : Int))))]) (rs := []) [2, 5, 8, 9, 48] .nil (by kernel_rfl) fun a w hF hE => ?_)
    replace hO := hO.ext hE; clear hE
    rcases Bool.eq_false_or_eq_true (decide ((k : Int) < ((bestP d).length : Int))) with hc7 | hc7
    · refine (W_true ((evOp hF (by kernel_rfl)).trans (congrArg Value.bool hc7)) ?_)
      have hkn := of_decide_eq_true (by assumption : (decide ((k : Int) < ((bestP d).length : Int))) = true)
      have hft := hbR.facts hv (getD_mem (xs := bestP d) (i := k) (by omega))
      have hlk := lot_ok hv (i := ((bestP d).getD k default).lot.toNat) (by omega)
      have hut := until_spec (e := Sp.hi) hv (fun x hx => sp_hi hx) (i := ((bestP d).getD k default).lot.toNat) (by omega)
      refine (W_skip ?_)
      refine W_seq (W_block ?_)
      refine W_seq (region_seq ?_)
      refine seq_quiet {} TBok hF (F' := [(2, .pointer (some ⟨b1, 0, none⟩)), (5, .slice p2 ((bestP d).length) ((bestP d).length)), (8, .slice p5 v.hn c6), (9, .int .i64 (k : Int)), (54, .agg #[.int .i64 (((bestP d).getD k default).lot), .int .i64 (((bestP d).getD k default).wk), .int .i64 (((bestP d).getD k default).hr), .int .i64 (((bestP d).getD k default).cr)])]) (rs := [.idx p2 ((bestP d).length) (k : Int) 4 (adr p2 4 (k : Int)), .lds (adr p2 4 (k : Int)) [.int .i64 (((bestP d).getD k default).lot), .int .i64 (((bestP d).getD k default).wk), .int .i64 (((bestP d).getD k default).hr), .int .i64 (((bestP d).getD k default).cr)]]) [0, 1, 2, 3] [4, 5] [2, 5, 8, 9, 54] (.cons (ix (enc := encTk) (xs := (bestP d)) ((rd_row (fun _ => rfl) (by decide) hO 1 rfl (by omega))) (by omega) (by omega)) <| .cons (ldsR (enc := encTk) (xs := (bestP d)) (fun x_ hx_ => (rd_row (fun _ => rfl) (by decide) (hO.st x_ hx_) 1 rfl (by omega))) (by omega) (by omega) rfl) <| .nil) (by kernel_rfl) fun a w hF hE => ?_
      replace hO := hO.ext hE; clear hE
      refine op_alloc (i := 4) (t := 56) (d := 10) (z := .agg #[.int .i64 0, .int .i64 0, .int .i64 0, .int .i64 0]) hF hO (by kernel_rfl) (by kernel_rfl) fun a w b8 hF hO _ => ?_
      replace hO : Own w0 none_ [cel b1 #[.int .i64 d.hours, .slice v.ha v.hn v.hc, .slice v.la v.ln v.lc, .slice v.wa v.wn v.wc] 26, rowR 56 4 (.slice p2 ((bestP d).length) c3) ((bestP d).length) ((bestP d).flatMap encTk), rowR 3 1 (.slice p5 v.hn c6) v.hn ((warmL d bits v.hn).flatMap encI), cel b8 #[.int .i64 0, .int .i64 0, .int .i64 0, .int .i64 0] 56] w := hO
      refine op_store (i := 5) (t := 56) (p := ⟨b8, 0, none⟩) (v := .agg #[.int .i64 (((bestP d).getD k default).lot), .int .i64 (((bestP d).getD k default).wk), .int .i64 (((bestP d).getD k default).hr), .int .i64 (((bestP d).getD k default).cr)]) (off := 0) (sz := 4) (cs' := #[.int .i64 (((bestP d).getD k default).lot), .int .i64 (((bestP d).getD k default).wk), .int .i64 (((bestP d).getD k default).hr), .int .i64 (((bestP d).getD k default).cr)]) hF hO (by kernel_rfl) 3 rfl rfl (by kernel_rfl) (by kernel_rfl) (by kernel_rfl) fun a w hF hO _ => ?_
      replace hO : Own w0 none_ [cel b1 #[.int .i64 d.hours, .slice v.ha v.hn v.hc, .slice v.la v.ln v.lc, .slice v.wa v.wn v.wc] 26, rowR 56 4 (.slice p2 ((bestP d).length) c3) ((bestP d).length) ((bestP d).flatMap encTk), rowR 3 1 (.slice p5 v.hn c6) v.hn ((warmL d bits v.hn).flatMap encI), cel b8 #[.int .i64 (((bestP d).getD k default).lot), .int .i64 (((bestP d).getD k default).wk), .int .i64 (((bestP d).getD k default).hr), .int .i64 (((bestP d).getD k default).cr)] 56] w := hO
      replace hF := hF.sel [2, 5, 8, 9, 10]
      replace hF : Fr 143 [] [(2, .pointer (some ⟨b1, 0, none⟩)), (5, .slice p2 ((bestP d).length) ((bestP d).length)), (8, .slice p5 v.hn c6), (9, .int .i64 (k : Int)), (10, .pointer (some ⟨b8, 0, none⟩))] a := hF
      refine W_seq ?_
      refine W_seq (region_q { md := [(30, 1)] } TBok hF (F' := [(2, .pointer (some ⟨b1, 0, none⟩)), (5, .slice p2 ((bestP d).length) ((bestP d).length)), (8, .slice p5 v.hn c6), (9, .int .i64 (k : Int)), (10, .pointer (some ⟨b8, 0, none⟩)), (86, .bool false)]) (rs := [.ld ⟨b8, 0, none⟩ (.int .i64 (((bestP d).getD k default).lot)), .ld ⟨b1, 2, none⟩ (.slice v.la v.ln v.lc), .rng ((v.ln : Int) - 1), .call 36 #[.int .i64 (((bestP d).getD k default).lot), .int .i64 0, .int .i64 ((v.ln : Int) - 1)] (.bool true), .ld ⟨b8, 1, none⟩ (.int .i64 (((bestP d).getD k default).wk)), .ld ⟨b1, 3, none⟩ (.slice v.wa v.wn v.wc), .rng ((v.wn : Int) - 1), .call 36 #[.int .i64 (((bestP d).getD k default).wk), .int .i64 0, .int .i64 ((v.wn : Int) - 1)] (.bool true), .ld ⟨b8, 2, none⟩ (.int .i64 (((bestP d).getD k default).hr)), .ld ⟨b1, 0, none⟩ (.int .i64 d.hours), .rng (d.hours - 1), .call 36 #[.int .i64 (((bestP d).getD k default).hr), .int .i64 0, .int .i64 (d.hours - 1)] (.bool true), .ld ⟨b8, 3, none⟩ (.int .i64 (((bestP d).getD k default).cr)), .dec (decide (((bestP d).getD k default).cr < 1)) false]) [2, 5, 8, 9, 10, 86] (.cons (ldo hO.st 3 rfl 0 rfl) <| .cons (ldo hO.st 0 rfl 2 rfl) <| .cons (rg (by omega)) <| .cons (fun w hE => calls_castB (In_calls _ _ _ w) (inB_iff.2 (by omega))) <| .cons (ldo hO.st 3 rfl 1 rfl) <| .cons (ldo hO.st 0 rfl 3 rfl) <| .cons (rg (by omega)) <| .cons (fun w hE => calls_castB (In_calls _ _ _ w) (inB_iff.2 (by omega))) <| .cons (ldo hO.st 3 rfl 2 rfl) <| .cons (ldo hO.st 0 rfl 0 rfl) <| .cons (rg (by omega)) <| .cons (fun w hE => calls_castB (In_calls _ _ _ w) (inB_iff.2 (by omega))) <| .cons (ldo hO.st 3 rfl 3 rfl) <| .cons (decide_eq_false (by omega)) <| .nil) (by kernel_rfl) fun a w hF hE => ?_)
      replace hO := hO.ext hE; clear hE
      refine (W_false (evOp hF (by kernel_rfl)) ?_)
      refine (W_skip ?_)
      refine W_seq (W_cut (fun a w => ∃ b9x : Nat, ∃ b10x : Nat, Fr 143 [] [(2, .pointer (some ⟨b1, 0, none⟩)), (5, .slice p2 ((bestP d).length) ((bestP d).length)), (8, .slice p5 v.hn c6), (9, .int .i64 (k : Int)), (10, .pointer (some ⟨b8, 0, none⟩)), (11, .pointer (some ⟨b9x, 0, none⟩)), (12, .pointer (some ⟨b10x, 0, none⟩))] a ∧ Own w0 none_ [cel b1 #[.int .i64 d.hours, .slice v.ha v.hn v.hc, .slice v.la v.ln v.lc, .slice v.wa v.wn v.wc] 26, rowR 56 4 (.slice p2 ((bestP d).length) c3) ((bestP d).length) ((bestP d).flatMap encTk), rowR 3 1 (.slice p5 v.hn c6) v.hn ((warmL d bits v.hn).flatMap encI), cel b8 #[.int .i64 (((bestP d).getD k default).lot), .int .i64 (((bestP d).getD k default).wk), .int .i64 (((bestP d).getD k default).hr), .int .i64 (((bestP d).getD k default).cr)] 56, cel b9x #[.int .i64 ((d.lots.getD (((bestP d).getD k default).lot).toNat default).cr), .int .i64 ((d.lots.getD (((bestP d).getD k default).lot).toNat default).la), .int .i64 ((d.lots.getD (((bestP d).getD k default).lot).toNat default).ke), .int .i64 ((d.lots.getD (((bestP d).getD k default).lot).toNat default).fi)] 59, cel b10x #[.int .i64 ((d.wks.getD (((bestP d).getD k default).wk).toNat default).kd), .int .i64 ((d.wks.getD (((bestP d).getD k default).wk).toNat default).fr), .int .i64 ((d.wks.getD (((bestP d).getD k default).wk).toNat default).to), .int .i64 ((d.wks.getD (((bestP d).getD k default).wk).toNat default).rt)] 61] w) (draw_start (R := none_) mixed [15] 16 (by kernel_rfl) fun w hS => ?_) ?_)
      · replace hO := hO.ext hS
        refine draw_q {} TBok hF hS (F' := [(2, .pointer (some ⟨b1, 0, none⟩)), (5, .slice p2 ((bestP d).length) ((bestP d).length)), (8, .slice p5 v.hn c6), (9, .int .i64 (k : Int)), (10, .pointer (some ⟨b8, 0, none⟩)), (92, .agg #[.int .i64 ((d.lots.getD (((bestP d).getD k default).lot).toNat default).cr), .int .i64 ((d.lots.getD (((bestP d).getD k default).lot).toNat default).la), .int .i64 ((d.lots.getD (((bestP d).getD k default).lot).toNat default).ke), .int .i64 ((d.lots.getD (((bestP d).getD k default).lot).toNat default).fi)]), (98, .agg #[.int .i64 ((d.wks.getD (((bestP d).getD k default).wk).toNat default).kd), .int .i64 ((d.wks.getD (((bestP d).getD k default).wk).toNat default).fr), .int .i64 ((d.wks.getD (((bestP d).getD k default).wk).toNat default).to), .int .i64 ((d.wks.getD (((bestP d).getD k default).wk).toNat default).rt)])]) (rs := [.ld ⟨b1, 2, none⟩ (.slice v.la v.ln v.lc), .ld ⟨b8, 0, none⟩ (.int .i64 (((bestP d).getD k default).lot)), .idx v.la v.ln (((bestP d).getD k default).lot) 4 (adr v.la 4 (((bestP d).getD k default).lot)), .lds (adr v.la 4 (((bestP d).getD k default).lot)) [.int .i64 ((d.lots.getD (((bestP d).getD k default).lot).toNat default).cr), .int .i64 ((d.lots.getD (((bestP d).getD k default).lot).toNat default).la), .int .i64 ((d.lots.getD (((bestP d).getD k default).lot).toNat default).ke), .int .i64 ((d.lots.getD (((bestP d).getD k default).lot).toNat default).fi)], .ld ⟨b1, 3, none⟩ (.slice v.wa v.wn v.wc), .ld ⟨b8, 1, none⟩ (.int .i64 (((bestP d).getD k default).wk)), .idx v.wa v.wn (((bestP d).getD k default).wk) 4 (adr v.wa 4 (((bestP d).getD k default).wk)), .lds (adr v.wa 4 (((bestP d).getD k default).wk)) [.int .i64 ((d.wks.getD (((bestP d).getD k default).wk).toNat default).kd), .int .i64 ((d.wks.getD (((bestP d).getD k default).wk).toNat default).fr), .int .i64 ((d.wks.getD (((bestP d).getD k default).wk).toNat default).to), .int .i64 ((d.wks.getD (((bestP d).getD k default).wk).toNat default).rt)]]) [0, 1, 2, 3, 4, 5, 6, 7, 8, 9, 10, 11] 16 4 (by kernel_rfl) #[true, true, true, true, true, true, true, true, true, true, true, true, false, false, false, false] [2, 5, 8, 9, 10, 92, 98] (.cons (ldo hO.st 0 rfl 2 rfl) <| .cons (ldo hO.st 3 rfl 0 rfl) <| .cons (ix hd.lots (by omega) (by omega)) <| .cons (ldsx hO.st nom hd.lots (by omega) (by omega) rfl) <| .cons (ldo hO.st 0 rfl 3 rfl) <| .cons (ldo hO.st 3 rfl 1 rfl) <| .cons (ix hd.wks (by omega) (by omega)) <| .cons (ldsx hO.st nom hd.wks (by omega) (by omega) rfl) <| .nil) (by kernel_rfl) (by kernel_rfl) fun a hF => ?_
        replace hS := Kp.refl none_ w
        refine any_pick (rs := [12, 13]) (by kernel_rfl) (by simp) fun w hE => all2 ?_ ?_
        · replace hO := hO.ext hE; replace hS := hS.trans (Ext.kp hE)
          refine op_alloc (i := 12) (t := 59) (d := 11) (z := .agg #[.int .i64 0, .int .i64 0, .int .i64 0, .int .i64 0]) hF hO (by kernel_rfl) (by kernel_rfl) fun a w b109 hF hO hx => ⟨.inr (hS.trans (Ext.kp hx.1)), ?_⟩
          have hf_b109 := Nat.le_trans hS.size hx.2; replace hS := hS.trans (Ext.kp hx.1); clear hx
          replace hO : Own w0 none_ [cel b1 #[.int .i64 d.hours, .slice v.ha v.hn v.hc, .slice v.la v.ln v.lc, .slice v.wa v.wn v.wc] 26, rowR 56 4 (.slice p2 ((bestP d).length) c3) ((bestP d).length) ((bestP d).flatMap encTk), rowR 3 1 (.slice p5 v.hn c6) v.hn ((warmL d bits v.hn).flatMap encI), cel b8 #[.int .i64 (((bestP d).getD k default).lot), .int .i64 (((bestP d).getD k default).wk), .int .i64 (((bestP d).getD k default).hr), .int .i64 (((bestP d).getD k default).cr)] 56, cel b109 #[.int .i64 0, .int .i64 0, .int .i64 0, .int .i64 0] 59] w := hO
          refine any_pick (rs := [13]) (by kernel_rfl) (by simp) fun w hE => all1 ?_
          replace hO := hO.ext hE; replace hS := hS.trans (Ext.kp hE)
          refine op_alloc (i := 13) (t := 61) (d := 12) (z := .agg #[.int .i64 0, .int .i64 0, .int .i64 0, .int .i64 0]) hF hO (by kernel_rfl) (by kernel_rfl) fun a w b110 hF hO hx => ⟨.inr (hS.trans (Ext.kp hx.1)), ?_⟩
          have hf_b110 := Nat.le_trans hS.size hx.2; replace hS := hS.trans (Ext.kp hx.1); clear hx
          replace hO : Own w0 none_ [cel b1 #[.int .i64 d.hours, .slice v.ha v.hn v.hc, .slice v.la v.ln v.lc, .slice v.wa v.wn v.wc] 26, rowR 56 4 (.slice p2 ((bestP d).length) c3) ((bestP d).length) ((bestP d).flatMap encTk), rowR 3 1 (.slice p5 v.hn c6) v.hn ((warmL d bits v.hn).flatMap encI), cel b8 #[.int .i64 (((bestP d).getD k default).lot), .int .i64 (((bestP d).getD k default).wk), .int .i64 (((bestP d).getD k default).hr), .int .i64 (((bestP d).getD k default).cr)] 56, cel b109 #[.int .i64 0, .int .i64 0, .int .i64 0, .int .i64 0] 59, cel b110 #[.int .i64 0, .int .i64 0, .int .i64 0, .int .i64 0] 61] w := hO
          refine any_pick (rs := [14]) (by kernel_rfl) (by simp) fun w hE => all1 ?_
          replace hO := hO.ext hE; replace hS := hS.trans (Ext.kp hE)
          refine op_store (i := 14) (t := 59) (p := ⟨b109, 0, none⟩) (v := .agg #[.int .i64 ((d.lots.getD (((bestP d).getD k default).lot).toNat default).cr), .int .i64 ((d.lots.getD (((bestP d).getD k default).lot).toNat default).la), .int .i64 ((d.lots.getD (((bestP d).getD k default).lot).toNat default).ke), .int .i64 ((d.lots.getD (((bestP d).getD k default).lot).toNat default).fi)]) (off := 0) (sz := 4) (cs' := #[.int .i64 ((d.lots.getD (((bestP d).getD k default).lot).toNat default).cr), .int .i64 ((d.lots.getD (((bestP d).getD k default).lot).toNat default).la), .int .i64 ((d.lots.getD (((bestP d).getD k default).lot).toNat default).ke), .int .i64 ((d.lots.getD (((bestP d).getD k default).lot).toNat default).fi)]) hF hO (by kernel_rfl) 4 rfl rfl (by kernel_rfl) (by kernel_rfl) (by kernel_rfl) fun a w hF hO hx => ⟨.inr (hS.fresh hx hf_b109), ?_⟩
          replace hS := hS.fresh hx hf_b109; clear hx
          replace hO : Own w0 none_ [cel b1 #[.int .i64 d.hours, .slice v.ha v.hn v.hc, .slice v.la v.ln v.lc, .slice v.wa v.wn v.wc] 26, rowR 56 4 (.slice p2 ((bestP d).length) c3) ((bestP d).length) ((bestP d).flatMap encTk), rowR 3 1 (.slice p5 v.hn c6) v.hn ((warmL d bits v.hn).flatMap encI), cel b8 #[.int .i64 (((bestP d).getD k default).lot), .int .i64 (((bestP d).getD k default).wk), .int .i64 (((bestP d).getD k default).hr), .int .i64 (((bestP d).getD k default).cr)] 56, cel b109 #[.int .i64 ((d.lots.getD (((bestP d).getD k default).lot).toNat default).cr), .int .i64 ((d.lots.getD (((bestP d).getD k default).lot).toNat default).la), .int .i64 ((d.lots.getD (((bestP d).getD k default).lot).toNat default).ke), .int .i64 ((d.lots.getD (((bestP d).getD k default).lot).toNat default).fi)] 59, cel b110 #[.int .i64 0, .int .i64 0, .int .i64 0, .int .i64 0] 61] w := hO
          refine any_pick (rs := [15]) (by kernel_rfl) (by simp) fun w hE => all1 ?_
          replace hO := hO.ext hE; replace hS := hS.trans (Ext.kp hE)
          refine op_store (i := 15) (t := 61) (p := ⟨b110, 0, none⟩) (v := .agg #[.int .i64 ((d.wks.getD (((bestP d).getD k default).wk).toNat default).kd), .int .i64 ((d.wks.getD (((bestP d).getD k default).wk).toNat default).fr), .int .i64 ((d.wks.getD (((bestP d).getD k default).wk).toNat default).to), .int .i64 ((d.wks.getD (((bestP d).getD k default).wk).toNat default).rt)]) (off := 0) (sz := 4) (cs' := #[.int .i64 ((d.wks.getD (((bestP d).getD k default).wk).toNat default).kd), .int .i64 ((d.wks.getD (((bestP d).getD k default).wk).toNat default).fr), .int .i64 ((d.wks.getD (((bestP d).getD k default).wk).toNat default).to), .int .i64 ((d.wks.getD (((bestP d).getD k default).wk).toNat default).rt)]) hF hO (by kernel_rfl) 5 rfl rfl (by kernel_rfl) (by kernel_rfl) (by kernel_rfl) fun a w hF hO _ => ⟨.inl rfl, ?_⟩
          replace hO : Own w0 none_ [cel b1 #[.int .i64 d.hours, .slice v.ha v.hn v.hc, .slice v.la v.ln v.lc, .slice v.wa v.wn v.wc] 26, rowR 56 4 (.slice p2 ((bestP d).length) c3) ((bestP d).length) ((bestP d).flatMap encTk), rowR 3 1 (.slice p5 v.hn c6) v.hn ((warmL d bits v.hn).flatMap encI), cel b8 #[.int .i64 (((bestP d).getD k default).lot), .int .i64 (((bestP d).getD k default).wk), .int .i64 (((bestP d).getD k default).hr), .int .i64 (((bestP d).getD k default).cr)] 56, cel b109 #[.int .i64 ((d.lots.getD (((bestP d).getD k default).lot).toNat default).cr), .int .i64 ((d.lots.getD (((bestP d).getD k default).lot).toNat default).la), .int .i64 ((d.lots.getD (((bestP d).getD k default).lot).toNat default).ke), .int .i64 ((d.lots.getD (((bestP d).getD k default).lot).toNat default).fi)] 59, cel b110 #[.int .i64 ((d.wks.getD (((bestP d).getD k default).wk).toNat default).kd), .int .i64 ((d.wks.getD (((bestP d).getD k default).wk).toNat default).fr), .int .i64 ((d.wks.getD (((bestP d).getD k default).wk).toNat default).to), .int .i64 ((d.wks.getD (((bestP d).getD k default).wk).toNat default).rt)] 61] w := hO
          refine any_done (by kernel_rfl) (fun w hE => ?_) _
          replace hO := hO.ext hE
          replace hF := hF.sel [2, 5, 8, 9, 10, 11, 12]
          replace hF : Fr 143 [] [(2, .pointer (some ⟨b1, 0, none⟩)), (5, .slice p2 ((bestP d).length) ((bestP d).length)), (8, .slice p5 v.hn c6), (9, .int .i64 (k : Int)), (10, .pointer (some ⟨b8, 0, none⟩)), (11, .pointer (some ⟨b109, 0, none⟩)), (12, .pointer (some ⟨b110, 0, none⟩))] a := hF
          exact ⟨rfl, b109, b110, hF, hO.sel [0, 1, 2, 3, 4, 5] (by decide)⟩
        · replace hO := hO.ext hE; replace hS := hS.trans (Ext.kp hE)
          refine op_alloc (i := 13) (t := 61) (d := 12) (z := .agg #[.int .i64 0, .int .i64 0, .int .i64 0, .int .i64 0]) hF hO (by kernel_rfl) (by kernel_rfl) fun a w b111 hF hO hx => ⟨.inr (hS.trans (Ext.kp hx.1)), ?_⟩
          have hf_b111 := Nat.le_trans hS.size hx.2; replace hS := hS.trans (Ext.kp hx.1); clear hx
          replace hO : Own w0 none_ [cel b1 #[.int .i64 d.hours, .slice v.ha v.hn v.hc, .slice v.la v.ln v.lc, .slice v.wa v.wn v.wc] 26, rowR 56 4 (.slice p2 ((bestP d).length) c3) ((bestP d).length) ((bestP d).flatMap encTk), rowR 3 1 (.slice p5 v.hn c6) v.hn ((warmL d bits v.hn).flatMap encI), cel b8 #[.int .i64 (((bestP d).getD k default).lot), .int .i64 (((bestP d).getD k default).wk), .int .i64 (((bestP d).getD k default).hr), .int .i64 (((bestP d).getD k default).cr)] 56, cel b111 #[.int .i64 0, .int .i64 0, .int .i64 0, .int .i64 0] 61] w := hO
          refine any_pick (rs := [12]) (by kernel_rfl) (by simp) fun w hE => all1 ?_
          replace hO := hO.ext hE; replace hS := hS.trans (Ext.kp hE)
          refine op_alloc (i := 12) (t := 59) (d := 11) (z := .agg #[.int .i64 0, .int .i64 0, .int .i64 0, .int .i64 0]) hF hO (by kernel_rfl) (by kernel_rfl) fun a w b112 hF hO hx => ⟨.inr (hS.trans (Ext.kp hx.1)), ?_⟩
          have hf_b112 := Nat.le_trans hS.size hx.2; replace hS := hS.trans (Ext.kp hx.1); clear hx
          replace hO : Own w0 none_ [cel b1 #[.int .i64 d.hours, .slice v.ha v.hn v.hc, .slice v.la v.ln v.lc, .slice v.wa v.wn v.wc] 26, rowR 56 4 (.slice p2 ((bestP d).length) c3) ((bestP d).length) ((bestP d).flatMap encTk), rowR 3 1 (.slice p5 v.hn c6) v.hn ((warmL d bits v.hn).flatMap encI), cel b8 #[.int .i64 (((bestP d).getD k default).lot), .int .i64 (((bestP d).getD k default).wk), .int .i64 (((bestP d).getD k default).hr), .int .i64 (((bestP d).getD k default).cr)] 56, cel b111 #[.int .i64 0, .int .i64 0, .int .i64 0, .int .i64 0] 61, cel b112 #[.int .i64 0, .int .i64 0, .int .i64 0, .int .i64 0] 59] w := hO
          refine any_pick (rs := [14]) (by kernel_rfl) (by simp) fun w hE => all1 ?_
          replace hO := hO.ext hE; replace hS := hS.trans (Ext.kp hE)
          refine op_store (i := 14) (t := 59) (p := ⟨b112, 0, none⟩) (v := .agg #[.int .i64 ((d.lots.getD (((bestP d).getD k default).lot).toNat default).cr), .int .i64 ((d.lots.getD (((bestP d).getD k default).lot).toNat default).la), .int .i64 ((d.lots.getD (((bestP d).getD k default).lot).toNat default).ke), .int .i64 ((d.lots.getD (((bestP d).getD k default).lot).toNat default).fi)]) (off := 0) (sz := 4) (cs' := #[.int .i64 ((d.lots.getD (((bestP d).getD k default).lot).toNat default).cr), .int .i64 ((d.lots.getD (((bestP d).getD k default).lot).toNat default).la), .int .i64 ((d.lots.getD (((bestP d).getD k default).lot).toNat default).ke), .int .i64 ((d.lots.getD (((bestP d).getD k default).lot).toNat default).fi)]) hF hO (by kernel_rfl) 5 rfl rfl (by kernel_rfl) (by kernel_rfl) (by kernel_rfl) fun a w hF hO hx => ⟨.inr (hS.fresh hx hf_b112), ?_⟩
          replace hS := hS.fresh hx hf_b112; clear hx
          replace hO : Own w0 none_ [cel b1 #[.int .i64 d.hours, .slice v.ha v.hn v.hc, .slice v.la v.ln v.lc, .slice v.wa v.wn v.wc] 26, rowR 56 4 (.slice p2 ((bestP d).length) c3) ((bestP d).length) ((bestP d).flatMap encTk), rowR 3 1 (.slice p5 v.hn c6) v.hn ((warmL d bits v.hn).flatMap encI), cel b8 #[.int .i64 (((bestP d).getD k default).lot), .int .i64 (((bestP d).getD k default).wk), .int .i64 (((bestP d).getD k default).hr), .int .i64 (((bestP d).getD k default).cr)] 56, cel b111 #[.int .i64 0, .int .i64 0, .int .i64 0, .int .i64 0] 61, cel b112 #[.int .i64 ((d.lots.getD (((bestP d).getD k default).lot).toNat default).cr), .int .i64 ((d.lots.getD (((bestP d).getD k default).lot).toNat default).la), .int .i64 ((d.lots.getD (((bestP d).getD k default).lot).toNat default).ke), .int .i64 ((d.lots.getD (((bestP d).getD k default).lot).toNat default).fi)] 59] w := hO
          refine any_pick (rs := [15]) (by kernel_rfl) (by simp) fun w hE => all1 ?_
          replace hO := hO.ext hE; replace hS := hS.trans (Ext.kp hE)
          refine op_store (i := 15) (t := 61) (p := ⟨b111, 0, none⟩) (v := .agg #[.int .i64 ((d.wks.getD (((bestP d).getD k default).wk).toNat default).kd), .int .i64 ((d.wks.getD (((bestP d).getD k default).wk).toNat default).fr), .int .i64 ((d.wks.getD (((bestP d).getD k default).wk).toNat default).to), .int .i64 ((d.wks.getD (((bestP d).getD k default).wk).toNat default).rt)]) (off := 0) (sz := 4) (cs' := #[.int .i64 ((d.wks.getD (((bestP d).getD k default).wk).toNat default).kd), .int .i64 ((d.wks.getD (((bestP d).getD k default).wk).toNat default).fr), .int .i64 ((d.wks.getD (((bestP d).getD k default).wk).toNat default).to), .int .i64 ((d.wks.getD (((bestP d).getD k default).wk).toNat default).rt)]) hF hO (by kernel_rfl) 4 rfl rfl (by kernel_rfl) (by kernel_rfl) (by kernel_rfl) fun a w hF hO _ => ⟨.inl rfl, ?_⟩
          replace hO : Own w0 none_ [cel b1 #[.int .i64 d.hours, .slice v.ha v.hn v.hc, .slice v.la v.ln v.lc, .slice v.wa v.wn v.wc] 26, rowR 56 4 (.slice p2 ((bestP d).length) c3) ((bestP d).length) ((bestP d).flatMap encTk), rowR 3 1 (.slice p5 v.hn c6) v.hn ((warmL d bits v.hn).flatMap encI), cel b8 #[.int .i64 (((bestP d).getD k default).lot), .int .i64 (((bestP d).getD k default).wk), .int .i64 (((bestP d).getD k default).hr), .int .i64 (((bestP d).getD k default).cr)] 56, cel b111 #[.int .i64 ((d.wks.getD (((bestP d).getD k default).wk).toNat default).kd), .int .i64 ((d.wks.getD (((bestP d).getD k default).wk).toNat default).fr), .int .i64 ((d.wks.getD (((bestP d).getD k default).wk).toNat default).to), .int .i64 ((d.wks.getD (((bestP d).getD k default).wk).toNat default).rt)] 61, cel b112 #[.int .i64 ((d.lots.getD (((bestP d).getD k default).lot).toNat default).cr), .int .i64 ((d.lots.getD (((bestP d).getD k default).lot).toNat default).la), .int .i64 ((d.lots.getD (((bestP d).getD k default).lot).toNat default).ke), .int .i64 ((d.lots.getD (((bestP d).getD k default).lot).toNat default).fi)] 59] w := hO
          refine any_done (by kernel_rfl) (fun w hE => ?_) _
          replace hO := hO.ext hE
          replace hF := hF.sel [2, 5, 8, 9, 10, 11, 12]
          replace hF : Fr 143 [] [(2, .pointer (some ⟨b1, 0, none⟩)), (5, .slice p2 ((bestP d).length) ((bestP d).length)), (8, .slice p5 v.hn c6), (9, .int .i64 (k : Int)), (10, .pointer (some ⟨b8, 0, none⟩)), (11, .pointer (some ⟨b112, 0, none⟩)), (12, .pointer (some ⟨b111, 0, none⟩))] a := hF
          exact ⟨rfl, b112, b111, hF, hO.sel [0, 1, 2, 3, 5, 4] (by decide)⟩
      clear hF hO
      rintro a w ⟨b9x, b10x, hF, hO⟩
      refine W_seq (region_q {} TBok hF (F' := [(2, .pointer (some ⟨b1, 0, none⟩)), (5, .slice p2 ((bestP d).length) ((bestP d).length)), (8, .slice p5 v.hn c6), (9, .int .i64 (k : Int)), (10, .pointer (some ⟨b8, 0, none⟩)), (11, .pointer (some ⟨b9x, 0, none⟩)), (12, .pointer (some ⟨b10x, 0, none⟩)), (13, .int .i64 0)]) (rs := []) [2, 5, 8, 9, 10, 11, 12, 13] .nil (by kernel_rfl) fun a w hF hE => ?_)
      replace hO := hO.ext hE; clear hE
      refine W_seq ?_
      refine W_seq (region_q {} TBok hF (F' := [(2, .pointer (some ⟨b1, 0, none⟩)), (5, .slice p2 ((bestP d).length) ((bestP d).length)), (8, .slice p5 v.hn c6), (9, .int .i64 (k : Int)), (10, .pointer (some ⟨b8, 0, none⟩)), (11, .pointer (some ⟨b9x, 0, none⟩)), (12, .pointer (some ⟨b10x, 0, none⟩)), (13, .int .i64 0), (14, .int .i64 ((d.lots.getD (((bestP d).getD k default).lot).toNat default).la))]) (rs := [.ld ⟨b9x, 1, none⟩ (.int .i64 ((d.lots.getD (((bestP d).getD k default).lot).toNat default).la))]) [2, 5, 8, 9, 10, 11, 12, 13, 14] (.cons (ldo hO.st 4 rfl 1 rfl) <| .nil) (by kernel_rfl) fun a w hF hE => ?_)
      replace hO := hO.ext hE; clear hE
      refine (W_block ?_)
      refine (W_loop (fun m a w => ∃ (h : Int), ∃ (q : Int), m = (((bestP d).getD k default).hr + 1 - h).toNat ∧ (d.lots.getD (((bestP d).getD k default).lot).toNat default).la ≤ h ∧ h ≤ ((bestP d).getD k default).hr + 1 ∧ (q = fsum (h - (d.lots.getD (((bestP d).getD k default).lot).toNat default).la).toNat fun j => (warmL d bits v.hn).getD ((d.lots.getD (((bestP d).getD k default).lot).toNat default).la.toNat + j) default) ∧ 0 ≤ q ∧ q ≤ 100 * (h - (d.lots.getD (((bestP d).getD k default).lot).toNat default).la) ∧ Fr 143 [] [(2, .pointer (some ⟨b1, 0, none⟩)), (5, .slice p2 ((bestP d).length) ((bestP d).length)), (8, .slice p5 v.hn c6), (9, .int .i64 (k : Int)), (10, .pointer (some ⟨b8, 0, none⟩)), (11, .pointer (some ⟨b9x, 0, none⟩)), (12, .pointer (some ⟨b10x, 0, none⟩)), (13, .int .i64 q), (14, .int .i64 h)] a ∧ Own w0 none_ [cel b1 #[.int .i64 d.hours, .slice v.ha v.hn v.hc, .slice v.la v.ln v.lc, .slice v.wa v.wn v.wc] 26, rowR 56 4 (.slice p2 ((bestP d).length) c3) ((bestP d).length) ((bestP d).flatMap encTk), rowR 3 1 (.slice p5 v.hn c6) v.hn ((warmL d bits v.hn).flatMap encI), cel b8 #[.int .i64 (((bestP d).getD k default).lot), .int .i64 (((bestP d).getD k default).wk), .int .i64 (((bestP d).getD k default).hr), .int .i64 (((bestP d).getD k default).cr)] 56, cel b9x #[.int .i64 ((d.lots.getD (((bestP d).getD k default).lot).toNat default).cr), .int .i64 ((d.lots.getD (((bestP d).getD k default).lot).toNat default).la), .int .i64 ((d.lots.getD (((bestP d).getD k default).lot).toNat default).ke), .int .i64 ((d.lots.getD (((bestP d).getD k default).lot).toNat default).fi)] 59, cel b10x #[.int .i64 ((d.wks.getD (((bestP d).getD k default).wk).toNat default).kd), .int .i64 ((d.wks.getD (((bestP d).getD k default).wk).toNat default).fr), .int .i64 ((d.wks.getD (((bestP d).getD k default).wk).toNat default).to), .int .i64 ((d.wks.getD (((bestP d).getD k default).wk).toNat default).rt)] 61] w) _ ⟨_, 0, rfl, Int.le_refl _, by omega, by rw [Int.sub_self]; rfl, by omega, by omega, hF, hO⟩ ?_)
      clear hF hO
      rintro _ a w ⟨h, q, rfl, hh0, hh1, hq, hq0, hq1, hF, hO⟩
      refine W_seq ?_
      refine W_seq (region_q {} TBok hF (F' := [(2, .pointer (some ⟨b1, 0, none⟩)), (5, .slice p2 ((bestP d).length) ((bestP d).length)), (8, .slice p5 v.hn c6), (9, .int .i64 (k : Int)), (10, .pointer (some ⟨b8, 0, none⟩)), (11, .pointer (some ⟨b9x, 0, none⟩)), (12, .pointer (some ⟨b10x, 0, none⟩)), (13, .int .i64 q), (14, .int .i64 h), (104, .bool (decide (h ≤ ((bestP d).getD k default).hr)))]) (rs := [.ld ⟨b8, 2, none⟩ (.int .i64 (((bestP d).getD k default).hr))]) [2, 5, 8, 9, 10, 11, 12, 13, 14, 104] (.cons (ldo hO.st 3 rfl 2 rfl) <| .nil) (by kernel_rfl) fun a w hF hE => ?_)
      replace hO := hO.ext hE; clear hE
      rcases Bool.eq_false_or_eq_true (decide (h ≤ ((bestP d).getD k default).hr)) with hc113 | hc113
      · refine (W_true ((evOp hF (by kernel_rfl)).trans (congrArg Value.bool hc113)) ?_)
        have hhc := of_decide_eq_true (by assumption : (decide (h ≤ ((bestP d).getD k default).hr)) = true)
        have hwa := warmL_at (d := d) (bits := bits) (k := v.hn) (h := h.toNat) (by omega)
        have hwi := warm_in hv bits (h := h.toNat) (by omega)
        have hws := sp_ok hv (i := h.toNat) (by omega)
        refine (W_skip ?_)
        refine W_seq (W_block ?_)
        refine (region_q {} TBok hF (F' := [(2, .pointer (some ⟨b1, 0, none⟩)), (5, .slice p2 ((bestP d).length) ((bestP d).length)), (8, .slice p5 v.hn c6), (9, .int .i64 (k : Int)), (10, .pointer (some ⟨b8, 0, none⟩)), (11, .pointer (some ⟨b9x, 0, none⟩)), (12, .pointer (some ⟨b10x, 0, none⟩)), (13, .int .i64 (q + ((warmL d bits v.hn).getD h.toNat default))), (14, .int .i64 h)]) (rs := [.idx p5 v.hn h 1 (adr p5 1 h), .ld (adr p5 1 h) (.int .i64 ((warmL d bits v.hn).getD h.toNat default)), .rng (q + ((warmL d bits v.hn).getD h.toNat default))]) [2, 5, 8, 9, 10, 11, 12, 13, 14] (.cons (ix (enc := encI) (xs := (warmL d bits v.hn)) ((rd_row (fun _ => rfl) (by decide) hO 2 rfl (by omega))) (by omega) (by omega)) <| .cons (ldR (enc := encI) (xs := (warmL d bits v.hn)) (fun x_ hx_ => (rd_row (fun _ => rfl) (by decide) (hO.st x_ hx_) 2 rfl (by omega))) (by omega) (by omega) 0 rfl) <| .cons (rg (by omega)) <| .nil) (by kernel_rfl) fun a w hF hE => ?_)
        replace hO := hO.ext hE; clear hE
        refine (region_q {} TBok hF (F' := [(2, .pointer (some ⟨b1, 0, none⟩)), (5, .slice p2 ((bestP d).length) ((bestP d).length)), (8, .slice p5 v.hn c6), (9, .int .i64 (k : Int)), (10, .pointer (some ⟨b8, 0, none⟩)), (11, .pointer (some ⟨b9x, 0, none⟩)), (12, .pointer (some ⟨b10x, 0, none⟩)), (13, .int .i64 (q + ((warmL d bits v.hn).getD h.toNat default))), (14, .int .i64 (h + 1))]) (rs := [.rng (h + 1)]) [2, 5, 8, 9, 10, 11, 12, 13, 14] (.cons (rg (by omega)) <| .nil) (by kernel_rfl) fun a w hF hE => ?_)
        replace hO := hO.ext hE; clear hE
        exact ⟨_, by omega, h + 1, _, rfl, by omega, by omega, by rw [show (h + 1 - (d.lots.getD (((bestP d).getD k default).lot).toNat default).la).toNat = (h - (d.lots.getD (((bestP d).getD k default).lot).toNat default).la).toNat + 1 from by omega, fsum_succ, ← hq, show (d.lots.getD (((bestP d).getD k default).lot).toNat default).la.toNat + (h - (d.lots.getD (((bestP d).getD k default).lot).toNat default).la).toNat = h.toNat from by omega], by omega, by omega, hF, hO⟩
      · refine (W_false ((evOp hF (by kernel_rfl)).trans (congrArg Value.bool hc113)) ?_)
        have hhc := of_decide_eq_false (by assumption : (decide (h ≤ ((bestP d).getD k default).hr)) = false)
        have hke : q ≤ (d.lots.getD (((bestP d).getD k default).lot).toNat default).ke := by rw [hq]; exact warm_keeps hv bits hl1 (by omega) (by omega)
        refine (W_exit ?_)
        refine W_seq (region_q { md := [(4, 1), (9, 1)] } TBok hF (F' := [(2, .pointer (some ⟨b1, 0, none⟩)), (5, .slice p2 ((bestP d).length) ((bestP d).length)), (8, .slice p5 v.hn c6), (9, .int .i64 (k : Int)), (141, .bool false)]) (rs := [.ld ⟨b8, 2, none⟩ (.int .i64 (((bestP d).getD k default).hr)), .ld ⟨b9x, 1, none⟩ (.int .i64 ((d.lots.getD (((bestP d).getD k default).lot).toNat default).la)), .dec (decide (((bestP d).getD k default).hr < (d.lots.getD (((bestP d).getD k default).lot).toNat default).la)) false, .ld ⟨b9x, 2, none⟩ (.int .i64 ((d.lots.getD (((bestP d).getD k default).lot).toNat default).ke)), .dec (decide (q > (d.lots.getD (((bestP d).getD k default).lot).toNat default).ke)) false, .ld ⟨b9x, 3, none⟩ (.int .i64 ((d.lots.getD (((bestP d).getD k default).lot).toNat default).fi)), .ld ⟨b10x, 0, none⟩ (.int .i64 ((d.wks.getD (((bestP d).getD k default).wk).toNat default).kd)), .call 37 #[.int .i64 ((d.lots.getD (((bestP d).getD k default).lot).toNat default).fi), .int .i64 ((d.wks.getD (((bestP d).getD k default).wk).toNat default).kd)] (.bool true), .ld ⟨b8, 2, none⟩ (.int .i64 (((bestP d).getD k default).hr)), .ld ⟨b10x, 1, none⟩ (.int .i64 ((d.wks.getD (((bestP d).getD k default).wk).toNat default).fr)), .ld ⟨b10x, 2, none⟩ (.int .i64 ((d.wks.getD (((bestP d).getD k default).wk).toNat default).to)), .call 36 #[.int .i64 (((bestP d).getD k default).hr), .int .i64 ((d.wks.getD (((bestP d).getD k default).wk).toNat default).fr), .int .i64 ((d.wks.getD (((bestP d).getD k default).wk).toNat default).to)] (.bool true)]) [2, 5, 8, 9, 141] (.cons (ldo hO.st 3 rfl 2 rfl) <| .cons (ldo hO.st 4 rfl 1 rfl) <| .cons (decide_eq_false (by omega)) <| .cons (ldo hO.st 4 rfl 2 rfl) <| .cons (decide_eq_false (by omega)) <| .cons (ldo hO.st 4 rfl 3 rfl) <| .cons (ldo hO.st 5 rfl 0 rfl) <| .cons (fun w hE => calls_castB (Bit_calls _ _ w (by have := wk_ok hv (i := ((bestP d).getD k default).wk.toNat) (by omega); omega)) hft.2.2.2.2.1) <| .cons (ldo hO.st 3 rfl 2 rfl) <| .cons (ldo hO.st 5 rfl 1 rfl) <| .cons (ldo hO.st 5 rfl 2 rfl) <| .cons (fun w hE => calls_castB (In_calls _ _ _ w) (inB_iff.2 (by omega))) <| .nil) (by kernel_rfl) fun a w hF hE => ?_)
        replace hO := hO.ext hE; clear hE
        refine (W_false (evOp hF (by kernel_rfl)) ?_)
        refine (W_skip ?_)
        refine (region_q {} TBok hF (F' := [(2, .pointer (some ⟨b1, 0, none⟩)), (5, .slice p2 ((bestP d).length) ((bestP d).length)), (8, .slice p5 v.hn c6), (9, .int .i64 ((k : Int) + 1))]) (rs := [.rng ((k : Int) + 1)]) [2, 5, 8, 9] (.cons (rg (by omega)) <| .nil) (by kernel_rfl) fun a w hF hE => ?_)
        replace hO := hO.ext hE; clear hE
        replace hO := hO.drop1 5
        replace hO := hO.drop1 4
        replace hO := hO.drop1 3
        replace hO : Own w0 none_ [cel b1 #[.int .i64 d.hours, .slice v.ha v.hn v.hc, .slice v.la v.ln v.lc, .slice v.wa v.wn v.wc] 26, rowR 56 4 (.slice p2 ((bestP d).length) c3) ((bestP d).length) ((bestP d).flatMap encTk), rowR 3 1 (.slice p5 v.hn c6) v.hn ((warmL d bits v.hn).flatMap encI)] w := hO
        exact ⟨_, by omega, k + 1, rfl, by omega, hF, hO⟩
    · refine (W_false ((evOp hF (by kernel_rfl)).trans (congrArg Value.bool hc7)) ?_)
      refine (W_exit ?_)
      refine W_seq (region_q {} TBok hF (F' := [(4, .bool true)]) (rs := [.call 20 #[] (.bool true)]) [4] (.cons (fun w _ => works_calls w) <| .nil) (by kernel_rfl) fun a w hF hE => ?_)
      replace hO := hO.ext hE; clear hE
      refine W_ret ?_
      show bodyPostM (FW none) 0 _ _ _ Exit.ret a w
      exact leave_r TBok hF (.nil _) (vs := [.bool true]) (rs := []) .nil (by kernel_rfl) ⟨rfl, hO.kp⟩

end Go.Proofs.Ytioimdegbdkppaa.DK
