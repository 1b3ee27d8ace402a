/- The laws GutPlans, GutDeficits, GutHelped, walked. Printed by my gen.py out of gut/v.py. -/
import Derived.Test.YtioimdegbdkppaaHC
import Derived.Test.YtioimdegbdkppaaH10
namespace Go.Proofs.Ytioimdegbdkppaa.DK
open Go Go.Proofs
set_option linter.unusedVariables false

set_option maxHeartbeats 4000000 in
set_option maxRecDepth 100000 in
theorem GutPlans_calls (d : Day) (v : DV) (plan : List Tk) (lp : Option Addr) (ln lc : Nat) (w0 : World) (hd : DayR w0.heap.size w0 v d) (hpl : Rd encTk 4 w0.heap.size w0 lp ln plan) :
    Calls Try.prog 4 #[.agg #[.int .i64 d.hours, .slice v.ha v.hn v.hc, .slice v.la v.ln v.lc, .slice v.wa v.wn v.wc], .slice lp ln lc] w0 (fun e w' => e = .returned (.bool true) ∧ Ext w0 w') := by
  have hl1 := hd.heat.len; have hl2 := hd.lots.len; have hl3 := hd.wks.len; have hs1 := hd.heat.size; have hs2 := hd.lots.size; have hs3 := hd.wks.size
  refine calls_of_W Try.func4 rfl (by kernel_rfl) (args := [.agg #[.int .i64 d.hours, .slice v.ha v.hn v.hc, .slice v.la v.ln v.lc, .slice v.wa v.wn v.wc], .slice lp ln lc]) fun a hF => ?_
  replace hF : Fr 84 [] [(0, .agg #[.int .i64 d.hours, .slice v.ha v.hn v.hc, .slice v.la v.ln v.lc, .slice v.wa v.wn v.wc]), (1, .slice lp ln lc)] a := hF
  have hO : Own w0 none_ [] w0 := Own.start w0 _
  refine W_seq (region_seq ?_)
  refine op_box (i := 0) (t := 26) (v := .agg #[.int .i64 d.hours, .slice v.ha v.hn v.hc, .slice v.la v.ln v.lc, .slice v.wa v.wn v.wc]) (d := 2) hF hO (by kernel_rfl) fun a w b1 hF hO _ => ?_
  replace hO : Own w0 none_ [cel b1 #[.int .i64 d.hours, .slice v.ha v.hn v.hc, .slice v.la v.ln v.lc, .slice v.wa v.wn v.wc] 26] w := hO
  refine seq_quiet {} TBok hF (F' := [(1, .slice lp ln lc), (2, .pointer (some ⟨b1, 0, none⟩)), (4, .bool false)]) (rs := []) [1] [] [1, 2, 4] .nil (by kernel_rfl) fun a w hF hE => ?_
  replace hO := hO.ext hE; clear hE
  refine W_seq (region_q {} TBok hF (F' := [(1, .slice lp ln lc), (2, .pointer (some ⟨b1, 0, none⟩)), (4, .bool false), (5, .int .i64 ((gutIsPlan d plan).1)), (6, .bool ((gutIsPlan d plan).2.1)), (7, .int .i64 ((gutIsPlan d plan).2.2))]) (rs := [.lds ⟨b1, 0, none⟩ [.int .i64 d.hours, .slice v.ha v.hn v.hc, .slice v.la v.ln v.lc, .slice v.wa v.wn v.wc], .call 21 #[.agg #[.int .i64 d.hours, .slice v.ha v.hn v.hc, .slice v.la v.ln v.lc, .slice v.wa v.wn v.wc], .slice lp ln lc] (.tuple #[.int .i64 ((gutIsPlan d plan).1), .bool ((gutIsPlan d plan).2.1), .int .i64 ((gutIsPlan d plan).2.2)])]) [1, 2, 4, 5, 6, 7] (.cons (ldso hO.st 0 rfl 0 rfl) <| .cons (fun w hE => IsPlan_calls d v plan lp ln lc w (hd.upM (hO.st w hE).kp nom (Nat.le_refl _)) (hpl.upM (hO.st w hE).kp nom (Nat.le_refl _))) <| .nil) (by kernel_rfl) fun a w hF hE => ?_)
  replace hO := hO.ext hE; clear hE
  refine W_seq (region_q {} TBok hF (F' := [(2, .pointer (some ⟨b1, 0, none⟩)), (4, .bool false), (5, .int .i64 ((gutIsPlan d plan).1)), (6, .bool ((gutIsPlan d plan).2.1)), (7, .int .i64 ((gutIsPlan d plan).2.2)), (8, .int .i64 ((gutIsPlan d plan).1)), (9, .bool ((gutIsPlan d plan).2.1)), (10, .int .i64 ((gutIsPlan d plan).2.2))]) (rs := [.lds ⟨b1, 0, none⟩ [.int .i64 d.hours, .slice v.ha v.hn v.hc, .slice v.la v.ln v.lc, .slice v.wa v.wn v.wc], .call 22 #[.agg #[.int .i64 d.hours, .slice v.ha v.hn v.hc, .slice v.la v.ln v.lc, .slice v.wa v.wn v.wc], .slice lp ln lc] (.tuple #[.int .i64 ((gutIsPlan d plan).1), .bool ((gutIsPlan d plan).2.1), .int .i64 ((gutIsPlan d plan).2.2)])]) [2, 4, 5, 6, 7, 8, 9, 10] (.cons (ldso hO.st 0 rfl 0 rfl) <| .cons (fun w hE => refIsPlan_calls d v plan lp ln lc w (hd.upM (hO.st w hE).kp nom (Nat.le_refl _)) (hpl.upM (hO.st w hE).kp nom (Nat.le_refl _))) <| .nil) (by kernel_rfl) fun a w hF hE => ?_)
  replace hO := hO.ext hE; clear hE
  refine W_seq ?_
  refine W_seq (region_q { md := [(2, 1), (6, 3), (11, 1)] } TBok hF (F' := [(2, .pointer (some ⟨b1, 0, none⟩)), (4, .bool false), (5, .int .i64 ((gutIsPlan d plan).1)), (6, .bool ((gutIsPlan d plan).2.1)), (7, .int .i64 ((gutIsPlan d plan).2.2)), (8, .int .i64 ((gutIsPlan d plan).1)), (10, .int .i64 ((gutIsPlan d plan).2.2)), (40, .bool false)]) (rs := [.dec ((gutIsPlan d plan).1 != (gutIsPlan d plan).1) false, .raw (do eqGuard .neq 4 (.tmp 32) (.tmp 33) (.bool ((gutIsPlan d plan).2.1)) (.bool ((gutIsPlan d plan).2.1)); Go.binOp .neq 4 (.bool ((gutIsPlan d plan).2.1)) (.bool ((gutIsPlan d plan).2.1))) (.bool false), .dec ((gutIsPlan d plan).2.2 != (gutIsPlan d plan).2.2) false]) [2, 4, 5, 6, 7, 8, 10, 40] (.cons (bne_self_eq_false _) <| .cons (raw_neBs boolT4 _) <| .cons (bne_self_eq_false _) <| .nil) (by kernel_rfl) fun a w hF hE => ?_)
  replace hO := hO.ext hE; clear hE
  refine (W_false (evOp hF (by kernel_rfl)) ?_)
  refine (W_skip ?_)
  refine W_seq (region_seq ?_)
  refine seq_quiet {} TBok hF (F' := [(2, .pointer (some ⟨b1, 0, none⟩)), (4, .bool false), (5, .int .i64 ((gutIsPlan d plan).1)), (6, .bool ((gutIsPlan d plan).2.1)), (7, .int .i64 ((gutIsPlan d plan).2.2)), (8, .int .i64 ((gutIsPlan d plan).1)), (10, .int .i64 ((gutIsPlan d plan).2.2)), (42, .agg #[.int .i64 d.hours, .slice v.ha v.hn v.hc, .slice v.la v.ln v.lc, .slice v.wa v.wn v.wc])]) (rs := [.lds ⟨b1, 0, none⟩ [.int .i64 d.hours, .slice v.ha v.hn v.hc, .slice v.la v.ln v.lc, .slice v.wa v.wn v.wc]]) [0] [1, 2, 3, 4, 5, 6, 7, 8] [2, 4, 5, 6, 7, 8, 10, 42] (.cons (ldso hO.st 0 rfl 0 rfl) <| .nil) (by kernel_rfl) fun a w hF hE => ?_
  replace hO := hO.ext hE; clear hE
  refine op_call (i := 1) (f := 23) (args := #[.agg #[.int .i64 d.hours, .slice v.ha v.hn v.hc, .slice v.la v.ln v.lc, .slice v.wa v.wn v.wc]]) (d := some 43) TBok (by kernel_rfl) hF (by kernel_rfl) (Best_calls d v _ (hd.upM hO.kp nom (Nat.le_refl _))) fun e w hR => ?_
  obtain ⟨p2, c3, he, hO2⟩ := hR
  refine ⟨_, he, fun a hF => ?_⟩
  replace hO := hO.joinE hO2; clear hO2 he
  replace hO : Own w0 none_ [cel b1 #[.int .i64 d.hours, .slice v.ha v.hn v.hc, .slice v.la v.ln v.lc, .slice v.wa v.wn v.wc] 26, rowR 56 4 (.slice p2 ((bestP d).length) c3) ((bestP d).length) ((bestP d).flatMap encTk)] w := hO
  refine seq_quiet {} TBok hF (F' := [(2, .pointer (some ⟨b1, 0, none⟩)), (4, .bool false), (5, .int .i64 (bestN d)), (6, .bool ((gutIsPlan d plan).2.1)), (7, .int .i64 (chk d)), (8, .int .i64 ((gutIsPlan d plan).1)), (10, .int .i64 ((gutIsPlan d plan).2.2)), (11, .slice p2 ((bestP d).length) ((bestP d).length))]) (rs := []) [2, 3, 4, 5, 6, 7, 8] [] [2, 4, 5, 6, 7, 8, 10, 11] .nil (by kernel_rfl) fun a w hF hE => ?_
  replace hO := hO.ext hE; clear hE
  refine W_seq (region_q {} TBok hF (F' := [(2, .pointer (some ⟨b1, 0, none⟩)), (4, .bool false), (5, .int .i64 (bestN d)), (6, .bool ((gutIsPlan d plan).2.1)), (7, .int .i64 (chk d)), (8, .int .i64 (bestN d)), (10, .int .i64 (chk d)), (11, .slice p2 ((bestP d).length) ((bestP d).length))]) (rs := [.lds ⟨b1, 0, none⟩ [.int .i64 d.hours, .slice v.ha v.hn v.hc, .slice v.la v.ln v.lc, .slice v.wa v.wn v.wc], .call 24 #[.agg #[.int .i64 d.hours, .slice v.ha v.hn v.hc, .slice v.la v.ln v.lc, .slice v.wa v.wn v.wc]] (.tuple #[.int .i64 (bestN d), .int .i64 (chk d)])]) [2, 4, 5, 6, 7, 8, 10, 11] (.cons (ldso hO.st 0 rfl 0 rfl) <| .cons (fun w hE => refLost_calls d v w (hd.upM (hO.st w hE).kp nom (Nat.le_refl _))) <| .nil) (by kernel_rfl) fun a w hF hE => ?_)
  replace hO := hO.ext hE; clear hE
  refine W_seq ?_
  refine W_seq (region_q { md := [(2, 1), (6, 1)] } TBok hF (F' := [(2, .pointer (some ⟨b1, 0, none⟩)), (4, .bool false), (5, .int .i64 (bestN d)), (6, .bool ((gutIsPlan d plan).2.1)), (10, .int .i64 (chk d)), (11, .slice p2 ((bestP d).length) ((bestP d).length)), (59, .bool false)]) (rs := [.dec ((bestN d) != (bestN d)) false, .dec ((chk d) != (chk d)) false]) [2, 4, 5, 6, 10, 11, 59] (.cons (bne_self_eq_false _) <| .cons (bne_self_eq_false _) <| .nil) (by kernel_rfl) fun a w hF hE => ?_)
  replace hO := hO.ext hE; clear hE
  refine (W_false (evOp hF (by kernel_rfl)) ?_)
  refine (W_skip ?_)
  refine W_seq ?_
  refine W_seq (region_q {} TBok hF (F' := [(2, .pointer (some ⟨b1, 0, none⟩)), (4, .bool false), (5, .int .i64 (bestN d)), (6, .bool ((gutIsPlan d plan).2.1)), (11, .slice p2 ((bestP d).length) ((bestP d).length)), (61, .bool ((chk d) != 0))]) (rs := []) [2, 4, 5, 6, 11, 61] .nil (by kernel_rfl) fun a w hF hE => ?_)
  replace hO := hO.ext hE; clear hE
  rcases Bool.eq_false_or_eq_true ((chk d) != 0) with hc4 | hc4
  · refine (W_true ((evOp hF (by kernel_rfl)).trans (congrArg Value.bool hc4)) ?_)
    have hbp : bestP d = [] := by rw [bestP, if_pos (by simpa using (by assumption : ((chk d) != 0) = true))]
    have hbl : (((bestP d).length : Int) == 0) = true := by rw [hbp]; rfl
    refine W_seq (region_q { md := [(2, 1)] } TBok hF (F' := [(2, .pointer (some ⟨b1, 0, none⟩)), (4, .bool true), (5, .int .i64 (bestN d)), (6, .bool ((gutIsPlan d plan).2.1)), (11, .slice p2 ((bestP d).length) ((bestP d).length))]) (rs := [.dec (((bestP d).length : Int) == 0) true, .call 20 #[] (.bool true)]) [2, 4, 5, 6, 11] (.cons hbl <| .cons (fun w _ => works_calls w) <| .nil) (by kernel_rfl) fun a w hF hE => ?_)
    replace hO := hO.ext hE; clear hE
    refine W_ret ?_
    show bodyPostM (FW none) 0 _ _ _ Exit.ret a w
    exact leave_r TBok hF (.nil _) (vs := [.bool true]) (rs := []) .nil (by kernel_rfl) ⟨rfl, hO.kp⟩
  · refine (W_false ((evOp hF (by kernel_rfl)).trans (congrArg Value.bool hc4)) ?_)
    have hvB := chk_okB (by assumption)
    have hv := dayB_V hvB
    have hc0 : chk d = 0 := by simpa using (by assumption : ((chk d) != 0) = false)
    have hbR := best_R hv hc0
    have hbl := hbR.len
    refine (W_skip ?_)
    refine W_seq (region_q {} TBok hF (F' := [(4, .bool false), (5, .int .i64 (bestN d)), (6, .bool true), (12, .int .i64 (bestN d))]) (rs := [.lds ⟨b1, 0, none⟩ [.int .i64 d.hours, .slice v.ha v.hn v.hc, .slice v.la v.ln v.lc, .slice v.wa v.wn v.wc], .call 22 #[.agg #[.int .i64 d.hours, .slice v.ha v.hn v.hc, .slice v.la v.ln v.lc, .slice v.wa v.wn v.wc], .slice p2 ((bestP d).length) ((bestP d).length)] (.tuple #[.int .i64 (bestN d), .bool true, .int .i64 0])]) [4, 5, 6, 12] (.cons (ldso hO.st 0 rfl 0 rfl) <| .cons (fun w hE => calls_cast (refIsPlan_calls d v (bestP d) p2 ((bestP d).length) ((bestP d).length) w (hd.upM (hO.st w hE).kp nom (Nat.le_refl _)) (rd_row (fun _ => rfl) (by decide) (hO.st w hE) 1 rfl (by omega))) (by rw [best_isPlan hv hc0])) <| .nil) (by kernel_rfl) fun a w hF hE => ?_)
    replace hO := hO.ext hE; clear hE
    refine W_seq (region_q { md := [(4, 1)] } TBok hF (F' := [(4, .bool true)]) (rs := [.dec ((bestN d) == (bestN d)) true, .call 20 #[] (.bool true)]) [4] (.cons (beq_self_eq_true _) <| .cons (fun w _ => works_calls w) <| .nil) (by kernel_rfl) fun a w hF hE => ?_)
    replace hO := hO.ext hE; clear hE
    refine W_ret ?_
    show bodyPostM (FW none) 0 _ _ _ Exit.ret a w
    exact leave_r TBok hF (.nil _) (vs := [.bool true]) (rs := []) .nil (by kernel_rfl) ⟨rfl, hO.kp⟩

set_option maxHeartbeats 4000000 in
set_option maxRecDepth 100000 in
theorem GutDeficits_calls (d : Day) (v : DV) (xs : List Int) (p : Option Addr) (n c : Nat) (w0 : World) (hd : DayR w0.heap.size w0 v d) (hx : Rd encI 1 w0.heap.size w0 p n xs) :
    Calls Try.prog 5 #[.agg #[.int .i64 d.hours, .slice v.ha v.hn v.hc, .slice v.la v.ln v.lc, .slice v.wa v.wn v.wc], .slice p n c] w0 (fun e w' => e = .returned (.bool true) ∧ Ext w0 w') := by
  have hl1 := hd.heat.len; have hl2 := hd.lots.len; have hl3 := hd.wks.len; have hs1 := hd.heat.size; have hs2 := hd.lots.size; have hs3 := hd.wks.size
  refine calls_of_W Try.func5 rfl (by kernel_rfl) (args := [.agg #[.int .i64 d.hours, .slice v.ha v.hn v.hc, .slice v.la v.ln v.lc, .slice v.wa v.wn v.wc], .slice p n c]) fun a hF => ?_
  replace hF : Fr 73 [] [(0, .agg #[.int .i64 d.hours, .slice v.ha v.hn v.hc, .slice v.la v.ln v.lc, .slice v.wa v.wn v.wc]), (1, .slice p n c)] a := hF
  have hO : Own w0 none_ [] w0 := Own.start w0 _
  refine W_seq (region_seq ?_)
  refine op_box (i := 0) (t := 26) (v := .agg #[.int .i64 d.hours, .slice v.ha v.hn v.hc, .slice v.la v.ln v.lc, .slice v.wa v.wn v.wc]) (d := 2) hF hO (by kernel_rfl) fun a w b1 hF hO _ => ?_
  replace hO : Own w0 none_ [cel b1 #[.int .i64 d.hours, .slice v.ha v.hn v.hc, .slice v.la v.ln v.lc, .slice v.wa v.wn v.wc] 26] w := hO
  refine seq_quiet {} TBok hF (F' := [(1, .slice p n c), (2, .pointer (some ⟨b1, 0, none⟩)), (4, .bool false)]) (rs := []) [1] [] [1, 2, 4] .nil (by kernel_rfl) fun a w hF hE => ?_
  replace hO := hO.ext hE; clear hE
  refine W_seq (region_q {} TBok hF (F' := [(1, .slice p n c), (2, .pointer (some ⟨b1, 0, none⟩)), (4, .bool false), (5, .int .i64 ((gutDeficit d xs).1)), (6, .int .i64 ((gutDeficit d xs).2))]) (rs := [.lds ⟨b1, 0, none⟩ [.int .i64 d.hours, .slice v.ha v.hn v.hc, .slice v.la v.ln v.lc, .slice v.wa v.wn v.wc], .call 25 #[.agg #[.int .i64 d.hours, .slice v.ha v.hn v.hc, .slice v.la v.ln v.lc, .slice v.wa v.wn v.wc], .slice p n c] (.tuple #[.int .i64 ((gutDeficit d xs).1), .int .i64 ((gutDeficit d xs).2)])]) [1, 2, 4, 5, 6] (.cons (ldso hO.st 0 rfl 0 rfl) <| .cons (fun w hE => Deficit_calls d v xs p n c w (hd.upM (hO.st w hE).kp nom (Nat.le_refl _)) (hx.upM (hO.st w hE).kp nom (Nat.le_refl _))) <| .nil) (by kernel_rfl) fun a w hF hE => ?_)
  replace hO := hO.ext hE; clear hE
  refine W_seq (region_q {} TBok hF (F' := [(2, .pointer (some ⟨b1, 0, none⟩)), (4, .bool false), (5, .int .i64 ((gutDeficit d xs).1)), (6, .int .i64 ((gutDeficit d xs).2)), (7, .int .i64 ((gutDeficit d xs).1)), (8, .int .i64 ((gutDeficit d xs).2))]) (rs := [.lds ⟨b1, 0, none⟩ [.int .i64 d.hours, .slice v.ha v.hn v.hc, .slice v.la v.ln v.lc, .slice v.wa v.wn v.wc], .call 26 #[.agg #[.int .i64 d.hours, .slice v.ha v.hn v.hc, .slice v.la v.ln v.lc, .slice v.wa v.wn v.wc], .slice p n c] (.tuple #[.int .i64 ((gutDeficit d xs).1), .int .i64 ((gutDeficit d xs).2)])]) [2, 4, 5, 6, 7, 8] (.cons (ldso hO.st 0 rfl 0 rfl) <| .cons (fun w hE => refDef_calls d v xs p n c w (hd.upM (hO.st w hE).kp nom (Nat.le_refl _)) (hx.upM (hO.st w hE).kp nom (Nat.le_refl _))) <| .nil) (by kernel_rfl) fun a w hF hE => ?_)
  replace hO := hO.ext hE; clear hE
  refine W_seq ?_
  refine W_seq (region_q { md := [(2, 1), (6, 1)] } TBok hF (F' := [(2, .pointer (some ⟨b1, 0, none⟩)), (4, .bool false), (6, .int .i64 ((gutDeficit d xs).2)), (8, .int .i64 ((gutDeficit d xs).2)), (32, .bool false)]) (rs := [.dec ((gutDeficit d xs).1 != (gutDeficit d xs).1) false, .dec ((gutDeficit d xs).2 != (gutDeficit d xs).2) false]) [2, 4, 6, 8, 32] (.cons (bne_self_eq_false _) <| .cons (bne_self_eq_false _) <| .nil) (by kernel_rfl) fun a w hF hE => ?_)
  replace hO := hO.ext hE; clear hE
  refine (W_false (evOp hF (by kernel_rfl)) ?_)
  refine (W_skip ?_)
  refine W_seq (region_seq ?_)
  refine seq_quiet {} TBok hF (F' := [(2, .pointer (some ⟨b1, 0, none⟩)), (4, .bool false), (6, .int .i64 ((gutDeficit d xs).2)), (8, .int .i64 ((gutDeficit d xs).2)), (34, .agg #[.int .i64 d.hours, .slice v.ha v.hn v.hc, .slice v.la v.ln v.lc, .slice v.wa v.wn v.wc])]) (rs := [.lds ⟨b1, 0, none⟩ [.int .i64 d.hours, .slice v.ha v.hn v.hc, .slice v.la v.ln v.lc, .slice v.wa v.wn v.wc]]) [0] [1, 2, 3, 4, 5, 6] [2, 4, 6, 8, 34] (.cons (ldso hO.st 0 rfl 0 rfl) <| .nil) (by kernel_rfl) fun a w hF hE => ?_
  replace hO := hO.ext hE; clear hE
  refine op_call (i := 1) (f := 27) (args := #[.agg #[.int .i64 d.hours, .slice v.ha v.hn v.hc, .slice v.la v.ln v.lc, .slice v.wa v.wn v.wc]]) (d := some 35) TBok (by kernel_rfl) hF (by kernel_rfl) (Proof_calls d v _ (hd.upM hO.kp nom (Nat.le_refl _))) fun e w hR => ?_
  obtain ⟨p2, n3, c4, he, hO2⟩ := hR
  refine ⟨_, he, fun a hF => ?_⟩
  replace hO := hO.joinE hO2; clear hO2 he
  replace hO : Own w0 none_ [cel b1 #[.int .i64 d.hours, .slice v.ha v.hn v.hc, .slice v.la v.ln v.lc, .slice v.wa v.wn v.wc] 26, rdR encI 1 p2 n3 (gutProof d)] w := hO
  refine seq_quiet {} TBok hF (F' := [(2, .pointer (some ⟨b1, 0, none⟩)), (4, .bool false), (6, .int .i64 (chk d)), (8, .int .i64 ((gutDeficit d xs).2)), (9, .slice p2 n3 c4)]) (rs := []) [2, 3, 4, 5, 6] [] [2, 4, 6, 8, 9] .nil (by kernel_rfl) fun a w hF hE => ?_
  replace hO := hO.ext hE; clear hE
  refine W_seq (region_seq ?_)
  refine seq_quiet {} TBok hF (F' := [(2, .pointer (some ⟨b1, 0, none⟩)), (4, .bool false), (6, .int .i64 (chk d)), (8, .int .i64 ((gutDeficit d xs).2)), (9, .slice p2 n3 c4), (39, .agg #[.int .i64 d.hours, .slice v.ha v.hn v.hc, .slice v.la v.ln v.lc, .slice v.wa v.wn v.wc])]) (rs := [.lds ⟨b1, 0, none⟩ [.int .i64 d.hours, .slice v.ha v.hn v.hc, .slice v.la v.ln v.lc, .slice v.wa v.wn v.wc]]) [0] [1, 2, 3, 4, 5, 6] [2, 4, 6, 8, 9, 39] (.cons (ldso hO.st 0 rfl 0 rfl) <| .nil) (by kernel_rfl) fun a w hF hE => ?_
  replace hO := hO.ext hE; clear hE
  refine op_call (i := 1) (f := 28) (args := #[.agg #[.int .i64 d.hours, .slice v.ha v.hn v.hc, .slice v.la v.ln v.lc, .slice v.wa v.wn v.wc]]) (d := some 40) TBok (by kernel_rfl) hF (by kernel_rfl) (refProof_calls d v _ (hd.upM hO.kp nom (Nat.le_refl _))) fun e w hR => ?_
  obtain ⟨p5, n6, c7, hq8, he, hO2⟩ := hR
  refine ⟨_, he, fun a hF => ?_⟩
  replace hO := hO.joinE hO2; clear hO2 he
  replace hO : Own w0 none_ [cel b1 #[.int .i64 d.hours, .slice v.ha v.hn v.hc, .slice v.la v.ln v.lc, .slice v.wa v.wn v.wc] 26, rdR encI 1 p2 n3 (gutProof d), rowR 3 1 (.slice p5 n6 c7) n6 ((gutProof d).flatMap encI)] w := hO
  refine seq_quiet {} TBok hF (F' := [(2, .pointer (some ⟨b1, 0, none⟩)), (4, .bool false), (6, .int .i64 (chk d)), (8, .int .i64 (chk d)), (9, .slice p2 n3 c4), (10, .slice p5 n6 c7)]) (rs := []) [2, 3, 4, 5, 6] [] [2, 4, 6, 8, 9, 10] .nil (by kernel_rfl) fun a w hF hE => ?_
  replace hO := hO.ext hE; clear hE
  refine W_seq ?_
  refine W_seq (region_q { md := [(7, 1)] } TBok hF (F' := [(2, .pointer (some ⟨b1, 0, none⟩)), (4, .bool false), (6, .int .i64 (chk d)), (8, .int .i64 (chk d)), (51, .bool false)]) (rs := [.call 29 #[.slice p2 n3 c4, .slice p5 n6 c7] (.bool true), .dec ((chk d) != (chk d)) false]) [2, 4, 6, 8, 51] (.cons (fun w hE => calls_castB (Same_calls (gutProof d) (gutProof d) p2 p5 n3 n6 c4 c7 w ((hO.st w hE).get 1 rfl) (rd_row (fun _ => rfl) (by decide) (hO.st w hE) 2 rfl (by omega))) (decide_eq_true rfl)) <| .cons (bne_self_eq_false _) <| .nil) (by kernel_rfl) fun a w hF hE => ?_)
  replace hO := hO.ext hE; clear hE
  refine (W_false (evOp hF (by kernel_rfl)) ?_)
  refine (W_skip ?_)
  refine W_seq (region_seq ?_)
  refine seq_quiet {} TBok hF (F' := [(2, .pointer (some ⟨b1, 0, none⟩)), (4, .bool false), (6, .int .i64 (chk d)), (8, .int .i64 (chk d)), (55, .agg #[.int .i64 ((gutTold d).1), .int .i64 ((gutTold d).2.1)]), (56, .int .i64 ((gutTold d).2.2))]) (rs := [.lds ⟨b1, 0, none⟩ [.int .i64 d.hours, .slice v.ha v.hn v.hc, .slice v.la v.ln v.lc, .slice v.wa v.wn v.wc], .call 30 #[.agg #[.int .i64 d.hours, .slice v.ha v.hn v.hc, .slice v.la v.ln v.lc, .slice v.wa v.wn v.wc]] (.tuple #[.agg #[.int .i64 ((gutTold d).1), .int .i64 ((gutTold d).2.1)], .int .i64 ((gutTold d).2.2)])]) [0, 1, 2, 3, 4] [5, 6, 7] [2, 4, 6, 8, 55, 56] (.cons (ldso hO.st 0 rfl 0 rfl) <| .cons (fun w hE => Told_calls d v w (hd.upM (hO.st w hE).kp nom (Nat.le_refl _))) <| .nil) (by kernel_rfl) fun a w hF hE => ?_
  replace hO := hO.ext hE; clear hE
  refine op_alloc (i := 5) (t := 47) (d := 11) (z := .agg #[.int .i64 0, .int .i64 0]) hF hO (by kernel_rfl) (by kernel_rfl) fun a w b9 hF hO _ => ?_
  replace hO : Own w0 none_ [cel b1 #[.int .i64 d.hours, .slice v.ha v.hn v.hc, .slice v.la v.ln v.lc, .slice v.wa v.wn v.wc] 26, rdR encI 1 p2 n3 (gutProof d), rowR 3 1 (.slice p5 n6 c7) n6 ((gutProof d).flatMap encI), cel b9 #[.int .i64 0, .int .i64 0] 47] w := hO
  refine op_store (i := 6) (t := 47) (p := ⟨b9, 0, none⟩) (v := .agg #[.int .i64 ((gutTold d).1), .int .i64 ((gutTold d).2.1)]) (off := 0) (sz := 2) (cs' := #[.int .i64 ((gutTold d).1), .int .i64 ((gutTold d).2.1)]) hF hO (by kernel_rfl) 3 rfl rfl (by kernel_rfl) (by kernel_rfl) (by kernel_rfl) fun a w hF hO _ => ?_
  replace hO : Own w0 none_ [cel b1 #[.int .i64 d.hours, .slice v.ha v.hn v.hc, .slice v.la v.ln v.lc, .slice v.wa v.wn v.wc] 26, rdR encI 1 p2 n3 (gutProof d), rowR 3 1 (.slice p5 n6 c7) n6 ((gutProof d).flatMap encI), cel b9 #[.int .i64 ((gutTold d).1), .int .i64 ((gutTold d).2.1)] 47] w := hO
  refine seq_quiet {} TBok hF (F' := [(2, .pointer (some ⟨b1, 0, none⟩)), (4, .bool false), (6, .int .i64 ((gutTold d).2.2)), (8, .int .i64 (chk d)), (11, .pointer (some ⟨b9, 0, none⟩))]) (rs := []) [7] [] [2, 4, 6, 8, 11] .nil (by kernel_rfl) fun a w hF hE => ?_
  replace hO := hO.ext hE; clear hE
  refine W_seq (region_seq ?_)
  refine seq_quiet {} TBok hF (F' := [(4, .bool false), (6, .int .i64 ((gutTold d).2.2)), (8, .int .i64 (chk d)), (11, .pointer (some ⟨b9, 0, none⟩)), (60, .agg #[.int .i64 ((gutTold d).1), .int .i64 ((gutTold d).2.1)]), (61, .int .i64 ((gutTold d).2.2))]) (rs := [.lds ⟨b1, 0, none⟩ [.int .i64 d.hours, .slice v.ha v.hn v.hc, .slice v.la v.ln v.lc, .slice v.wa v.wn v.wc], .call 31 #[.agg #[.int .i64 d.hours, .slice v.ha v.hn v.hc, .slice v.la v.ln v.lc, .slice v.wa v.wn v.wc]] (.tuple #[.agg #[.int .i64 ((gutTold d).1), .int .i64 ((gutTold d).2.1)], .int .i64 ((gutTold d).2.2)])]) [0, 1, 2, 3, 4] [5, 6, 7] [4, 6, 8, 11, 60, 61] (.cons (ldso hO.st 0 rfl 0 rfl) <| .cons (fun w hE => refTold_calls d v w (hd.upM (hO.st w hE).kp nom (Nat.le_refl _))) <| .nil) (by kernel_rfl) fun a w hF hE => ?_
  replace hO := hO.ext hE; clear hE
  refine op_alloc (i := 5) (t := 47) (d := 12) (z := .agg #[.int .i64 0, .int .i64 0]) hF hO (by kernel_rfl) (by kernel_rfl) fun a w b10 hF hO _ => ?_
  replace hO : Own w0 none_ [cel b1 #[.int .i64 d.hours, .slice v.ha v.hn v.hc, .slice v.la v.ln v.lc, .slice v.wa v.wn v.wc] 26, rdR encI 1 p2 n3 (gutProof d), rowR 3 1 (.slice p5 n6 c7) n6 ((gutProof d).flatMap encI), cel b9 #[.int .i64 ((gutTold d).1), .int .i64 ((gutTold d).2.1)] 47, cel b10 #[.int .i64 0, .int .i64 0] 47] w := hO
  refine op_store (i := 6) (t := 47) (p := ⟨b10, 0, none⟩) (v := .agg #[.int .i64 ((gutTold d).1), .int .i64 ((gutTold d).2.1)]) (off := 0) (sz := 2) (cs' := #[.int .i64 ((gutTold d).1), .int .i64 ((gutTold d).2.1)]) hF hO (by kernel_rfl) 4 rfl rfl (by kernel_rfl) (by kernel_rfl) (by kernel_rfl) fun a w hF hO _ => ?_
  replace hO : Own w0 none_ [cel b1 #[.int .i64 d.hours, .slice v.ha v.hn v.hc, .slice v.la v.ln v.lc, .slice v.wa v.wn v.wc] 26, rdR encI 1 p2 n3 (gutProof d), rowR 3 1 (.slice p5 n6 c7) n6 ((gutProof d).flatMap encI), cel b9 #[.int .i64 ((gutTold d).1), .int .i64 ((gutTold d).2.1)] 47, cel b10 #[.int .i64 ((gutTold d).1), .int .i64 ((gutTold d).2.1)] 47] w := hO
  refine seq_quiet {} TBok hF (F' := [(4, .bool false), (6, .int .i64 ((gutTold d).2.2)), (8, .int .i64 ((gutTold d).2.2)), (11, .pointer (some ⟨b9, 0, none⟩)), (12, .pointer (some ⟨b10, 0, none⟩))]) (rs := []) [7] [] [4, 6, 8, 11, 12] .nil (by kernel_rfl) fun a w hF hE => ?_
  replace hO := hO.ext hE; clear hE
  refine W_seq (region_q { md := [(2, 3), (6, 1)] } TBok hF (F' := [(4, .bool true)]) (rs := [.lds ⟨b9, 0, none⟩ [.int .i64 ((gutTold d).1), .int .i64 ((gutTold d).2.1)], .lds ⟨b10, 0, none⟩ [.int .i64 ((gutTold d).1), .int .i64 ((gutTold d).2.1)], .raw (do eqGuard .eql 47 (.tmp 62) (.tmp 63) (.agg #[.int .i64 ((gutTold d).1), .int .i64 ((gutTold d).2.1)]) (.agg #[.int .i64 ((gutTold d).1), .int .i64 ((gutTold d).2.1)]); Go.binOp .eql 47 (.agg #[.int .i64 ((gutTold d).1), .int .i64 ((gutTold d).2.1)]) (.agg #[.int .i64 ((gutTold d).1), .int .i64 ((gutTold d).2.1)])) (.bool true), .dec ((gutTold d).2.2 == (gutTold d).2.2) true, .call 20 #[] (.bool true)]) [4] (.cons (ldso hO.st 3 rfl 0 rfl) <| .cons (ldso hO.st 4 rfl 0 rfl) <| .cons (raw_eqPs pairT47 pairG47 ((gutTold d).1, (gutTold d).2.1)) <| .cons (beq_self_eq_true _) <| .cons (fun w _ => works_calls w) <| .nil) (by kernel_rfl) fun a w hF hE => ?_)
  replace hO := hO.ext hE; clear hE
  refine W_ret ?_
  show bodyPostM (FW none) 0 _ _ _ Exit.ret a w
  exact leave_r TBok hF (.nil _) (vs := [.bool true]) (rs := []) .nil (by kernel_rfl) ⟨rfl, hO.kp⟩

set_option maxHeartbeats 4000000 in
set_option maxRecDepth 100000 in
theorem GutHelped_calls (d : Day) (v : DV) (l : List Wk) (lp : Option Addr) (ln lc : Nat) (w0 : World) (hd : DayR w0.heap.size w0 v d) (hls : Rd encWk 4 w0.heap.size w0 lp ln l) :
    Calls Try.prog 6 #[.agg #[.int .i64 d.hours, .slice v.ha v.hn v.hc, .slice v.la v.ln v.lc, .slice v.wa v.wn v.wc], .slice lp ln lc] w0 (fun e w' => e = .returned (.bool true) ∧ Ext w0 w') := by
  have hl1 := hd.heat.len; have hl2 := hd.lots.len; have hl3 := hd.wks.len; have hs1 := hd.heat.size; have hs2 := hd.lots.size; have hs3 := hd.wks.size
  refine calls_of_W Try.func6 rfl (by kernel_rfl) (args := [.agg #[.int .i64 d.hours, .slice v.ha v.hn v.hc, .slice v.la v.ln v.lc, .slice v.wa v.wn v.wc], .slice lp ln lc]) fun a hF => ?_
  replace hF : Fr 41 [] [(0, .agg #[.int .i64 d.hours, .slice v.ha v.hn v.hc, .slice v.la v.ln v.lc, .slice v.wa v.wn v.wc]), (1, .slice lp ln lc)] a := hF
  have hO : Own w0 none_ [] w0 := Own.start w0 _
  refine W_seq (region_seq ?_)
  refine op_box (i := 0) (t := 26) (v := .agg #[.int .i64 d.hours, .slice v.ha v.hn v.hc, .slice v.la v.ln v.lc, .slice v.wa v.wn v.wc]) (d := 2) hF hO (by kernel_rfl) fun a w b1 hF hO _ => ?_
  replace hO : Own w0 none_ [cel b1 #[.int .i64 d.hours, .slice v.ha v.hn v.hc, .slice v.la v.ln v.lc, .slice v.wa v.wn v.wc] 26] w := hO
  refine seq_quiet {} TBok hF (F' := [(1, .slice lp ln lc), (2, .pointer (some ⟨b1, 0, none⟩)), (4, .bool false)]) (rs := []) [1] [] [1, 2, 4] .nil (by kernel_rfl) fun a w hF hE => ?_
  replace hO := hO.ext hE; clear hE
  refine W_seq (region_q {} TBok hF (F' := [(1, .slice lp ln lc), (2, .pointer (some ⟨b1, 0, none⟩)), (4, .bool false), (5, .int .i64 ((gutHelp d l).1)), (6, .int .i64 ((gutHelp d l).2.1)), (7, .int .i64 ((gutHelp d l).2.2))]) (rs := [.lds ⟨b1, 0, none⟩ [.int .i64 d.hours, .slice v.ha v.hn v.hc, .slice v.la v.ln v.lc, .slice v.wa v.wn v.wc], .call 32 #[.agg #[.int .i64 d.hours, .slice v.ha v.hn v.hc, .slice v.la v.ln v.lc, .slice v.wa v.wn v.wc], .slice lp ln lc] (.tuple #[.int .i64 ((gutHelp d l).1), .int .i64 ((gutHelp d l).2.1), .int .i64 ((gutHelp d l).2.2)])]) [1, 2, 4, 5, 6, 7] (.cons (ldso hO.st 0 rfl 0 rfl) <| .cons (fun w hE => Help_calls d v l lp ln lc w (hd.upM (hO.st w hE).kp nom (Nat.le_refl _)) (hls.upM (hO.st w hE).kp nom (Nat.le_refl _))) <| .nil) (by kernel_rfl) fun a w hF hE => ?_)
  replace hO := hO.ext hE; clear hE
  refine W_seq (region_q {} TBok hF (F' := [(4, .bool false), (5, .int .i64 ((gutHelp d l).1)), (6, .int .i64 ((gutHelp d l).2.1)), (7, .int .i64 ((gutHelp d l).2.2)), (8, .int .i64 ((gutHelp d l).1)), (9, .int .i64 ((gutHelp d l).2.1)), (10, .int .i64 ((gutHelp d l).2.2))]) (rs := [.lds ⟨b1, 0, none⟩ [.int .i64 d.hours, .slice v.ha v.hn v.hc, .slice v.la v.ln v.lc, .slice v.wa v.wn v.wc], .call 33 #[.agg #[.int .i64 d.hours, .slice v.ha v.hn v.hc, .slice v.la v.ln v.lc, .slice v.wa v.wn v.wc], .slice lp ln lc] (.tuple #[.int .i64 ((gutHelp d l).1), .int .i64 ((gutHelp d l).2.1), .int .i64 ((gutHelp d l).2.2)])]) [4, 5, 6, 7, 8, 9, 10] (.cons (ldso hO.st 0 rfl 0 rfl) <| .cons (fun w hE => refHelp_calls d v l lp ln lc w (hd.upM (hO.st w hE).kp nom (Nat.le_refl _)) (hls.upM (hO.st w hE).kp nom (Nat.le_refl _))) <| .nil) (by kernel_rfl) fun a w hF hE => ?_)
  replace hO := hO.ext hE; clear hE
  refine W_seq (region_q { md := [(2, 1), (6, 1), (11, 1)] } TBok hF (F' := [(4, .bool true)]) (rs := [.dec ((gutHelp d l).1 == (gutHelp d l).1) true, .dec ((gutHelp d l).2.1 == (gutHelp d l).2.1) true, .dec ((gutHelp d l).2.2 == (gutHelp d l).2.2) true, .call 20 #[] (.bool true)]) [4] (.cons (beq_self_eq_true _) <| .cons (beq_self_eq_true _) <| .cons (beq_self_eq_true _) <| .cons (fun w _ => works_calls w) <| .nil) (by kernel_rfl) fun a w hF hE => ?_)
  replace hO := hO.ext hE; clear hE
  refine W_ret ?_
  show bodyPostM (FW none) 0 _ _ _ Exit.ret a w
  exact leave_r TBok hF (.nil _) (vs := [.bool true]) (rs := []) .nil (by kernel_rfl) ⟨rfl, hO.kp⟩

end Go.Proofs.Ytioimdegbdkppaa.DK
