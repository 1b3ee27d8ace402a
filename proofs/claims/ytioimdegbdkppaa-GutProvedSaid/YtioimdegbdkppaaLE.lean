/- The law GutProved, walked. Printed by my gen.py out of gut/y.py. -/
import Derived.Test.YtioimdegbdkppaaLC
import Derived.Test.YtioimdegbdkppaaH13
import Derived.Test.YtioimdegbdkppaaKG
namespace Go.Proofs.Ytioimdegbdkppaa.DK
open Go Go.Proofs
set_option linter.unusedVariables false

set_option maxHeartbeats 4000000 in
set_option maxRecDepth 100000 in
theorem GutProved_calls (d : Day) (v : DV) (set : Int) (w0 : World) (hd : DayR w0.heap.size w0 v d) :
    Calls Try.prog 9 #[.agg #[.int .i64 d.hours, .slice v.ha v.hn v.hc, .slice v.la v.ln v.lc, .slice v.wa v.wn v.wc], .int .i64 set] w0 (fun e w' => e = .returned (.bool true) ∧ Ext w0 w') := by
  have hl1 := hd.heat.len; have hl2 := hd.lots.len; have hl3 := hd.wks.len; have hs1 := hd.heat.size; have hs2 := hd.lots.size; have hs3 := hd.wks.size
  refine calls_of_W Try.func9 rfl (by kernel_rfl) (args := [.agg #[.int .i64 d.hours, .slice v.ha v.hn v.hc, .slice v.la v.ln v.lc, .slice v.wa v.wn v.wc], .int .i64 set]) fun a hF => ?_
  replace hF : Fr 176 [] [(0, .agg #[.int .i64 d.hours, .slice v.ha v.hn v.hc, .slice v.la v.ln v.lc, .slice v.wa v.wn v.wc]), (1, .int .i64 set)] a := hF
  have hO : Own w0 none_ [] w0 := Own.start w0 _
  refine W_seq (region_seq ?_)
  refine op_box (i := 0) (t := 26) (v := .agg #[.int .i64 d.hours, .slice v.ha v.hn v.hc, .slice v.la v.ln v.lc, .slice v.wa v.wn v.wc]) (d := 2) hF hO (by kernel_rfl) fun a w b1 hF hO _ => ?_
  replace hO : Own w0 none_ [cel b1 #[.int .i64 d.hours, .slice v.ha v.hn v.hc, .slice v.la v.ln v.lc, .slice v.wa v.wn v.wc] 26] w := hO
  refine seq_quiet {} TBok hF (F' := [(1, .int .i64 set), (2, .pointer (some ⟨b1, 0, none⟩)), (4, .bool false)]) (rs := []) [1] [] [1, 2, 4] .nil (by kernel_rfl) fun a w hF hE => ?_
  replace hO := hO.ext hE; clear hE
  refine W_seq (region_seq ?_)
  refine seq_quiet {} TBok hF (F' := [(1, .int .i64 set), (2, .pointer (some ⟨b1, 0, none⟩)), (4, .bool false), (22, .agg #[.int .i64 d.hours, .slice v.ha v.hn v.hc, .slice v.la v.ln v.lc, .slice v.wa v.wn v.wc])]) (rs := [.lds ⟨b1, 0, none⟩ [.int .i64 d.hours, .slice v.ha v.hn v.hc, .slice v.la v.ln v.lc, .slice v.wa v.wn v.wc]]) [0] [1, 2, 3, 4, 5, 6] [1, 2, 4, 22] (.cons (ldso hO.st 0 rfl 0 rfl) <| .nil) (by kernel_rfl) fun a w hF hE => ?_
  replace hO := hO.ext hE; clear hE
  refine op_call (i := 1) (f := 27) (args := #[.agg #[.int .i64 d.hours, .slice v.ha v.hn v.hc, .slice v.la v.ln v.lc, .slice v.wa v.wn v.wc]]) (d := some 23) TBok (by kernel_rfl) hF (by kernel_rfl) (Proof_calls d v _ (hd.upM hO.kp nom (Nat.le_refl _))) fun e w hR => ?_
  obtain ⟨p2, n3, c4, he, hO2⟩ := hR
  refine ⟨_, he, fun a hF => ?_⟩
  replace hO := hO.joinE hO2; clear hO2 he
  replace hO : Own w0 none_ [cel b1 #[.int .i64 d.hours, .slice v.ha v.hn v.hc, .slice v.la v.ln v.lc, .slice v.wa v.wn v.wc] 26, rdR encI 1 p2 n3 (gutProof d)] w := hO
  refine seq_quiet {} TBok hF (F' := [(1, .int .i64 set), (2, .pointer (some ⟨b1, 0, none⟩)), (4, .bool false), (5, .slice p2 n3 c4), (6, .int .i64 (chk d))]) (rs := []) [2, 3, 4, 5, 6] [] [1, 2, 4, 5, 6] .nil (by kernel_rfl) fun a w hF hE => ?_
  replace hO := hO.ext hE; clear hE
  refine W_seq (region_seq ?_)
  refine seq_quiet {} TBok hF (F' := [(1, .int .i64 set), (2, .pointer (some ⟨b1, 0, none⟩)), (4, .bool false), (5, .slice p2 n3 c4), (6, .int .i64 (chk d)), (27, .agg #[.int .i64 d.hours, .slice v.ha v.hn v.hc, .slice v.la v.ln v.lc, .slice v.wa v.wn v.wc])]) (rs := [.lds ⟨b1, 0, none⟩ [.int .i64 d.hours, .slice v.ha v.hn v.hc, .slice v.la v.ln v.lc, .slice v.wa v.wn v.wc]]) [0] [1, 2, 3, 4, 5, 6, 7, 8] [1, 2, 4, 5, 6, 27] (.cons (ldso hO.st 0 rfl 0 rfl) <| .nil) (by kernel_rfl) fun a w hF hE => ?_
  replace hO := hO.ext hE; clear hE
  refine op_call (i := 1) (f := 23) (args := #[.agg #[.int .i64 d.hours, .slice v.ha v.hn v.hc, .slice v.la v.ln v.lc, .slice v.wa v.wn v.wc]]) (d := some 28) TBok (by kernel_rfl) hF (by kernel_rfl) (Best_calls d v _ (hd.upM hO.kp nom (Nat.le_refl _))) fun e w hR => ?_
  obtain ⟨p5, c6, he, hO2⟩ := hR
  refine ⟨_, he, fun a hF => ?_⟩
  replace hO := hO.joinE hO2; clear hO2 he
  replace hO : Own w0 none_ [cel b1 #[.int .i64 d.hours, .slice v.ha v.hn v.hc, .slice v.la v.ln v.lc, .slice v.wa v.wn v.wc] 26, rdR encI 1 p2 n3 (gutProof d), rowR 56 4 (.slice p5 ((bestP d).length) c6) ((bestP d).length) ((bestP d).flatMap encTk)] w := hO
  refine seq_quiet {} TBok hF (F' := [(1, .int .i64 set), (2, .pointer (some ⟨b1, 0, none⟩)), (4, .bool false), (5, .slice p2 n3 c4), (6, .int .i64 (chk d)), (8, .int .i64 (bestN d)), (9, .int .i64 (chk d))]) (rs := []) [2, 3, 4, 5, 6, 7, 8] [] [1, 2, 4, 5, 6, 8, 9] .nil (by kernel_rfl) fun a w hF hE => ?_
  replace hO := hO.ext hE; clear hE
  refine W_seq ?_
  refine W_seq (region_q { sy := [2] } TBok hF (F' := [(1, .int .i64 set), (2, .pointer (some ⟨b1, 0, none⟩)), (4, .bool false), (5, .slice p2 n3 c4), (6, .int .i64 (chk d)), (8, .int .i64 (bestN d)), (9, .int .i64 (chk d)), (38, .bool (cond ((chk d) != 0) true false))]) (rs := [.und (!((chk d) != 0)) (.lds ⟨b1, 0, none⟩ [.int .i64 d.hours, .slice v.ha v.hn v.hc, .slice v.la v.ln v.lc, .slice v.wa v.wn v.wc]), .und (!((chk d) != 0)) (.call 34 #[.agg #[.int .i64 d.hours, .slice v.ha v.hn v.hc, .slice v.la v.ln v.lc, .slice v.wa v.wn v.wc]] (.bool true))]) [1, 2, 4, 5, 6, 8, 9, 38] (.cons (fun hg => (ldso hO.st 0 rfl 0 rfl)) <| .cons (fun hg => (fun w hE => sound_calls d v w (hd.upM (hO.st w hE).kp nom (Nat.le_refl _)) (by simpa using hg))) <| .nil) (by kernel_rfl) fun a w hF hE => ?_)
  replace hO := hO.ext hE; clear hE
  rcases Bool.eq_false_or_eq_true (cond ((chk d) != 0) true false) with hc7 | hc7
  · refine (W_true ((evOp hF (by kernel_rfl)).trans (congrArg Value.bool hc7)) ?_)
    have hck : ((chk d) != 0) = true := (cond_tf _).symm.trans (by assumption)
    have hbp : bestP d = [] := by rw [bestP, if_pos (by simpa using hck)]
    have hbn : ((bestN d) == 0) = true := by rw [bestN, if_pos (by simpa using hck)]; rfl
    have hbl : (((bestP d).length : Int) == 0) = true := by rw [hbp]; rfl
    have hpr : gutProof d = [] := by rw [gutProof, if_pos (by simpa using hck)]
    have hpn : (0 : Nat) = _ := (congrArg List.length hpr).symm.trans (hO.get 1 rfl).len
    refine W_seq (region_q { md := [(1, 1), (5, 1), (10, 1)] } TBok hF (F' := [(1, .int .i64 set), (2, .pointer (some ⟨b1, 0, none⟩)), (4, .bool true), (5, .slice p2 n3 c4), (8, .int .i64 (bestN d)), (9, .int .i64 (chk d))]) (rs := [.dec ((chk d) != 0) true, .dec ((chk d) == (chk d)) true, .dec ((n3 : Int) == 0) true, .call 20 #[] (.bool true)]) [1, 2, 4, 5, 8, 9] (.cons hck <| .cons (beq_self_eq_true _) <| .cons (by rw [← hpn]; rfl) <| .cons (fun w _ => works_calls w) <| .nil) (by kernel_rfl) fun a w hF hE => ?_)
    replace hO := hO.ext hE; clear hE
    refine W_ret ?_
    show bodyPostM (FW none) 0 _ _ _ Exit.ret a w
    exact leave_r TBok hF (.nil _) (vs := [.bool true]) (rs := []) .nil (by kernel_rfl) ⟨rfl, hO.kp⟩
  · refine (W_false ((evOp hF (by kernel_rfl)).trans (congrArg Value.bool hc7)) ?_)
    have hc0 : chk d = 0 := by have h_ := (cond_tf _).symm.trans (by assumption : (cond ((chk d) != 0) true false) = false); simpa using h_
    have hvB := chk_okB (d := d) (by simp [hc0])
    have hv := dayB_V hvB
    have hv1 := day_ok hv
    have hbR := best_R hv hc0
    have hbl := hbR.len
    have hcz : ((chk d) != 0) = false := by rw [hc0]; rfl
    have hpn := (hO.get 1 rfl).len
    have hg := proof_great hc0 hv
    have hprl := ris_len hg.ris
    have hmr : risF d.lots.length (-1) (memL v.ln (set % (2 ^ v.ln))) = true := by rw [hl2]; exact memL_ris _ _
    have hmx := hg.max _ hmr
    have hml := memL_len v.ln (set % (2 ^ v.ln))
    have hbb := best_bd hv hc0
    have hp1 := pow_cast v.ln; have hp2 := pow_le8 (show v.ln ≤ 8 by omega)
    refine (W_skip ?_)
    refine W_seq (region_q {} TBok hF (F' := [(1, .int .i64 set), (2, .pointer (some ⟨b1, 0, none⟩)), (4, .bool false), (5, .slice p2 n3 c4), (8, .int .i64 (bestN d)), (9, .int .i64 (chk d)), (10, .int .i64 (bestN d)), (11, .int .i64 0)]) (rs := [.lds ⟨b1, 0, none⟩ [.int .i64 d.hours, .slice v.ha v.hn v.hc, .slice v.la v.ln v.lc, .slice v.wa v.wn v.wc], .call 25 #[.agg #[.int .i64 d.hours, .slice v.ha v.hn v.hc, .slice v.la v.ln v.lc, .slice v.wa v.wn v.wc], .slice p2 n3 c4] (.tuple #[.int .i64 (bestN d), .int .i64 0])]) [1, 2, 4, 5, 8, 9, 10, 11] (.cons (ldso hO.st 0 rfl 0 rfl) <| .cons (fun w hE => calls_cast (Deficit_calls d v (gutProof d) p2 n3 c4 w (hd.upM (hO.st w hE).kp nom (Nat.le_refl _)) ((hO.st w hE).get 1 rfl)) (by rw [deficit_eq hc0 hg.ris, hg.val])) <| .nil) (by kernel_rfl) fun a w hF hE => ?_)
    replace hO := hO.ext hE; clear hE
    refine W_seq (draw_start (R := none_) mixed [] 11 (by kernel_rfl) fun w hS => ?_)
    replace hO := hO.ext hS
    refine draw_q { md := [(4, 3)] } TBok hF hS (F' := [(2, .pointer (some ⟨b1, 0, none⟩)), (4, .bool false), (5, .slice p2 n3 c4), (8, .int .i64 (bestN d)), (9, .int .i64 (chk d)), (10, .int .i64 (bestN d)), (11, .int .i64 0), (65, .int .i64 (set % (2 ^ v.ln))), (68, .int .i64 (v.ln : Int))]) (rs := [.ld ⟨b1, 2, none⟩ (.slice v.la v.ln v.lc), .raw (do eqGuard .shl 3 (.const (.int .i64 1)) (.tmp 63) (.int .i64 1) (.int .i64 (v.ln : Int)); Go.binOp .shl 3 (.int .i64 1) (.int .i64 (v.ln : Int))) (.int .i64 (2 ^ v.ln)), .call 40 #[.int .i64 set, .int .i64 (2 ^ v.ln)] (.int .i64 (set % (2 ^ v.ln))), .ld ⟨b1, 2, none⟩ (.slice v.la v.ln v.lc)]) [0, 1, 2, 3, 4, 5, 6, 7, 8] 11 2 (by kernel_rfl) #[true, true, true, true, true, true, true, true, true, false, false] [2, 4, 5, 8, 9, 10, 11, 65, 68] (.cons (ldo hO.st 0 rfl 2 rfl) <| .cons (raw_shl (by omega)) <| .cons (fun w hE => Mod_calls set (2 ^ v.ln) w (by omega) (by omega)) <| .cons (ldo hO.st 0 rfl 2 rfl) <| .nil) (by kernel_rfl) (by kernel_rfl) fun a hF => ?_
    replace hS := Kp.refl none_ w
    refine any_pick (rs := [9]) (by kernel_rfl) (by simp) fun w hE => all1 ?_
    replace hO := hO.ext hE; replace hS := hS.trans (Ext.kp hE)
    refine op_call (i := 9) (f := 39) (args := #[.int .i64 (set % (2 ^ v.ln)), .int .i64 (v.ln : Int)]) (d := some 69) TBok (by kernel_rfl) hF (by kernel_rfl) (Members_calls (set % (2 ^ v.ln)) v.ln _ (by omega)) fun e w hR => ?_
    obtain ⟨p8, q9, c10, hq11, he, hO2⟩ := hR
    refine ⟨_, he, fun a hF => ⟨.inr (hS.trans (Ext.kp hO2.kp)), ?_⟩⟩
    replace hS := hS.trans (Ext.kp hO2.kp)
    replace hO := hO.joinE hO2; clear hO2 he
    replace hO : Own w0 none_ [cel b1 #[.int .i64 d.hours, .slice v.ha v.hn v.hc, .slice v.la v.ln v.lc, .slice v.wa v.wn v.wc] 26, rdR encI 1 p2 n3 (gutProof d), rowR 56 4 (.slice p5 ((bestP d).length) c6) ((bestP d).length) ((bestP d).flatMap encTk), rowR 3 1 (.slice p8 q9 c10) q9 ((memL v.ln (set % (2 ^ v.ln))).flatMap encI)] w := hO
    have hnew9 := hq11
    refine draw_q0 {} TBok hF hS (F' := [(2, .pointer (some ⟨b1, 0, none⟩)), (4, .bool false), (5, .slice p2 n3 c4), (8, .int .i64 (bestN d)), (9, .int .i64 (chk d)), (10, .int .i64 (bestN d)), (11, .int .i64 0), (12, .slice p8 q9 c10)]) [10] 1 0 (by kernel_rfl) #[true, true, true, true, true, true, true, true, true, true, true] [2, 4, 5, 8, 9, 10, 11, 12] (by kernel_rfl) (by kernel_rfl) fun a hF => ?_
    refine any_done (by kernel_rfl) (fun w hE => ?_) _
    replace hO := hO.ext hE
    replace hF := hF.sel [2, 4, 5, 8, 9, 10, 11, 12]
    replace hF : Fr 176 [] [(2, .pointer (some ⟨b1, 0, none⟩)), (4, .bool false), (5, .slice p2 n3 c4), (8, .int .i64 (bestN d)), (9, .int .i64 (chk d)), (10, .int .i64 (bestN d)), (11, .int .i64 0), (12, .slice p8 q9 c10)] a := hF
    refine W_seq (region_q {} TBok hF (F' := [(2, .pointer (some ⟨b1, 0, none⟩)), (4, .bool false), (5, .slice p2 n3 c4), (8, .int .i64 (bestN d)), (9, .int .i64 (chk d)), (10, .int .i64 (bestN d)), (11, .int .i64 0), (12, .slice p8 q9 c10), (13, .int .i64 (defV d (hot d) (memL v.ln (set % (2 ^ v.ln))))), (14, .int .i64 0)]) (rs := [.lds ⟨b1, 0, none⟩ [.int .i64 d.hours, .slice v.ha v.hn v.hc, .slice v.la v.ln v.lc, .slice v.wa v.wn v.wc], .call 25 #[.agg #[.int .i64 d.hours, .slice v.ha v.hn v.hc, .slice v.la v.ln v.lc, .slice v.wa v.wn v.wc], .slice p8 q9 c10] (.tuple #[.int .i64 (defV d (hot d) (memL v.ln (set % (2 ^ v.ln)))), .int .i64 0])]) [2, 4, 5, 8, 9, 10, 11, 12, 13, 14] (.cons (ldso hO.st 0 rfl 0 rfl) <| .cons (fun w hE => calls_cast (Deficit_calls d v (memL v.ln (set % (2 ^ v.ln))) p8 q9 c10 w (hd.upM (hO.st w hE).kp nom (Nat.le_refl _)) (rd_row (fun _ => rfl) (by decide) (hO.st w hE) 3 rfl (by omega))) (by rw [deficit_eq hc0 hmr])) <| .nil) (by kernel_rfl) fun a w hF hE => ?_)
    replace hO := hO.ext hE; clear hE
    refine W_seq ?_
    refine W_seq (region_q { md := [(1, 1), (21, 1), (26, 1)] } TBok hF (F' := [(2, .pointer (some ⟨b1, 0, none⟩)), (4, .bool false), (5, .slice p2 n3 c4), (8, .int .i64 (bestN d)), (10, .int .i64 (bestN d)), (12, .slice p8 q9 c10), (13, .int .i64 (defV d (hot d) (memL v.ln (set % (2 ^ v.ln))))), (103, .bool false)]) (rs := [.dec ((chk d) != 0) false, .ld ⟨b1, 2, none⟩ (.slice v.la v.ln v.lc), .call 41 #[.slice p2 n3 c4, .int .i64 (v.ln : Int)] (.bool true), .dec ((bestN d) != (bestN d)) false, .dec (decide ((defV d (hot d) (memL v.ln (set % (2 ^ v.ln)))) > (bestN d))) false]) [2, 4, 5, 8, 10, 12, 13, 103] (.cons hcz <| .cons (ldo hO.st 0 rfl 2 rfl) <| .cons (fun w hE => calls_castB (Rising_calls (gutProof d) p2 n3 c4 (v.ln : Int) w ((hO.st w hE).get 1 rfl) (by omega)) (by have h_ := hg.ris; rw [hl2] at h_; exact h_)) <| .cons (bne_self_eq_false _) <| .cons (decide_eq_false (by omega)) <| .nil) (by kernel_rfl) fun a w hF hE => ?_)
    replace hO := hO.ext hE; clear hE
    refine (W_false (evOp hF (by kernel_rfl)) ?_)
    refine (W_skip ?_)
    refine W_seq ?_
    refine W_seq (region_q { sy := [3, 9, 15] } TBok hF (F' := [(2, .pointer (some ⟨b1, 0, none⟩)), (4, .bool false), (5, .slice p2 n3 c4), (8, .int .i64 (bestN d)), (125, .bool (cond ((defV d (hot d) (memL v.ln (set % (2 ^ v.ln)))) == (bestN d)) (cond (decide ((q9 : Int) < (n3 : Int))) true (cond ((q9 : Int) == (n3 : Int)) (befL (memL v.ln (set % (2 ^ v.ln))) (gutProof d)) false)) false))]) (rs := [.und (((defV d (hot d) (memL v.ln (set % (2 ^ v.ln)))) == (bestN d)) && ((!(decide ((q9 : Int) < (n3 : Int)))) && ((q9 : Int) == (n3 : Int)))) (.call 42 #[.slice p8 q9 c10, .slice p2 n3 c4] (.bool (befL (memL v.ln (set % (2 ^ v.ln))) (gutProof d))))]) [2, 4, 5, 8, 125] (.cons (fun hg => (fun w hE => Before_calls (memL v.ln (set % (2 ^ v.ln))) (gutProof d) p8 p2 q9 n3 c10 c4 w (rd_row (fun _ => rfl) (by decide) (hO.st w hE) 3 rfl (by omega)) ((hO.st w hE).get 1 rfl))) <| .nil) (by kernel_rfl) fun a w hF hE => ?_)
    replace hO := hO.ext hE; clear hE
    rcases Bool.eq_false_or_eq_true (cond ((defV d (hot d) (memL v.ln (set % (2 ^ v.ln)))) == (bestN d)) (cond (decide ((q9 : Int) < (n3 : Int))) true (cond ((q9 : Int) == (n3 : Int)) (befL (memL v.ln (set % (2 ^ v.ln))) (gutProof d)) false)) false) with hc12 | hc12
    · refine (W_true ((evOp hF (by kernel_rfl)).trans (congrArg Value.bool hc12)) ?_)
      have hk_ := key_of hnew9 hpn hc12
      exact Bool.noConfusion ((hg.least _ hmr hk_.1).symm.trans hk_.2)
    · refine (W_false ((evOp hF (by kernel_rfl)).trans (congrArg Value.bool hc12)) ?_)
      refine (W_skip ?_)
      refine W_seq ?_
      refine W_seq (region_q {} TBok hF (F' := [(2, .pointer (some ⟨b1, 0, none⟩)), (4, .bool false), (5, .slice p2 n3 c4), (8, .int .i64 (bestN d)), (15, .int .i64 0)]) (rs := []) [2, 4, 5, 8, 15] .nil (by kernel_rfl) fun a w hF hE => ?_)
      replace hO := hO.ext hE; clear hE
      refine (W_block ?_)
      replace hF := hF.sel [2, 5, 8, 15]
      refine (W_loop (fun m a w => ∃ (k : Nat), m = n3 - k ∧ k ≤ n3 ∧ Fr 176 [] [(2, .pointer (some ⟨b1, 0, none⟩)), (5, .slice p2 n3 c4), (8, .int .i64 (bestN d)), (15, .int .i64 (k : Int))] a ∧ Own w0 none_ [cel b1 #[.int .i64 d.hours, .slice v.ha v.hn v.hc, .slice v.la v.ln v.lc, .slice v.wa v.wn v.wc] 26, rdR encI 1 p2 n3 (gutProof d), rowR 56 4 (.slice p5 ((bestP d).length) c6) ((bestP d).length) ((bestP d).flatMap encTk), rowR 3 1 (.slice p8 q9 c10) q9 ((memL v.ln (set % (2 ^ v.ln))).flatMap encI)] w) _ ⟨0, rfl, Nat.zero_le _, hF, hO⟩ ?_)
      clear hF hO
      rintro _ a w ⟨k, rfl, hk, hF, hO⟩
      refine W_seq ?_
      refine W_seq (region_q {} TBok hF (F' := [(2, .pointer (some ⟨b1, 0, none⟩)), (5, .slice p2 n3 c4), (8, .int .i64 (bestN d)), (15, .int .i64 (k : Int)), (129, .bool (decide ((k : Int) < (n3 : Int))))]) (rs := []) [2, 5, 8, 15, 129] .nil (by kernel_rfl) fun a w hF hE => ?_)
      replace hO := hO.ext hE; clear hE
      rcases Bool.eq_false_or_eq_true (decide ((k : Int) < (n3 : Int))) with hc13 | hc13
      · refine (W_true ((evOp hF (by kernel_rfl)).trans (congrArg Value.bool hc13)) ?_)
        have hkn := of_decide_eq_true (by assumption : (decide ((k : Int) < (n3 : Int))) = true)
        have hxm := ris_mem _ _ hg.ris ((gutProof d).getD k default) (getD_mem (by omega))
        have hlk := lot_ok hv (i := (((gutProof d).getD k default)).toNat) (by omega)
        refine (W_skip ?_)
        refine W_seq (W_block ?_)
        refine W_seq (region_seq ?_)
        refine seq_quiet {} TBok hF (F' := [(2, .pointer (some ⟨b1, 0, none⟩)), (5, .slice p2 n3 c4), (8, .int .i64 (bestN d)), (15, .int .i64 (k : Int)), (132, .agg #[.int .i64 d.hours, .slice v.ha v.hn v.hc, .slice v.la v.ln v.lc, .slice v.wa v.wn v.wc])]) (rs := [.lds ⟨b1, 0, none⟩ [.int .i64 d.hours, .slice v.ha v.hn v.hc, .slice v.la v.ln v.lc, .slice v.wa v.wn v.wc]]) [0] [1, 2] [2, 5, 8, 15, 132] (.cons (ldso hO.st 0 rfl 0 rfl) <| .nil) (by kernel_rfl) fun a w hF hE => ?_
        replace hO := hO.ext hE; clear hE
        refine op_alloc (i := 1) (t := 26) (d := 16) (z := .agg #[.int .i64 0, .slice none 0 0, .slice none 0 0, .slice none 0 0]) hF hO (by kernel_rfl) (by kernel_rfl) fun a w b14 hF hO _ => ?_
        replace hO : Own w0 none_ [cel b1 #[.int .i64 d.hours, .slice v.ha v.hn v.hc, .slice v.la v.ln v.lc, .slice v.wa v.wn v.wc] 26, rdR encI 1 p2 n3 (gutProof d), rowR 56 4 (.slice p5 ((bestP d).length) c6) ((bestP d).length) ((bestP d).flatMap encTk), rowR 3 1 (.slice p8 q9 c10) q9 ((memL v.ln (set % (2 ^ v.ln))).flatMap encI), cel b14 #[.int .i64 0, .slice none 0 0, .slice none 0 0, .slice none 0 0] 26] w := hO
        refine op_store (i := 2) (t := 26) (p := ⟨b14, 0, none⟩) (v := .agg #[.int .i64 d.hours, .slice v.ha v.hn v.hc, .slice v.la v.ln v.lc, .slice v.wa v.wn v.wc]) (off := 0) (sz := 4) (cs' := #[.int .i64 d.hours, .slice v.ha v.hn v.hc, .slice v.la v.ln v.lc, .slice v.wa v.wn v.wc]) hF hO (by kernel_rfl) 4 rfl rfl (by kernel_rfl) (by kernel_rfl) (by kernel_rfl) fun a w hF hO _ => ?_
        replace hO : Own w0 none_ [cel b1 #[.int .i64 d.hours, .slice v.ha v.hn v.hc, .slice v.la v.ln v.lc, .slice v.wa v.wn v.wc] 26, rdR encI 1 p2 n3 (gutProof d), rowR 56 4 (.slice p5 ((bestP d).length) c6) ((bestP d).length) ((bestP d).flatMap encTk), rowR 3 1 (.slice p8 q9 c10) q9 ((memL v.ln (set % (2 ^ v.ln))).flatMap encI), cel b14 #[.int .i64 d.hours, .slice v.ha v.hn v.hc, .slice v.la v.ln v.lc, .slice v.wa v.wn v.wc] 26] w := hO
        replace hF := hF.sel [2, 5, 8, 15, 16]
        replace hF : Fr 176 [] [(2, .pointer (some ⟨b1, 0, none⟩)), (5, .slice p2 n3 c4), (8, .int .i64 (bestN d)), (15, .int .i64 (k : Int)), (16, .pointer (some ⟨b14, 0, none⟩))] a := hF
        refine W_seq (region_seq ?_)
        refine op_bsl (i := 0) (t := 23) (e := 59) (len := 0) (ps := []) (d := 133) (sz := 4) (cs := #[]) (z := .agg #[.int .i64 0, .int .i64 0, .int .i64 0, .int .i64 0]) hF hO (by kernel_rfl) (by kernel_rfl) (by kernel_rfl) (by kernel_rfl) (by kernel_rfl) fun a w b15 hF hO _ => ?_
        replace hO : Own w0 none_ [cel b1 #[.int .i64 d.hours, .slice v.ha v.hn v.hc, .slice v.la v.ln v.lc, .slice v.wa v.wn v.wc] 26, rdR encI 1 p2 n3 (gutProof d), rowR 56 4 (.slice p5 ((bestP d).length) c6) ((bestP d).length) ((bestP d).flatMap encTk), rowR 3 1 (.slice p8 q9 c10) q9 ((memL v.ln (set % (2 ^ v.ln))).flatMap encI), cel b14 #[.int .i64 d.hours, .slice v.ha v.hn v.hc, .slice v.la v.ln v.lc, .slice v.wa v.wn v.wc] 26, cel b15 #[] 59] w := hO
        refine seq_quiet {} TBok hF (F' := [(2, .pointer (some ⟨b1, 0, none⟩)), (5, .slice p2 n3 c4), (8, .int .i64 (bestN d)), (15, .int .i64 (k : Int)), (16, .pointer (some ⟨b14, 0, none⟩)), (133, .slice (some ⟨b15, 0, none⟩) 0 0), (135, .slice v.la v.ln v.lc)]) (rs := [.ld ⟨b1, 2, none⟩ (.slice v.la v.ln v.lc)]) [1, 2] [3, 4, 5] [2, 5, 8, 15, 16, 133, 135] (.cons (ldo hO.st 0 rfl 2 rfl) <| .nil) (by kernel_rfl) fun a w hF hE => ?_
        replace hO := hO.ext hE; clear hE
        replace hO := hO.emptyRow 5 rfl 4
        replace hO : Own w0 none_ [cel b1 #[.int .i64 d.hours, .slice v.ha v.hn v.hc, .slice v.la v.ln v.lc, .slice v.wa v.wn v.wc] 26, rdR encI 1 p2 n3 (gutProof d), rowR 56 4 (.slice p5 ((bestP d).length) c6) ((bestP d).length) ((bestP d).flatMap encTk), rowR 3 1 (.slice p8 q9 c10) q9 ((memL v.ln (set % (2 ^ v.ln))).flatMap encI), cel b14 #[.int .i64 d.hours, .slice v.ha v.hn v.hc, .slice v.la v.ln v.lc, .slice v.wa v.wn v.wc] 26, rowR 59 4 (.slice (some ⟨b15, 0, none⟩) 0 0) 0 ([])] w := hO
        refine op_appX (i := 3) (t := 23) (ty := 23) (e := 59) (d := 136) (c2 := v.lc) (enc := encLot) (ys := d.lots) rowT23 (fun _ => rfl) (fun _ => rfl) hF hO (by kernel_rfl) ((hd.lots.upM hO.kp nom (Nat.le_refl _))) 5 rfl (by omega) fun a w p16 c17 hF hO hx => ?_
        clear hx
        replace hO : Own w0 none_ [cel b1 #[.int .i64 d.hours, .slice v.ha v.hn v.hc, .slice v.la v.ln v.lc, .slice v.wa v.wn v.wc] 26, rdR encI 1 p2 n3 (gutProof d), rowR 56 4 (.slice p5 ((bestP d).length) c6) ((bestP d).length) ((bestP d).flatMap encTk), rowR 3 1 (.slice p8 q9 c10) q9 ((memL v.ln (set % (2 ^ v.ln))).flatMap encI), cel b14 #[.int .i64 d.hours, .slice v.ha v.hn v.hc, .slice v.la v.ln v.lc, .slice v.wa v.wn v.wc] 26, rowR 59 4 (.slice p16 (0 + v.ln) c17) (0 + v.ln) ([] ++ (d.lots).flatMap encLot)] w := hO
        have hn18 : 0 + v.ln = v.ln := Nat.zero_add _
        rw [hn18] at hO hF
        clear hn18
        replace hO : Own w0 none_ [cel b1 #[.int .i64 d.hours, .slice v.ha v.hn v.hc, .slice v.la v.ln v.lc, .slice v.wa v.wn v.wc] 26, rdR encI 1 p2 n3 (gutProof d), rowR 56 4 (.slice p5 ((bestP d).length) c6) ((bestP d).length) ((bestP d).flatMap encTk), rowR 3 1 (.slice p8 q9 c10) q9 ((memL v.ln (set % (2 ^ v.ln))).flatMap encI), cel b14 #[.int .i64 d.hours, .slice v.ha v.hn v.hc, .slice v.la v.ln v.lc, .slice v.wa v.wn v.wc] 26, rowR 59 4 (.slice p16 v.ln c17) v.ln (d.lots.flatMap encLot)] w := hO
        refine seq_quiet {} TBok hF (F' := [(2, .pointer (some ⟨b1, 0, none⟩)), (5, .slice p2 n3 c4), (8, .int .i64 (bestN d)), (15, .int .i64 (k : Int)), (16, .pointer (some ⟨b14, 0, none⟩)), (136, .slice p16 v.ln c17), (137, .pointer (some ⟨b14, 2, none⟩))]) (rs := []) [4] [5] [2, 5, 8, 15, 16, 136, 137] .nil (by kernel_rfl) fun a w hF hE => ?_
        replace hO := hO.ext hE; clear hE
        refine op_store (i := 5) (t := 23) (p := ⟨b14, 2, none⟩) (v := .slice p16 v.ln c17) (off := 2) (sz := 1) (cs' := #[.int .i64 d.hours, .slice v.ha v.hn v.hc, .slice p16 v.ln c17, .slice v.wa v.wn v.wc]) hF hO (by kernel_rfl) 4 rfl rfl (by kernel_rfl) (by kernel_rfl) (by kernel_rfl) fun a w hF hO _ => ?_
        replace hO : Own w0 none_ [cel b1 #[.int .i64 d.hours, .slice v.ha v.hn v.hc, .slice v.la v.ln v.lc, .slice v.wa v.wn v.wc] 26, rdR encI 1 p2 n3 (gutProof d), rowR 56 4 (.slice p5 ((bestP d).length) c6) ((bestP d).length) ((bestP d).flatMap encTk), rowR 3 1 (.slice p8 q9 c10) q9 ((memL v.ln (set % (2 ^ v.ln))).flatMap encI), cel b14 #[.int .i64 d.hours, .slice v.ha v.hn v.hc, .slice p16 v.ln c17, .slice v.wa v.wn v.wc] 26, rowR 59 4 (.slice p16 v.ln c17) v.ln (d.lots.flatMap encLot)] w := hO
        replace hF := hF.sel [2, 5, 8, 15, 16]
        replace hF : Fr 176 [] [(2, .pointer (some ⟨b1, 0, none⟩)), (5, .slice p2 n3 c4), (8, .int .i64 (bestN d)), (15, .int .i64 (k : Int)), (16, .pointer (some ⟨b14, 0, none⟩))] a := hF
        refine W_seq (draw_start (R := none_) mixed [9] 10 (by kernel_rfl) fun w hS => ?_)
        replace hO := hO.ext hS
        refine draw_q {} TBok hF hS (F' := [(2, .pointer (some ⟨b1, 0, none⟩)), (5, .slice p2 n3 c4), (8, .int .i64 (bestN d)), (15, .int .i64 (k : Int)), (16, .pointer (some ⟨b14, 0, none⟩)), (145, .agg #[.int .i64 ((d.lots.getD ((gutProof d).getD k default).toNat default).cr), .int .i64 ((d.lots.getD ((gutProof d).getD k default).toNat default).la), .int .i64 ((d.lots.getD ((gutProof d).getD k default).toNat default).ke), .int .i64 ((d.lots.getD ((gutProof d).getD k default).toNat default).fi)])]) (rs := [.ld ⟨b14, 2, none⟩ (.slice p16 v.ln c17), .idx p2 n3 (k : Int) 1 (adr p2 1 (k : Int)), .ld (adr p2 1 (k : Int)) (.int .i64 ((gutProof d).getD k default)), .idx p16 v.ln ((gutProof d).getD k default) 4 (adr p16 4 ((gutProof d).getD k default)), .lds (adr p16 4 ((gutProof d).getD k default)) [.int .i64 ((d.lots.getD ((gutProof d).getD k default).toNat default).cr), .int .i64 ((d.lots.getD ((gutProof d).getD k default).toNat default).la), .int .i64 ((d.lots.getD ((gutProof d).getD k default).toNat default).ke), .int .i64 ((d.lots.getD ((gutProof d).getD k default).toNat default).fi)]]) [0, 1, 2, 3, 4, 5, 6, 7] 10 2 (by kernel_rfl) #[true, true, true, true, true, true, true, true, false, false] [2, 5, 8, 15, 16, 145] (.cons (ldo hO.st 4 rfl 2 rfl) <| .cons (ix (enc := encI) (xs := (gutProof d)) ((hO.get 1 rfl)) (by omega) (by omega)) <| .cons (ldR (enc := encI) (xs := (gutProof d)) (fun x_ hx_ => ((hO.st x_ hx_).get 1 rfl)) (by omega) (by omega) 0 rfl) <| .cons (ix (enc := encLot) (xs := d.lots) ((rd_row (fun _ => rfl) (by decide) hO 5 rfl (by omega))) (by omega) (by omega)) <| .cons (ldsR (enc := encLot) (xs := d.lots) (fun x_ hx_ => (rd_row (fun _ => rfl) (by decide) (hO.st x_ hx_) 5 rfl (by omega))) (by omega) (by omega) rfl) <| .nil) (by kernel_rfl) (by kernel_rfl) fun a hF => ?_
        replace hS := Kp.refl none_ w
        refine any_pick (rs := [8]) (by kernel_rfl) (by simp) fun w hE => all1 ?_
        replace hO := hO.ext hE; replace hS := hS.trans (Ext.kp hE)
        refine op_alloc (i := 8) (t := 59) (d := 17) (z := .agg #[.int .i64 0, .int .i64 0, .int .i64 0, .int .i64 0]) hF hO (by kernel_rfl) (by kernel_rfl) fun a w b19 hF hO hx => ⟨.inr (hS.trans (Ext.kp hx.1)), ?_⟩
        have hf_b19 := Nat.le_trans hS.size hx.2; replace hS := hS.trans (Ext.kp hx.1); clear hx
        replace hO : Own w0 none_ [cel b1 #[.int .i64 d.hours, .slice v.ha v.hn v.hc, .slice v.la v.ln v.lc, .slice v.wa v.wn v.wc] 26, rdR encI 1 p2 n3 (gutProof d), rowR 56 4 (.slice p5 ((bestP d).length) c6) ((bestP d).length) ((bestP d).flatMap encTk), rowR 3 1 (.slice p8 q9 c10) q9 ((memL v.ln (set % (2 ^ v.ln))).flatMap encI), cel b14 #[.int .i64 d.hours, .slice v.ha v.hn v.hc, .slice p16 v.ln c17, .slice v.wa v.wn v.wc] 26, rowR 59 4 (.slice p16 v.ln c17) v.ln (d.lots.flatMap encLot), cel b19 #[.int .i64 0, .int .i64 0, .int .i64 0, .int .i64 0] 59] w := hO
        refine any_pick (rs := [9]) (by kernel_rfl) (by simp) fun w hE => all1 ?_
        replace hO := hO.ext hE; replace hS := hS.trans (Ext.kp hE)
        refine op_store (i := 9) (t := 59) (p := ⟨b19, 0, none⟩) (v := .agg #[.int .i64 ((d.lots.getD ((gutProof d).getD k default).toNat default).cr), .int .i64 ((d.lots.getD ((gutProof d).getD k default).toNat default).la), .int .i64 ((d.lots.getD ((gutProof d).getD k default).toNat default).ke), .int .i64 ((d.lots.getD ((gutProof d).getD k default).toNat default).fi)]) (off := 0) (sz := 4) (cs' := #[.int .i64 ((d.lots.getD ((gutProof d).getD k default).toNat default).cr), .int .i64 ((d.lots.getD ((gutProof d).getD k default).toNat default).la), .int .i64 ((d.lots.getD ((gutProof d).getD k default).toNat default).ke), .int .i64 ((d.lots.getD ((gutProof d).getD k default).toNat default).fi)]) hF hO (by kernel_rfl) 6 rfl rfl (by kernel_rfl) (by kernel_rfl) (by kernel_rfl) fun a w hF hO _ => ⟨.inl rfl, ?_⟩
        replace hO : Own w0 none_ [cel b1 #[.int .i64 d.hours, .slice v.ha v.hn v.hc, .slice v.la v.ln v.lc, .slice v.wa v.wn v.wc] 26, rdR encI 1 p2 n3 (gutProof d), rowR 56 4 (.slice p5 ((bestP d).length) c6) ((bestP d).length) ((bestP d).flatMap encTk), rowR 3 1 (.slice p8 q9 c10) q9 ((memL v.ln (set % (2 ^ v.ln))).flatMap encI), cel b14 #[.int .i64 d.hours, .slice v.ha v.hn v.hc, .slice p16 v.ln c17, .slice v.wa v.wn v.wc] 26, rowR 59 4 (.slice p16 v.ln c17) v.ln (d.lots.flatMap encLot), cel b19 #[.int .i64 ((d.lots.getD ((gutProof d).getD k default).toNat default).cr), .int .i64 ((d.lots.getD ((gutProof d).getD k default).toNat default).la), .int .i64 ((d.lots.getD ((gutProof d).getD k default).toNat default).ke), .int .i64 ((d.lots.getD ((gutProof d).getD k default).toNat default).fi)] 59] w := hO
        refine any_done (by kernel_rfl) (fun w hE => ?_) _
        replace hO := hO.ext hE
        replace hF := hF.sel [2, 5, 8, 15, 16, 17]
        replace hF : Fr 176 [] [(2, .pointer (some ⟨b1, 0, none⟩)), (5, .slice p2 n3 c4), (8, .int .i64 (bestN d)), (15, .int .i64 (k : Int)), (16, .pointer (some ⟨b14, 0, none⟩)), (17, .pointer (some ⟨b19, 0, none⟩))] a := hF
        refine W_seq ?_
        refine W_seq (region_q {} TBok hF (F' := [(2, .pointer (some ⟨b1, 0, none⟩)), (5, .slice p2 n3 c4), (8, .int .i64 (bestN d)), (15, .int .i64 (k : Int)), (16, .pointer (some ⟨b14, 0, none⟩)), (17, .pointer (some ⟨b19, 0, none⟩)), (148, .bool ((d.lots.getD ((gutProof d).getD k default).toNat default).cr == 50))]) (rs := [.ld ⟨b19, 0, none⟩ (.int .i64 ((d.lots.getD ((gutProof d).getD k default).toNat default).cr))]) [2, 5, 8, 15, 16, 17, 148] (.cons (ldo hO.st 6 rfl 0 rfl) <| .nil) (by kernel_rfl) fun a w hF hE => ?_)
        replace hO := hO.ext hE; clear hE
        rcases Bool.eq_false_or_eq_true ((d.lots.getD ((gutProof d).getD k default).toNat default).cr == 50) with hc20 | hc20
        · refine (W_true ((evOp hF (by kernel_rfl)).trans (congrArg Value.bool hc20)) ?_)
          refine (W_exit ?_)
          refine (region_q {} TBok hF (F' := [(2, .pointer (some ⟨b1, 0, none⟩)), (5, .slice p2 n3 c4), (8, .int .i64 (bestN d)), (15, .int .i64 ((k : Int) + 1))]) (rs := [.rng ((k : Int) + 1)]) [2, 5, 8, 15] (.cons (rg (by omega)) <| .nil) (by kernel_rfl) fun a w hF hE => ?_)
          replace hO := hO.ext hE; clear hE
          replace hO := hO.drop1 6
          replace hO := hO.drop1 5
          replace hO := hO.drop1 4
          replace hO : Own w0 none_ [cel b1 #[.int .i64 d.hours, .slice v.ha v.hn v.hc, .slice v.la v.ln v.lc, .slice v.wa v.wn v.wc] 26, rdR encI 1 p2 n3 (gutProof d), rowR 56 4 (.slice p5 ((bestP d).length) c6) ((bestP d).length) ((bestP d).flatMap encTk), rowR 3 1 (.slice p8 q9 c10) q9 ((memL v.ln (set % (2 ^ v.ln))).flatMap encI)] w := hO
          exact ⟨_, by omega, k + 1, rfl, by omega, hF, hO⟩
        · refine (W_false ((evOp hF (by kernel_rfl)).trans (congrArg Value.bool hc20)) ?_)
          have hil := inc_lost hvB (getD_mem (xs := gutProof d) (i := k) (by omega)) (by simpa using (by assumption : ((d.lots.getD ((gutProof d).getD k default).toNat default).cr == 50) = false))
          refine (W_skip ?_)
          refine W_seq (region_seq ?_)
          refine seq_quiet {} TBok hF (F' := [(2, .pointer (some ⟨b1, 0, none⟩)), (5, .slice p2 n3 c4), (8, .int .i64 (bestN d)), (15, .int .i64 (k : Int)), (16, .pointer (some ⟨b14, 0, none⟩)), (17, .pointer (some ⟨b19, 0, none⟩)), (151, .int .i64 ((d.lots.getD ((gutProof d).getD k default).toNat default).cr + 1)), (152, .pointer (some ⟨b19, 0, none⟩))]) (rs := [.ld ⟨b19, 0, none⟩ (.int .i64 ((d.lots.getD ((gutProof d).getD k default).toNat default).cr)), .rng ((d.lots.getD ((gutProof d).getD k default).toNat default).cr + 1)]) [0, 1, 2, 3] [4] [2, 5, 8, 15, 16, 17, 151, 152] (.cons (ldo hO.st 6 rfl 0 rfl) <| .cons (rg (by omega)) <| .nil) (by kernel_rfl) fun a w hF hE => ?_
          replace hO := hO.ext hE; clear hE
          refine op_store (i := 4) (t := 3) (p := ⟨b19, 0, none⟩) (v := .int .i64 ((d.lots.getD ((gutProof d).getD k default).toNat default).cr + 1)) (off := 0) (sz := 1) (cs' := #[.int .i64 ((d.lots.getD ((gutProof d).getD k default).toNat default).cr + 1), .int .i64 ((d.lots.getD ((gutProof d).getD k default).toNat default).la), .int .i64 ((d.lots.getD ((gutProof d).getD k default).toNat default).ke), .int .i64 ((d.lots.getD ((gutProof d).getD k default).toNat default).fi)]) hF hO (by kernel_rfl) 6 rfl rfl (by kernel_rfl) (by kernel_rfl) (by kernel_rfl) fun a w hF hO _ => ?_
          replace hO : Own w0 none_ [cel b1 #[.int .i64 d.hours, .slice v.ha v.hn v.hc, .slice v.la v.ln v.lc, .slice v.wa v.wn v.wc] 26, rdR encI 1 p2 n3 (gutProof d), rowR 56 4 (.slice p5 ((bestP d).length) c6) ((bestP d).length) ((bestP d).flatMap encTk), rowR 3 1 (.slice p8 q9 c10) q9 ((memL v.ln (set % (2 ^ v.ln))).flatMap encI), cel b14 #[.int .i64 d.hours, .slice v.ha v.hn v.hc, .slice p16 v.ln c17, .slice v.wa v.wn v.wc] 26, rowR 59 4 (.slice p16 v.ln c17) v.ln (d.lots.flatMap encLot), cel b19 #[.int .i64 ((d.lots.getD ((gutProof d).getD k default).toNat default).cr + 1), .int .i64 ((d.lots.getD ((gutProof d).getD k default).toNat default).la), .int .i64 ((d.lots.getD ((gutProof d).getD k default).toNat default).ke), .int .i64 ((d.lots.getD ((gutProof d).getD k default).toNat default).fi)] 59] w := hO
          replace hF := hF.sel [2, 5, 8, 15, 16, 17]
          replace hF : Fr 176 [] [(2, .pointer (some ⟨b1, 0, none⟩)), (5, .slice p2 n3 c4), (8, .int .i64 (bestN d)), (15, .int .i64 (k : Int)), (16, .pointer (some ⟨b14, 0, none⟩)), (17, .pointer (some ⟨b19, 0, none⟩))] a := hF
          refine W_seq (draw_start (R := none_) mixed [8] 9 (by kernel_rfl) fun w hS => ?_)
          replace hO := hO.ext hS
          refine draw_q {} TBok hF hS (F' := [(2, .pointer (some ⟨b1, 0, none⟩)), (5, .slice p2 n3 c4), (8, .int .i64 (bestN d)), (15, .int .i64 (k : Int)), (16, .pointer (some ⟨b14, 0, none⟩)), (159, .agg #[.int .i64 ((d.lots.getD ((gutProof d).getD k default).toNat default).cr + 1), .int .i64 ((d.lots.getD ((gutProof d).getD k default).toNat default).la), .int .i64 ((d.lots.getD ((gutProof d).getD k default).toNat default).ke), .int .i64 ((d.lots.getD ((gutProof d).getD k default).toNat default).fi)]), (160, .pointer (some (adr p16 4 ((gutProof d).getD k default))))]) (rs := [.ld ⟨b14, 2, none⟩ (.slice p16 v.ln c17), .idx p2 n3 (k : Int) 1 (adr p2 1 (k : Int)), .ld (adr p2 1 (k : Int)) (.int .i64 ((gutProof d).getD k default)), .lds ⟨b19, 0, none⟩ [.int .i64 ((d.lots.getD ((gutProof d).getD k default).toNat default).cr + 1), .int .i64 ((d.lots.getD ((gutProof d).getD k default).toNat default).la), .int .i64 ((d.lots.getD ((gutProof d).getD k default).toNat default).ke), .int .i64 ((d.lots.getD ((gutProof d).getD k default).toNat default).fi)], .idx p16 v.ln ((gutProof d).getD k default) 4 (adr p16 4 ((gutProof d).getD k default))]) [0, 1, 2, 3, 4, 5, 6, 7] 9 1 (by kernel_rfl) #[true, true, true, true, true, true, true, true, false] [2, 5, 8, 15, 16, 159, 160] (.cons (ldo hO.st 4 rfl 2 rfl) <| .cons (ix (enc := encI) (xs := (gutProof d)) ((hO.get 1 rfl)) (by omega) (by omega)) <| .cons (ldR (enc := encI) (xs := (gutProof d)) (fun x_ hx_ => ((hO.st x_ hx_).get 1 rfl)) (by omega) (by omega) 0 rfl) <| .cons (ldso hO.st 6 rfl 0 rfl) <| .cons (ix (enc := encLot) (xs := d.lots) ((rd_row (fun _ => rfl) (by decide) hO 5 rfl (by omega))) (by omega) (by omega)) <| .nil) (by kernel_rfl) (by kernel_rfl) fun a hF => ?_
          replace hS := Kp.refl none_ w
          refine any_pick (rs := [8]) (by kernel_rfl) (by simp) fun w hE => all1 ?_
          replace hO := hO.ext hE; replace hS := hS.trans (Ext.kp hE)
          refine op_storeR (ii := 8) (t := 59) (enc := encLot) (ys := d.lots) (y := (⟨((d.lots.getD ((gutProof d).getD k default).toNat default).cr + 1), (d.lots.getD ((gutProof d).getD k default).toNat default).la, (d.lots.getD ((gutProof d).getD k default).toNat default).ke, (d.lots.getD ((gutProof d).getD k default).toNat default).fi⟩ : Lot)) (i := ((gutProof d).getD k default)) (k := v.ln) (c := c17) (q := p16) (v := .agg #[.int .i64 ((d.lots.getD ((gutProof d).getD k default).toNat default).cr + 1), .int .i64 ((d.lots.getD ((gutProof d).getD k default).toNat default).la), .int .i64 ((d.lots.getD ((gutProof d).getD k default).toNat default).ke), .int .i64 ((d.lots.getD ((gutProof d).getD k default).toNat default).fi)]) (fun _ => rfl) (by decide) (by kernel_rfl) hF hO (by kernel_rfl) rfl 5 rfl (by omega) (by omega) (by kernel_rfl) fun a w hF hO _ => ⟨.inl rfl, ?_⟩
          replace hO : Own w0 none_ [cel b1 #[.int .i64 d.hours, .slice v.ha v.hn v.hc, .slice v.la v.ln v.lc, .slice v.wa v.wn v.wc] 26, rdR encI 1 p2 n3 (gutProof d), rowR 56 4 (.slice p5 ((bestP d).length) c6) ((bestP d).length) ((bestP d).flatMap encTk), rowR 3 1 (.slice p8 q9 c10) q9 ((memL v.ln (set % (2 ^ v.ln))).flatMap encI), cel b14 #[.int .i64 d.hours, .slice v.ha v.hn v.hc, .slice p16 v.ln c17, .slice v.wa v.wn v.wc] 26, rowR 59 4 (.slice p16 v.ln c17) v.ln ((d.lots.set ((gutProof d).getD k default).toNat (⟨((d.lots.getD ((gutProof d).getD k default).toNat default).cr + 1), (d.lots.getD ((gutProof d).getD k default).toNat default).la, (d.lots.getD ((gutProof d).getD k default).toNat default).ke, (d.lots.getD ((gutProof d).getD k default).toNat default).fi⟩ : Lot)).flatMap encLot), cel b19 #[.int .i64 ((d.lots.getD ((gutProof d).getD k default).toNat default).cr + 1), .int .i64 ((d.lots.getD ((gutProof d).getD k default).toNat default).la), .int .i64 ((d.lots.getD ((gutProof d).getD k default).toNat default).ke), .int .i64 ((d.lots.getD ((gutProof d).getD k default).toNat default).fi)] 59] w := hO
          replace hO : Own w0 none_ [cel b1 #[.int .i64 d.hours, .slice v.ha v.hn v.hc, .slice v.la v.ln v.lc, .slice v.wa v.wn v.wc] 26, rdR encI 1 p2 n3 (gutProof d), rowR 56 4 (.slice p5 ((bestP d).length) c6) ((bestP d).length) ((bestP d).flatMap encTk), rowR 3 1 (.slice p8 q9 c10) q9 ((memL v.ln (set % (2 ^ v.ln))).flatMap encI), cel b14 #[.int .i64 ((dayInc d ((gutProof d).getD k default)).hours), .slice ((dvL v p16 v.ln c17).ha) ((dvL v p16 v.ln c17).hn) ((dvL v p16 v.ln c17).hc), .slice ((dvL v p16 v.ln c17).la) ((dvL v p16 v.ln c17).ln) ((dvL v p16 v.ln c17).lc), .slice ((dvL v p16 v.ln c17).wa) ((dvL v p16 v.ln c17).wn) ((dvL v p16 v.ln c17).wc)] 26, rowR 59 4 (.slice p16 v.ln c17) v.ln ((d.lots.set (((gutProof d).getD k default)).toNat (lotInc (d.lots.getD (((gutProof d).getD k default)).toNat default))).flatMap encLot), cel b19 #[.int .i64 ((d.lots.getD ((gutProof d).getD k default).toNat default).cr + 1), .int .i64 ((d.lots.getD ((gutProof d).getD k default).toNat default).la), .int .i64 ((d.lots.getD ((gutProof d).getD k default).toNat default).ke), .int .i64 ((d.lots.getD ((gutProof d).getD k default).toNat default).fi)] 59] w := hO.cast rfl
          refine any_done (by kernel_rfl) (fun w hE => ?_) _
          replace hO := hO.ext hE
          replace hF := hF.sel [2, 5, 8, 15, 16]
          replace hF : Fr 176 [] [(2, .pointer (some ⟨b1, 0, none⟩)), (5, .slice p2 n3 c4), (8, .int .i64 (bestN d)), (15, .int .i64 (k : Int)), (16, .pointer (some ⟨b14, 0, none⟩))] a := hF
          refine W_seq (region_seq ?_)
          refine seq_quiet {} TBok hF (F' := [(2, .pointer (some ⟨b1, 0, none⟩)), (5, .slice p2 n3 c4), (8, .int .i64 (bestN d)), (15, .int .i64 (k : Int)), (162, .agg #[.int .i64 ((dayInc d ((gutProof d).getD k default)).hours), .slice ((dvL v p16 v.ln c17).ha) ((dvL v p16 v.ln c17).hn) ((dvL v p16 v.ln c17).hc), .slice ((dvL v p16 v.ln c17).la) ((dvL v p16 v.ln c17).ln) ((dvL v p16 v.ln c17).lc), .slice ((dvL v p16 v.ln c17).wa) ((dvL v p16 v.ln c17).wn) ((dvL v p16 v.ln c17).wc)])]) (rs := [.lds ⟨b14, 0, none⟩ [.int .i64 ((dayInc d ((gutProof d).getD k default)).hours), .slice ((dvL v p16 v.ln c17).ha) ((dvL v p16 v.ln c17).hn) ((dvL v p16 v.ln c17).hc), .slice ((dvL v p16 v.ln c17).la) ((dvL v p16 v.ln c17).ln) ((dvL v p16 v.ln c17).lc), .slice ((dvL v p16 v.ln c17).wa) ((dvL v p16 v.ln c17).wn) ((dvL v p16 v.ln c17).wc)]]) [0] [1, 2, 3, 4, 5, 6, 7, 8] [2, 5, 8, 15, 162] (.cons (ldso hO.st 4 rfl 0 rfl) <| .nil) (by kernel_rfl) fun a w hF hE => ?_
          replace hO := hO.ext hE; clear hE
          refine op_call (i := 1) (f := 23) (args := #[.agg #[.int .i64 ((dayInc d ((gutProof d).getD k default)).hours), .slice ((dvL v p16 v.ln c17).ha) ((dvL v p16 v.ln c17).hn) ((dvL v p16 v.ln c17).hc), .slice ((dvL v p16 v.ln c17).la) ((dvL v p16 v.ln c17).ln) ((dvL v p16 v.ln c17).lc), .slice ((dvL v p16 v.ln c17).wa) ((dvL v p16 v.ln c17).wn) ((dvL v p16 v.ln c17).wc)]]) (d := some 163) TBok (by kernel_rfl) hF (by kernel_rfl) (Best_calls (dayInc d ((gutProof d).getD k default)) (dvL v p16 v.ln c17) _ (dayLts_R (hd.upM hO.kp nom (Nat.le_refl _)) (rd_row (fun _ => rfl) (by decide) hO 5 rfl (by omega)) (row_cap hO 5 rfl).1)) fun e w hR => ?_
          obtain ⟨p21, c22, he, hO2⟩ := hR
          refine ⟨_, he, fun a hF => ?_⟩
          replace hO := hO.joinE hO2; clear hO2 he
          replace hO : Own w0 none_ [cel b1 #[.int .i64 d.hours, .slice v.ha v.hn v.hc, .slice v.la v.ln v.lc, .slice v.wa v.wn v.wc] 26, rdR encI 1 p2 n3 (gutProof d), rowR 56 4 (.slice p5 ((bestP d).length) c6) ((bestP d).length) ((bestP d).flatMap encTk), rowR 3 1 (.slice p8 q9 c10) q9 ((memL v.ln (set % (2 ^ v.ln))).flatMap encI), cel b14 #[.int .i64 ((dayInc d ((gutProof d).getD k default)).hours), .slice ((dvL v p16 v.ln c17).ha) ((dvL v p16 v.ln c17).hn) ((dvL v p16 v.ln c17).hc), .slice ((dvL v p16 v.ln c17).la) ((dvL v p16 v.ln c17).ln) ((dvL v p16 v.ln c17).lc), .slice ((dvL v p16 v.ln c17).wa) ((dvL v p16 v.ln c17).wn) ((dvL v p16 v.ln c17).wc)] 26, rowR 59 4 (.slice p16 v.ln c17) v.ln ((d.lots.set (((gutProof d).getD k default)).toNat (lotInc (d.lots.getD (((gutProof d).getD k default)).toNat default))).flatMap encLot), cel b19 #[.int .i64 ((d.lots.getD ((gutProof d).getD k default).toNat default).cr + 1), .int .i64 ((d.lots.getD ((gutProof d).getD k default).toNat default).la), .int .i64 ((d.lots.getD ((gutProof d).getD k default).toNat default).ke), .int .i64 ((d.lots.getD ((gutProof d).getD k default).toNat default).fi)] 59, rowR 56 4 (.slice p21 ((bestP (dayInc d ((gutProof d).getD k default))).length) c22) ((bestP (dayInc d ((gutProof d).getD k default))).length) ((bestP (dayInc d ((gutProof d).getD k default))).flatMap encTk)] w := hO
          refine seq_quiet {} TBok hF (F' := [(2, .pointer (some ⟨b1, 0, none⟩)), (5, .slice p2 n3 c4), (8, .int .i64 (bestN d)), (15, .int .i64 (k : Int)), (19, .int .i64 (bestN (dayInc d ((gutProof d).getD k default)))), (20, .int .i64 (chk (dayInc d ((gutProof d).getD k default))))]) (rs := []) [2, 3, 4, 5, 6, 7, 8] [] [2, 5, 8, 15, 19, 20] .nil (by kernel_rfl) fun a w hF hE => ?_
          replace hO := hO.ext hE; clear hE
          refine W_seq (region_q { md := [(1, 1), (6, 1)] } TBok hF (F' := [(2, .pointer (some ⟨b1, 0, none⟩)), (5, .slice p2 n3 c4), (8, .int .i64 (bestN d)), (15, .int .i64 (k : Int)), (174, .bool false)]) (rs := [.dec ((chk (dayInc d ((gutProof d).getD k default))) != 0) false, .rng ((bestN d) + 1), .dec ((bestN (dayInc d ((gutProof d).getD k default))) != ((bestN d) + 1)) false]) [2, 5, 8, 15, 174] (.cons (by rw [hil.2]; rfl) <| .cons (rg (by omega)) <| .cons (by rw [hil.1]; exact bne_self_eq_false _) <| .nil) (by kernel_rfl) fun a w hF hE => ?_)
          replace hO := hO.ext hE; clear hE
          refine (W_false (evOp hF (by kernel_rfl)) ?_)
          refine (W_skip ?_)
          refine (region_q {} TBok hF (F' := [(2, .pointer (some ⟨b1, 0, none⟩)), (5, .slice p2 n3 c4), (8, .int .i64 (bestN d)), (15, .int .i64 ((k : Int) + 1))]) (rs := [.rng ((k : Int) + 1)]) [2, 5, 8, 15] (.cons (rg (by omega)) <| .nil) (by kernel_rfl) fun a w hF hE => ?_)
          replace hO := hO.ext hE; clear hE
          replace hO := hO.drop1 7
          replace hO := hO.drop1 6
          replace hO := hO.drop1 5
          replace hO := hO.drop1 4
          replace hO : Own w0 none_ [cel b1 #[.int .i64 d.hours, .slice v.ha v.hn v.hc, .slice v.la v.ln v.lc, .slice v.wa v.wn v.wc] 26, rdR encI 1 p2 n3 (gutProof d), rowR 56 4 (.slice p5 ((bestP d).length) c6) ((bestP d).length) ((bestP d).flatMap encTk), rowR 3 1 (.slice p8 q9 c10) q9 ((memL v.ln (set % (2 ^ v.ln))).flatMap encI)] w := hO
          exact ⟨_, by omega, k + 1, rfl, by omega, hF, hO⟩
      · refine (W_false ((evOp hF (by kernel_rfl)).trans (congrArg Value.bool hc13)) ?_)
        refine (W_exit ?_)
        refine W_seq (region_q {} TBok hF (F' := [(4, .bool true)]) (rs := [.call 20 #[] (.bool true)]) [4] (.cons (fun w _ => works_calls w) <| .nil) (by kernel_rfl) fun a w hF hE => ?_)
        replace hO := hO.ext hE; clear hE
        refine W_ret ?_
        show bodyPostM (FW none) 0 _ _ _ Exit.ret a w
        exact leave_r TBok hF (.nil _) (vs := [.bool true]) (rs := []) .nil (by kernel_rfl) ⟨rfl, hO.kp⟩

end Go.Proofs.Ytioimdegbdkppaa.DK
