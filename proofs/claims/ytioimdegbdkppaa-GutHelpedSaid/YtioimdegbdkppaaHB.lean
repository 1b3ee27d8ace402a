/- Walks: the reference's answers. Printed by my gen.py out of gut/t.py. -/
import Derived.Test.YtioimdegbdkppaaHA
import Derived.Test.YtioimdegbdkppaaH9
namespace Go.Proofs.Ytioimdegbdkppaa.DK
open Go Go.Proofs
set_option linter.unusedVariables false

set_option maxHeartbeats 4000000 in
set_option maxRecDepth 100000 in
theorem greatest_calls (d : Day) (v : DV) (ws : List Wk) (wp : Option Addr) (wn wc : Nat) (b : Bool) (w0 : World) (hd : DayR w0.heap.size w0 v d) (hv : dayV d = true) (hws : Rd encWk 4 w0.heap.size w0 wp wn ws) (hvX : dayV (dayX d ws) = true) :
    Calls Try.prog 64 #[.agg #[.int .i64 d.hours, .slice v.ha v.hn v.hc, .slice v.la v.ln v.lc, .slice v.wa v.wn v.wc], .slice wp wn wc, .bool b] w0 (fun e w' => ∃ p q c, (refGreat (dayX d ws) (uB b d)).2.length = q ∧ e = .returned (.tuple #[.int .i64 (refGreat (dayX d ws) (uB b d)).1, .slice p q c]) ∧ Own w0 none_ [rowR 3 1 (.slice p q c) q ((refGreat (dayX d ws) (uB b d)).2.flatMap encI)] w') := by
  have hl1 := hd.heat.len; have hl2 := hd.lots.len; have hl3 := hd.wks.len; have hs1 := hd.heat.size; have hs2 := hd.lots.size; have hs3 := hd.wks.size; have hv1 := day_ok hv; have hp1 := pow_cast v.ln; have hp2 := pow_le8 (show v.ln ≤ 8 by omega)
  refine calls_of_W Try.func64 rfl (by kernel_rfl) (args := [.agg #[.int .i64 d.hours, .slice v.ha v.hn v.hc, .slice v.la v.ln v.lc, .slice v.wa v.wn v.wc], .slice wp wn wc, .bool b]) fun a hF => ?_
  replace hF : Fr 66 [] [(0, .agg #[.int .i64 d.hours, .slice v.ha v.hn v.hc, .slice v.la v.ln v.lc, .slice v.wa v.wn v.wc]), (1, .slice wp wn wc), (2, .bool b)] a := hF
  have hO : Own w0 none_ [] w0 := Own.start w0 _
  refine W_seq (region_seq ?_)
  refine op_box (i := 0) (t := 26) (v := .agg #[.int .i64 d.hours, .slice v.ha v.hn v.hc, .slice v.la v.ln v.lc, .slice v.wa v.wn v.wc]) (d := 3) hF hO (by kernel_rfl) fun a w b1 hF hO _ => ?_
  replace hO : Own w0 none_ [cel b1 #[.int .i64 d.hours, .slice v.ha v.hn v.hc, .slice v.la v.ln v.lc, .slice v.wa v.wn v.wc] 26] w := hO
  refine seq_quiet {} TBok hF (F' := [(1, .slice wp wn wc), (2, .bool b), (3, .pointer (some ⟨b1, 0, none⟩)), (6, .int .i64 0), (7, .slice none 0 0)]) (rs := []) [1, 2] [] [1, 2, 3, 6, 7] .nil (by kernel_rfl) fun a w hF hE => ?_
  replace hO := hO.ext hE; clear hE
  refine W_seq (region_q {} TBok hF (F' := [(1, .slice wp wn wc), (2, .bool b), (3, .pointer (some ⟨b1, 0, none⟩)), (6, .int .i64 0), (7, .slice none 0 0), (8, .int .i64 0)]) (rs := []) [1, 2, 3, 6, 7, 8] .nil (by kernel_rfl) fun a w hF hE => ?_)
  replace hO := hO.ext hE; clear hE
  refine W_seq (region_q {} TBok hF (F' := [(1, .slice wp wn wc), (2, .bool b), (3, .pointer (some ⟨b1, 0, none⟩)), (6, .int .i64 0), (7, .slice none 0 0), (8, .int .i64 0), (9, .slice none 0 0)]) (rs := []) [1, 2, 3, 6, 7, 8, 9] .nil (by kernel_rfl) fun a w hF hE => ?_)
  replace hO := hO.ext hE; clear hE
  refine W_seq ?_
  refine W_seq (region_q {} TBok hF (F' := [(1, .slice wp wn wc), (2, .bool b), (3, .pointer (some ⟨b1, 0, none⟩)), (6, .int .i64 0), (7, .slice none 0 0), (8, .int .i64 0), (9, .slice none 0 0), (10, .int .i64 1)]) (rs := []) [1, 2, 3, 6, 7, 8, 9, 10] .nil (by kernel_rfl) fun a w hF hE => ?_)
  replace hO := hO.ext hE; clear hE
  refine (W_block ?_)
  replace hO := hO.nilRow 3 1
  refine (W_loop (fun m a w => ∃ (k : Nat), ∃ (fp : Option Addr), ∃ (fn : Nat), ∃ (fc : Nat), m = 2 ^ v.ln - k ∧ (k ≤ 2 ^ v.ln) ∧ 1 ≤ k ∧ (refK (dayX d ws) (uB b d) (k - 1)).2.length = fn ∧ fn ≤ 8 ∧ Fr 66 [] [(1, .slice wp wn wc), (2, .bool b), (3, .pointer (some ⟨b1, 0, none⟩)), (6, .int .i64 0), (7, .slice none 0 0), (8, .int .i64 ((refK (dayX d ws) (uB b d) (k - 1)).1)), (9, .slice fp fn fc), (10, .int .i64 (k : Int))] a ∧ Own w0 none_ [cel b1 #[.int .i64 d.hours, .slice v.ha v.hn v.hc, .slice v.la v.ln v.lc, .slice v.wa v.wn v.wc] 26, rowR 3 1 (.slice fp fn fc) fn ((refK (dayX d ws) (uB b d) (k - 1)).2.flatMap encI)] w) _ ⟨1, none, 0, 0, rfl, by omega, by omega, rfl, by omega, hF, hO⟩ ?_)
  clear hF hO
  rintro _ a w ⟨k, fp, fn, fc, rfl, hk, hk1, hfl, hfn, hF, hO⟩
  refine W_seq ?_
  refine W_seq (region_q { md := [(4, 3)] } TBok hF (F' := [(1, .slice wp wn wc), (2, .bool b), (3, .pointer (some ⟨b1, 0, none⟩)), (6, .int .i64 0), (7, .slice none 0 0), (8, .int .i64 ((refK (dayX d ws) (uB b d) (k - 1)).1)), (9, .slice fp fn fc), (10, .int .i64 (k : Int)), (18, .bool (decide ((k : Int) < (2 ^ v.ln))))]) (rs := [.ld ⟨b1, 2, none⟩ (.slice v.la v.ln v.lc), .raw (do eqGuard .shl 3 (.const (.int .i64 1)) (.tmp 16) (.int .i64 1) (.int .i64 (v.ln : Int)); Go.binOp .shl 3 (.int .i64 1) (.int .i64 (v.ln : Int))) (.int .i64 (2 ^ v.ln))]) [1, 2, 3, 6, 7, 8, 9, 10, 18] (.cons (ldo hO.st 0 rfl 2 rfl) <| .cons (raw_shl (by omega)) <| .nil) (by kernel_rfl) fun a w hF hE => ?_)
  replace hO := hO.ext hE; clear hE
  rcases Bool.eq_false_or_eq_true (decide ((k : Int) < (2 ^ v.ln))) with hc2 | hc2
  · refine (W_true ((evOp hF (by kernel_rfl)).trans (congrArg Value.bool hc2)) ?_)
    have hkn := of_decide_eq_true (by assumption : (decide ((k : Int) < (2 ^ v.ln))) = true)
    have hml := memL_len v.ln (k : Int)
    refine (W_skip ?_)
    refine W_seq (W_block ?_)
    refine W_seq (region_seq ?_)
    refine seq_quiet {} TBok hF (F' := [(1, .slice wp wn wc), (2, .bool b), (3, .pointer (some ⟨b1, 0, none⟩)), (6, .int .i64 0), (7, .slice none 0 0), (8, .int .i64 ((refK (dayX d ws) (uB b d) (k - 1)).1)), (9, .slice fp fn fc), (10, .int .i64 (k : Int)), (21, .int .i64 (k : Int)), (24, .int .i64 (v.ln : Int))]) (rs := [.ld ⟨b1, 2, none⟩ (.slice v.la v.ln v.lc)]) [0, 1, 2, 3] [4, 5] [1, 2, 3, 6, 7, 8, 9, 10, 21, 24] (.cons (ldo hO.st 0 rfl 2 rfl) <| .nil) (by kernel_rfl) fun a w hF hE => ?_
    replace hO := hO.ext hE; clear hE
    refine op_call (i := 4) (f := 39) (args := #[.int .i64 (k : Int), .int .i64 (v.ln : Int)]) (d := some 25) TBok (by kernel_rfl) hF (by kernel_rfl) (Members_calls (k : Int) v.ln _ (by omega)) fun e w hR => ?_
    obtain ⟨p3, q4, c5, hq6, he, hO2⟩ := hR
    refine ⟨_, he, fun a hF => ?_⟩
    replace hO := hO.joinE hO2; clear hO2 he
    replace hO : Own w0 none_ [cel b1 #[.int .i64 d.hours, .slice v.ha v.hn v.hc, .slice v.la v.ln v.lc, .slice v.wa v.wn v.wc] 26, rowR 3 1 (.slice fp fn fc) fn ((refK (dayX d ws) (uB b d) (k - 1)).2.flatMap encI), rowR 3 1 (.slice p3 q4 c5) q4 ((memL v.ln (k : Int)).flatMap encI)] w := hO
    have hnew := hq6
    refine seq_quiet {} TBok hF (F' := [(1, .slice wp wn wc), (2, .bool b), (3, .pointer (some ⟨b1, 0, none⟩)), (6, .int .i64 0), (7, .slice none 0 0), (8, .int .i64 ((refK (dayX d ws) (uB b d) (k - 1)).1)), (9, .slice fp fn fc), (10, .int .i64 (k : Int)), (11, .slice p3 q4 c5)]) (rs := []) [5] [] [1, 2, 3, 6, 7, 8, 9, 10, 11] .nil (by kernel_rfl) fun a w hF hE => ?_
    replace hO := hO.ext hE; clear hE
    refine W_seq (region_q {} TBok hF (F' := [(1, .slice wp wn wc), (2, .bool b), (3, .pointer (some ⟨b1, 0, none⟩)), (6, .int .i64 0), (7, .slice none 0 0), (8, .int .i64 ((refK (dayX d ws) (uB b d) (k - 1)).1)), (9, .slice fp fn fc), (10, .int .i64 (k : Int)), (11, .slice p3 q4 c5), (12, .int .i64 (defV (dayX d ws) (uB b d) (memL v.ln (k : Int))))]) (rs := [.lds ⟨b1, 0, none⟩ [.int .i64 d.hours, .slice v.ha v.hn v.hc, .slice v.la v.ln v.lc, .slice v.wa v.wn v.wc], .call 66 #[.agg #[.int .i64 d.hours, .slice v.ha v.hn v.hc, .slice v.la v.ln v.lc, .slice v.wa v.wn v.wc], .slice p3 q4 c5, .slice wp wn wc, .bool b] (.int .i64 (defV (dayX d ws) (uB b d) (memL v.ln (k : Int))))]) [1, 2, 3, 6, 7, 8, 9, 10, 11, 12] (.cons (ldso hO.st 0 rfl 0 rfl) <| .cons (fun w hE => refDeficit_calls d v (memL v.ln (k : Int)) p3 q4 c5 ws wp wn wc b w (hd.upM (hO.st w hE).kp nom (Nat.le_refl _)) hv (rd_row (fun _ => rfl) (by decide) (hO.st w hE) 2 rfl (by omega)) (by omega) (fun x hx => memL_in x hx) (hws.upM (hO.st w hE).kp nom (Nat.le_refl _)) hvX) <| .nil) (by kernel_rfl) fun a w hF hE => ?_)
    replace hO := hO.ext hE; clear hE
    refine W_seq (region_q { sy := [3, 7, 11, 17, 23] } TBok hF (F' := [(1, .slice wp wn wc), (2, .bool b), (3, .pointer (some ⟨b1, 0, none⟩)), (6, .int .i64 0), (7, .slice none 0 0), (8, .int .i64 ((refK (dayX d ws) (uB b d) (k - 1)).1)), (9, .slice fp fn fc), (10, .int .i64 (k : Int)), (11, .slice p3 q4 c5), (12, .int .i64 (defV (dayX d ws) (uB b d) (memL v.ln (k : Int)))), (61, .bool (cond (decide ((defV (dayX d ws) (uB b d) (memL v.ln (k : Int))) > (refK (dayX d ws) (uB b d) (k - 1)).1)) true (cond (cond ((defV (dayX d ws) (uB b d) (memL v.ln (k : Int))) == (refK (dayX d ws) (uB b d) (k - 1)).1) (decide ((refK (dayX d ws) (uB b d) (k - 1)).1 > 0)) false) (cond (decide ((q4 : Int) < (fn : Int))) true (cond ((q4 : Int) == (fn : Int)) (befL (memL v.ln (k : Int)) (refK (dayX d ws) (uB b d) (k - 1)).2) false)) false)))]) (rs := [.und ((!(decide ((defV (dayX d ws) (uB b d) (memL v.ln (k : Int))) > (refK (dayX d ws) (uB b d) (k - 1)).1))) && ((cond ((defV (dayX d ws) (uB b d) (memL v.ln (k : Int))) == (refK (dayX d ws) (uB b d) (k - 1)).1) (decide ((refK (dayX d ws) (uB b d) (k - 1)).1 > 0)) false) && ((!(decide ((q4 : Int) < (fn : Int)))) && ((q4 : Int) == (fn : Int))))) (.call 42 #[.slice p3 q4 c5, .slice fp fn fc] (.bool (befL (memL v.ln (k : Int)) (refK (dayX d ws) (uB b d) (k - 1)).2)))]) [1, 2, 3, 6, 7, 8, 9, 10, 11, 12, 61] (.cons (fun hg => (fun w hE => Before_calls (memL v.ln (k : Int)) (refK (dayX d ws) (uB b d) (k - 1)).2 p3 fp q4 fn c5 fc w (rd_row (fun _ => rfl) (by decide) (hO.st w hE) 2 rfl (by omega)) (rd_row (fun _ => rfl) (by decide) (hO.st w hE) 1 rfl (by omega)))) <| .nil) (by kernel_rfl) fun a w hF hE => ?_)
    replace hO := hO.ext hE; clear hE
    rcases Bool.eq_false_or_eq_true (cond (decide ((defV (dayX d ws) (uB b d) (memL v.ln (k : Int))) > (refK (dayX d ws) (uB b d) (k - 1)).1)) true (cond (cond ((defV (dayX d ws) (uB b d) (memL v.ln (k : Int))) == (refK (dayX d ws) (uB b d) (k - 1)).1) (decide ((refK (dayX d ws) (uB b d) (k - 1)).1 > 0)) false) (cond (decide ((q4 : Int) < (fn : Int))) true (cond ((q4 : Int) == (fn : Int)) (befL (memL v.ln (k : Int)) (refK (dayX d ws) (uB b d) (k - 1)).2) false)) false)) with hc7 | hc7
    · refine (W_true ((evOp hF (by kernel_rfl)).trans (congrArg Value.bool hc7)) ?_)
      have hbet := better_form hnew hfl (by assumption : (cond (decide ((defV (dayX d ws) (uB b d) (memL v.ln (k : Int))) > (refK (dayX d ws) (uB b d) (k - 1)).1)) true (cond (cond ((defV (dayX d ws) (uB b d) (memL v.ln (k : Int))) == (refK (dayX d ws) (uB b d) (k - 1)).1) (decide ((refK (dayX d ws) (uB b d) (k - 1)).1 > 0)) false) (cond (decide ((q4 : Int) < (fn : Int))) true (cond ((q4 : Int) == (fn : Int)) (befL (memL v.ln (k : Int)) (refK (dayX d ws) (uB b d) (k - 1)).2) false)) false)) = true)
      refine (region_q {} TBok hF (F' := [(1, .slice wp wn wc), (2, .bool b), (3, .pointer (some ⟨b1, 0, none⟩)), (6, .int .i64 0), (7, .slice none 0 0), (8, .int .i64 (defV (dayX d ws) (uB b d) (memL v.ln (k : Int)))), (9, .slice p3 q4 c5), (10, .int .i64 (k : Int))]) (rs := []) [1, 2, 3, 6, 7, 8, 9, 10] .nil (by kernel_rfl) fun a w hF hE => ?_)
      replace hO := hO.ext hE; clear hE
      refine (region_q {} TBok hF (F' := [(1, .slice wp wn wc), (2, .bool b), (3, .pointer (some ⟨b1, 0, none⟩)), (6, .int .i64 0), (7, .slice none 0 0), (8, .int .i64 (defV (dayX d ws) (uB b d) (memL v.ln (k : Int)))), (9, .slice p3 q4 c5), (10, .int .i64 ((k : Int) + 1))]) (rs := [.rng ((k : Int) + 1)]) [1, 2, 3, 6, 7, 8, 9, 10] (.cons (rg (by omega)) <| .nil) (by kernel_rfl) fun a w hF hE => ?_)
      replace hO := hO.ext hE; clear hE
      replace hO := hO.sel [0, 2] (by decide)
      replace hO : Own w0 none_ [cel b1 #[.int .i64 d.hours, .slice v.ha v.hn v.hc, .slice v.la v.ln v.lc, .slice v.wa v.wn v.wc] 26, rowR 3 1 (.slice p3 q4 c5) q4 ((memL v.ln (k : Int)).flatMap encI)] w := hO
      have hstp := refK_yes hl2 hk1 hbet
      replace hO : Own w0 none_ [cel b1 #[.int .i64 d.hours, .slice v.ha v.hn v.hc, .slice v.la v.ln v.lc, .slice v.wa v.wn v.wc] 26, rowR 3 1 (.slice p3 q4 c5) q4 ((refK (dayX d ws) (uB b d) (k + 1 - 1)).2.flatMap encI)] w := hO.cast (by rw [hstp])
      exact ⟨_, by omega, k + 1, p3, q4, c5, rfl, by omega, by omega, by rw [hstp]; exact hnew, by omega, hF.cast (by rw [hstp]; rfl), hO⟩
    · refine (W_false ((evOp hF (by kernel_rfl)).trans (congrArg Value.bool hc7)) ?_)
      have hbet := better_form hnew hfl (by assumption : (cond (decide ((defV (dayX d ws) (uB b d) (memL v.ln (k : Int))) > (refK (dayX d ws) (uB b d) (k - 1)).1)) true (cond (cond ((defV (dayX d ws) (uB b d) (memL v.ln (k : Int))) == (refK (dayX d ws) (uB b d) (k - 1)).1) (decide ((refK (dayX d ws) (uB b d) (k - 1)).1 > 0)) false) (cond (decide ((q4 : Int) < (fn : Int))) true (cond ((q4 : Int) == (fn : Int)) (befL (memL v.ln (k : Int)) (refK (dayX d ws) (uB b d) (k - 1)).2) false)) false)) = false)
      refine (W_skip ?_)
      refine (region_q {} TBok hF (F' := [(1, .slice wp wn wc), (2, .bool b), (3, .pointer (some ⟨b1, 0, none⟩)), (6, .int .i64 0), (7, .slice none 0 0), (8, .int .i64 ((refK (dayX d ws) (uB b d) (k - 1)).1)), (9, .slice fp fn fc), (10, .int .i64 ((k : Int) + 1))]) (rs := [.rng ((k : Int) + 1)]) [1, 2, 3, 6, 7, 8, 9, 10] (.cons (rg (by omega)) <| .nil) (by kernel_rfl) fun a w hF hE => ?_)
      replace hO := hO.ext hE; clear hE
      replace hO := hO.drop1 2
      replace hO : Own w0 none_ [cel b1 #[.int .i64 d.hours, .slice v.ha v.hn v.hc, .slice v.la v.ln v.lc, .slice v.wa v.wn v.wc] 26, rowR 3 1 (.slice fp fn fc) fn ((refK (dayX d ws) (uB b d) (k - 1)).2.flatMap encI)] w := hO
      have hstp := refK_no hl2 hk1 hbet
      replace hO : Own w0 none_ [cel b1 #[.int .i64 d.hours, .slice v.ha v.hn v.hc, .slice v.la v.ln v.lc, .slice v.wa v.wn v.wc] 26, rowR 3 1 (.slice fp fn fc) fn ((refK (dayX d ws) (uB b d) (k + 1 - 1)).2.flatMap encI)] w := hO.cast (by rw [hstp])
      exact ⟨_, by omega, k + 1, fp, fn, fc, rfl, by omega, by omega, by rw [hstp]; exact hfl, by omega, hF.cast (by rw [hstp]; rfl), hO⟩
  · refine (W_false ((evOp hF (by kernel_rfl)).trans (congrArg Value.bool hc2)) ?_)
    have hkn := of_decide_eq_false (by assumption : (decide ((k : Int) < (2 ^ v.ln))) = false)
    refine (W_exit ?_)
    refine W_seq (region_q {} TBok hF (F' := [(6, .int .i64 ((refK (dayX d ws) (uB b d) (k - 1)).1)), (7, .slice fp fn fc)]) (rs := []) [6, 7] .nil (by kernel_rfl) fun a w hF hE => ?_)
    replace hO := hO.ext hE; clear hE
    refine W_ret ?_
    show bodyPostM (FW none) 0 _ _ _ Exit.ret a w
    have hend := refK_end (d := d) (ws := ws) (f := uB b d) hl2 (by omega : k = 2 ^ v.ln)
    rw [hend] at hO hfl
    exact leave_r TBok hF (.nil _) (vs := [.int .i64 ((refK (dayX d ws) (uB b d) (k - 1)).1), .slice fp fn fc]) (rs := []) .nil (by kernel_rfl) ⟨fp, fn, fc, hfl, by rw [hend]; rfl, hO.sel [1] (by decide)⟩

set_option maxHeartbeats 4000000 in
set_option maxRecDepth 100000 in
theorem refLost_calls (d : Day) (v : DV) (w0 : World) (hd : DayR w0.heap.size w0 v d) :
    Calls Try.prog 24 #[.agg #[.int .i64 d.hours, .slice v.ha v.hn v.hc, .slice v.la v.ln v.lc, .slice v.wa v.wn v.wc]] w0 (fun e w' => e = .returned (.tuple #[.int .i64 (bestN d), .int .i64 (chk d)]) ∧ Ext w0 w') := by
  have hl1 := hd.heat.len; have hl2 := hd.lots.len; have hl3 := hd.wks.len; have hs1 := hd.heat.size; have hs2 := hd.lots.size; have hs3 := hd.wks.size
  refine calls_of_W Try.func24 rfl (by kernel_rfl) (args := [.agg #[.int .i64 d.hours, .slice v.ha v.hn v.hc, .slice v.la v.ln v.lc, .slice v.wa v.wn v.wc]]) fun a hF => ?_
  replace hF : Fr 20 [] [(0, .agg #[.int .i64 d.hours, .slice v.ha v.hn v.hc, .slice v.la v.ln v.lc, .slice v.wa v.wn v.wc])] a := hF
  have hO : Own w0 none_ [] w0 := Own.start w0 _
  refine W_seq (region_seq ?_)
  refine op_box (i := 0) (t := 26) (v := .agg #[.int .i64 d.hours, .slice v.ha v.hn v.hc, .slice v.la v.ln v.lc, .slice v.wa v.wn v.wc]) (d := 1) hF hO (by kernel_rfl) fun a w b1 hF hO _ => ?_
  replace hO : Own w0 none_ [cel b1 #[.int .i64 d.hours, .slice v.ha v.hn v.hc, .slice v.la v.ln v.lc, .slice v.wa v.wn v.wc] 26] w := hO
  refine seq_quiet {} TBok hF (F' := [(1, .pointer (some ⟨b1, 0, none⟩)), (2, .int .i64 0), (3, .int .i64 0)]) (rs := []) [1, 2] [] [1, 2, 3] .nil (by kernel_rfl) fun a w hF hE => ?_
  replace hO := hO.ext hE; clear hE
  refine W_seq ?_
  refine W_seq (region_q {} TBok hF (F' := [(1, .pointer (some ⟨b1, 0, none⟩)), (2, .int .i64 0), (3, .int .i64 0), (4, .int .i64 (chk d))]) (rs := [.lds ⟨b1, 0, none⟩ [.int .i64 d.hours, .slice v.ha v.hn v.hc, .slice v.la v.ln v.lc, .slice v.wa v.wn v.wc], .call 19 #[.agg #[.int .i64 d.hours, .slice v.ha v.hn v.hc, .slice v.la v.ln v.lc, .slice v.wa v.wn v.wc]] (.int .i64 (chk d))]) [1, 2, 3, 4] (.cons (ldso hO.st 0 rfl 0 rfl) <| .cons (fun w hE => calls_cast (refCheck_calls d v w (hd.upM (hO.st w hE).kp nom (Nat.le_refl _))) (by rw [refChk_eq])) <| .nil) (by kernel_rfl) fun a w hF hE => ?_)
  replace hO := hO.ext hE; clear hE
  refine W_seq (region_q {} TBok hF (F' := [(1, .pointer (some ⟨b1, 0, none⟩)), (2, .int .i64 0), (3, .int .i64 0), (4, .int .i64 (chk d)), (10, .bool ((chk d) != 0))]) (rs := []) [1, 2, 3, 4, 10] .nil (by kernel_rfl) fun a w hF hE => ?_)
  replace hO := hO.ext hE; clear hE
  rcases Bool.eq_false_or_eq_true ((chk d) != 0) with hc2 | hc2
  · refine (W_true ((evOp hF (by kernel_rfl)).trans (congrArg Value.bool hc2)) ?_)
    refine W_seq (region_q {} TBok hF (F' := [(1, .pointer (some ⟨b1, 0, none⟩)), (2, .int .i64 0), (3, .int .i64 (chk d))]) (rs := []) [1, 2, 3] .nil (by kernel_rfl) fun a w hF hE => ?_)
    replace hO := hO.ext hE; clear hE
    refine W_ret ?_
    show bodyPostM (FW none) 0 _ _ _ Exit.ret a w
    exact leave_r TBok hF (.nil _) (vs := [.int .i64 0, .int .i64 (chk d)]) (rs := []) .nil (by kernel_rfl) ⟨by rw [bestN, if_pos (by simpa using hc2)]; rfl, hO.kp⟩
  · refine (W_false ((evOp hF (by kernel_rfl)).trans (congrArg Value.bool hc2)) ?_)
    have hvB := chk_okB (by assumption)
    have hv := dayB_V hvB
    have hv1 := day_ok hv
    refine (W_skip ?_)
    refine W_seq (region_seq ?_)
    refine seq_quiet {} TBok hF (F' := [(2, .int .i64 0), (3, .int .i64 0), (13, .agg #[.int .i64 d.hours, .slice v.ha v.hn v.hc, .slice v.la v.ln v.lc, .slice v.wa v.wn v.wc]), (15, .slice v.wa v.wn v.wc)]) (rs := [.lds ⟨b1, 0, none⟩ [.int .i64 d.hours, .slice v.ha v.hn v.hc, .slice v.la v.ln v.lc, .slice v.wa v.wn v.wc], .ld ⟨b1, 3, none⟩ (.slice v.wa v.wn v.wc)]) [0, 1, 2] [3, 4, 5, 6, 7, 8] [2, 3, 13, 15] (.cons (ldso hO.st 0 rfl 0 rfl) <| .cons (ldo hO.st 0 rfl 3 rfl) <| .nil) (by kernel_rfl) fun a w hF hE => ?_
    replace hO := hO.ext hE; clear hE
    refine op_call (i := 3) (f := 64) (args := #[.agg #[.int .i64 d.hours, .slice v.ha v.hn v.hc, .slice v.la v.ln v.lc, .slice v.wa v.wn v.wc], .slice v.wa v.wn v.wc, .bool false]) (d := some 16) TBok (by kernel_rfl) hF (by kernel_rfl) (greatest_calls d v d.wks v.wa v.wn v.wc false _ (hd.upM hO.kp nom (Nat.le_refl _)) hv (hd.wks.upM hO.kp nom (Nat.le_refl _)) hv) fun e w hR => ?_
    obtain ⟨p3, q4, c5, hq6, he, hO2⟩ := hR
    refine ⟨_, he, fun a hF => ?_⟩
    replace hO := hO.joinE hO2; clear hO2 he
    replace hO : Own w0 none_ [cel b1 #[.int .i64 d.hours, .slice v.ha v.hn v.hc, .slice v.la v.ln v.lc, .slice v.wa v.wn v.wc] 26, rowR 3 1 (.slice p3 q4 c5) q4 ((refGreat (dayX d d.wks) (uB false d)).2.flatMap encI)] w := hO
    refine seq_quiet {} TBok hF (F' := [(2, .int .i64 0), (3, .int .i64 0), (5, .int .i64 ((refGreat (dayX d d.wks) (uB false d)).1))]) (rs := []) [4, 5, 6, 7, 8] [] [2, 3, 5] .nil (by kernel_rfl) fun a w hF hE => ?_
    replace hO := hO.ext hE; clear hE
    refine W_seq (region_q {} TBok hF (F' := [(2, .int .i64 ((refGreat (dayX d d.wks) (uB false d)).1)), (3, .int .i64 0)]) (rs := []) [2, 3] .nil (by kernel_rfl) fun a w hF hE => ?_)
    replace hO := hO.ext hE; clear hE
    refine W_ret ?_
    show bodyPostM (FW none) 0 _ _ _ Exit.ret a w
    have hg := great_lost (d := d) (f := hot d) hv
    exact leave_r TBok hF (.nil _) (vs := [.int .i64 ((refGreat (dayX d d.wks) (uB false d)).1), .int .i64 0]) (rs := []) .nil (by kernel_rfl) ⟨by rw [bestN, if_neg (by simpa using hc2), ← hg, show chk d = 0 from by simpa using hc2]; rfl, hO.kp⟩

set_option maxHeartbeats 4000000 in
set_option maxRecDepth 100000 in
theorem refProof_calls (d : Day) (v : DV) (w0 : World) (hd : DayR w0.heap.size w0 v d) :
    Calls Try.prog 28 #[.agg #[.int .i64 d.hours, .slice v.ha v.hn v.hc, .slice v.la v.ln v.lc, .slice v.wa v.wn v.wc]] w0 (fun e w' => ∃ p n c, n ≤ 8 ∧ e = .returned (.tuple #[.slice p n c, .int .i64 (chk d)]) ∧ Own w0 none_ [rowR 3 1 (.slice p n c) n ((gutProof d).flatMap encI)] w') := by
  have hl1 := hd.heat.len; have hl2 := hd.lots.len; have hl3 := hd.wks.len; have hs1 := hd.heat.size; have hs2 := hd.lots.size; have hs3 := hd.wks.size
  refine calls_of_W Try.func28 rfl (by kernel_rfl) (args := [.agg #[.int .i64 d.hours, .slice v.ha v.hn v.hc, .slice v.la v.ln v.lc, .slice v.wa v.wn v.wc]]) fun a hF => ?_
  replace hF : Fr 20 [] [(0, .agg #[.int .i64 d.hours, .slice v.ha v.hn v.hc, .slice v.la v.ln v.lc, .slice v.wa v.wn v.wc])] a := hF
  have hO : Own w0 none_ [] w0 := Own.start w0 _
  refine W_seq (region_seq ?_)
  refine op_box (i := 0) (t := 26) (v := .agg #[.int .i64 d.hours, .slice v.ha v.hn v.hc, .slice v.la v.ln v.lc, .slice v.wa v.wn v.wc]) (d := 1) hF hO (by kernel_rfl) fun a w b1 hF hO _ => ?_
  replace hO : Own w0 none_ [cel b1 #[.int .i64 d.hours, .slice v.ha v.hn v.hc, .slice v.la v.ln v.lc, .slice v.wa v.wn v.wc] 26] w := hO
  refine seq_quiet {} TBok hF (F' := [(1, .pointer (some ⟨b1, 0, none⟩)), (2, .slice none 0 0), (3, .int .i64 0)]) (rs := []) [1, 2] [] [1, 2, 3] .nil (by kernel_rfl) fun a w hF hE => ?_
  replace hO := hO.ext hE; clear hE
  refine W_seq ?_
  refine W_seq (region_q {} TBok hF (F' := [(1, .pointer (some ⟨b1, 0, none⟩)), (2, .slice none 0 0), (3, .int .i64 0), (4, .int .i64 (chk d))]) (rs := [.lds ⟨b1, 0, none⟩ [.int .i64 d.hours, .slice v.ha v.hn v.hc, .slice v.la v.ln v.lc, .slice v.wa v.wn v.wc], .call 19 #[.agg #[.int .i64 d.hours, .slice v.ha v.hn v.hc, .slice v.la v.ln v.lc, .slice v.wa v.wn v.wc]] (.int .i64 (chk d))]) [1, 2, 3, 4] (.cons (ldso hO.st 0 rfl 0 rfl) <| .cons (fun w hE => calls_cast (refCheck_calls d v w (hd.upM (hO.st w hE).kp nom (Nat.le_refl _))) (by rw [refChk_eq])) <| .nil) (by kernel_rfl) fun a w hF hE => ?_)
  replace hO := hO.ext hE; clear hE
  refine W_seq (region_q {} TBok hF (F' := [(1, .pointer (some ⟨b1, 0, none⟩)), (2, .slice none 0 0), (3, .int .i64 0), (4, .int .i64 (chk d)), (10, .bool ((chk d) != 0))]) (rs := []) [1, 2, 3, 4, 10] .nil (by kernel_rfl) fun a w hF hE => ?_)
  replace hO := hO.ext hE; clear hE
  rcases Bool.eq_false_or_eq_true ((chk d) != 0) with hc2 | hc2
  · refine (W_true ((evOp hF (by kernel_rfl)).trans (congrArg Value.bool hc2)) ?_)
    refine W_seq (region_q {} TBok hF (F' := [(1, .pointer (some ⟨b1, 0, none⟩)), (2, .slice none 0 0), (3, .int .i64 (chk d))]) (rs := []) [1, 2, 3] .nil (by kernel_rfl) fun a w hF hE => ?_)
    replace hO := hO.ext hE; clear hE
    refine W_ret ?_
    show bodyPostM (FW none) 0 _ _ _ Exit.ret a w
    replace hO := (hO.nilRow 3 1).sel [1] (by decide)
    exact leave_r TBok hF (.nil _) (vs := [.slice none 0 0, .int .i64 (chk d)]) (rs := []) .nil (by kernel_rfl) ⟨none, 0, 0, by omega, rfl, hO.cast (by rw [gutProof, if_pos (by simpa using hc2)]; rfl)⟩
  · refine (W_false ((evOp hF (by kernel_rfl)).trans (congrArg Value.bool hc2)) ?_)
    have hvB := chk_okB (by assumption)
    have hv := dayB_V hvB
    have hv1 := day_ok hv
    refine (W_skip ?_)
    refine W_seq (region_seq ?_)
    refine seq_quiet {} TBok hF (F' := [(2, .slice none 0 0), (3, .int .i64 0), (13, .agg #[.int .i64 d.hours, .slice v.ha v.hn v.hc, .slice v.la v.ln v.lc, .slice v.wa v.wn v.wc]), (15, .slice v.wa v.wn v.wc)]) (rs := [.lds ⟨b1, 0, none⟩ [.int .i64 d.hours, .slice v.ha v.hn v.hc, .slice v.la v.ln v.lc, .slice v.wa v.wn v.wc], .ld ⟨b1, 3, none⟩ (.slice v.wa v.wn v.wc)]) [0, 1, 2] [3, 4, 5, 6, 7, 8] [2, 3, 13, 15] (.cons (ldso hO.st 0 rfl 0 rfl) <| .cons (ldo hO.st 0 rfl 3 rfl) <| .nil) (by kernel_rfl) fun a w hF hE => ?_
    replace hO := hO.ext hE; clear hE
    refine op_call (i := 3) (f := 64) (args := #[.agg #[.int .i64 d.hours, .slice v.ha v.hn v.hc, .slice v.la v.ln v.lc, .slice v.wa v.wn v.wc], .slice v.wa v.wn v.wc, .bool false]) (d := some 16) TBok (by kernel_rfl) hF (by kernel_rfl) (greatest_calls d v d.wks v.wa v.wn v.wc false _ (hd.upM hO.kp nom (Nat.le_refl _)) hv (hd.wks.upM hO.kp nom (Nat.le_refl _)) hv) fun e w hR => ?_
    obtain ⟨p3, q4, c5, hq6, he, hO2⟩ := hR
    refine ⟨_, he, fun a hF => ?_⟩
    replace hO := hO.joinE hO2; clear hO2 he
    replace hO : Own w0 none_ [cel b1 #[.int .i64 d.hours, .slice v.ha v.hn v.hc, .slice v.la v.ln v.lc, .slice v.wa v.wn v.wc] 26, rowR 3 1 (.slice p3 q4 c5) q4 ((refGreat (dayX d d.wks) (uB false d)).2.flatMap encI)] w := hO
    refine seq_quiet {} TBok hF (F' := [(2, .slice none 0 0), (3, .int .i64 0), (6, .slice p3 q4 c5)]) (rs := []) [4, 5, 6, 7, 8] [] [2, 3, 6] .nil (by kernel_rfl) fun a w hF hE => ?_
    replace hO := hO.ext hE; clear hE
    refine W_seq (region_q {} TBok hF (F' := [(2, .slice p3 q4 c5), (3, .int .i64 0)]) (rs := []) [2, 3] .nil (by kernel_rfl) fun a w hF hE => ?_)
    replace hO := hO.ext hE; clear hE
    refine W_ret ?_
    show bodyPostM (FW none) 0 _ _ _ Exit.ret a w
    have hg := great_proof (d := d) (f := hot d) hv
    replace hO := hO.sel [1] (by decide)
    have hrl := ris_len (refGreat_great (d := d) (f := hot d) (by omega)).ris
    exact leave_r TBok hF (.nil _) (vs := [.slice p3 q4 c5, .int .i64 0]) (rs := []) .nil (by kernel_rfl) ⟨p3, q4, c5, (by have hq_ : (refGreat d (hot d)).2.length = q4 := hq6; omega), by rw [show chk d = 0 from by simpa using hc2]; rfl, hO.cast (by rw [gutProof, if_neg (by simpa using hc2), ← hg]; rfl)⟩

set_option maxHeartbeats 4000000 in
set_option maxRecDepth 100000 in
theorem refDef_calls (d : Day) (v : DV) (xs : List Int) (p : Option Addr) (n c : Nat) (w0 : World) (hd : DayR w0.heap.size w0 v d) (hx : Rd encI 1 w0.heap.size w0 p n xs) :
    Calls Try.prog 26 #[.agg #[.int .i64 d.hours, .slice v.ha v.hn v.hc, .slice v.la v.ln v.lc, .slice v.wa v.wn v.wc], .slice p n c] w0 (fun e w' => e = .returned (.tuple #[.int .i64 (gutDeficit d xs).1, .int .i64 (gutDeficit d xs).2]) ∧ Ext w0 w') := by
  have hl1 := hd.heat.len; have hl2 := hd.lots.len; have hl3 := hd.wks.len; have hs1 := hd.heat.size; have hs2 := hd.lots.size; have hs3 := hd.wks.size; have hx1 := hx.len; have hx2 := hx.size
  refine calls_of_W Try.func26 rfl (by kernel_rfl) (args := [.agg #[.int .i64 d.hours, .slice v.ha v.hn v.hc, .slice v.la v.ln v.lc, .slice v.wa v.wn v.wc], .slice p n c]) fun a hF => ?_
  replace hF : Fr 23 [] [(0, .agg #[.int .i64 d.hours, .slice v.ha v.hn v.hc, .slice v.la v.ln v.lc, .slice v.wa v.wn v.wc]), (1, .slice p n c)] a := hF
  have hO : Own w0 none_ [] w0 := Own.start w0 _
  refine W_seq (region_seq ?_)
  refine op_box (i := 0) (t := 26) (v := .agg #[.int .i64 d.hours, .slice v.ha v.hn v.hc, .slice v.la v.ln v.lc, .slice v.wa v.wn v.wc]) (d := 2) hF hO (by kernel_rfl) fun a w b1 hF hO _ => ?_
  replace hO : Own w0 none_ [cel b1 #[.int .i64 d.hours, .slice v.ha v.hn v.hc, .slice v.la v.ln v.lc, .slice v.wa v.wn v.wc] 26] w := hO
  refine seq_quiet {} TBok hF (F' := [(1, .slice p n c), (2, .pointer (some ⟨b1, 0, none⟩)), (4, .int .i64 0), (5, .int .i64 0)]) (rs := []) [1, 2] [] [1, 2, 4, 5] .nil (by kernel_rfl) fun a w hF hE => ?_
  replace hO := hO.ext hE; clear hE
  refine W_seq ?_
  refine W_seq (region_q {} TBok hF (F' := [(1, .slice p n c), (2, .pointer (some ⟨b1, 0, none⟩)), (4, .int .i64 0), (5, .int .i64 0), (6, .int .i64 (chk d))]) (rs := [.lds ⟨b1, 0, none⟩ [.int .i64 d.hours, .slice v.ha v.hn v.hc, .slice v.la v.ln v.lc, .slice v.wa v.wn v.wc], .call 19 #[.agg #[.int .i64 d.hours, .slice v.ha v.hn v.hc, .slice v.la v.ln v.lc, .slice v.wa v.wn v.wc]] (.int .i64 (chk d))]) [1, 2, 4, 5, 6] (.cons (ldso hO.st 0 rfl 0 rfl) <| .cons (fun w hE => calls_cast (refCheck_calls d v w (hd.upM (hO.st w hE).kp nom (Nat.le_refl _))) (by rw [refChk_eq])) <| .nil) (by kernel_rfl) fun a w hF hE => ?_)
  replace hO := hO.ext hE; clear hE
  refine W_seq (region_q {} TBok hF (F' := [(1, .slice p n c), (2, .pointer (some ⟨b1, 0, none⟩)), (4, .int .i64 0), (5, .int .i64 0), (6, .int .i64 (chk d)), (10, .bool ((chk d) != 0))]) (rs := []) [1, 2, 4, 5, 6, 10] .nil (by kernel_rfl) fun a w hF hE => ?_)
  replace hO := hO.ext hE; clear hE
  rcases Bool.eq_false_or_eq_true ((chk d) != 0) with hc2 | hc2
  · refine (W_true ((evOp hF (by kernel_rfl)).trans (congrArg Value.bool hc2)) ?_)
    refine W_seq (region_q {} TBok hF (F' := [(1, .slice p n c), (2, .pointer (some ⟨b1, 0, none⟩)), (4, .int .i64 0), (5, .int .i64 (chk d))]) (rs := []) [1, 2, 4, 5] .nil (by kernel_rfl) fun a w hF hE => ?_)
    replace hO := hO.ext hE; clear hE
    refine W_ret ?_
    show bodyPostM (FW none) 0 _ _ _ Exit.ret a w
    exact leave_r TBok hF (.nil _) (vs := [.int .i64 0, .int .i64 (chk d)]) (rs := []) .nil (by kernel_rfl) ⟨by rw [gutDeficit, if_pos (by simpa using hc2)]; rfl, hO.kp⟩
  · refine (W_false ((evOp hF (by kernel_rfl)).trans (congrArg Value.bool hc2)) ?_)
    have hvB := chk_okB (by assumption)
    have hv := dayB_V hvB
    have hv1 := day_ok hv
    refine (W_skip ?_)
    refine W_seq ?_
    refine W_seq (region_q {} TBok hF (F' := [(1, .slice p n c), (2, .pointer (some ⟨b1, 0, none⟩)), (4, .int .i64 0), (5, .int .i64 0), (17, .bool (!(risF (v.ln : Int) (-1) xs)))]) (rs := [.ld ⟨b1, 2, none⟩ (.slice v.la v.ln v.lc), .call 41 #[.slice p n c, .int .i64 (v.ln : Int)] (.bool (risF (v.ln : Int) (-1) xs))]) [1, 2, 4, 5, 17] (.cons (ldo hO.st 0 rfl 2 rfl) <| .cons (fun w hE => Rising_calls xs p n c (v.ln : Int) w (hx.upM (hO.st w hE).kp nom (Nat.le_refl _)) (by omega)) <| .nil) (by kernel_rfl) fun a w hF hE => ?_)
    replace hO := hO.ext hE; clear hE
    rcases Bool.eq_false_or_eq_true (!(risF (v.ln : Int) (-1) xs)) with hc3 | hc3
    · refine (W_true ((evOp hF (by kernel_rfl)).trans (congrArg Value.bool hc3)) ?_)
      refine W_seq (region_q {} TBok hF (F' := [(1, .slice p n c), (2, .pointer (some ⟨b1, 0, none⟩)), (4, .int .i64 0), (5, .int .i64 51)]) (rs := []) [1, 2, 4, 5] .nil (by kernel_rfl) fun a w hF hE => ?_)
      replace hO := hO.ext hE; clear hE
      refine W_ret ?_
      show bodyPostM (FW none) 0 _ _ _ Exit.ret a w
      exact leave_r TBok hF (.nil _) (vs := [.int .i64 0, .int .i64 51]) (rs := []) .nil (by kernel_rfl) ⟨by rw [gutDeficit, if_neg (by simpa using hc2), if_neg (by rw [hl2]; simpa using hc3)]; rfl, hO.kp⟩
    · refine (W_false ((evOp hF (by kernel_rfl)).trans (congrArg Value.bool hc3)) ?_)
      have hris : risF (v.ln : Int) (-1) xs = true := by simpa using (by assumption : (!(risF (v.ln : Int) (-1) xs)) = false)
      have hin := ris_mem xs (-1) hris
      have hrl := ris_len hris
      refine (W_skip ?_)
      refine W_seq (region_q {} TBok hF (F' := [(4, .int .i64 (defV (dayX d d.wks) (uB false d) xs)), (5, .int .i64 0)]) (rs := [.lds ⟨b1, 0, none⟩ [.int .i64 d.hours, .slice v.ha v.hn v.hc, .slice v.la v.ln v.lc, .slice v.wa v.wn v.wc], .ld ⟨b1, 3, none⟩ (.slice v.wa v.wn v.wc), .call 66 #[.agg #[.int .i64 d.hours, .slice v.ha v.hn v.hc, .slice v.la v.ln v.lc, .slice v.wa v.wn v.wc], .slice p n c, .slice v.wa v.wn v.wc, .bool false] (.int .i64 (defV (dayX d d.wks) (uB false d) xs))]) [4, 5] (.cons (ldso hO.st 0 rfl 0 rfl) <| .cons (ldo hO.st 0 rfl 3 rfl) <| .cons (fun w hE => refDeficit_calls d v xs p n c d.wks v.wa v.wn v.wc false w (hd.upM (hO.st w hE).kp nom (Nat.le_refl _)) hv (hx.upM (hO.st w hE).kp nom (Nat.le_refl _)) (by omega) (fun x hx => by have := hin x hx; omega) (hd.wks.upM (hO.st w hE).kp nom (Nat.le_refl _)) hv) <| .nil) (by kernel_rfl) fun a w hF hE => ?_)
      replace hO := hO.ext hE; clear hE
      refine W_ret ?_
      show bodyPostM (FW none) 0 _ _ _ Exit.ret a w
      exact leave_r TBok hF (.nil _) (vs := [.int .i64 (defV (dayX d d.wks) (uB false d) xs), .int .i64 0]) (rs := []) .nil (by kernel_rfl) ⟨by rw [gutDeficit, if_neg (by simpa using hc2), if_pos (by rw [hl2]; exact hris), defF_eq]; rfl, hO.kp⟩

set_option maxHeartbeats 4000000 in
set_option maxRecDepth 100000 in
theorem refTold_calls (d : Day) (v : DV) (w0 : World) (hd : DayR w0.heap.size w0 v d) :
    Calls Try.prog 31 #[.agg #[.int .i64 d.hours, .slice v.ha v.hn v.hc, .slice v.la v.ln v.lc, .slice v.wa v.wn v.wc]] w0 (fun e w' => e = .returned (.tuple #[.agg #[.int .i64 (gutTold d).1, .int .i64 (gutTold d).2.1], .int .i64 (gutTold d).2.2]) ∧ Ext w0 w') := by
  have hl1 := hd.heat.len; have hl2 := hd.lots.len; have hl3 := hd.wks.len; have hs1 := hd.heat.size; have hs2 := hd.lots.size; have hs3 := hd.wks.size
  refine calls_of_W Try.func31 rfl (by kernel_rfl) (args := [.agg #[.int .i64 d.hours, .slice v.ha v.hn v.hc, .slice v.la v.ln v.lc, .slice v.wa v.wn v.wc]]) fun a hF => ?_
  replace hF : Fr 32 [] [(0, .agg #[.int .i64 d.hours, .slice v.ha v.hn v.hc, .slice v.la v.ln v.lc, .slice v.wa v.wn v.wc])] a := hF
  have hO : Own w0 none_ [] w0 := Own.start w0 _
  refine W_seq (region_seq ?_)
  refine op_box (i := 0) (t := 26) (v := .agg #[.int .i64 d.hours, .slice v.ha v.hn v.hc, .slice v.la v.ln v.lc, .slice v.wa v.wn v.wc]) (d := 1) hF hO (by kernel_rfl) fun a w b1 hF hO _ => ?_
  replace hO : Own w0 none_ [cel b1 #[.int .i64 d.hours, .slice v.ha v.hn v.hc, .slice v.la v.ln v.lc, .slice v.wa v.wn v.wc] 26] w := hO
  refine op_alloc (i := 1) (t := 47) (d := 2) (z := .agg #[.int .i64 0, .int .i64 0]) hF hO (by kernel_rfl) (by kernel_rfl) fun a w b2 hF hO _ => ?_
  replace hO : Own w0 none_ [cel b1 #[.int .i64 d.hours, .slice v.ha v.hn v.hc, .slice v.la v.ln v.lc, .slice v.wa v.wn v.wc] 26, cel b2 #[.int .i64 0, .int .i64 0] 47] w := hO
  refine seq_quiet {} TBok hF (F' := [(1, .pointer (some ⟨b1, 0, none⟩)), (2, .pointer (some ⟨b2, 0, none⟩)), (3, .int .i64 0)]) (rs := []) [2] [] [1, 2, 3] .nil (by kernel_rfl) fun a w hF hE => ?_
  replace hO := hO.ext hE; clear hE
  refine W_seq ?_
  refine W_seq (region_q {} TBok hF (F' := [(1, .pointer (some ⟨b1, 0, none⟩)), (2, .pointer (some ⟨b2, 0, none⟩)), (3, .int .i64 0), (4, .int .i64 (chk d))]) (rs := [.lds ⟨b1, 0, none⟩ [.int .i64 d.hours, .slice v.ha v.hn v.hc, .slice v.la v.ln v.lc, .slice v.wa v.wn v.wc], .call 19 #[.agg #[.int .i64 d.hours, .slice v.ha v.hn v.hc, .slice v.la v.ln v.lc, .slice v.wa v.wn v.wc]] (.int .i64 (chk d))]) [1, 2, 3, 4] (.cons (ldso hO.st 0 rfl 0 rfl) <| .cons (fun w hE => calls_cast (refCheck_calls d v w (hd.upM (hO.st w hE).kp nom (Nat.le_refl _))) (by rw [refChk_eq])) <| .nil) (by kernel_rfl) fun a w hF hE => ?_)
  replace hO := hO.ext hE; clear hE
  refine W_seq (region_q {} TBok hF (F' := [(1, .pointer (some ⟨b1, 0, none⟩)), (2, .pointer (some ⟨b2, 0, none⟩)), (3, .int .i64 0), (4, .int .i64 (chk d)), (12, .bool ((chk d) != 0))]) (rs := []) [1, 2, 3, 4, 12] .nil (by kernel_rfl) fun a w hF hE => ?_)
  replace hO := hO.ext hE; clear hE
  rcases Bool.eq_false_or_eq_true ((chk d) != 0) with hc3 | hc3
  · refine (W_true ((evOp hF (by kernel_rfl)).trans (congrArg Value.bool hc3)) ?_)
    refine W_seq (region_seq ?_)
    refine seq_quiet { md := [(0, 3)] } TBok hF (F' := [(1, .pointer (some ⟨b1, 0, none⟩)), (2, .pointer (some ⟨b2, 0, none⟩)), (3, .int .i64 0), (13, .agg #[.int .i64 0, .int .i64 0]), (14, .int .i64 (chk d))]) (rs := [.raw (Instr.build 47 #[]) (.agg #[.int .i64 0, .int .i64 0])]) [0, 1] [2, 3] [1, 2, 3, 13, 14] (.cons (fun w _ => by kernel_rfl) <| .nil) (by kernel_rfl) fun a w hF hE => ?_
    replace hO := hO.ext hE; clear hE
    refine op_store (i := 2) (t := 47) (p := ⟨b2, 0, none⟩) (v := .agg #[.int .i64 0, .int .i64 0]) (off := 0) (sz := 2) (cs' := #[.int .i64 0, .int .i64 0]) hF hO (by kernel_rfl) 1 rfl rfl (by kernel_rfl) (by kernel_rfl) (by kernel_rfl) fun a w hF hO _ => ?_
    replace hO : Own w0 none_ [cel b1 #[.int .i64 d.hours, .slice v.ha v.hn v.hc, .slice v.la v.ln v.lc, .slice v.wa v.wn v.wc] 26, cel b2 #[.int .i64 0, .int .i64 0] 47] w := hO
    refine seq_quiet {} TBok hF (F' := [(1, .pointer (some ⟨b1, 0, none⟩)), (2, .pointer (some ⟨b2, 0, none⟩)), (3, .int .i64 (chk d))]) (rs := []) [3] [] [1, 2, 3] .nil (by kernel_rfl) fun a w hF hE => ?_
    replace hO := hO.ext hE; clear hE
    refine W_ret ?_
    show bodyPostM (FW none) 0 _ _ _ Exit.ret a w
    exact leave_r TBok hF (.nil _) (vs := [.agg #[.int .i64 0, .int .i64 0], .int .i64 (chk d)]) (rs := [.lds ⟨b2, 0, none⟩ [.int .i64 0, .int .i64 0]]) (.cons (rdso hO 1 rfl 0 rfl) <| .nil) (by kernel_rfl) ⟨by rw [gutTold, if_pos (by simpa using hc3)]; rfl, hO.kp⟩
  · refine (W_false ((evOp hF (by kernel_rfl)).trans (congrArg Value.bool hc3)) ?_)
    have hvB := chk_okB (by assumption)
    have hv := dayB_V hvB
    have hv1 := day_ok hv
    refine (W_skip ?_)
    refine W_seq (region_seq ?_)
    refine seq_quiet {} TBok hF (F' := [(1, .pointer (some ⟨b1, 0, none⟩)), (2, .pointer (some ⟨b2, 0, none⟩)), (3, .int .i64 0), (16, .agg #[.int .i64 d.hours, .slice v.ha v.hn v.hc, .slice v.la v.ln v.lc, .slice v.wa v.wn v.wc]), (18, .slice v.wa v.wn v.wc)]) (rs := [.lds ⟨b1, 0, none⟩ [.int .i64 d.hours, .slice v.ha v.hn v.hc, .slice v.la v.ln v.lc, .slice v.wa v.wn v.wc], .ld ⟨b1, 3, none⟩ (.slice v.wa v.wn v.wc)]) [0, 1, 2] [3, 4, 5, 6, 7, 8] [1, 2, 3, 16, 18] (.cons (ldso hO.st 0 rfl 0 rfl) <| .cons (ldo hO.st 0 rfl 3 rfl) <| .nil) (by kernel_rfl) fun a w hF hE => ?_
    replace hO := hO.ext hE; clear hE
    refine op_call (i := 3) (f := 64) (args := #[.agg #[.int .i64 d.hours, .slice v.ha v.hn v.hc, .slice v.la v.ln v.lc, .slice v.wa v.wn v.wc], .slice v.wa v.wn v.wc, .bool true]) (d := some 19) TBok (by kernel_rfl) hF (by kernel_rfl) (greatest_calls d v d.wks v.wa v.wn v.wc true _ (hd.upM hO.kp nom (Nat.le_refl _)) hv (hd.wks.upM hO.kp nom (Nat.le_refl _)) hv) fun e w hR => ?_
    obtain ⟨p4, q5, c6, hq7, he, hO2⟩ := hR
    refine ⟨_, he, fun a hF => ?_⟩
    replace hO := hO.joinE hO2; clear hO2 he
    replace hO : Own w0 none_ [cel b1 #[.int .i64 d.hours, .slice v.ha v.hn v.hc, .slice v.la v.ln v.lc, .slice v.wa v.wn v.wc] 26, cel b2 #[.int .i64 0, .int .i64 0] 47, rowR 3 1 (.slice p4 q5 c6) q5 ((refGreat (dayX d d.wks) (uB true d)).2.flatMap encI)] w := hO
    refine seq_quiet {} TBok hF (F' := [(1, .pointer (some ⟨b1, 0, none⟩)), (2, .pointer (some ⟨b2, 0, none⟩)), (3, .int .i64 0), (5, .int .i64 ((refGreat (dayX d d.wks) (uB true d)).1))]) (rs := []) [4, 5, 6, 7, 8] [] [1, 2, 3, 5] .nil (by kernel_rfl) fun a w hF hE => ?_
    replace hO := hO.ext hE; clear hE
    refine W_seq (region_seq ?_)
    refine seq_quiet {} TBok hF (F' := [(2, .pointer (some ⟨b2, 0, none⟩)), (3, .int .i64 0), (5, .int .i64 ((refGreat (dayX d d.wks) (uB true d)).1)), (23, .agg #[.int .i64 d.hours, .slice v.ha v.hn v.hc, .slice v.la v.ln v.lc, .slice v.wa v.wn v.wc]), (25, .slice v.wa v.wn v.wc)]) (rs := [.lds ⟨b1, 0, none⟩ [.int .i64 d.hours, .slice v.ha v.hn v.hc, .slice v.la v.ln v.lc, .slice v.wa v.wn v.wc], .ld ⟨b1, 3, none⟩ (.slice v.wa v.wn v.wc)]) [0, 1, 2] [3, 4, 5, 6, 7, 8] [2, 3, 5, 23, 25] (.cons (ldso hO.st 0 rfl 0 rfl) <| .cons (ldo hO.st 0 rfl 3 rfl) <| .nil) (by kernel_rfl) fun a w hF hE => ?_
    replace hO := hO.ext hE; clear hE
    refine op_call (i := 3) (f := 64) (args := #[.agg #[.int .i64 d.hours, .slice v.ha v.hn v.hc, .slice v.la v.ln v.lc, .slice v.wa v.wn v.wc], .slice v.wa v.wn v.wc, .bool false]) (d := some 26) TBok (by kernel_rfl) hF (by kernel_rfl) (greatest_calls d v d.wks v.wa v.wn v.wc false _ (hd.upM hO.kp nom (Nat.le_refl _)) hv (hd.wks.upM hO.kp nom (Nat.le_refl _)) hv) fun e w hR => ?_
    obtain ⟨p8, q9, c10, hq11, he, hO2⟩ := hR
    refine ⟨_, he, fun a hF => ?_⟩
    replace hO := hO.joinE hO2; clear hO2 he
    replace hO : Own w0 none_ [cel b1 #[.int .i64 d.hours, .slice v.ha v.hn v.hc, .slice v.la v.ln v.lc, .slice v.wa v.wn v.wc] 26, cel b2 #[.int .i64 0, .int .i64 0] 47, rowR 3 1 (.slice p4 q5 c6) q5 ((refGreat (dayX d d.wks) (uB true d)).2.flatMap encI), rowR 3 1 (.slice p8 q9 c10) q9 ((refGreat (dayX d d.wks) (uB false d)).2.flatMap encI)] w := hO
    refine seq_quiet {} TBok hF (F' := [(2, .pointer (some ⟨b2, 0, none⟩)), (3, .int .i64 0), (5, .int .i64 ((refGreat (dayX d d.wks) (uB true d)).1)), (7, .int .i64 ((refGreat (dayX d d.wks) (uB false d)).1))]) (rs := []) [4, 5, 6, 7, 8] [] [2, 3, 5, 7] .nil (by kernel_rfl) fun a w hF hE => ?_
    replace hO := hO.ext hE; clear hE
    refine W_seq (region_seq ?_)
    refine seq_quiet { md := [(2, 3)] } TBok hF (F' := [(2, .pointer (some ⟨b2, 0, none⟩)), (3, .int .i64 0), (31, .agg #[.int .i64 ((refGreat (dayX d d.wks) (uB true d)).1), .int .i64 ((refGreat (dayX d d.wks) (uB false d)).1)])]) (rs := [.raw (Instr.build 47 #[(0, .int .i64 ((refGreat (dayX d d.wks) (uB true d)).1)), (1, .int .i64 ((refGreat (dayX d d.wks) (uB false d)).1))]) (.agg #[.int .i64 ((refGreat (dayX d d.wks) (uB true d)).1), .int .i64 ((refGreat (dayX d d.wks) (uB false d)).1)])]) [0, 1, 2] [3, 4] [2, 3, 31] (.cons (fun w _ => by kernel_rfl) <| .nil) (by kernel_rfl) fun a w hF hE => ?_
    replace hO := hO.ext hE; clear hE
    refine op_store (i := 3) (t := 47) (p := ⟨b2, 0, none⟩) (v := .agg #[.int .i64 ((refGreat (dayX d d.wks) (uB true d)).1), .int .i64 ((refGreat (dayX d d.wks) (uB false d)).1)]) (off := 0) (sz := 2) (cs' := #[.int .i64 ((refGreat (dayX d d.wks) (uB true d)).1), .int .i64 ((refGreat (dayX d d.wks) (uB false d)).1)]) hF hO (by kernel_rfl) 1 rfl rfl (by kernel_rfl) (by kernel_rfl) (by kernel_rfl) fun a w hF hO _ => ?_
    replace hO : Own w0 none_ [cel b1 #[.int .i64 d.hours, .slice v.ha v.hn v.hc, .slice v.la v.ln v.lc, .slice v.wa v.wn v.wc] 26, cel b2 #[.int .i64 ((refGreat (dayX d d.wks) (uB true d)).1), .int .i64 ((refGreat (dayX d d.wks) (uB false d)).1)] 47, rowR 3 1 (.slice p4 q5 c6) q5 ((refGreat (dayX d d.wks) (uB true d)).2.flatMap encI), rowR 3 1 (.slice p8 q9 c10) q9 ((refGreat (dayX d d.wks) (uB false d)).2.flatMap encI)] w := hO
    refine seq_quiet {} TBok hF (F' := [(2, .pointer (some ⟨b2, 0, none⟩)), (3, .int .i64 0)]) (rs := []) [4] [] [2, 3] .nil (by kernel_rfl) fun a w hF hE => ?_
    replace hO := hO.ext hE; clear hE
    refine W_ret ?_
    show bodyPostM (FW none) 0 _ _ _ Exit.ret a w
    have hg := great_lost (d := d) (f := hot d) hv
    have hg2 := told_lo hv
    exact leave_r TBok hF (.nil _) (vs := [.agg #[.int .i64 ((refGreat (dayX d d.wks) (uB true d)).1), .int .i64 ((refGreat (dayX d d.wks) (uB false d)).1)], .int .i64 0]) (rs := [.lds ⟨b2, 0, none⟩ [.int .i64 ((refGreat (dayX d d.wks) (uB true d)).1), .int .i64 ((refGreat (dayX d d.wks) (uB false d)).1)]]) (.cons (rdso hO 1 rfl 0 rfl) <| .nil) (by kernel_rfl) ⟨by rw [gutTold, if_neg (by simpa using hc3), ← hg, ← hg2]; rfl, hO.kp⟩

end Go.Proofs.Ytioimdegbdkppaa.DK
