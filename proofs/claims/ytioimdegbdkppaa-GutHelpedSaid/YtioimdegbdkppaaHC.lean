/- Walks: Help and IsPlan of the reference. Printed by my gen.py out of gut/u.py. -/
import Derived.Test.YtioimdegbdkppaaHB
namespace Go.Proofs.Ytioimdegbdkppaa.DK
open Go Go.Proofs
set_option linter.unusedVariables false

theorem refHelp_ok (d : Day) (l : List Wk) : (inB (l.length : Int) 1 6 && l.all (refWkB d.hours)) = helpOk d l := by
  unfold helpOk
  rw [show refWkB d.hours = wkB d.hours from funext (refWk_eq _)]

set_option maxHeartbeats 4000000 in
set_option maxRecDepth 100000 in
theorem refHelp_calls (d : Day) (v : DV) (l : List Wk) (lp : Option Addr) (ln lc : Nat) (w0 : World) (hd : DayR w0.heap.size w0 v d) (hls : Rd encWk 4 w0.heap.size w0 lp ln l) :
    Calls Try.prog 33 #[.agg #[.int .i64 d.hours, .slice v.ha v.hn v.hc, .slice v.la v.ln v.lc, .slice v.wa v.wn v.wc], .slice lp ln lc] w0 (fun e w' => e = .returned (.tuple #[.int .i64 (gutHelp d l).1, .int .i64 (gutHelp d l).2.1, .int .i64 (gutHelp d l).2.2]) ∧ Ext w0 w') := by
  have hl1 := hd.heat.len; have hl2 := hd.lots.len; have hl3 := hd.wks.len; have hs1 := hd.heat.size; have hs2 := hd.lots.size; have hs3 := hd.wks.size; have hx1 := hls.len; have hx2 := hls.size
  refine calls_of_W Try.func33 rfl (by kernel_rfl) (args := [.agg #[.int .i64 d.hours, .slice v.ha v.hn v.hc, .slice v.la v.ln v.lc, .slice v.wa v.wn v.wc], .slice lp ln lc]) fun a hF => ?_
  replace hF : Fr 73 [] [(0, .agg #[.int .i64 d.hours, .slice v.ha v.hn v.hc, .slice v.la v.ln v.lc, .slice v.wa v.wn v.wc]), (1, .slice lp ln lc)] a := hF
  have hO : Own w0 none_ [] w0 := Own.start w0 _
  refine W_seq (region_seq ?_)
  refine op_box (i := 0) (t := 26) (v := .agg #[.int .i64 d.hours, .slice v.ha v.hn v.hc, .slice v.la v.ln v.lc, .slice v.wa v.wn v.wc]) (d := 2) hF hO (by kernel_rfl) fun a w b1 hF hO _ => ?_
  replace hO : Own w0 none_ [cel b1 #[.int .i64 d.hours, .slice v.ha v.hn v.hc, .slice v.la v.ln v.lc, .slice v.wa v.wn v.wc] 26] w := hO
  refine seq_quiet {} TBok hF (F' := [(1, .slice lp ln lc), (2, .pointer (some ⟨b1, 0, none⟩)), (4, .int .i64 0), (5, .int .i64 0), (6, .int .i64 0)]) (rs := []) [1, 2, 3] [] [1, 2, 4, 5, 6] .nil (by kernel_rfl) fun a w hF hE => ?_
  replace hO := hO.ext hE; clear hE
  refine W_seq ?_
  refine W_seq (region_q {} TBok hF (F' := [(1, .slice lp ln lc), (2, .pointer (some ⟨b1, 0, none⟩)), (4, .int .i64 0), (5, .int .i64 0), (6, .int .i64 0), (7, .int .i64 (chk d))]) (rs := [.lds ⟨b1, 0, none⟩ [.int .i64 d.hours, .slice v.ha v.hn v.hc, .slice v.la v.ln v.lc, .slice v.wa v.wn v.wc], .call 19 #[.agg #[.int .i64 d.hours, .slice v.ha v.hn v.hc, .slice v.la v.ln v.lc, .slice v.wa v.wn v.wc]] (.int .i64 (chk d))]) [1, 2, 4, 5, 6, 7] (.cons (ldso hO.st 0 rfl 0 rfl) <| .cons (fun w hE => calls_cast (refCheck_calls d v w (hd.upM (hO.st w hE).kp nom (Nat.le_refl _))) (by rw [refChk_eq])) <| .nil) (by kernel_rfl) fun a w hF hE => ?_)
  replace hO := hO.ext hE; clear hE
  refine W_seq (region_q {} TBok hF (F' := [(1, .slice lp ln lc), (2, .pointer (some ⟨b1, 0, none⟩)), (4, .int .i64 0), (5, .int .i64 0), (6, .int .i64 0), (7, .int .i64 (chk d)), (18, .bool ((chk d) != 0))]) (rs := []) [1, 2, 4, 5, 6, 7, 18] .nil (by kernel_rfl) fun a w hF hE => ?_)
  replace hO := hO.ext hE; clear hE
  rcases Bool.eq_false_or_eq_true ((chk d) != 0) with hc2 | hc2
  · refine (W_true ((evOp hF (by kernel_rfl)).trans (congrArg Value.bool hc2)) ?_)
    refine W_seq (region_q {} TBok hF (F' := [(1, .slice lp ln lc), (2, .pointer (some ⟨b1, 0, none⟩)), (4, .int .i64 0), (5, .int .i64 0), (6, .int .i64 (chk d))]) (rs := []) [1, 2, 4, 5, 6] .nil (by kernel_rfl) fun a w hF hE => ?_)
    replace hO := hO.ext hE; clear hE
    refine W_ret ?_
    show bodyPostM (FW none) 0 _ _ _ Exit.ret a w
    exact leave_r TBok hF (.nil _) (vs := [.int .i64 0, .int .i64 0, .int .i64 (chk d)]) (rs := []) .nil (by kernel_rfl) ⟨by rw [gutHelp, if_pos (by simpa using hc2)]; rfl, hO.kp⟩
  · refine (W_false ((evOp hF (by kernel_rfl)).trans (congrArg Value.bool hc2)) ?_)
    have hvB := chk_okB (by assumption)
    have hv := dayB_V hvB
    have hv1 := day_ok hv
    refine (W_skip ?_)
    refine W_seq (region_q {} TBok hF (F' := [(1, .slice lp ln lc), (2, .pointer (some ⟨b1, 0, none⟩)), (4, .int .i64 0), (5, .int .i64 0), (6, .int .i64 0), (8, .bool (inB (ln : Int) 1 6))]) (rs := [.call 36 #[.int .i64 (ln : Int), .int .i64 1, .int .i64 6] (.bool (inB (ln : Int) 1 6))]) [1, 2, 4, 5, 6, 8] (.cons (fun w _ => In_calls _ _ _ w) <| .nil) (by kernel_rfl) fun a w hF hE => ?_)
    replace hO := hO.ext hE; clear hE
    refine W_seq ?_
    refine W_seq (region_q {} TBok hF (F' := [(1, .slice lp ln lc), (2, .pointer (some ⟨b1, 0, none⟩)), (4, .int .i64 0), (5, .int .i64 0), (6, .int .i64 0), (8, .bool (inB (ln : Int) 1 6)), (9, .int .i64 0)]) (rs := []) [1, 2, 4, 5, 6, 8, 9] .nil (by kernel_rfl) fun a w hF hE => ?_)
    replace hO := hO.ext hE; clear hE
    refine (W_block ?_)
    refine (W_loop (fun m a w => ∃ (k : Nat), ∃ (ok : Bool), m = ln - k ∧ k ≤ ln ∧ (ok && (l.drop k).all (refWkB d.hours)) = (inB (ln : Int) 1 6 && l.all (refWkB d.hours)) ∧ Fr 73 [] [(1, .slice lp ln lc), (2, .pointer (some ⟨b1, 0, none⟩)), (4, .int .i64 0), (5, .int .i64 0), (6, .int .i64 0), (8, .bool ok), (9, .int .i64 (k : Int))] a ∧ Own w0 none_ [cel b1 #[.int .i64 d.hours, .slice v.ha v.hn v.hc, .slice v.la v.ln v.lc, .slice v.wa v.wn v.wc] 26] w) _ ⟨0, _, rfl, Nat.zero_le _, rfl, hF, hO⟩ ?_)
    clear hF hO
    rintro _ a w ⟨k, ok, rfl, hk, heq, hF, hO⟩
    refine W_seq ?_
    refine W_seq (region_q { sy := [1] } TBok hF (F' := [(1, .slice lp ln lc), (2, .pointer (some ⟨b1, 0, none⟩)), (4, .int .i64 0), (5, .int .i64 0), (6, .int .i64 0), (8, .bool ok), (9, .int .i64 (k : Int)), (29, .bool (cond ok (decide ((k : Int) < (ln : Int))) false))]) (rs := []) [1, 2, 4, 5, 6, 8, 9, 29] .nil (by kernel_rfl) fun a w hF hE => ?_)
    replace hO := hO.ext hE; clear hE
    rcases Bool.eq_false_or_eq_true (cond ok (decide ((k : Int) < (ln : Int))) false) with hc3 | hc3
    · refine (W_true ((evOp hF (by kernel_rfl)).trans (congrArg Value.bool hc3)) ?_)
      obtain ⟨hokt, hkn⟩ := rgo (by assumption : (cond ok (decide ((k : Int) < (ln : Int))) false) = true)
      refine (W_skip ?_)
      refine W_seq (W_block ?_)
      refine (region_d {} mixed TBok hF (F' := [(1, .slice lp ln lc), (2, .pointer (some ⟨b1, 0, none⟩)), (4, .int .i64 0), (5, .int .i64 0), (6, .int .i64 0), (8, .bool (refWkB d.hours (l.getD k default))), (9, .int .i64 (k : Int))]) (rs := [.idx lp ln (k : Int) 4 (adr lp 4 (k : Int)), .lds (adr lp 4 (k : Int)) [.int .i64 ((l.getD k default).kd), .int .i64 ((l.getD k default).fr), .int .i64 ((l.getD k default).to), .int .i64 ((l.getD k default).rt)], .ld ⟨b1, 0, none⟩ (.int .i64 d.hours), .call 55 #[.agg #[.int .i64 ((l.getD k default).kd), .int .i64 ((l.getD k default).fr), .int .i64 ((l.getD k default).to), .int .i64 ((l.getD k default).rt)], .int .i64 d.hours] (.bool (refWkB d.hours (l.getD k default)))]) [1, 2, 4, 5, 6, 8, 9] (.cons (ix hls (by omega) (by omega)) <| .cons (ldsx hO.st nom hls (by omega) (by omega) rfl) <| .cons (ldo hO.st 0 rfl 0 rfl) <| .cons (fun w _ => worker_calls (l.getD k default) d.hours w (by omega)) <| .nil) (by kernel_rfl) (by kernel_rfl) fun a w hF hE => ?_)
      replace hO := hO.ext hE; clear hE
      refine (region_q {} TBok hF (F' := [(1, .slice lp ln lc), (2, .pointer (some ⟨b1, 0, none⟩)), (4, .int .i64 0), (5, .int .i64 0), (6, .int .i64 0), (8, .bool (refWkB d.hours (l.getD k default))), (9, .int .i64 ((k : Int) + 1))]) (rs := [.rng ((k : Int) + 1)]) [1, 2, 4, 5, 6, 8, 9] (.cons (rg (by omega)) <| .nil) (by kernel_rfl) fun a w hF hE => ?_)
      replace hO := hO.ext hE; clear hE
      exact ⟨_, by omega, k + 1, _, rfl, by omega, rall_step heq hokt (by omega), hF, hO⟩
    · refine (W_false ((evOp hF (by kernel_rfl)).trans (congrArg Value.bool hc3)) ?_)
      have hend := rall_end heq (by rw [hx1]; assumption)
      refine (W_exit ?_)
      refine W_seq ?_
      refine W_seq (region_q {} TBok hF (F' := [(1, .slice lp ln lc), (2, .pointer (some ⟨b1, 0, none⟩)), (4, .int .i64 0), (5, .int .i64 0), (6, .int .i64 0), (40, .bool (!ok))]) (rs := []) [1, 2, 4, 5, 6, 40] .nil (by kernel_rfl) fun a w hF hE => ?_)
      replace hO := hO.ext hE; clear hE
      rcases Bool.eq_false_or_eq_true (!ok) with hc4 | hc4
      · refine (W_true ((evOp hF (by kernel_rfl)).trans (congrArg Value.bool hc4)) ?_)
        have hall0 : helpOk d l = false := by rw [← refHelp_ok d l, hx1, ← hend]; simpa using (by assumption : (!ok) = true)
        refine W_seq (region_q {} TBok hF (F' := [(1, .slice lp ln lc), (2, .pointer (some ⟨b1, 0, none⟩)), (4, .int .i64 0), (5, .int .i64 0), (6, .int .i64 52)]) (rs := []) [1, 2, 4, 5, 6] .nil (by kernel_rfl) fun a w hF hE => ?_)
        replace hO := hO.ext hE; clear hE
        refine W_ret ?_
        show bodyPostM (FW none) 0 _ _ _ Exit.ret a w
        exact leave_r TBok hF (.nil _) (vs := [.int .i64 0, .int .i64 0, .int .i64 52]) (rs := []) .nil (by kernel_rfl) ⟨by rw [gutHelp, if_neg (by simpa using hc2), if_neg (by rw [hall0]; simp)]; rfl, hO.kp⟩
      · refine (W_false ((evOp hF (by kernel_rfl)).trans (congrArg Value.bool hc4)) ?_)
        have hall2 : helpOk d l = true := by rw [← refHelp_ok d l, hx1, ← hend]; simpa using (by assumption : (!ok) = false)
        have hwl := helpOk_wk hall2
        refine (W_skip ?_)
        refine W_seq (region_q {} TBok hF (F' := [(1, .slice lp ln lc), (2, .pointer (some ⟨b1, 0, none⟩)), (4, .int .i64 0), (5, .int .i64 0), (6, .int .i64 0), (10, .int .i64 0), (11, .int .i64 0)]) (rs := []) [1, 2, 4, 5, 6, 10, 11] .nil (by kernel_rfl) fun a w hF hE => ?_)
        replace hO := hO.ext hE; clear hE
        refine W_seq ?_
        refine W_seq (region_q {} TBok hF (F' := [(1, .slice lp ln lc), (2, .pointer (some ⟨b1, 0, none⟩)), (4, .int .i64 0), (5, .int .i64 0), (6, .int .i64 0), (10, .int .i64 0), (11, .int .i64 0), (12, .int .i64 0)]) (rs := []) [1, 2, 4, 5, 6, 10, 11, 12] .nil (by kernel_rfl) fun a w hF hE => ?_)
        replace hO := hO.ext hE; clear hE
        refine (W_block ?_)
        refine (W_loop (fun m a w => ∃ (k2 : Nat), m = ln - k2 ∧ k2 ≤ ln ∧ Fr 73 [] [(1, .slice lp ln lc), (2, .pointer (some ⟨b1, 0, none⟩)), (4, .int .i64 0), (5, .int .i64 0), (6, .int .i64 0), (10, .int .i64 ((helpK d l k2).1)), (11, .int .i64 ((helpK d l k2).2)), (12, .int .i64 (k2 : Int))] a ∧ Own w0 none_ [cel b1 #[.int .i64 d.hours, .slice v.ha v.hn v.hc, .slice v.la v.ln v.lc, .slice v.wa v.wn v.wc] 26] w) _ ⟨0, rfl, Nat.zero_le _, hF, hO⟩ ?_)
        clear hF hO
        rintro _ a w ⟨k2, rfl, hk2, hF, hO⟩
        refine W_seq ?_
        refine W_seq (region_q {} TBok hF (F' := [(1, .slice lp ln lc), (2, .pointer (some ⟨b1, 0, none⟩)), (4, .int .i64 0), (5, .int .i64 0), (6, .int .i64 0), (10, .int .i64 ((helpK d l k2).1)), (11, .int .i64 ((helpK d l k2).2)), (12, .int .i64 (k2 : Int)), (44, .bool (decide ((k2 : Int) < (ln : Int))))]) (rs := []) [1, 2, 4, 5, 6, 10, 11, 12, 44] .nil (by kernel_rfl) fun a w hF hE => ?_)
        replace hO := hO.ext hE; clear hE
        rcases Bool.eq_false_or_eq_true (decide ((k2 : Int) < (ln : Int))) with hc5 | hc5
        · refine (W_true ((evOp hF (by kernel_rfl)).trans (congrArg Value.bool hc5)) ?_)
          have hkn2 := of_decide_eq_true (by assumption : (decide ((k2 : Int) < (ln : Int))) = true)
          refine (W_skip ?_)
          refine W_seq (W_block ?_)
          refine W_seq (W_cut (fun a w => ∃ b6x : Nat, ∃ p7x : Option Addr, ∃ c8x : Nat, ∃ b10x : Nat, ∃ p11x : Option Addr, ∃ c12x : Nat, ∃ p13x : Option Addr, ∃ q14x : Nat, ∃ c15x : Nat, Fr 73 [] [(1, .slice lp ln lc), (2, .pointer (some ⟨b1, 0, none⟩)), (4, .int .i64 0), (5, .int .i64 0), (6, .int .i64 0), (10, .int .i64 ((helpK d l k2).1)), (11, .int .i64 ((helpK d l k2).2)), (12, .int .i64 (k2 : Int)), (13, .int .i64 ((refGreat (dayX d (d.wks ++ [(l.getD k2 default)])) (uB false d)).1))] a ∧ Own w0 none_ [cel b1 #[.int .i64 d.hours, .slice v.ha v.hn v.hc, .slice v.la v.ln v.lc, .slice v.wa v.wn v.wc] 26, rowR 61 4 (.slice p11x (v.wn + 1) c12x) (v.wn + 1) ((d.wks ++ [(l.getD k2 default)]).flatMap encWk), cel b10x #[.int .i64 ((l.getD k2 default).kd), .int .i64 ((l.getD k2 default).fr), .int .i64 ((l.getD k2 default).to), .int .i64 ((l.getD k2 default).rt)] 61, rowR 3 1 (.slice p13x q14x c15x) q14x ((refGreat (dayX d (d.wks ++ [(l.getD k2 default)])) (uB false d)).2.flatMap encI)] w) (draw_start (R := none_) mixed [] 17 (by kernel_rfl) fun w hS => ?_) ?_)
          · replace hO := hO.ext hS
            refine draw_q {} TBok hF hS (F' := [(1, .slice lp ln lc), (2, .pointer (some ⟨b1, 0, none⟩)), (4, .int .i64 0), (5, .int .i64 0), (6, .int .i64 0), (10, .int .i64 ((helpK d l k2).1)), (11, .int .i64 ((helpK d l k2).2)), (12, .int .i64 (k2 : Int)), (48, .agg #[.int .i64 d.hours, .slice v.ha v.hn v.hc, .slice v.la v.ln v.lc, .slice v.wa v.wn v.wc]), (51, .slice v.wa v.wn v.wc), (56, .agg #[.int .i64 ((l.getD k2 default).kd), .int .i64 ((l.getD k2 default).fr), .int .i64 ((l.getD k2 default).to), .int .i64 ((l.getD k2 default).rt)])]) (rs := [.lds ⟨b1, 0, none⟩ [.int .i64 d.hours, .slice v.ha v.hn v.hc, .slice v.la v.ln v.lc, .slice v.wa v.wn v.wc], .ld ⟨b1, 3, none⟩ (.slice v.wa v.wn v.wc), .idx lp ln (k2 : Int) 4 (adr lp 4 (k2 : Int)), .lds (adr lp 4 (k2 : Int)) [.int .i64 ((l.getD k2 default).kd), .int .i64 ((l.getD k2 default).fr), .int .i64 ((l.getD k2 default).to), .int .i64 ((l.getD k2 default).rt)]]) [0, 2, 3, 5, 6, 7, 8] 17 10 (by kernel_rfl) #[true, false, true, true, false, true, true, true, true, false, false, false, false, false, false, false, false] [1, 2, 4, 5, 6, 10, 11, 12, 48, 51, 56] (.cons (ldso hO.st 0 rfl 0 rfl) <| .cons (ldo hO.st 0 rfl 3 rfl) <| .cons (ix hls (by omega) (by omega)) <| .cons (ldsx hO.st nom hls (by omega) (by omega) rfl) <| .nil) (by kernel_rfl) (by kernel_rfl) fun a hF => ?_
            replace hS := Kp.refl none_ w
            refine any_pick (rs := [1, 9]) (by kernel_rfl) (by simp) fun w hE => all2 ?_ ?_
            · replace hO := hO.ext hE; replace hS := hS.trans (Ext.kp hE)
              refine op_bsl (i := 1) (t := 24) (e := 61) (len := 0) (ps := []) (d := 49) (sz := 4) (cs := #[]) (z := .agg #[.int .i64 0, .int .i64 0, .int .i64 0, .int .i64 0]) hF hO (by kernel_rfl) (by kernel_rfl) (by kernel_rfl) (by kernel_rfl) (by kernel_rfl) fun a w b106 hF hO hx => ⟨.inr (hS.trans (Ext.kp hx.1)), ?_⟩
              have hf_b106 := Nat.le_trans hS.size hx.2; replace hS := hS.trans (Ext.kp hx.1); clear hx
              replace hO : Own w0 none_ [cel b1 #[.int .i64 d.hours, .slice v.ha v.hn v.hc, .slice v.la v.ln v.lc, .slice v.wa v.wn v.wc] 26, cel b106 #[] 61] w := hO
              refine any_pick (rs := [4, 9]) (by kernel_rfl) (by simp) fun w hE => all2 ?_ ?_
              · replace hO := hO.ext hE; replace hS := hS.trans (Ext.kp hE)
                replace hO := hO.emptyRow 1 rfl 4
                replace hO : Own w0 none_ [cel b1 #[.int .i64 d.hours, .slice v.ha v.hn v.hc, .slice v.la v.ln v.lc, .slice v.wa v.wn v.wc] 26, rowR 61 4 (.slice (some ⟨b106, 0, none⟩) 0 0) 0 ([])] w := hO
                refine op_appX (i := 4) (t := 24) (ty := 24) (e := 61) (d := 52) (c2 := v.wc) (enc := encWk) (ys := d.wks) rowT24 (fun _ => rfl) (fun _ => rfl) hF hO (by kernel_rfl) ((hd.wks.upM hO.kp nom (Nat.le_refl _))) 1 rfl (by omega) fun a w p107 c108 hF hO hx => ⟨.inr (hS.freshR hx.1 (fun k hk => by simp only [rowR, Value.ownBlock, Option.some.injEq] at hk; subst hk; exact hf_b106)), ?_⟩
                have hfr_p107 := fun q hq => (hx.2 q hq).elim ((fun hk => by simp only [rowR, Value.ownBlock, Option.some.injEq] at hk; subst hk; exact hf_b106)) (Nat.le_trans hS.size)
                replace hS := hS.freshR hx.1 (fun k hk => by simp only [rowR, Value.ownBlock, Option.some.injEq] at hk; subst hk; exact hf_b106)
                clear hx
                replace hO : Own w0 none_ [cel b1 #[.int .i64 d.hours, .slice v.ha v.hn v.hc, .slice v.la v.ln v.lc, .slice v.wa v.wn v.wc] 26, rowR 61 4 (.slice p107 (0 + v.wn) c108) (0 + v.wn) ([] ++ (d.wks).flatMap encWk)] w := hO
                have hn109 : 0 + v.wn = v.wn := Nat.zero_add _
                rw [hn109] at hO hF
                rw [hn109] at hfr_p107
                clear hn109
                replace hO : Own w0 none_ [cel b1 #[.int .i64 d.hours, .slice v.ha v.hn v.hc, .slice v.la v.ln v.lc, .slice v.wa v.wn v.wc] 26, rowR 61 4 (.slice p107 v.wn c108) v.wn (d.wks.flatMap encWk)] w := hO
                refine any_pick (rs := [9]) (by kernel_rfl) (by simp) fun w hE => all1 ?_
                replace hO := hO.ext hE; replace hS := hS.trans (Ext.kp hE)
                refine op_bsl (i := 9) (t := 24) (e := 61) (len := 1) (ps := [(0, .agg #[.int .i64 ((l.getD k2 default).kd), .int .i64 ((l.getD k2 default).fr), .int .i64 ((l.getD k2 default).to), .int .i64 ((l.getD k2 default).rt)])]) (d := 57) (sz := 4) (cs := #[.int .i64 ((l.getD k2 default).kd), .int .i64 ((l.getD k2 default).fr), .int .i64 ((l.getD k2 default).to), .int .i64 ((l.getD k2 default).rt)]) (z := .agg #[.int .i64 0, .int .i64 0, .int .i64 0, .int .i64 0]) hF hO (by kernel_rfl) (by kernel_rfl) (by kernel_rfl) (by kernel_rfl) (by kernel_rfl) fun a w b110 hF hO hx => ⟨.inr (hS.trans (Ext.kp hx.1)), ?_⟩
                have hf_b110 := Nat.le_trans hS.size hx.2; replace hS := hS.trans (Ext.kp hx.1); clear hx
                replace hO : Own w0 none_ [cel b1 #[.int .i64 d.hours, .slice v.ha v.hn v.hc, .slice v.la v.ln v.lc, .slice v.wa v.wn v.wc] 26, rowR 61 4 (.slice p107 v.wn c108) v.wn (d.wks.flatMap encWk), cel b110 #[.int .i64 ((l.getD k2 default).kd), .int .i64 ((l.getD k2 default).fr), .int .i64 ((l.getD k2 default).to), .int .i64 ((l.getD k2 default).rt)] 61] w := hO
                refine any_pick (rs := [10]) (by kernel_rfl) (by simp) fun w hE => all1 ?_
                replace hO := hO.ext hE; replace hS := hS.trans (Ext.kp hE)
                refine op_appR (i := 10) (t := 24) (ty := 24) (e := 61) (d := 58) rowT24 hF hO (by kernel_rfl) 1 rfl 2 rfl (by kernel_rfl) (by omega) fun a w p111 c112 hF hO hx => ⟨.inr (hS.freshR hx hfr_p107), ?_⟩
                replace hS := hS.freshR hx hfr_p107
                clear hx
                replace hO : Own w0 none_ [cel b1 #[.int .i64 d.hours, .slice v.ha v.hn v.hc, .slice v.la v.ln v.lc, .slice v.wa v.wn v.wc] 26, rowR 61 4 (.slice p111 (v.wn + 1) c112) (v.wn + 1) ((d.wks.flatMap encWk) ++ (#[.int .i64 ((l.getD k2 default).kd), .int .i64 ((l.getD k2 default).fr), .int .i64 ((l.getD k2 default).to), .int .i64 ((l.getD k2 default).rt)] : Array Value).toList), cel b110 #[.int .i64 ((l.getD k2 default).kd), .int .i64 ((l.getD k2 default).fr), .int .i64 ((l.getD k2 default).to), .int .i64 ((l.getD k2 default).rt)] 61] w := hO
                refine any_pick (rs := [11]) (by kernel_rfl) (by simp) fun w hE => all1 ?_
                replace hO := hO.ext hE; replace hS := hS.trans (Ext.kp hE)
                replace hO : Own w0 none_ [cel b1 #[.int .i64 d.hours, .slice v.ha v.hn v.hc, .slice v.la v.ln v.lc, .slice v.wa v.wn v.wc] 26, rowR 61 4 (.slice p111 (v.wn + 1) c112) (v.wn + 1) ((d.wks ++ [(l.getD k2 default)]).flatMap encWk), cel b110 #[.int .i64 ((l.getD k2 default).kd), .int .i64 ((l.getD k2 default).fr), .int .i64 ((l.getD k2 default).to), .int .i64 ((l.getD k2 default).rt)] 61] w := hO.cast (by rw [List.flatMap_append]; rfl)
                have hvW : dayV (dayX d (d.wks ++ [(l.getD k2 default)])) = true := dayW_V hvB (hwl k2 (by omega))
                refine op_call (i := 11) (f := 64) (args := #[.agg #[.int .i64 d.hours, .slice v.ha v.hn v.hc, .slice v.la v.ln v.lc, .slice v.wa v.wn v.wc], .slice p111 (v.wn + 1) c112, .bool false]) (d := some 59) TBok (by kernel_rfl) hF (by kernel_rfl) (greatest_calls d v (d.wks ++ [(l.getD k2 default)]) p111 (v.wn + 1) c112 false _ (hd.upM hO.kp nom (Nat.le_refl _)) hv (rd_row (fun _ => rfl) (by decide) hO 1 rfl (by omega)) hvW) fun e w hR => ?_
                obtain ⟨p113, q114, c115, hq116, he, hO2⟩ := hR
                refine ⟨_, he, fun a hF => ⟨.inr (hS.trans (Ext.kp hO2.kp)), ?_⟩⟩
                replace hS := hS.trans (Ext.kp hO2.kp)
                replace hO := hO.joinE hO2; clear hO2 he
                replace hO : Own w0 none_ [cel b1 #[.int .i64 d.hours, .slice v.ha v.hn v.hc, .slice v.la v.ln v.lc, .slice v.wa v.wn v.wc] 26, rowR 61 4 (.slice p111 (v.wn + 1) c112) (v.wn + 1) ((d.wks ++ [(l.getD k2 default)]).flatMap encWk), cel b110 #[.int .i64 ((l.getD k2 default).kd), .int .i64 ((l.getD k2 default).fr), .int .i64 ((l.getD k2 default).to), .int .i64 ((l.getD k2 default).rt)] 61, rowR 3 1 (.slice p113 q114 c115) q114 ((refGreat (dayX d (d.wks ++ [(l.getD k2 default)])) (uB false d)).2.flatMap encI)] w := hO
                refine draw_q0 {} TBok hF hS (F' := [(1, .slice lp ln lc), (2, .pointer (some ⟨b1, 0, none⟩)), (4, .int .i64 0), (5, .int .i64 0), (6, .int .i64 0), (10, .int .i64 ((helpK d l k2).1)), (11, .int .i64 ((helpK d l k2).2)), (12, .int .i64 (k2 : Int)), (13, .int .i64 ((refGreat (dayX d (d.wks ++ [(l.getD k2 default)])) (uB false d)).1))]) [12, 13, 14, 15, 16] 5 0 (by kernel_rfl) #[true, true, true, true, true, true, true, true, true, true, true, true, true, true, true, true, true] [1, 2, 4, 5, 6, 10, 11, 12, 13] (by kernel_rfl) (by kernel_rfl) fun a hF => ?_
                refine any_done (by kernel_rfl) (fun w hE => ?_) _
                replace hO := hO.ext hE
                replace hF := hF.sel [1, 2, 4, 5, 6, 10, 11, 12, 13]
                replace hF : Fr 73 [] [(1, .slice lp ln lc), (2, .pointer (some ⟨b1, 0, none⟩)), (4, .int .i64 0), (5, .int .i64 0), (6, .int .i64 0), (10, .int .i64 ((helpK d l k2).1)), (11, .int .i64 ((helpK d l k2).2)), (12, .int .i64 (k2 : Int)), (13, .int .i64 ((refGreat (dayX d (d.wks ++ [(l.getD k2 default)])) (uB false d)).1))] a := hF
                exact ⟨rfl, b106, p107, c108, b110, p111, c112, p113, q114, c115, hF, hO.sel [0, 1, 2, 3] (by decide)⟩
              · replace hO := hO.ext hE; replace hS := hS.trans (Ext.kp hE)
                refine op_bsl (i := 9) (t := 24) (e := 61) (len := 1) (ps := [(0, .agg #[.int .i64 ((l.getD k2 default).kd), .int .i64 ((l.getD k2 default).fr), .int .i64 ((l.getD k2 default).to), .int .i64 ((l.getD k2 default).rt)])]) (d := 57) (sz := 4) (cs := #[.int .i64 ((l.getD k2 default).kd), .int .i64 ((l.getD k2 default).fr), .int .i64 ((l.getD k2 default).to), .int .i64 ((l.getD k2 default).rt)]) (z := .agg #[.int .i64 0, .int .i64 0, .int .i64 0, .int .i64 0]) hF hO (by kernel_rfl) (by kernel_rfl) (by kernel_rfl) (by kernel_rfl) (by kernel_rfl) fun a w b117 hF hO hx => ⟨.inr (hS.trans (Ext.kp hx.1)), ?_⟩
                have hf_b117 := Nat.le_trans hS.size hx.2; replace hS := hS.trans (Ext.kp hx.1); clear hx
                replace hO : Own w0 none_ [cel b1 #[.int .i64 d.hours, .slice v.ha v.hn v.hc, .slice v.la v.ln v.lc, .slice v.wa v.wn v.wc] 26, cel b106 #[] 61, cel b117 #[.int .i64 ((l.getD k2 default).kd), .int .i64 ((l.getD k2 default).fr), .int .i64 ((l.getD k2 default).to), .int .i64 ((l.getD k2 default).rt)] 61] w := hO
                refine any_pick (rs := [4]) (by kernel_rfl) (by simp) fun w hE => all1 ?_
                replace hO := hO.ext hE; replace hS := hS.trans (Ext.kp hE)
                replace hO := hO.emptyRow 1 rfl 4
                replace hO : Own w0 none_ [cel b1 #[.int .i64 d.hours, .slice v.ha v.hn v.hc, .slice v.la v.ln v.lc, .slice v.wa v.wn v.wc] 26, rowR 61 4 (.slice (some ⟨b106, 0, none⟩) 0 0) 0 ([]), cel b117 #[.int .i64 ((l.getD k2 default).kd), .int .i64 ((l.getD k2 default).fr), .int .i64 ((l.getD k2 default).to), .int .i64 ((l.getD k2 default).rt)] 61] w := hO
                refine op_appX (i := 4) (t := 24) (ty := 24) (e := 61) (d := 52) (c2 := v.wc) (enc := encWk) (ys := d.wks) rowT24 (fun _ => rfl) (fun _ => rfl) hF hO (by kernel_rfl) ((hd.wks.upM hO.kp nom (Nat.le_refl _))) 1 rfl (by omega) fun a w p118 c119 hF hO hx => ⟨.inr (hS.freshR hx.1 (fun k hk => by simp only [rowR, Value.ownBlock, Option.some.injEq] at hk; subst hk; exact hf_b106)), ?_⟩
                have hfr_p118 := fun q hq => (hx.2 q hq).elim ((fun hk => by simp only [rowR, Value.ownBlock, Option.some.injEq] at hk; subst hk; exact hf_b106)) (Nat.le_trans hS.size)
                replace hS := hS.freshR hx.1 (fun k hk => by simp only [rowR, Value.ownBlock, Option.some.injEq] at hk; subst hk; exact hf_b106)
                clear hx
                replace hO : Own w0 none_ [cel b1 #[.int .i64 d.hours, .slice v.ha v.hn v.hc, .slice v.la v.ln v.lc, .slice v.wa v.wn v.wc] 26, rowR 61 4 (.slice p118 (0 + v.wn) c119) (0 + v.wn) ([] ++ (d.wks).flatMap encWk), cel b117 #[.int .i64 ((l.getD k2 default).kd), .int .i64 ((l.getD k2 default).fr), .int .i64 ((l.getD k2 default).to), .int .i64 ((l.getD k2 default).rt)] 61] w := hO
                have hn120 : 0 + v.wn = v.wn := Nat.zero_add _
                rw [hn120] at hO hF
                rw [hn120] at hfr_p118
                clear hn120
                replace hO : Own w0 none_ [cel b1 #[.int .i64 d.hours, .slice v.ha v.hn v.hc, .slice v.la v.ln v.lc, .slice v.wa v.wn v.wc] 26, rowR 61 4 (.slice p118 v.wn c119) v.wn (d.wks.flatMap encWk), cel b117 #[.int .i64 ((l.getD k2 default).kd), .int .i64 ((l.getD k2 default).fr), .int .i64 ((l.getD k2 default).to), .int .i64 ((l.getD k2 default).rt)] 61] w := hO
                refine any_pick (rs := [10]) (by kernel_rfl) (by simp) fun w hE => all1 ?_
                replace hO := hO.ext hE; replace hS := hS.trans (Ext.kp hE)
                refine op_appR (i := 10) (t := 24) (ty := 24) (e := 61) (d := 58) rowT24 hF hO (by kernel_rfl) 1 rfl 2 rfl (by kernel_rfl) (by omega) fun a w p121 c122 hF hO hx => ⟨.inr (hS.freshR hx hfr_p118), ?_⟩
                replace hS := hS.freshR hx hfr_p118
                clear hx
                replace hO : Own w0 none_ [cel b1 #[.int .i64 d.hours, .slice v.ha v.hn v.hc, .slice v.la v.ln v.lc, .slice v.wa v.wn v.wc] 26, rowR 61 4 (.slice p121 (v.wn + 1) c122) (v.wn + 1) ((d.wks.flatMap encWk) ++ (#[.int .i64 ((l.getD k2 default).kd), .int .i64 ((l.getD k2 default).fr), .int .i64 ((l.getD k2 default).to), .int .i64 ((l.getD k2 default).rt)] : Array Value).toList), cel b117 #[.int .i64 ((l.getD k2 default).kd), .int .i64 ((l.getD k2 default).fr), .int .i64 ((l.getD k2 default).to), .int .i64 ((l.getD k2 default).rt)] 61] w := hO
                refine any_pick (rs := [11]) (by kernel_rfl) (by simp) fun w hE => all1 ?_
                replace hO := hO.ext hE; replace hS := hS.trans (Ext.kp hE)
                replace hO : Own w0 none_ [cel b1 #[.int .i64 d.hours, .slice v.ha v.hn v.hc, .slice v.la v.ln v.lc, .slice v.wa v.wn v.wc] 26, rowR 61 4 (.slice p121 (v.wn + 1) c122) (v.wn + 1) ((d.wks ++ [(l.getD k2 default)]).flatMap encWk), cel b117 #[.int .i64 ((l.getD k2 default).kd), .int .i64 ((l.getD k2 default).fr), .int .i64 ((l.getD k2 default).to), .int .i64 ((l.getD k2 default).rt)] 61] w := hO.cast (by rw [List.flatMap_append]; rfl)
                have hvW : dayV (dayX d (d.wks ++ [(l.getD k2 default)])) = true := dayW_V hvB (hwl k2 (by omega))
                refine op_call (i := 11) (f := 64) (args := #[.agg #[.int .i64 d.hours, .slice v.ha v.hn v.hc, .slice v.la v.ln v.lc, .slice v.wa v.wn v.wc], .slice p121 (v.wn + 1) c122, .bool false]) (d := some 59) TBok (by kernel_rfl) hF (by kernel_rfl) (greatest_calls d v (d.wks ++ [(l.getD k2 default)]) p121 (v.wn + 1) c122 false _ (hd.upM hO.kp nom (Nat.le_refl _)) hv (rd_row (fun _ => rfl) (by decide) hO 1 rfl (by omega)) hvW) fun e w hR => ?_
                obtain ⟨p123, q124, c125, hq126, he, hO2⟩ := hR
                refine ⟨_, he, fun a hF => ⟨.inr (hS.trans (Ext.kp hO2.kp)), ?_⟩⟩
                replace hS := hS.trans (Ext.kp hO2.kp)
                replace hO := hO.joinE hO2; clear hO2 he
                replace hO : Own w0 none_ [cel b1 #[.int .i64 d.hours, .slice v.ha v.hn v.hc, .slice v.la v.ln v.lc, .slice v.wa v.wn v.wc] 26, rowR 61 4 (.slice p121 (v.wn + 1) c122) (v.wn + 1) ((d.wks ++ [(l.getD k2 default)]).flatMap encWk), cel b117 #[.int .i64 ((l.getD k2 default).kd), .int .i64 ((l.getD k2 default).fr), .int .i64 ((l.getD k2 default).to), .int .i64 ((l.getD k2 default).rt)] 61, rowR 3 1 (.slice p123 q124 c125) q124 ((refGreat (dayX d (d.wks ++ [(l.getD k2 default)])) (uB false d)).2.flatMap encI)] w := hO
                refine draw_q0 {} TBok hF hS (F' := [(1, .slice lp ln lc), (2, .pointer (some ⟨b1, 0, none⟩)), (4, .int .i64 0), (5, .int .i64 0), (6, .int .i64 0), (10, .int .i64 ((helpK d l k2).1)), (11, .int .i64 ((helpK d l k2).2)), (12, .int .i64 (k2 : Int)), (13, .int .i64 ((refGreat (dayX d (d.wks ++ [(l.getD k2 default)])) (uB false d)).1))]) [12, 13, 14, 15, 16] 5 0 (by kernel_rfl) #[true, true, true, true, true, true, true, true, true, true, true, true, true, true, true, true, true] [1, 2, 4, 5, 6, 10, 11, 12, 13] (by kernel_rfl) (by kernel_rfl) fun a hF => ?_
                refine any_done (by kernel_rfl) (fun w hE => ?_) _
                replace hO := hO.ext hE
                replace hF := hF.sel [1, 2, 4, 5, 6, 10, 11, 12, 13]
                replace hF : Fr 73 [] [(1, .slice lp ln lc), (2, .pointer (some ⟨b1, 0, none⟩)), (4, .int .i64 0), (5, .int .i64 0), (6, .int .i64 0), (10, .int .i64 ((helpK d l k2).1)), (11, .int .i64 ((helpK d l k2).2)), (12, .int .i64 (k2 : Int)), (13, .int .i64 ((refGreat (dayX d (d.wks ++ [(l.getD k2 default)])) (uB false d)).1))] a := hF
                exact ⟨rfl, b106, p118, c119, b117, p121, c122, p123, q124, c125, hF, hO.sel [0, 1, 2, 3] (by decide)⟩
            · replace hO := hO.ext hE; replace hS := hS.trans (Ext.kp hE)
              refine op_bsl (i := 9) (t := 24) (e := 61) (len := 1) (ps := [(0, .agg #[.int .i64 ((l.getD k2 default).kd), .int .i64 ((l.getD k2 default).fr), .int .i64 ((l.getD k2 default).to), .int .i64 ((l.getD k2 default).rt)])]) (d := 57) (sz := 4) (cs := #[.int .i64 ((l.getD k2 default).kd), .int .i64 ((l.getD k2 default).fr), .int .i64 ((l.getD k2 default).to), .int .i64 ((l.getD k2 default).rt)]) (z := .agg #[.int .i64 0, .int .i64 0, .int .i64 0, .int .i64 0]) hF hO (by kernel_rfl) (by kernel_rfl) (by kernel_rfl) (by kernel_rfl) (by kernel_rfl) fun a w b127 hF hO hx => ⟨.inr (hS.trans (Ext.kp hx.1)), ?_⟩
              have hf_b127 := Nat.le_trans hS.size hx.2; replace hS := hS.trans (Ext.kp hx.1); clear hx
              replace hO : Own w0 none_ [cel b1 #[.int .i64 d.hours, .slice v.ha v.hn v.hc, .slice v.la v.ln v.lc, .slice v.wa v.wn v.wc] 26, cel b127 #[.int .i64 ((l.getD k2 default).kd), .int .i64 ((l.getD k2 default).fr), .int .i64 ((l.getD k2 default).to), .int .i64 ((l.getD k2 default).rt)] 61] w := hO
              refine any_pick (rs := [1]) (by kernel_rfl) (by simp) fun w hE => all1 ?_
              replace hO := hO.ext hE; replace hS := hS.trans (Ext.kp hE)
              refine op_bsl (i := 1) (t := 24) (e := 61) (len := 0) (ps := []) (d := 49) (sz := 4) (cs := #[]) (z := .agg #[.int .i64 0, .int .i64 0, .int .i64 0, .int .i64 0]) hF hO (by kernel_rfl) (by kernel_rfl) (by kernel_rfl) (by kernel_rfl) (by kernel_rfl) fun a w b128 hF hO hx => ⟨.inr (hS.trans (Ext.kp hx.1)), ?_⟩
              have hf_b128 := Nat.le_trans hS.size hx.2; replace hS := hS.trans (Ext.kp hx.1); clear hx
              replace hO : Own w0 none_ [cel b1 #[.int .i64 d.hours, .slice v.ha v.hn v.hc, .slice v.la v.ln v.lc, .slice v.wa v.wn v.wc] 26, cel b127 #[.int .i64 ((l.getD k2 default).kd), .int .i64 ((l.getD k2 default).fr), .int .i64 ((l.getD k2 default).to), .int .i64 ((l.getD k2 default).rt)] 61, cel b128 #[] 61] w := hO
              refine any_pick (rs := [4]) (by kernel_rfl) (by simp) fun w hE => all1 ?_
              replace hO := hO.ext hE; replace hS := hS.trans (Ext.kp hE)
              replace hO := hO.emptyRow 2 rfl 4
              replace hO : Own w0 none_ [cel b1 #[.int .i64 d.hours, .slice v.ha v.hn v.hc, .slice v.la v.ln v.lc, .slice v.wa v.wn v.wc] 26, cel b127 #[.int .i64 ((l.getD k2 default).kd), .int .i64 ((l.getD k2 default).fr), .int .i64 ((l.getD k2 default).to), .int .i64 ((l.getD k2 default).rt)] 61, rowR 61 4 (.slice (some ⟨b128, 0, none⟩) 0 0) 0 ([])] w := hO
              refine op_appX (i := 4) (t := 24) (ty := 24) (e := 61) (d := 52) (c2 := v.wc) (enc := encWk) (ys := d.wks) rowT24 (fun _ => rfl) (fun _ => rfl) hF hO (by kernel_rfl) ((hd.wks.upM hO.kp nom (Nat.le_refl _))) 2 rfl (by omega) fun a w p129 c130 hF hO hx => ⟨.inr (hS.freshR hx.1 (fun k hk => by simp only [rowR, Value.ownBlock, Option.some.injEq] at hk; subst hk; exact hf_b128)), ?_⟩
              have hfr_p129 := fun q hq => (hx.2 q hq).elim ((fun hk => by simp only [rowR, Value.ownBlock, Option.some.injEq] at hk; subst hk; exact hf_b128)) (Nat.le_trans hS.size)
              replace hS := hS.freshR hx.1 (fun k hk => by simp only [rowR, Value.ownBlock, Option.some.injEq] at hk; subst hk; exact hf_b128)
              clear hx
              replace hO : Own w0 none_ [cel b1 #[.int .i64 d.hours, .slice v.ha v.hn v.hc, .slice v.la v.ln v.lc, .slice v.wa v.wn v.wc] 26, cel b127 #[.int .i64 ((l.getD k2 default).kd), .int .i64 ((l.getD k2 default).fr), .int .i64 ((l.getD k2 default).to), .int .i64 ((l.getD k2 default).rt)] 61, rowR 61 4 (.slice p129 (0 + v.wn) c130) (0 + v.wn) ([] ++ (d.wks).flatMap encWk)] w := hO
              have hn131 : 0 + v.wn = v.wn := Nat.zero_add _
              rw [hn131] at hO hF
              rw [hn131] at hfr_p129
              clear hn131
              replace hO : Own w0 none_ [cel b1 #[.int .i64 d.hours, .slice v.ha v.hn v.hc, .slice v.la v.ln v.lc, .slice v.wa v.wn v.wc] 26, cel b127 #[.int .i64 ((l.getD k2 default).kd), .int .i64 ((l.getD k2 default).fr), .int .i64 ((l.getD k2 default).to), .int .i64 ((l.getD k2 default).rt)] 61, rowR 61 4 (.slice p129 v.wn c130) v.wn (d.wks.flatMap encWk)] w := hO
              refine any_pick (rs := [10]) (by kernel_rfl) (by simp) fun w hE => all1 ?_
              replace hO := hO.ext hE; replace hS := hS.trans (Ext.kp hE)
              refine op_appR (i := 10) (t := 24) (ty := 24) (e := 61) (d := 58) rowT24 hF hO (by kernel_rfl) 2 rfl 1 rfl (by kernel_rfl) (by omega) fun a w p132 c133 hF hO hx => ⟨.inr (hS.freshR hx hfr_p129), ?_⟩
              replace hS := hS.freshR hx hfr_p129
              clear hx
              replace hO : Own w0 none_ [cel b1 #[.int .i64 d.hours, .slice v.ha v.hn v.hc, .slice v.la v.ln v.lc, .slice v.wa v.wn v.wc] 26, cel b127 #[.int .i64 ((l.getD k2 default).kd), .int .i64 ((l.getD k2 default).fr), .int .i64 ((l.getD k2 default).to), .int .i64 ((l.getD k2 default).rt)] 61, rowR 61 4 (.slice p132 (v.wn + 1) c133) (v.wn + 1) ((d.wks.flatMap encWk) ++ (#[.int .i64 ((l.getD k2 default).kd), .int .i64 ((l.getD k2 default).fr), .int .i64 ((l.getD k2 default).to), .int .i64 ((l.getD k2 default).rt)] : Array Value).toList)] w := hO
              refine any_pick (rs := [11]) (by kernel_rfl) (by simp) fun w hE => all1 ?_
              replace hO := hO.ext hE; replace hS := hS.trans (Ext.kp hE)
              replace hO : Own w0 none_ [cel b1 #[.int .i64 d.hours, .slice v.ha v.hn v.hc, .slice v.la v.ln v.lc, .slice v.wa v.wn v.wc] 26, cel b127 #[.int .i64 ((l.getD k2 default).kd), .int .i64 ((l.getD k2 default).fr), .int .i64 ((l.getD k2 default).to), .int .i64 ((l.getD k2 default).rt)] 61, rowR 61 4 (.slice p132 (v.wn + 1) c133) (v.wn + 1) ((d.wks ++ [(l.getD k2 default)]).flatMap encWk)] w := hO.cast (by rw [List.flatMap_append]; rfl)
              have hvW : dayV (dayX d (d.wks ++ [(l.getD k2 default)])) = true := dayW_V hvB (hwl k2 (by omega))
              refine op_call (i := 11) (f := 64) (args := #[.agg #[.int .i64 d.hours, .slice v.ha v.hn v.hc, .slice v.la v.ln v.lc, .slice v.wa v.wn v.wc], .slice p132 (v.wn + 1) c133, .bool false]) (d := some 59) TBok (by kernel_rfl) hF (by kernel_rfl) (greatest_calls d v (d.wks ++ [(l.getD k2 default)]) p132 (v.wn + 1) c133 false _ (hd.upM hO.kp nom (Nat.le_refl _)) hv (rd_row (fun _ => rfl) (by decide) hO 2 rfl (by omega)) hvW) fun e w hR => ?_
              obtain ⟨p134, q135, c136, hq137, he, hO2⟩ := hR
              refine ⟨_, he, fun a hF => ⟨.inr (hS.trans (Ext.kp hO2.kp)), ?_⟩⟩
              replace hS := hS.trans (Ext.kp hO2.kp)
              replace hO := hO.joinE hO2; clear hO2 he
              replace hO : Own w0 none_ [cel b1 #[.int .i64 d.hours, .slice v.ha v.hn v.hc, .slice v.la v.ln v.lc, .slice v.wa v.wn v.wc] 26, cel b127 #[.int .i64 ((l.getD k2 default).kd), .int .i64 ((l.getD k2 default).fr), .int .i64 ((l.getD k2 default).to), .int .i64 ((l.getD k2 default).rt)] 61, rowR 61 4 (.slice p132 (v.wn + 1) c133) (v.wn + 1) ((d.wks ++ [(l.getD k2 default)]).flatMap encWk), rowR 3 1 (.slice p134 q135 c136) q135 ((refGreat (dayX d (d.wks ++ [(l.getD k2 default)])) (uB false d)).2.flatMap encI)] w := hO
              refine draw_q0 {} TBok hF hS (F' := [(1, .slice lp ln lc), (2, .pointer (some ⟨b1, 0, none⟩)), (4, .int .i64 0), (5, .int .i64 0), (6, .int .i64 0), (10, .int .i64 ((helpK d l k2).1)), (11, .int .i64 ((helpK d l k2).2)), (12, .int .i64 (k2 : Int)), (13, .int .i64 ((refGreat (dayX d (d.wks ++ [(l.getD k2 default)])) (uB false d)).1))]) [12, 13, 14, 15, 16] 5 0 (by kernel_rfl) #[true, true, true, true, true, true, true, true, true, true, true, true, true, true, true, true, true] [1, 2, 4, 5, 6, 10, 11, 12, 13] (by kernel_rfl) (by kernel_rfl) fun a hF => ?_
              refine any_done (by kernel_rfl) (fun w hE => ?_) _
              replace hO := hO.ext hE
              replace hF := hF.sel [1, 2, 4, 5, 6, 10, 11, 12, 13]
              replace hF : Fr 73 [] [(1, .slice lp ln lc), (2, .pointer (some ⟨b1, 0, none⟩)), (4, .int .i64 0), (5, .int .i64 0), (6, .int .i64 0), (10, .int .i64 ((helpK d l k2).1)), (11, .int .i64 ((helpK d l k2).2)), (12, .int .i64 (k2 : Int)), (13, .int .i64 ((refGreat (dayX d (d.wks ++ [(l.getD k2 default)])) (uB false d)).1))] a := hF
              exact ⟨rfl, b128, p129, c130, b127, p132, c133, p134, q135, c136, hF, hO.sel [0, 2, 1, 3] (by decide)⟩
          clear hF hO
          rintro a w ⟨b6x, p7x, c8x, b10x, p11x, c12x, p13x, q14x, c15x, hF, hO⟩
          refine W_seq (region_q { sy := [2] } TBok hF (F' := [(1, .slice lp ln lc), (2, .pointer (some ⟨b1, 0, none⟩)), (4, .int .i64 0), (5, .int .i64 0), (6, .int .i64 0), (10, .int .i64 ((helpK d l k2).1)), (11, .int .i64 ((helpK d l k2).2)), (12, .int .i64 (k2 : Int)), (13, .int .i64 ((refGreat (dayX d (d.wks ++ [(l.getD k2 default)])) (uB false d)).1)), (68, .bool (cond ((k2 : Int) == 0) true (decide ((refGreat (dayX d (d.wks ++ [(l.getD k2 default)])) (uB false d)).1 < (helpK d l k2).2))))]) (rs := []) [1, 2, 4, 5, 6, 10, 11, 12, 13, 68] .nil (by kernel_rfl) fun a w hF hE => ?_)
          replace hO := hO.ext hE; clear hE
          rcases Bool.eq_false_or_eq_true (cond ((k2 : Int) == 0) true (decide ((refGreat (dayX d (d.wks ++ [(l.getD k2 default)])) (uB false d)).1 < (helpK d l k2).2))) with hc138 | hc138
          · refine (W_true ((evOp hF (by kernel_rfl)).trans (congrArg Value.bool hc138)) ?_)
            refine (region_q {} TBok hF (F' := [(1, .slice lp ln lc), (2, .pointer (some ⟨b1, 0, none⟩)), (4, .int .i64 0), (5, .int .i64 0), (6, .int .i64 0), (10, .int .i64 (k2 : Int)), (11, .int .i64 ((refGreat (dayX d (d.wks ++ [(l.getD k2 default)])) (uB false d)).1)), (12, .int .i64 (k2 : Int))]) (rs := []) [1, 2, 4, 5, 6, 10, 11, 12] .nil (by kernel_rfl) fun a w hF hE => ?_)
            replace hO := hO.ext hE; clear hE
            refine (region_q {} TBok hF (F' := [(1, .slice lp ln lc), (2, .pointer (some ⟨b1, 0, none⟩)), (4, .int .i64 0), (5, .int .i64 0), (6, .int .i64 0), (10, .int .i64 (k2 : Int)), (11, .int .i64 ((refGreat (dayX d (d.wks ++ [(l.getD k2 default)])) (uB false d)).1)), (12, .int .i64 ((k2 : Int) + 1))]) (rs := [.rng ((k2 : Int) + 1)]) [1, 2, 4, 5, 6, 10, 11, 12] (.cons (rg (by omega)) <| .nil) (by kernel_rfl) fun a w hF hE => ?_)
            replace hO := hO.ext hE; clear hE
            have hgn : (refGreat (dayX d (d.wks ++ [(l.getD k2 default)])) (uB false d)).1 = helpN d (l.getD k2 default) := great_lost (d := dayX d (d.wks ++ [(l.getD k2 default)])) (f := uB false d) (dayW_V hvB (hwl k2 (by omega)))
            have hcc := hc138
            rw [hgn] at hcc
            replace hO := hO.drop1 3
            replace hO := hO.drop1 2
            replace hO := hO.drop1 1
            replace hO : Own w0 none_ [cel b1 #[.int .i64 d.hours, .slice v.ha v.hn v.hc, .slice v.la v.ln v.lc, .slice v.wa v.wn v.wc] 26] w := hO
            exact ⟨_, by omega, k2 + 1, rfl, by omega, hF.cast (by rw [helpK_yes hcc, hgn]; rfl), hO⟩
          · refine (W_false ((evOp hF (by kernel_rfl)).trans (congrArg Value.bool hc138)) ?_)
            refine (W_skip ?_)
            refine (region_q {} TBok hF (F' := [(1, .slice lp ln lc), (2, .pointer (some ⟨b1, 0, none⟩)), (4, .int .i64 0), (5, .int .i64 0), (6, .int .i64 0), (10, .int .i64 ((helpK d l k2).1)), (11, .int .i64 ((helpK d l k2).2)), (12, .int .i64 ((k2 : Int) + 1))]) (rs := [.rng ((k2 : Int) + 1)]) [1, 2, 4, 5, 6, 10, 11, 12] (.cons (rg (by omega)) <| .nil) (by kernel_rfl) fun a w hF hE => ?_)
            replace hO := hO.ext hE; clear hE
            have hgn : (refGreat (dayX d (d.wks ++ [(l.getD k2 default)])) (uB false d)).1 = helpN d (l.getD k2 default) := great_lost (d := dayX d (d.wks ++ [(l.getD k2 default)])) (f := uB false d) (dayW_V hvB (hwl k2 (by omega)))
            have hcc := hc138
            rw [hgn] at hcc
            replace hO := hO.drop1 3
            replace hO := hO.drop1 2
            replace hO := hO.drop1 1
            replace hO : Own w0 none_ [cel b1 #[.int .i64 d.hours, .slice v.ha v.hn v.hc, .slice v.la v.ln v.lc, .slice v.wa v.wn v.wc] 26] w := hO
            exact ⟨_, by omega, k2 + 1, rfl, by omega, hF.cast (by rw [helpK_no hcc]; rfl), hO⟩
        · refine (W_false ((evOp hF (by kernel_rfl)).trans (congrArg Value.bool hc5)) ?_)
          have hkn2 := of_decide_eq_false (by assumption : (decide ((k2 : Int) < (ln : Int))) = false)
          refine (W_exit ?_)
          refine W_seq (region_q {} TBok hF (F' := [(4, .int .i64 ((helpK d l k2).1)), (5, .int .i64 ((helpK d l k2).2)), (6, .int .i64 0)]) (rs := []) [4, 5, 6] .nil (by kernel_rfl) fun a w hF hE => ?_)
          replace hO := hO.ext hE; clear hE
          refine W_ret ?_
          show bodyPostM (FW none) 0 _ _ _ Exit.ret a w
          have hkk : k2 = l.length := by omega
          exact leave_r TBok hF (.nil _) (vs := [.int .i64 ((helpK d l k2).1), .int .i64 ((helpK d l k2).2), .int .i64 0]) (rs := []) .nil (by kernel_rfl) ⟨by rw [gutHelp, if_neg (by simpa using hc2), if_pos hall2, hkk]; rfl, hO.kp⟩

theorem take_inT {p : Tk → Prop} {xs : List Tk} {k : Nat} (h : ∀ x ∈ xs.take k, p x) (hk : k < xs.length) (hp : p (xs.getD k default)) : ∀ x ∈ xs.take (k + 1), p x := by
  have e : xs.getD k default = xs[k] := by simp [List.getD_eq_getElem?_getD, hk]
  rw [List.take_succ_eq_append_getElem hk]
  intro x hx
  rcases List.mem_append.1 hx with hx | hx
  · exact h x hx
  · simp at hx; subst hx; rw [← e]; exact hp
theorem getD_mem_take {xs : List Tk} {j k : Nat} (hj : j < xs.length) (h : j < k) : xs.getD j default ∈ xs.take k := by
  have e : xs.getD j default = xs[j] := by simp [List.getD_eq_getElem?_getD, hj]
  rw [e, List.mem_take_iff_getElem]
  exact ⟨j, by omega, rfl⟩

set_option maxHeartbeats 4000000 in
set_option maxRecDepth 100000 in
theorem refIsPlan_calls (d : Day) (v : DV) (plan : List Tk) (lp : Option Addr) (ln lc : Nat) (w0 : World) (hd : DayR w0.heap.size w0 v d) (hpl : Rd encTk 4 w0.heap.size w0 lp ln plan) :
    Calls Try.prog 22 #[.agg #[.int .i64 d.hours, .slice v.ha v.hn v.hc, .slice v.la v.ln v.lc, .slice v.wa v.wn v.wc], .slice lp ln lc] w0 (fun e w' => e = .returned (.tuple #[.int .i64 (gutIsPlan d plan).1, .bool (gutIsPlan d plan).2.1, .int .i64 (gutIsPlan d plan).2.2]) ∧ Ext w0 w') := by
  have hl1 := hd.heat.len; have hl2 := hd.lots.len; have hl3 := hd.wks.len; have hs1 := hd.heat.size; have hs2 := hd.lots.size; have hs3 := hd.wks.size; have hx1 := hpl.len; have hx2 := hpl.size
  refine calls_of_W Try.func22 rfl (by kernel_rfl) (args := [.agg #[.int .i64 d.hours, .slice v.ha v.hn v.hc, .slice v.la v.ln v.lc, .slice v.wa v.wn v.wc], .slice lp ln lc]) fun a hF => ?_
  replace hF : Fr 152 [] [(0, .agg #[.int .i64 d.hours, .slice v.ha v.hn v.hc, .slice v.la v.ln v.lc, .slice v.wa v.wn v.wc]), (1, .slice lp ln lc)] a := hF
  have hO : Own w0 none_ [] w0 := Own.start w0 _
  refine W_seq (region_seq ?_)
  refine op_box (i := 0) (t := 26) (v := .agg #[.int .i64 d.hours, .slice v.ha v.hn v.hc, .slice v.la v.ln v.lc, .slice v.wa v.wn v.wc]) (d := 2) hF hO (by kernel_rfl) fun a w b1 hF hO _ => ?_
  replace hO : Own w0 none_ [cel b1 #[.int .i64 d.hours, .slice v.ha v.hn v.hc, .slice v.la v.ln v.lc, .slice v.wa v.wn v.wc] 26] w := hO
  refine seq_quiet {} TBok hF (F' := [(1, .slice lp ln lc), (2, .pointer (some ⟨b1, 0, none⟩)), (4, .int .i64 0), (5, .bool false), (6, .int .i64 0)]) (rs := []) [1, 2, 3] [] [1, 2, 4, 5, 6] .nil (by kernel_rfl) fun a w hF hE => ?_
  replace hO := hO.ext hE; clear hE
  refine W_seq ?_
  refine W_seq (region_q {} TBok hF (F' := [(1, .slice lp ln lc), (2, .pointer (some ⟨b1, 0, none⟩)), (4, .int .i64 0), (5, .bool false), (6, .int .i64 0), (7, .int .i64 (chk d))]) (rs := [.lds ⟨b1, 0, none⟩ [.int .i64 d.hours, .slice v.ha v.hn v.hc, .slice v.la v.ln v.lc, .slice v.wa v.wn v.wc], .call 19 #[.agg #[.int .i64 d.hours, .slice v.ha v.hn v.hc, .slice v.la v.ln v.lc, .slice v.wa v.wn v.wc]] (.int .i64 (chk d))]) [1, 2, 4, 5, 6, 7] (.cons (ldso hO.st 0 rfl 0 rfl) <| .cons (fun w hE => calls_cast (refCheck_calls d v w (hd.upM (hO.st w hE).kp nom (Nat.le_refl _))) (by rw [refChk_eq])) <| .nil) (by kernel_rfl) fun a w hF hE => ?_)
  replace hO := hO.ext hE; clear hE
  refine W_seq (region_q {} TBok hF (F' := [(1, .slice lp ln lc), (2, .pointer (some ⟨b1, 0, none⟩)), (4, .int .i64 0), (5, .bool false), (6, .int .i64 0), (7, .int .i64 (chk d)), (17, .bool ((chk d) != 0))]) (rs := []) [1, 2, 4, 5, 6, 7, 17] .nil (by kernel_rfl) fun a w hF hE => ?_)
  replace hO := hO.ext hE; clear hE
  rcases Bool.eq_false_or_eq_true ((chk d) != 0) with hc2 | hc2
  · refine (W_true ((evOp hF (by kernel_rfl)).trans (congrArg Value.bool hc2)) ?_)
    refine W_seq (region_q {} TBok hF (F' := [(1, .slice lp ln lc), (2, .pointer (some ⟨b1, 0, none⟩)), (4, .int .i64 0), (5, .bool false), (6, .int .i64 (chk d))]) (rs := []) [1, 2, 4, 5, 6] .nil (by kernel_rfl) fun a w hF hE => ?_)
    replace hO := hO.ext hE; clear hE
    refine W_ret ?_
    show bodyPostM (FW none) 0 _ _ _ Exit.ret a w
    exact leave_r TBok hF (.nil _) (vs := [.int .i64 0, .bool false, .int .i64 (chk d)]) (rs := []) .nil (by kernel_rfl) ⟨by rw [gutIsPlan, if_pos (by simpa using hc2)]; rfl, hO.kp⟩
  · refine (W_false ((evOp hF (by kernel_rfl)).trans (congrArg Value.bool hc2)) ?_)
    have hvB := chk_okB (by assumption)
    have hv := dayB_V hvB
    have hv1 := day_ok hv
    refine (W_skip ?_)
    refine W_seq ?_
    refine W_seq (region_q {} TBok hF (F' := [(1, .slice lp ln lc), (2, .pointer (some ⟨b1, 0, none⟩)), (4, .int .i64 0), (5, .bool false), (6, .int .i64 0), (21, .bool (decide ((ln : Int) > 400)))]) (rs := []) [1, 2, 4, 5, 6, 21] .nil (by kernel_rfl) fun a w hF hE => ?_)
    replace hO := hO.ext hE; clear hE
    rcases Bool.eq_false_or_eq_true (decide ((ln : Int) > 400)) with hc3 | hc3
    · refine (W_true ((evOp hF (by kernel_rfl)).trans (congrArg Value.bool hc3)) ?_)
      have h400 := of_decide_eq_true (by assumption : (decide ((ln : Int) > 400)) = true)
      refine W_seq (region_q {} TBok hF (F' := [(1, .slice lp ln lc), (2, .pointer (some ⟨b1, 0, none⟩)), (4, .int .i64 0), (5, .bool false), (6, .int .i64 0)]) (rs := []) [1, 2, 4, 5, 6] .nil (by kernel_rfl) fun a w hF hE => ?_)
      replace hO := hO.ext hE; clear hE
      refine W_ret ?_
      show bodyPostM (FW none) 0 _ _ _ Exit.ret a w
      have h0 : ¬ chk d ≠ 0 := by simpa using hc2
      exact leave_r TBok hF (.nil _) (vs := [.int .i64 0, .bool false, .int .i64 0]) (rs := []) .nil (by kernel_rfl) ⟨by rw [gutIsPlan, if_neg h0, if_pos (by omega)]; rfl, hO.kp⟩
    · refine (W_false ((evOp hF (by kernel_rfl)).trans (congrArg Value.bool hc3)) ?_)
      have h400 := of_decide_eq_false (by assumption : (decide ((ln : Int) > 400)) = false)
      have hcF := cransF_bd hv
      refine (W_skip ?_)
      refine W_seq (region_q {} TBok hF (F' := [(1, .slice lp ln lc), (2, .pointer (some ⟨b1, 0, none⟩)), (4, .int .i64 0), (5, .bool false), (6, .int .i64 0), (8, .int .i64 (cransF d))]) (rs := [.lds ⟨b1, 0, none⟩ [.int .i64 d.hours, .slice v.ha v.hn v.hc, .slice v.la v.ln v.lc, .slice v.wa v.wn v.wc], .call 60 #[.agg #[.int .i64 d.hours, .slice v.ha v.hn v.hc, .slice v.la v.ln v.lc, .slice v.wa v.wn v.wc]] (.int .i64 (cransF d))]) [1, 2, 4, 5, 6, 8] (.cons (ldso hO.st 0 rfl 0 rfl) <| .cons (fun w hE => all_calls d v w (hd.upM (hO.st w hE).kp nom (Nat.le_refl _)) hv) <| .nil) (by kernel_rfl) fun a w hF hE => ?_)
      replace hO := hO.ext hE; clear hE
      refine W_seq ?_
      refine W_seq (region_q {} TBok hF (F' := [(1, .slice lp ln lc), (2, .pointer (some ⟨b1, 0, none⟩)), (4, .int .i64 0), (5, .bool false), (6, .int .i64 0), (8, .int .i64 (cransF d)), (9, .int .i64 0)]) (rs := []) [1, 2, 4, 5, 6, 8, 9] .nil (by kernel_rfl) fun a w hF hE => ?_)
      replace hO := hO.ext hE; clear hE
      refine (W_block ?_)
      replace hF := hF.sel [1, 2, 8, 9]
      refine (W_loop (fun m a w => ∃ (k : Nat), ∃ (T : Nat → Int), ∃ (B : Int × Int → Int), ∃ (q : Int), m = ln - k ∧ k ≤ ln ∧ isP d (hot d) (plan.drop k) T B = isP0 d plan ∧ (∀ i, i < v.ln → 0 ≤ T i ∧ T i ≤ 50) ∧ (∀ x, 0 ≤ B x ∧ B x ≤ 20) ∧ (∀ i : Nat, i < v.ln → T i = ofK plan k i) ∧ (∀ x : Int × Int, B x = byK plan k x.1 x.2) ∧ (∀ t ∈ plan.take k, 1 ≤ t.cr ∧ t.cr ≤ 50) ∧ q = cransF d - fsum v.ln T ∧ Fr 152 [] [(1, .slice lp ln lc), (2, .pointer (some ⟨b1, 0, none⟩)), (8, .int .i64 q), (9, .int .i64 (k : Int))] a ∧ Own w0 none_ [cel b1 #[.int .i64 d.hours, .slice v.ha v.hn v.hc, .slice v.la v.ln v.lc, .slice v.wa v.wn v.wc] 26] w) _ ⟨0, fun _ => 0, fun _ => 0, _, rfl, Nat.zero_le _, rfl, fun i hi => (show (0 : Int) ≤ 0 ∧ (0 : Int) ≤ 50 by omega), fun x => (show (0 : Int) ≤ 0 ∧ (0 : Int) ≤ 20 by omega), fun i hi => rfl, fun x => rfl, by simp, by rw [fsum_0]; omega, hF, hO⟩ ?_)
      clear hF hO
      rintro _ a w ⟨k, T, B, q, rfl, hk, heq, hT, hB, hofT, hbyB, hcr, hq, hF, hO⟩
      have hfb := fsum_bd (by omega) hT
      refine W_seq ?_
      refine W_seq (region_q {} TBok hF (F' := [(1, .slice lp ln lc), (2, .pointer (some ⟨b1, 0, none⟩)), (8, .int .i64 q), (9, .int .i64 (k : Int)), (27, .bool (decide ((k : Int) < (ln : Int))))]) (rs := []) [1, 2, 8, 9, 27] .nil (by kernel_rfl) fun a w hF hE => ?_)
      replace hO := hO.ext hE; clear hE
      rcases Bool.eq_false_or_eq_true (decide ((k : Int) < (ln : Int))) with hc4 | hc4
      · refine (W_true ((evOp hF (by kernel_rfl)).trans (congrArg Value.bool hc4)) ?_)
        have hkn := of_decide_eq_true (by assumption : (decide ((k : Int) < (ln : Int))) = true)
        refine (W_skip ?_)
        refine W_seq (W_block ?_)
        refine W_seq (region_seq ?_)
        refine seq_quiet {} TBok hF (F' := [(1, .slice lp ln lc), (2, .pointer (some ⟨b1, 0, none⟩)), (8, .int .i64 q), (9, .int .i64 (k : Int)), (33, .agg #[.int .i64 ((plan.getD k default).lot), .int .i64 ((plan.getD k default).wk), .int .i64 ((plan.getD k default).hr), .int .i64 ((plan.getD k default).cr)])]) (rs := [.idx lp ln (k : Int) 4 (adr lp 4 (k : Int)), .lds (adr lp 4 (k : Int)) [.int .i64 ((plan.getD k default).lot), .int .i64 ((plan.getD k default).wk), .int .i64 ((plan.getD k default).hr), .int .i64 ((plan.getD k default).cr)]]) [0, 1, 2, 3] [4, 5] [1, 2, 8, 9, 33] (.cons (ix hpl (by omega) (by omega)) <| .cons (ldsx hO.st nom hpl (by omega) (by omega) rfl) <| .nil) (by kernel_rfl) fun a w hF hE => ?_
        replace hO := hO.ext hE; clear hE
        refine op_alloc (i := 4) (t := 56) (d := 10) (z := .agg #[.int .i64 0, .int .i64 0, .int .i64 0, .int .i64 0]) hF hO (by kernel_rfl) (by kernel_rfl) fun a w b5 hF hO _ => ?_
        replace hO : Own w0 none_ [cel b1 #[.int .i64 d.hours, .slice v.ha v.hn v.hc, .slice v.la v.ln v.lc, .slice v.wa v.wn v.wc] 26, cel b5 #[.int .i64 0, .int .i64 0, .int .i64 0, .int .i64 0] 56] w := hO
        refine op_store (i := 5) (t := 56) (p := ⟨b5, 0, none⟩) (v := .agg #[.int .i64 ((plan.getD k default).lot), .int .i64 ((plan.getD k default).wk), .int .i64 ((plan.getD k default).hr), .int .i64 ((plan.getD k default).cr)]) (off := 0) (sz := 4) (cs' := #[.int .i64 ((plan.getD k default).lot), .int .i64 ((plan.getD k default).wk), .int .i64 ((plan.getD k default).hr), .int .i64 ((plan.getD k default).cr)]) hF hO (by kernel_rfl) 1 rfl rfl (by kernel_rfl) (by kernel_rfl) (by kernel_rfl) fun a w hF hO _ => ?_
        replace hO : Own w0 none_ [cel b1 #[.int .i64 d.hours, .slice v.ha v.hn v.hc, .slice v.la v.ln v.lc, .slice v.wa v.wn v.wc] 26, cel b5 #[.int .i64 ((plan.getD k default).lot), .int .i64 ((plan.getD k default).wk), .int .i64 ((plan.getD k default).hr), .int .i64 ((plan.getD k default).cr)] 56] w := hO
        replace hF := hF.sel [1, 2, 8, 9, 10]
        replace hF : Fr 152 [] [(1, .slice lp ln lc), (2, .pointer (some ⟨b1, 0, none⟩)), (8, .int .i64 q), (9, .int .i64 (k : Int)), (10, .pointer (some ⟨b5, 0, none⟩))] a := hF
        refine W_seq ?_
        refine W_seq (region_d { sy := [8, 18, 27, 33] } mixed TBok hF (F' := [(1, .slice lp ln lc), (2, .pointer (some ⟨b1, 0, none⟩)), (8, .int .i64 q), (9, .int .i64 (k : Int)), (10, .pointer (some ⟨b5, 0, none⟩)), (81, .bool (cond (cond (cond (cond (!(inB ((plan.getD k default).lot) 0 ((v.ln : Int) - 1))) true (!(inB ((plan.getD k default).wk) 0 ((v.wn : Int) - 1)))) true (!(inB ((plan.getD k default).hr) 0 (d.hours - 1)))) true (!(inB ((plan.getD k default).cr) 1 50))) true (!(takesB d (d.wks.getD ((plan.getD k default).wk).toNat default) ((plan.getD k default).lot) ((plan.getD k default).hr) false))))]) (rs := [.ld ⟨b5, 0, none⟩ (.int .i64 ((plan.getD k default).lot)), .ld ⟨b1, 2, none⟩ (.slice v.la v.ln v.lc), .rng ((v.ln : Int) - 1), .call 36 #[.int .i64 ((plan.getD k default).lot), .int .i64 0, .int .i64 ((v.ln : Int) - 1)] (.bool (inB ((plan.getD k default).lot) 0 ((v.ln : Int) - 1))), .und (!(!(inB ((plan.getD k default).lot) 0 ((v.ln : Int) - 1)))) (.ld ⟨b5, 1, none⟩ (.int .i64 ((plan.getD k default).wk))), .und (!(!(inB ((plan.getD k default).lot) 0 ((v.ln : Int) - 1)))) (.ld ⟨b1, 3, none⟩ (.slice v.wa v.wn v.wc)), .und (!(!(inB ((plan.getD k default).lot) 0 ((v.ln : Int) - 1)))) (.rng ((v.wn : Int) - 1)), .und (!(!(inB ((plan.getD k default).lot) 0 ((v.ln : Int) - 1)))) (.call 36 #[.int .i64 ((plan.getD k default).wk), .int .i64 0, .int .i64 ((v.wn : Int) - 1)] (.bool (inB ((plan.getD k default).wk) 0 ((v.wn : Int) - 1)))), .und (!(cond (!(inB ((plan.getD k default).lot) 0 ((v.ln : Int) - 1))) true (!(inB ((plan.getD k default).wk) 0 ((v.wn : Int) - 1))))) (.ld ⟨b5, 2, none⟩ (.int .i64 ((plan.getD k default).hr))), .und (!(cond (!(inB ((plan.getD k default).lot) 0 ((v.ln : Int) - 1))) true (!(inB ((plan.getD k default).wk) 0 ((v.wn : Int) - 1))))) (.ld ⟨b1, 0, none⟩ (.int .i64 d.hours)), .und (!(cond (!(inB ((plan.getD k default).lot) 0 ((v.ln : Int) - 1))) true (!(inB ((plan.getD k default).wk) 0 ((v.wn : Int) - 1))))) (.rng (d.hours - 1)), .und (!(cond (!(inB ((plan.getD k default).lot) 0 ((v.ln : Int) - 1))) true (!(inB ((plan.getD k default).wk) 0 ((v.wn : Int) - 1))))) (.call 36 #[.int .i64 ((plan.getD k default).hr), .int .i64 0, .int .i64 (d.hours - 1)] (.bool (inB ((plan.getD k default).hr) 0 (d.hours - 1)))), .und (!(cond (cond (!(inB ((plan.getD k default).lot) 0 ((v.ln : Int) - 1))) true (!(inB ((plan.getD k default).wk) 0 ((v.wn : Int) - 1)))) true (!(inB ((plan.getD k default).hr) 0 (d.hours - 1))))) (.ld ⟨b5, 3, none⟩ (.int .i64 ((plan.getD k default).cr))), .und (!(cond (cond (!(inB ((plan.getD k default).lot) 0 ((v.ln : Int) - 1))) true (!(inB ((plan.getD k default).wk) 0 ((v.wn : Int) - 1)))) true (!(inB ((plan.getD k default).hr) 0 (d.hours - 1))))) (.call 36 #[.int .i64 ((plan.getD k default).cr), .int .i64 1, .int .i64 50] (.bool (inB ((plan.getD k default).cr) 1 50))), .und (!(cond (cond (cond (!(inB ((plan.getD k default).lot) 0 ((v.ln : Int) - 1))) true (!(inB ((plan.getD k default).wk) 0 ((v.wn : Int) - 1)))) true (!(inB ((plan.getD k default).hr) 0 (d.hours - 1)))) true (!(inB ((plan.getD k default).cr) 1 50)))) (.lds ⟨b1, 0, none⟩ [.int .i64 d.hours, .slice v.ha v.hn v.hc, .slice v.la v.ln v.lc, .slice v.wa v.wn v.wc]), .und (!(cond (cond (cond (!(inB ((plan.getD k default).lot) 0 ((v.ln : Int) - 1))) true (!(inB ((plan.getD k default).wk) 0 ((v.wn : Int) - 1)))) true (!(inB ((plan.getD k default).hr) 0 (d.hours - 1)))) true (!(inB ((plan.getD k default).cr) 1 50)))) (.ld ⟨b1, 3, none⟩ (.slice v.wa v.wn v.wc)), .und (!(cond (cond (cond (!(inB ((plan.getD k default).lot) 0 ((v.ln : Int) - 1))) true (!(inB ((plan.getD k default).wk) 0 ((v.wn : Int) - 1)))) true (!(inB ((plan.getD k default).hr) 0 (d.hours - 1)))) true (!(inB ((plan.getD k default).cr) 1 50)))) (.ld ⟨b5, 1, none⟩ (.int .i64 ((plan.getD k default).wk))), .und (!(cond (cond (cond (!(inB ((plan.getD k default).lot) 0 ((v.ln : Int) - 1))) true (!(inB ((plan.getD k default).wk) 0 ((v.wn : Int) - 1)))) true (!(inB ((plan.getD k default).hr) 0 (d.hours - 1)))) true (!(inB ((plan.getD k default).cr) 1 50)))) (.idx v.wa v.wn ((plan.getD k default).wk) 4 (adr v.wa 4 ((plan.getD k default).wk))), .und (!(cond (cond (cond (!(inB ((plan.getD k default).lot) 0 ((v.ln : Int) - 1))) true (!(inB ((plan.getD k default).wk) 0 ((v.wn : Int) - 1)))) true (!(inB ((plan.getD k default).hr) 0 (d.hours - 1)))) true (!(inB ((plan.getD k default).cr) 1 50)))) (.lds (adr v.wa 4 ((plan.getD k default).wk)) [.int .i64 ((d.wks.getD ((plan.getD k default).wk).toNat default).kd), .int .i64 ((d.wks.getD ((plan.getD k default).wk).toNat default).fr), .int .i64 ((d.wks.getD ((plan.getD k default).wk).toNat default).to), .int .i64 ((d.wks.getD ((plan.getD k default).wk).toNat default).rt)]), .und (!(cond (cond (cond (!(inB ((plan.getD k default).lot) 0 ((v.ln : Int) - 1))) true (!(inB ((plan.getD k default).wk) 0 ((v.wn : Int) - 1)))) true (!(inB ((plan.getD k default).hr) 0 (d.hours - 1)))) true (!(inB ((plan.getD k default).cr) 1 50)))) (.ld ⟨b5, 0, none⟩ (.int .i64 ((plan.getD k default).lot))), .und (!(cond (cond (cond (!(inB ((plan.getD k default).lot) 0 ((v.ln : Int) - 1))) true (!(inB ((plan.getD k default).wk) 0 ((v.wn : Int) - 1)))) true (!(inB ((plan.getD k default).hr) 0 (d.hours - 1)))) true (!(inB ((plan.getD k default).cr) 1 50)))) (.ld ⟨b5, 2, none⟩ (.int .i64 ((plan.getD k default).hr))), .und (!(cond (cond (cond (!(inB ((plan.getD k default).lot) 0 ((v.ln : Int) - 1))) true (!(inB ((plan.getD k default).wk) 0 ((v.wn : Int) - 1)))) true (!(inB ((plan.getD k default).hr) 0 (d.hours - 1)))) true (!(inB ((plan.getD k default).cr) 1 50)))) (.call 61 #[.agg #[.int .i64 d.hours, .slice v.ha v.hn v.hc, .slice v.la v.ln v.lc, .slice v.wa v.wn v.wc], .agg #[.int .i64 ((d.wks.getD ((plan.getD k default).wk).toNat default).kd), .int .i64 ((d.wks.getD ((plan.getD k default).wk).toNat default).fr), .int .i64 ((d.wks.getD ((plan.getD k default).wk).toNat default).to), .int .i64 ((d.wks.getD ((plan.getD k default).wk).toNat default).rt)], .int .i64 ((plan.getD k default).lot), .int .i64 ((plan.getD k default).hr), .bool false] (.bool (takesB d (d.wks.getD ((plan.getD k default).wk).toNat default) ((plan.getD k default).lot) ((plan.getD k default).hr) false)))]) [1, 2, 8, 9, 10, 81] (.cons (ldo hO.st 1 rfl 0 rfl) <| .cons (ldo hO.st 0 rfl 2 rfl) <| .cons (rg (by omega)) <| .cons (fun w _ => In_calls _ _ _ w) <| .cons (fun hg => (ldo hO.st 1 rfl 1 rfl)) <| .cons (fun hg => (ldo hO.st 0 rfl 3 rfl)) <| .cons (fun hg => (rg (by omega))) <| .cons (fun hg => (fun w _ => In_calls _ _ _ w)) <| .cons (fun hg => (ldo hO.st 1 rfl 2 rfl)) <| .cons (fun hg => (ldo hO.st 0 rfl 0 rfl)) <| .cons (fun hg => (rg (by omega))) <| .cons (fun hg => (fun w _ => In_calls _ _ _ w)) <| .cons (fun hg => (ldo hO.st 1 rfl 3 rfl)) <| .cons (fun hg => (fun w _ => In_calls _ _ _ w)) <| .cons (fun hg => have h4_ := guard4 hg; have h41 := inB_iff.1 h4_.1; have h42 := inB_iff.1 h4_.2.1; (ldso hO.st 0 rfl 0 rfl)) <| .cons (fun hg => have h4_ := guard4 hg; have h41 := inB_iff.1 h4_.1; have h42 := inB_iff.1 h4_.2.1; (ldo hO.st 0 rfl 3 rfl)) <| .cons (fun hg => have h4_ := guard4 hg; have h41 := inB_iff.1 h4_.1; have h42 := inB_iff.1 h4_.2.1; (ldo hO.st 1 rfl 1 rfl)) <| .cons (fun hg => have h4_ := guard4 hg; have h41 := inB_iff.1 h4_.1; have h42 := inB_iff.1 h4_.2.1; (ix hd.wks (by omega) (by omega))) <| .cons (fun hg => have h4_ := guard4 hg; have h41 := inB_iff.1 h4_.1; have h42 := inB_iff.1 h4_.2.1; (ldsx hO.st nom hd.wks (by omega) (by omega) rfl)) <| .cons (fun hg => have h4_ := guard4 hg; have h41 := inB_iff.1 h4_.1; have h42 := inB_iff.1 h4_.2.1; (ldo hO.st 1 rfl 0 rfl)) <| .cons (fun hg => have h4_ := guard4 hg; have h41 := inB_iff.1 h4_.1; have h42 := inB_iff.1 h4_.2.1; (ldo hO.st 1 rfl 2 rfl)) <| .cons (fun hg => have h4_ := guard4 hg; have h41 := inB_iff.1 h4_.1; have h42 := inB_iff.1 h4_.2.1; (fun w hE => takes_calls d v (d.wks.getD ((plan.getD k default).wk).toNat default) ((plan.getD k default).lot) ((plan.getD k default).hr) false w (hd.upM (hO.st w hE).kp nom (Nat.le_refl _)) hv (by omega) (by have := wk_ok hv (i := (plan.getD k default).wk.toNat) (by omega); omega))) <| .nil) (by kernel_rfl) (by kernel_rfl) fun a w hF hE => ?_)
        replace hO := hO.ext hE; clear hE
        rcases Bool.eq_false_or_eq_true (cond (cond (cond (cond (!(inB ((plan.getD k default).lot) 0 ((v.ln : Int) - 1))) true (!(inB ((plan.getD k default).wk) 0 ((v.wn : Int) - 1)))) true (!(inB ((plan.getD k default).hr) 0 (d.hours - 1)))) true (!(inB ((plan.getD k default).cr) 1 50))) true (!(takesB d (d.wks.getD ((plan.getD k default).wk).toNat default) ((plan.getD k default).lot) ((plan.getD k default).hr) false))) with hc6 | hc6
        · refine (W_true ((evOp hF (by kernel_rfl)).trans (congrArg Value.bool hc6)) ?_)
          have hbad : plBad d (hot d) (plan.getD k default) = true := by rw [← refBad_eq hv, refBad, hl2, hl3]; assumption
          refine W_seq (region_q {} TBok hF (F' := [(1, .slice lp ln lc), (2, .pointer (some ⟨b1, 0, none⟩)), (4, .int .i64 0), (5, .bool false), (6, .int .i64 0), (8, .int .i64 q), (9, .int .i64 (k : Int)), (10, .pointer (some ⟨b5, 0, none⟩))]) (rs := []) [1, 2, 4, 5, 6, 8, 9, 10] .nil (by kernel_rfl) fun a w hF hE => ?_)
          replace hO := hO.ext hE; clear hE
          refine W_ret ?_
          show bodyPostM (FW none) 0 _ _ _ Exit.ret a w
          have h0 : ¬ chk d ≠ 0 := by simpa using hc2
          have h4 : ¬ 400 < plan.length := by omega
          have hnone := (isP_bad (T := T) (B := B) (by omega : k < plan.length) hbad).symm.trans heq
          exact leave_r TBok hF (.nil _) (vs := [.int .i64 0, .bool false, .int .i64 0]) (rs := []) .nil (by kernel_rfl) ⟨by rw [gutIsPlan, if_neg h0, if_neg h4, ← hnone]; rfl, hO.kp⟩
        · refine (W_false ((evOp hF (by kernel_rfl)).trans (congrArg Value.bool hc6)) ?_)
          have hbad : plBad d (hot d) (plan.getD k default) = false := by rw [← refBad_eq hv, refBad, hl2, hl3]; assumption
          have hgd := plGood hbad
          rw [hl2, hl3] at hgd
          have hg1 := inB_iff.1 hgd.1; have hg2 := inB_iff.1 hgd.2.1; have hg4 := inB_iff.1 hgd.2.2.2
          have hTk := hT (plan.getD k default).lot.toNat (by omega); have hBk := hB ((plan.getD k default).wk, (plan.getD k default).hr)
          have hlk := lot_ok hv (i := (plan.getD k default).lot.toNat) (by omega); have hwk := wk_ok hv (i := (plan.getD k default).wk.toNat) (by omega)
          refine (W_skip ?_)
          refine W_seq (region_q {} TBok hF (F' := [(1, .slice lp ln lc), (2, .pointer (some ⟨b1, 0, none⟩)), (8, .int .i64 (q - (plan.getD k default).cr)), (9, .int .i64 (k : Int)), (10, .pointer (some ⟨b5, 0, none⟩))]) (rs := [.ld ⟨b5, 3, none⟩ (.int .i64 ((plan.getD k default).cr)), .rng (q - (plan.getD k default).cr)]) [1, 2, 8, 9, 10] (.cons (ldo hO.st 1 rfl 3 rfl) <| .cons (rg (by omega)) <| .nil) (by kernel_rfl) fun a w hF hE => ?_)
          replace hO := hO.ext hE; clear hE
          refine W_seq (region_q {} TBok hF (F' := [(1, .slice lp ln lc), (2, .pointer (some ⟨b1, 0, none⟩)), (8, .int .i64 (q - (plan.getD k default).cr)), (9, .int .i64 (k : Int)), (10, .pointer (some ⟨b5, 0, none⟩)), (11, .int .i64 0), (12, .int .i64 0)]) (rs := []) [1, 2, 8, 9, 10, 11, 12] .nil (by kernel_rfl) fun a w hF hE => ?_)
          replace hO := hO.ext hE; clear hE
          refine W_seq ?_
          refine W_seq (region_q {} TBok hF (F' := [(1, .slice lp ln lc), (2, .pointer (some ⟨b1, 0, none⟩)), (8, .int .i64 (q - (plan.getD k default).cr)), (9, .int .i64 (k : Int)), (10, .pointer (some ⟨b5, 0, none⟩)), (11, .int .i64 0), (12, .int .i64 0), (13, .int .i64 0)]) (rs := []) [1, 2, 8, 9, 10, 11, 12, 13] .nil (by kernel_rfl) fun a w hF hE => ?_)
          replace hO := hO.ext hE; clear hE
          refine (W_block ?_)
          have hcr2 : ∀ t ∈ plan.take (k + 1), 1 ≤ t.cr ∧ t.cr ≤ 50 := take_inT hcr (by omega) (by omega)
          refine (W_loop (fun m a w => ∃ (j : Nat), ∃ (of_ : Int), ∃ (by_ : Int), m = k + 1 - j ∧ j ≤ k + 1 ∧ of_ = ofK plan j (plan.getD k default).lot ∧ by_ = byK plan j (plan.getD k default).wk (plan.getD k default).hr ∧ 0 ≤ of_ ∧ of_ ≤ 50 * (j : Int) ∧ 0 ≤ by_ ∧ by_ ≤ 50 * (j : Int) ∧ Fr 152 [] [(1, .slice lp ln lc), (2, .pointer (some ⟨b1, 0, none⟩)), (8, .int .i64 (q - (plan.getD k default).cr)), (9, .int .i64 (k : Int)), (10, .pointer (some ⟨b5, 0, none⟩)), (11, .int .i64 of_), (12, .int .i64 by_), (13, .int .i64 (j : Int))] a ∧ Own w0 none_ [cel b1 #[.int .i64 d.hours, .slice v.ha v.hn v.hc, .slice v.la v.ln v.lc, .slice v.wa v.wn v.wc] 26, cel b5 #[.int .i64 ((plan.getD k default).lot), .int .i64 ((plan.getD k default).wk), .int .i64 ((plan.getD k default).hr), .int .i64 ((plan.getD k default).cr)] 56] w) _ ⟨0, 0, 0, rfl, Nat.zero_le _, rfl, rfl, by omega, by omega, by omega, by omega, hF, hO⟩ ?_)
          clear hF hO
          rintro _ a w ⟨j, of_, by_, rfl, hj, hof, hby, ho0, ho1, hb0, hb1, hF, hO⟩
          refine W_seq ?_
          refine W_seq (region_q {} TBok hF (F' := [(1, .slice lp ln lc), (2, .pointer (some ⟨b1, 0, none⟩)), (8, .int .i64 (q - (plan.getD k default).cr)), (9, .int .i64 (k : Int)), (10, .pointer (some ⟨b5, 0, none⟩)), (11, .int .i64 of_), (12, .int .i64 by_), (13, .int .i64 (j : Int)), (88, .bool (decide ((j : Int) ≤ (k : Int))))]) (rs := []) [1, 2, 8, 9, 10, 11, 12, 13, 88] .nil (by kernel_rfl) fun a w hF hE => ?_)
          replace hO := hO.ext hE; clear hE
          rcases Bool.eq_false_or_eq_true (decide ((j : Int) ≤ (k : Int))) with hc7 | hc7
          · refine (W_true ((evOp hF (by kernel_rfl)).trans (congrArg Value.bool hc7)) ?_)
            have hjk := of_decide_eq_true (by assumption : (decide ((j : Int) ≤ (k : Int))) = true)
            have hcj := hcr2 (plan.getD j default) (getD_mem_take (by omega) (by omega))
            refine (W_skip ?_)
            refine W_seq (W_block ?_)
            refine W_seq ?_
            refine W_seq (region_d {} mixed TBok hF (F' := [(1, .slice lp ln lc), (2, .pointer (some ⟨b1, 0, none⟩)), (8, .int .i64 (q - (plan.getD k default).cr)), (9, .int .i64 (k : Int)), (10, .pointer (some ⟨b5, 0, none⟩)), (11, .int .i64 of_), (12, .int .i64 by_), (13, .int .i64 (j : Int)), (98, .bool ((plan.getD j default).lot == (plan.getD k default).lot))]) (rs := [.idx lp ln (j : Int) 4 (adr lp 4 (j : Int)), .ld (adr lp 4 (j : Int)) (.int .i64 ((plan.getD j default).lot)), .ld ⟨b5, 0, none⟩ (.int .i64 ((plan.getD k default).lot))]) [1, 2, 8, 9, 10, 11, 12, 13, 98] (.cons (ix hpl (by omega) (by omega)) <| .cons (ldx hO.st nom hpl (by omega) (by omega) 0 rfl) <| .cons (ldo hO.st 1 rfl 0 rfl) <| .nil) (by kernel_rfl) (by kernel_rfl) fun a w hF hE => ?_)
            replace hO := hO.ext hE; clear hE
            rcases Bool.eq_false_or_eq_true ((plan.getD j default).lot == (plan.getD k default).lot) with hc8 | hc8
            · refine (W_true ((evOp hF (by kernel_rfl)).trans (congrArg Value.bool hc8)) ?_)
              refine (region_q {} TBok hF (F' := [(1, .slice lp ln lc), (2, .pointer (some ⟨b1, 0, none⟩)), (8, .int .i64 (q - (plan.getD k default).cr)), (9, .int .i64 (k : Int)), (10, .pointer (some ⟨b5, 0, none⟩)), (11, .int .i64 (of_ + (plan.getD j default).cr)), (12, .int .i64 by_), (13, .int .i64 (j : Int))]) (rs := [.idx lp ln (j : Int) 4 (adr lp 4 (j : Int)), .ld ((adr lp 4 (j : Int)).add 3) (.int .i64 ((plan.getD j default).cr)), .rng (of_ + (plan.getD j default).cr)]) [1, 2, 8, 9, 10, 11, 12, 13] (.cons (ix hpl (by omega) (by omega)) <| .cons (ldx hO.st nom hpl (by omega) (by omega) 3 rfl) <| .cons (rg (by omega)) <| .nil) (by kernel_rfl) fun a w hF hE => ?_)
              replace hO := hO.ext hE; clear hE
              refine W_seq (region_d { sy := [8] } mixed TBok hF (F' := [(1, .slice lp ln lc), (2, .pointer (some ⟨b1, 0, none⟩)), (8, .int .i64 (q - (plan.getD k default).cr)), (9, .int .i64 (k : Int)), (10, .pointer (some ⟨b5, 0, none⟩)), (11, .int .i64 (of_ + (plan.getD j default).cr)), (12, .int .i64 by_), (13, .int .i64 (j : Int)), (123, .bool (cond ((plan.getD j default).wk == (plan.getD k default).wk) ((plan.getD j default).hr == (plan.getD k default).hr) false))]) (rs := [.idx lp ln (j : Int) 4 (adr lp 4 (j : Int)), .ld ((adr lp 4 (j : Int)).add 1) (.int .i64 ((plan.getD j default).wk)), .ld ⟨b5, 1, none⟩ (.int .i64 ((plan.getD k default).wk)), .und ((plan.getD j default).wk == (plan.getD k default).wk) (.idx lp ln (j : Int) 4 (adr lp 4 (j : Int))), .und ((plan.getD j default).wk == (plan.getD k default).wk) (.ld ((adr lp 4 (j : Int)).add 2) (.int .i64 ((plan.getD j default).hr))), .und ((plan.getD j default).wk == (plan.getD k default).wk) (.ld ⟨b5, 2, none⟩ (.int .i64 ((plan.getD k default).hr)))]) [1, 2, 8, 9, 10, 11, 12, 13, 123] (.cons (ix hpl (by omega) (by omega)) <| .cons (ldx hO.st nom hpl (by omega) (by omega) 1 rfl) <| .cons (ldo hO.st 1 rfl 1 rfl) <| .cons (fun hg => (ix hpl (by omega) (by omega))) <| .cons (fun hg => (ldx hO.st nom hpl (by omega) (by omega) 2 rfl)) <| .cons (fun hg => (ldo hO.st 1 rfl 2 rfl)) <| .nil) (by kernel_rfl) (by kernel_rfl) fun a w hF hE => ?_)
              replace hO := hO.ext hE; clear hE
              rcases Bool.eq_false_or_eq_true (cond ((plan.getD j default).wk == (plan.getD k default).wk) ((plan.getD j default).hr == (plan.getD k default).hr) false) with hc9 | hc9
              · refine (W_true ((evOp hF (by kernel_rfl)).trans (congrArg Value.bool hc9)) ?_)
                refine (region_q {} TBok hF (F' := [(1, .slice lp ln lc), (2, .pointer (some ⟨b1, 0, none⟩)), (8, .int .i64 (q - (plan.getD k default).cr)), (9, .int .i64 (k : Int)), (10, .pointer (some ⟨b5, 0, none⟩)), (11, .int .i64 (of_ + (plan.getD j default).cr)), (12, .int .i64 (by_ + (plan.getD j default).cr)), (13, .int .i64 (j : Int))]) (rs := [.idx lp ln (j : Int) 4 (adr lp 4 (j : Int)), .ld ((adr lp 4 (j : Int)).add 3) (.int .i64 ((plan.getD j default).cr)), .rng (by_ + (plan.getD j default).cr)]) [1, 2, 8, 9, 10, 11, 12, 13] (.cons (ix hpl (by omega) (by omega)) <| .cons (ldx hO.st nom hpl (by omega) (by omega) 3 rfl) <| .cons (rg (by omega)) <| .nil) (by kernel_rfl) fun a w hF hE => ?_)
                replace hO := hO.ext hE; clear hE
                refine (region_q {} TBok hF (F' := [(1, .slice lp ln lc), (2, .pointer (some ⟨b1, 0, none⟩)), (8, .int .i64 (q - (plan.getD k default).cr)), (9, .int .i64 (k : Int)), (10, .pointer (some ⟨b5, 0, none⟩)), (11, .int .i64 (of_ + (plan.getD j default).cr)), (12, .int .i64 (by_ + (plan.getD j default).cr)), (13, .int .i64 ((j : Int) + 1))]) (rs := [.rng ((j : Int) + 1)]) [1, 2, 8, 9, 10, 11, 12, 13] (.cons (rg (by omega)) <| .nil) (by kernel_rfl) fun a w hF hE => ?_)
                replace hO := hO.ext hE; clear hE
                exact ⟨_, by omega, j + 1, _, _, rfl, by omega, by rw [ofK_yes (by omega) hc8, hof], by rw [byK_yes (by omega) hc9, hby], by omega, by omega, by omega, by omega, hF, hO⟩
              · refine (W_false ((evOp hF (by kernel_rfl)).trans (congrArg Value.bool hc9)) ?_)
                refine (W_skip ?_)
                refine (region_q {} TBok hF (F' := [(1, .slice lp ln lc), (2, .pointer (some ⟨b1, 0, none⟩)), (8, .int .i64 (q - (plan.getD k default).cr)), (9, .int .i64 (k : Int)), (10, .pointer (some ⟨b5, 0, none⟩)), (11, .int .i64 (of_ + (plan.getD j default).cr)), (12, .int .i64 by_), (13, .int .i64 ((j : Int) + 1))]) (rs := [.rng ((j : Int) + 1)]) [1, 2, 8, 9, 10, 11, 12, 13] (.cons (rg (by omega)) <| .nil) (by kernel_rfl) fun a w hF hE => ?_)
                replace hO := hO.ext hE; clear hE
                exact ⟨_, by omega, j + 1, _, _, rfl, by omega, by rw [ofK_yes (by omega) hc8, hof], by rw [byK_no (by omega) hc9, hby], by omega, by omega, by omega, by omega, hF, hO⟩
            · refine (W_false ((evOp hF (by kernel_rfl)).trans (congrArg Value.bool hc8)) ?_)
              refine (W_skip ?_)
              refine W_seq (region_d { sy := [8] } mixed TBok hF (F' := [(1, .slice lp ln lc), (2, .pointer (some ⟨b1, 0, none⟩)), (8, .int .i64 (q - (plan.getD k default).cr)), (9, .int .i64 (k : Int)), (10, .pointer (some ⟨b5, 0, none⟩)), (11, .int .i64 of_), (12, .int .i64 by_), (13, .int .i64 (j : Int)), (123, .bool (cond ((plan.getD j default).wk == (plan.getD k default).wk) ((plan.getD j default).hr == (plan.getD k default).hr) false))]) (rs := [.idx lp ln (j : Int) 4 (adr lp 4 (j : Int)), .ld ((adr lp 4 (j : Int)).add 1) (.int .i64 ((plan.getD j default).wk)), .ld ⟨b5, 1, none⟩ (.int .i64 ((plan.getD k default).wk)), .und ((plan.getD j default).wk == (plan.getD k default).wk) (.idx lp ln (j : Int) 4 (adr lp 4 (j : Int))), .und ((plan.getD j default).wk == (plan.getD k default).wk) (.ld ((adr lp 4 (j : Int)).add 2) (.int .i64 ((plan.getD j default).hr))), .und ((plan.getD j default).wk == (plan.getD k default).wk) (.ld ⟨b5, 2, none⟩ (.int .i64 ((plan.getD k default).hr)))]) [1, 2, 8, 9, 10, 11, 12, 13, 123] (.cons (ix hpl (by omega) (by omega)) <| .cons (ldx hO.st nom hpl (by omega) (by omega) 1 rfl) <| .cons (ldo hO.st 1 rfl 1 rfl) <| .cons (fun hg => (ix hpl (by omega) (by omega))) <| .cons (fun hg => (ldx hO.st nom hpl (by omega) (by omega) 2 rfl)) <| .cons (fun hg => (ldo hO.st 1 rfl 2 rfl)) <| .nil) (by kernel_rfl) (by kernel_rfl) fun a w hF hE => ?_)
              replace hO := hO.ext hE; clear hE
              rcases Bool.eq_false_or_eq_true (cond ((plan.getD j default).wk == (plan.getD k default).wk) ((plan.getD j default).hr == (plan.getD k default).hr) false) with hc10 | hc10
              · refine (W_true ((evOp hF (by kernel_rfl)).trans (congrArg Value.bool hc10)) ?_)
                refine (region_q {} TBok hF (F' := [(1, .slice lp ln lc), (2, .pointer (some ⟨b1, 0, none⟩)), (8, .int .i64 (q - (plan.getD k default).cr)), (9, .int .i64 (k : Int)), (10, .pointer (some ⟨b5, 0, none⟩)), (11, .int .i64 of_), (12, .int .i64 (by_ + (plan.getD j default).cr)), (13, .int .i64 (j : Int))]) (rs := [.idx lp ln (j : Int) 4 (adr lp 4 (j : Int)), .ld ((adr lp 4 (j : Int)).add 3) (.int .i64 ((plan.getD j default).cr)), .rng (by_ + (plan.getD j default).cr)]) [1, 2, 8, 9, 10, 11, 12, 13] (.cons (ix hpl (by omega) (by omega)) <| .cons (ldx hO.st nom hpl (by omega) (by omega) 3 rfl) <| .cons (rg (by omega)) <| .nil) (by kernel_rfl) fun a w hF hE => ?_)
                replace hO := hO.ext hE; clear hE
                refine (region_q {} TBok hF (F' := [(1, .slice lp ln lc), (2, .pointer (some ⟨b1, 0, none⟩)), (8, .int .i64 (q - (plan.getD k default).cr)), (9, .int .i64 (k : Int)), (10, .pointer (some ⟨b5, 0, none⟩)), (11, .int .i64 of_), (12, .int .i64 (by_ + (plan.getD j default).cr)), (13, .int .i64 ((j : Int) + 1))]) (rs := [.rng ((j : Int) + 1)]) [1, 2, 8, 9, 10, 11, 12, 13] (.cons (rg (by omega)) <| .nil) (by kernel_rfl) fun a w hF hE => ?_)
                replace hO := hO.ext hE; clear hE
                exact ⟨_, by omega, j + 1, _, _, rfl, by omega, by rw [ofK_no (by omega) hc8, hof], by rw [byK_yes (by omega) hc10, hby], by omega, by omega, by omega, by omega, hF, hO⟩
              · refine (W_false ((evOp hF (by kernel_rfl)).trans (congrArg Value.bool hc10)) ?_)
                refine (W_skip ?_)
                refine (region_q {} TBok hF (F' := [(1, .slice lp ln lc), (2, .pointer (some ⟨b1, 0, none⟩)), (8, .int .i64 (q - (plan.getD k default).cr)), (9, .int .i64 (k : Int)), (10, .pointer (some ⟨b5, 0, none⟩)), (11, .int .i64 of_), (12, .int .i64 by_), (13, .int .i64 ((j : Int) + 1))]) (rs := [.rng ((j : Int) + 1)]) [1, 2, 8, 9, 10, 11, 12, 13] (.cons (rg (by omega)) <| .nil) (by kernel_rfl) fun a w hF hE => ?_)
                replace hO := hO.ext hE; clear hE
                exact ⟨_, by omega, j + 1, _, _, rfl, by omega, by rw [ofK_no (by omega) hc8, hof], by rw [byK_no (by omega) hc10, hby], by omega, by omega, by omega, by omega, hF, hO⟩
          · refine (W_false ((evOp hF (by kernel_rfl)).trans (congrArg Value.bool hc7)) ?_)
            have hjk := of_decide_eq_false (by assumption : (decide ((j : Int) ≤ (k : Int))) = false)
            refine (W_exit ?_)
            refine W_seq (region_q { sy := [9] } TBok hF (F' := [(1, .slice lp ln lc), (2, .pointer (some ⟨b1, 0, none⟩)), (8, .int .i64 (q - (plan.getD k default).cr)), (9, .int .i64 (k : Int)), (150, .bool (cond (decide (of_ > (d.lots.getD ((plan.getD k default).lot).toNat default).cr)) true (decide (by_ > (d.wks.getD ((plan.getD k default).wk).toNat default).rt))))]) (rs := [.ld ⟨b1, 2, none⟩ (.slice v.la v.ln v.lc), .ld ⟨b5, 0, none⟩ (.int .i64 ((plan.getD k default).lot)), .idx v.la v.ln ((plan.getD k default).lot) 4 (adr v.la 4 ((plan.getD k default).lot)), .ld (adr v.la 4 ((plan.getD k default).lot)) (.int .i64 ((d.lots.getD ((plan.getD k default).lot).toNat default).cr)), .und (!(decide (of_ > (d.lots.getD ((plan.getD k default).lot).toNat default).cr))) (.ld ⟨b1, 3, none⟩ (.slice v.wa v.wn v.wc)), .und (!(decide (of_ > (d.lots.getD ((plan.getD k default).lot).toNat default).cr))) (.ld ⟨b5, 1, none⟩ (.int .i64 ((plan.getD k default).wk))), .und (!(decide (of_ > (d.lots.getD ((plan.getD k default).lot).toNat default).cr))) (.idx v.wa v.wn ((plan.getD k default).wk) 4 (adr v.wa 4 ((plan.getD k default).wk))), .und (!(decide (of_ > (d.lots.getD ((plan.getD k default).lot).toNat default).cr))) (.ld ((adr v.wa 4 ((plan.getD k default).wk)).add 3) (.int .i64 ((d.wks.getD ((plan.getD k default).wk).toNat default).rt)))]) [1, 2, 8, 9, 150] (.cons (ldo hO.st 0 rfl 2 rfl) <| .cons (ldo hO.st 1 rfl 0 rfl) <| .cons (ix hd.lots (by omega) (by omega)) <| .cons (ldx hO.st nom hd.lots (by omega) (by omega) 0 rfl) <| .cons (fun hg => (ldo hO.st 0 rfl 3 rfl)) <| .cons (fun hg => (ldo hO.st 1 rfl 1 rfl)) <| .cons (fun hg => (ix hd.wks (by omega) (by omega))) <| .cons (fun hg => (ldx hO.st nom hd.wks (by omega) (by omega) 3 rfl)) <| .nil) (by kernel_rfl) fun a w hF hE => ?_)
            replace hO := hO.ext hE; clear hE
            rcases Bool.eq_false_or_eq_true (cond (decide (of_ > (d.lots.getD ((plan.getD k default).lot).toNat default).cr)) true (decide (by_ > (d.wks.getD ((plan.getD k default).wk).toNat default).rt))) with hc11 | hc11
            · refine (W_true ((evOp hF (by kernel_rfl)).trans (congrArg Value.bool hc11)) ?_)
              have hle_ : j = k + 1 := by omega
              have hover : plOver d (plT T (plan.getD k default)) (plB B (plan.getD k default)) (plan.getD k default) = true := by rw [plOver, ofK_plT hofT (by omega) (by omega) (plan.getD k default).lot.toNat (by omega), byK_plB hbyB (by omega), Int.toNat_of_nonneg (by omega), ← hle_, ← hof, ← hby]; assumption
              refine W_seq (region_q {} TBok hF (F' := [(1, .slice lp ln lc), (2, .pointer (some ⟨b1, 0, none⟩)), (4, .int .i64 0), (5, .bool false), (6, .int .i64 0), (8, .int .i64 (q - (plan.getD k default).cr)), (9, .int .i64 (k : Int))]) (rs := []) [1, 2, 4, 5, 6, 8, 9] .nil (by kernel_rfl) fun a w hF hE => ?_)
              replace hO := hO.ext hE; clear hE
              refine W_ret ?_
              show bodyPostM (FW none) 0 _ _ _ Exit.ret a w
              have h0 : ¬ chk d ≠ 0 := by simpa using hc2
              have h4 : ¬ 400 < plan.length := by omega
              have hnone := (isP_over (T := T) (B := B) (by omega : k < plan.length) hbad hover).symm.trans heq
              exact leave_r TBok hF (.nil _) (vs := [.int .i64 0, .bool false, .int .i64 0]) (rs := []) .nil (by kernel_rfl) ⟨by rw [gutIsPlan, if_neg h0, if_neg h4, ← hnone]; rfl, hO.kp⟩
            · refine (W_false ((evOp hF (by kernel_rfl)).trans (congrArg Value.bool hc11)) ?_)
              have hle_ : j = k + 1 := by omega
              have hover : plOver d (plT T (plan.getD k default)) (plB B (plan.getD k default)) (plan.getD k default) = false := by rw [plOver, ofK_plT hofT (by omega) (by omega) (plan.getD k default).lot.toNat (by omega), byK_plB hbyB (by omega), Int.toNat_of_nonneg (by omega), ← hle_, ← hof, ← hby]; assumption
              refine (W_skip ?_)
              refine (region_q {} TBok hF (F' := [(1, .slice lp ln lc), (2, .pointer (some ⟨b1, 0, none⟩)), (8, .int .i64 (q - (plan.getD k default).cr)), (9, .int .i64 ((k : Int) + 1))]) (rs := [.rng ((k : Int) + 1)]) [1, 2, 8, 9] (.cons (rg (by omega)) <| .nil) (by kernel_rfl) fun a w hF hE => ?_)
              replace hO := hO.ext hE; clear hE
              have hw2 := plWithin hover
              rw [plT_at, plB_at] at hw2
              have hon := isP_on (T := T) (B := B) (by omega : k < plan.length) hbad hover
              replace hO := hO.drop1 1
              replace hO : Own w0 none_ [cel b1 #[.int .i64 d.hours, .slice v.ha v.hn v.hc, .slice v.la v.ln v.lc, .slice v.wa v.wn v.wc] 26] w := hO
              exact ⟨_, by omega, k + 1, plT T (plan.getD k default), plB B (plan.getD k default), _, rfl, by omega, hon.symm.trans heq, plT_ok hT (by omega) (by omega), plB_ok hB (by omega) (by omega), ofK_plT hofT (by omega) (by omega), byK_plB hbyB (by omega), hcr2, (by rw [plT, fsum_updf _ (by omega), hq]; omega), hF, hO⟩
      · refine (W_false ((evOp hF (by kernel_rfl)).trans (congrArg Value.bool hc4)) ?_)
        have hkn := of_decide_eq_false (by assumption : (decide ((k : Int) < (ln : Int))) = false)
        refine (W_exit ?_)
        refine W_seq (region_q {} TBok hF (F' := [(4, .int .i64 q), (5, .bool true), (6, .int .i64 0)]) (rs := []) [4, 5, 6] .nil (by kernel_rfl) fun a w hF hE => ?_)
        replace hO := hO.ext hE; clear hE
        refine W_ret ?_
        show bodyPostM (FW none) 0 _ _ _ Exit.ret a w
        have h0 : ¬ chk d ≠ 0 := by simpa using hc2
        have h4 : ¬ 400 < plan.length := by omega
        rw [List.drop_of_length_le (by omega)] at heq
        have hsome : some T = isP0 d plan := heq
        exact leave_r TBok hF (.nil _) (vs := [.int .i64 q, .bool true, .int .i64 0]) (rs := []) .nil (by kernel_rfl) ⟨by rw [gutIsPlan, if_neg h0, if_neg h4, ← hsome, hl2, hq]; rfl, hO.kp⟩

end Go.Proofs.Ytioimdegbdkppaa.DK
