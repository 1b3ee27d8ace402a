/- Walks: the check and Until of the reference. Printed by my gen.py out of gut/n.py. -/
import Derived.Test.YtioimdegbdkppaaGU
namespace Go.Proofs.Ytioimdegbdkppaa.DK
open Go Go.Proofs
set_option linter.unusedVariables false

set_option maxHeartbeats 4000000 in
set_option maxRecDepth 100000 in
theorem refCheck_calls (d : Day) (v : DV) (w0 : World) (hd : DayR w0.heap.size w0 v d) :
    Calls Try.prog 19 #[.agg #[.int .i64 d.hours, .slice v.ha v.hn v.hc, .slice v.la v.ln v.lc, .slice v.wa v.wn v.wc]] w0 (fun e w' => e = .returned (.int .i64 (refChk d)) ∧ Ext w0 w') := by
  have hl1 := hd.heat.len; have hl2 := hd.lots.len; have hl3 := hd.wks.len; have hs1 := hd.heat.size; have hs2 := hd.lots.size; have hs3 := hd.wks.size
  refine calls_of_W Try.func19 rfl (by kernel_rfl) (args := [.agg #[.int .i64 d.hours, .slice v.ha v.hn v.hc, .slice v.la v.ln v.lc, .slice v.wa v.wn v.wc]]) fun a hF => ?_
  replace hF : Fr 103 [] [(0, .agg #[.int .i64 d.hours, .slice v.ha v.hn v.hc, .slice v.la v.ln v.lc, .slice v.wa v.wn v.wc])] a := hF
  have hO : Own w0 none_ [] w0 := Own.start w0 _
  refine W_seq (region_seq ?_)
  refine op_box (i := 0) (t := 26) (v := .agg #[.int .i64 d.hours, .slice v.ha v.hn v.hc, .slice v.la v.ln v.lc, .slice v.wa v.wn v.wc]) (d := 1) hF hO (by kernel_rfl) fun a w b1 hF hO _ => ?_
  replace hO : Own w0 none_ [cel b1 #[.int .i64 d.hours, .slice v.ha v.hn v.hc, .slice v.la v.ln v.lc, .slice v.wa v.wn v.wc] 26] w := hO
  refine seq_quiet {} TBok hF (F' := [(1, .pointer (some ⟨b1, 0, none⟩)), (2, .int .i64 0)]) (rs := []) [1] [] [1, 2] .nil (by kernel_rfl) fun a w hF hE => ?_
  replace hO := hO.ext hE; clear hE
  refine W_seq (region_q { sy := [3, 11, 17] } TBok hF (F' := [(1, .pointer (some ⟨b1, 0, none⟩)), (2, .int .i64 0), (3, .bool (cond (cond (cond (inB d.hours 1 24) ((v.hn : Int) == d.hours) false) (decide ((v.ln : Int) ≤ 8)) false) (decide ((v.wn : Int) ≤ 6)) false))]) (rs := [.ld ⟨b1, 0, none⟩ (.int .i64 d.hours), .call 36 #[.int .i64 d.hours, .int .i64 1, .int .i64 24] (.bool (inB d.hours 1 24)), .und (inB d.hours 1 24) (.ld ⟨b1, 1, none⟩ (.slice v.ha v.hn v.hc)), .und (inB d.hours 1 24) (.ld ⟨b1, 0, none⟩ (.int .i64 d.hours)), .und (cond (inB d.hours 1 24) ((v.hn : Int) == d.hours) false) (.ld ⟨b1, 2, none⟩ (.slice v.la v.ln v.lc)), .und (cond (cond (inB d.hours 1 24) ((v.hn : Int) == d.hours) false) (decide ((v.ln : Int) ≤ 8)) false) (.ld ⟨b1, 3, none⟩ (.slice v.wa v.wn v.wc))]) [1, 2, 3] (.cons (ldo hO.st 0 rfl 0 rfl) <| .cons (fun w _ => In_calls _ _ _ w) <| .cons (fun hg => (ldo hO.st 0 rfl 1 rfl)) <| .cons (fun hg => (ldo hO.st 0 rfl 0 rfl)) <| .cons (fun hg => (ldo hO.st 0 rfl 2 rfl)) <| .cons (fun hg => (ldo hO.st 0 rfl 3 rfl)) <| .nil) (by kernel_rfl) fun a w hF hE => ?_)
  replace hO := hO.ext hE; clear hE
  refine W_seq ?_
  refine W_seq (region_q {} TBok hF (F' := [(1, .pointer (some ⟨b1, 0, none⟩)), (2, .int .i64 0), (3, .bool (cond (cond (cond (inB d.hours 1 24) ((v.hn : Int) == d.hours) false) (decide ((v.ln : Int) ≤ 8)) false) (decide ((v.wn : Int) ≤ 6)) false)), (4, .int .i64 0)]) (rs := []) [1, 2, 3, 4] .nil (by kernel_rfl) fun a w hF hE => ?_)
  replace hO := hO.ext hE; clear hE
  refine (W_block ?_)
  refine (W_loop (fun m a w => ∃ (k : Nat), ∃ (ok : Bool), m = v.hn - k ∧ k ≤ v.hn ∧ (ok && (d.heat.drop k).all (fun x => refSpB x 0 100)) = (headB d && d.heat.all (fun x => refSpB x 0 100)) ∧ (ok = true → 1 ≤ d.hours ∧ d.hours ≤ 24) ∧ Fr 103 [] [(1, .pointer (some ⟨b1, 0, none⟩)), (2, .int .i64 0), (3, .bool ok), (4, .int .i64 (k : Int))] a ∧ Own w0 none_ [cel b1 #[.int .i64 d.hours, .slice v.ha v.hn v.hc, .slice v.la v.ln v.lc, .slice v.wa v.wn v.wc] 26] w) _ ⟨0, _, rfl, Nat.zero_le _, (by rw [← headB_form hl1 hl2 hl3]; rfl), (fun h => head_hours ((headB_form hl1 hl2 hl3).symm.trans h)), hF, hO⟩ ?_)
  clear hF hO
  rintro _ a w ⟨k, ok, rfl, hk, heq, hokh, hF, hO⟩
  refine W_seq ?_
  refine W_seq (region_q { sy := [1] } TBok hF (F' := [(1, .pointer (some ⟨b1, 0, none⟩)), (2, .int .i64 0), (3, .bool ok), (4, .int .i64 (k : Int)), (38, .bool (cond ok (decide ((k : Int) < (v.hn : Int))) false))]) (rs := [.und ok (.ld ⟨b1, 1, none⟩ (.slice v.ha v.hn v.hc))]) [1, 2, 3, 4, 38] (.cons (fun hg => (ldo hO.st 0 rfl 1 rfl)) <| .nil) (by kernel_rfl) fun a w hF hE => ?_)
  replace hO := hO.ext hE; clear hE
  rcases Bool.eq_false_or_eq_true (cond ok (decide ((k : Int) < (v.hn : Int))) false) with hc2 | hc2
  · refine (W_true ((evOp hF (by kernel_rfl)).trans (congrArg Value.bool hc2)) ?_)
    obtain ⟨hokt, hkn⟩ := rgo (by assumption : (cond ok (decide ((k : Int) < (v.hn : Int))) false) = true)
    have hhr := hokh hokt
    refine (W_skip ?_)
    refine W_seq (W_block ?_)
    refine (region_q {} TBok hF (F' := [(1, .pointer (some ⟨b1, 0, none⟩)), (2, .int .i64 0), (3, .bool (refSpB (d.heat.getD k default) 0 100)), (4, .int .i64 (k : Int))]) (rs := [.ld ⟨b1, 1, none⟩ (.slice v.ha v.hn v.hc), .idx v.ha v.hn (k : Int) 2 (adr v.ha 2 (k : Int)), .lds (adr v.ha 2 (k : Int)) [.int .i64 ((d.heat.getD k default).lo), .int .i64 ((d.heat.getD k default).hi)], .call 47 #[.agg #[.int .i64 ((d.heat.getD k default).lo), .int .i64 ((d.heat.getD k default).hi)], .int .i64 0, .int .i64 100] (.bool (refSpB (d.heat.getD k default) 0 100))]) [1, 2, 3, 4] (.cons (ldo hO.st 0 rfl 1 rfl) <| .cons (ix hd.heat (by omega) (by omega)) <| .cons (ldsx hO.st nom hd.heat (by omega) (by omega) rfl) <| .cons (fun w _ => Spanned_calls (d.heat.getD k default) _ _ w) <| .nil) (by kernel_rfl) fun a w hF hE => ?_)
    replace hO := hO.ext hE; clear hE
    refine (region_q {} TBok hF (F' := [(1, .pointer (some ⟨b1, 0, none⟩)), (2, .int .i64 0), (3, .bool (refSpB (d.heat.getD k default) 0 100)), (4, .int .i64 ((k : Int) + 1))]) (rs := [.rng ((k : Int) + 1)]) [1, 2, 3, 4] (.cons (rg (by omega)) <| .nil) (by kernel_rfl) fun a w hF hE => ?_)
    replace hO := hO.ext hE; clear hE
    exact ⟨_, by omega, k + 1, _, rfl, by omega, rall_step heq hokt (by omega), fun _ => hhr, hF, hO⟩
  · refine (W_false ((evOp hF (by kernel_rfl)).trans (congrArg Value.bool hc2)) ?_)
    have hend := rall_end heq (by rw [hl1]; assumption)
    refine (W_exit ?_)
    refine W_seq ?_
    refine W_seq (region_q {} TBok hF (F' := [(1, .pointer (some ⟨b1, 0, none⟩)), (2, .int .i64 0), (3, .bool ok), (5, .int .i64 0)]) (rs := []) [1, 2, 3, 5] .nil (by kernel_rfl) fun a w hF hE => ?_)
    replace hO := hO.ext hE; clear hE
    refine (W_block ?_)
    refine (W_loop (fun m a w => ∃ (k : Nat), ∃ (ok : Bool), m = v.ln - k ∧ k ≤ v.ln ∧ (ok && (d.lots.drop k).all (lotB d.hours)) = ((headB d && d.heat.all (fun x => refSpB x 0 100)) && d.lots.all (lotB d.hours)) ∧ (ok = true → 1 ≤ d.hours ∧ d.hours ≤ 24) ∧ Fr 103 [] [(1, .pointer (some ⟨b1, 0, none⟩)), (2, .int .i64 0), (3, .bool ok), (5, .int .i64 (k : Int))] a ∧ Own w0 none_ [cel b1 #[.int .i64 d.hours, .slice v.ha v.hn v.hc, .slice v.la v.ln v.lc, .slice v.wa v.wn v.wc] 26] w) _ ⟨0, _, rfl, Nat.zero_le _, (by rw [hend]; rfl), hokh, hF, hO⟩ ?_)
    clear hF hO
    rintro _ a w ⟨k, ok, rfl, hk, heq, hokh, hF, hO⟩
    refine W_seq ?_
    refine W_seq (region_q { sy := [1] } TBok hF (F' := [(1, .pointer (some ⟨b1, 0, none⟩)), (2, .int .i64 0), (3, .bool ok), (5, .int .i64 (k : Int)), (54, .bool (cond ok (decide ((k : Int) < (v.ln : Int))) false))]) (rs := [.und ok (.ld ⟨b1, 2, none⟩ (.slice v.la v.ln v.lc))]) [1, 2, 3, 5, 54] (.cons (fun hg => (ldo hO.st 0 rfl 2 rfl)) <| .nil) (by kernel_rfl) fun a w hF hE => ?_)
    replace hO := hO.ext hE; clear hE
    rcases Bool.eq_false_or_eq_true (cond ok (decide ((k : Int) < (v.ln : Int))) false) with hc3 | hc3
    · refine (W_true ((evOp hF (by kernel_rfl)).trans (congrArg Value.bool hc3)) ?_)
      obtain ⟨hokt, hkn⟩ := rgo (by assumption : (cond ok (decide ((k : Int) < (v.ln : Int))) false) = true)
      have hhr := hokh hokt
      refine (W_skip ?_)
      refine W_seq (W_block ?_)
      refine W_seq (region_seq ?_)
      refine seq_quiet {} TBok hF (F' := [(1, .pointer (some ⟨b1, 0, none⟩)), (2, .int .i64 0), (3, .bool ok), (5, .int .i64 (k : Int)), (61, .agg #[.int .i64 ((d.lots.getD k default).cr), .int .i64 ((d.lots.getD k default).la), .int .i64 ((d.lots.getD k default).ke), .int .i64 ((d.lots.getD k default).fi)])]) (rs := [.ld ⟨b1, 2, none⟩ (.slice v.la v.ln v.lc), .idx v.la v.ln (k : Int) 4 (adr v.la 4 (k : Int)), .lds (adr v.la 4 (k : Int)) [.int .i64 ((d.lots.getD k default).cr), .int .i64 ((d.lots.getD k default).la), .int .i64 ((d.lots.getD k default).ke), .int .i64 ((d.lots.getD k default).fi)]]) [0, 1, 2, 3, 4] [5, 6] [1, 2, 3, 5, 61] (.cons (ldo hO.st 0 rfl 2 rfl) <| .cons (ix hd.lots (by omega) (by omega)) <| .cons (ldsx hO.st nom hd.lots (by omega) (by omega) rfl) <| .nil) (by kernel_rfl) fun a w hF hE => ?_
      replace hO := hO.ext hE; clear hE
      refine op_alloc (i := 5) (t := 59) (d := 6) (z := .agg #[.int .i64 0, .int .i64 0, .int .i64 0, .int .i64 0]) hF hO (by kernel_rfl) (by kernel_rfl) fun a w b4 hF hO _ => ?_
      replace hO : Own w0 none_ [cel b1 #[.int .i64 d.hours, .slice v.ha v.hn v.hc, .slice v.la v.ln v.lc, .slice v.wa v.wn v.wc] 26, cel b4 #[.int .i64 0, .int .i64 0, .int .i64 0, .int .i64 0] 59] w := hO
      refine op_store (i := 6) (t := 59) (p := ⟨b4, 0, none⟩) (v := .agg #[.int .i64 ((d.lots.getD k default).cr), .int .i64 ((d.lots.getD k default).la), .int .i64 ((d.lots.getD k default).ke), .int .i64 ((d.lots.getD k default).fi)]) (off := 0) (sz := 4) (cs' := #[.int .i64 ((d.lots.getD k default).cr), .int .i64 ((d.lots.getD k default).la), .int .i64 ((d.lots.getD k default).ke), .int .i64 ((d.lots.getD k default).fi)]) hF hO (by kernel_rfl) 1 rfl rfl (by kernel_rfl) (by kernel_rfl) (by kernel_rfl) fun a w hF hO _ => ?_
      replace hO : Own w0 none_ [cel b1 #[.int .i64 d.hours, .slice v.ha v.hn v.hc, .slice v.la v.ln v.lc, .slice v.wa v.wn v.wc] 26, cel b4 #[.int .i64 ((d.lots.getD k default).cr), .int .i64 ((d.lots.getD k default).la), .int .i64 ((d.lots.getD k default).ke), .int .i64 ((d.lots.getD k default).fi)] 59] w := hO
      replace hF := hF.sel [1, 2, 3, 5, 6]
      replace hF : Fr 103 [] [(1, .pointer (some ⟨b1, 0, none⟩)), (2, .int .i64 0), (3, .bool ok), (5, .int .i64 (k : Int)), (6, .pointer (some ⟨b4, 0, none⟩))] a := hF
      refine (region_q { sy := [3, 11, 16] } TBok hF (F' := [(1, .pointer (some ⟨b1, 0, none⟩)), (2, .int .i64 0), (3, .bool (cond (cond (cond (inB ((d.lots.getD k default).cr) 1 50) (inB ((d.lots.getD k default).la) 0 (d.hours - 1)) false) (inB ((d.lots.getD k default).ke) 0 10000) false) (inB ((d.lots.getD k default).fi) 0 7) false)), (5, .int .i64 (k : Int))]) (rs := [.ld ⟨b4, 0, none⟩ (.int .i64 ((d.lots.getD k default).cr)), .call 36 #[.int .i64 ((d.lots.getD k default).cr), .int .i64 1, .int .i64 50] (.bool (inB ((d.lots.getD k default).cr) 1 50)), .und (inB ((d.lots.getD k default).cr) 1 50) (.ld ⟨b4, 1, none⟩ (.int .i64 ((d.lots.getD k default).la))), .und (inB ((d.lots.getD k default).cr) 1 50) (.ld ⟨b1, 0, none⟩ (.int .i64 d.hours)), .und (inB ((d.lots.getD k default).cr) 1 50) (.rng (d.hours - 1)), .und (inB ((d.lots.getD k default).cr) 1 50) (.call 36 #[.int .i64 ((d.lots.getD k default).la), .int .i64 0, .int .i64 (d.hours - 1)] (.bool (inB ((d.lots.getD k default).la) 0 (d.hours - 1)))), .und (cond (inB ((d.lots.getD k default).cr) 1 50) (inB ((d.lots.getD k default).la) 0 (d.hours - 1)) false) (.ld ⟨b4, 2, none⟩ (.int .i64 ((d.lots.getD k default).ke))), .und (cond (inB ((d.lots.getD k default).cr) 1 50) (inB ((d.lots.getD k default).la) 0 (d.hours - 1)) false) (.call 36 #[.int .i64 ((d.lots.getD k default).ke), .int .i64 0, .int .i64 10000] (.bool (inB ((d.lots.getD k default).ke) 0 10000))), .und (cond (cond (inB ((d.lots.getD k default).cr) 1 50) (inB ((d.lots.getD k default).la) 0 (d.hours - 1)) false) (inB ((d.lots.getD k default).ke) 0 10000) false) (.ld ⟨b4, 3, none⟩ (.int .i64 ((d.lots.getD k default).fi))), .und (cond (cond (inB ((d.lots.getD k default).cr) 1 50) (inB ((d.lots.getD k default).la) 0 (d.hours - 1)) false) (inB ((d.lots.getD k default).ke) 0 10000) false) (.call 36 #[.int .i64 ((d.lots.getD k default).fi), .int .i64 0, .int .i64 7] (.bool (inB ((d.lots.getD k default).fi) 0 7)))]) [1, 2, 3, 5] (.cons (ldo hO.st 1 rfl 0 rfl) <| .cons (fun w _ => In_calls _ _ _ w) <| .cons (fun hg => (ldo hO.st 1 rfl 1 rfl)) <| .cons (fun hg => (ldo hO.st 0 rfl 0 rfl)) <| .cons (fun hg => (rg (by omega))) <| .cons (fun hg => (fun w _ => In_calls _ _ _ w)) <| .cons (fun hg => (ldo hO.st 1 rfl 2 rfl)) <| .cons (fun hg => (fun w _ => In_calls _ _ _ w)) <| .cons (fun hg => (ldo hO.st 1 rfl 3 rfl)) <| .cons (fun hg => (fun w _ => In_calls _ _ _ w)) <| .nil) (by kernel_rfl) fun a w hF hE => ?_)
      replace hO := hO.ext hE; clear hE
      refine (region_q {} TBok hF (F' := [(1, .pointer (some ⟨b1, 0, none⟩)), (2, .int .i64 0), (3, .bool (cond (cond (cond (inB ((d.lots.getD k default).cr) 1 50) (inB ((d.lots.getD k default).la) 0 (d.hours - 1)) false) (inB ((d.lots.getD k default).ke) 0 10000) false) (inB ((d.lots.getD k default).fi) 0 7) false)), (5, .int .i64 ((k : Int) + 1))]) (rs := [.rng ((k : Int) + 1)]) [1, 2, 3, 5] (.cons (rg (by omega)) <| .nil) (by kernel_rfl) fun a w hF hE => ?_)
      replace hO := hO.ext hE; clear hE
      replace hO := hO.drop1 1
      replace hO : Own w0 none_ [cel b1 #[.int .i64 d.hours, .slice v.ha v.hn v.hc, .slice v.la v.ln v.lc, .slice v.wa v.wn v.wc] 26] w := hO
      exact ⟨_, by omega, k + 1, _, rfl, by omega, rall_step heq hokt (by omega), fun _ => hhr, hF, hO⟩
    · refine (W_false ((evOp hF (by kernel_rfl)).trans (congrArg Value.bool hc3)) ?_)
      have hend := rall_end heq (by rw [hl2]; assumption)
      refine (W_exit ?_)
      refine W_seq ?_
      refine W_seq (region_q {} TBok hF (F' := [(1, .pointer (some ⟨b1, 0, none⟩)), (2, .int .i64 0), (3, .bool ok), (7, .int .i64 0)]) (rs := []) [1, 2, 3, 7] .nil (by kernel_rfl) fun a w hF hE => ?_)
      replace hO := hO.ext hE; clear hE
      refine (W_block ?_)
      refine (W_loop (fun m a w => ∃ (k : Nat), ∃ (ok : Bool), m = v.wn - k ∧ k ≤ v.wn ∧ (ok && (d.wks.drop k).all (refWkB d.hours)) = (((headB d && d.heat.all (fun x => refSpB x 0 100)) && d.lots.all (lotB d.hours)) && d.wks.all (refWkB d.hours)) ∧ (ok = true → 1 ≤ d.hours ∧ d.hours ≤ 24) ∧ Fr 103 [] [(1, .pointer (some ⟨b1, 0, none⟩)), (2, .int .i64 0), (3, .bool ok), (7, .int .i64 (k : Int))] a ∧ Own w0 none_ [cel b1 #[.int .i64 d.hours, .slice v.ha v.hn v.hc, .slice v.la v.ln v.lc, .slice v.wa v.wn v.wc] 26] w) _ ⟨0, _, rfl, Nat.zero_le _, (by rw [hend]; rfl), hokh, hF, hO⟩ ?_)
      clear hF hO
      rintro _ a w ⟨k, ok, rfl, hk, heq, hokh, hF, hO⟩
      refine W_seq ?_
      refine W_seq (region_q { sy := [1] } TBok hF (F' := [(1, .pointer (some ⟨b1, 0, none⟩)), (2, .int .i64 0), (3, .bool ok), (7, .int .i64 (k : Int)), (90, .bool (cond ok (decide ((k : Int) < (v.wn : Int))) false))]) (rs := [.und ok (.ld ⟨b1, 3, none⟩ (.slice v.wa v.wn v.wc))]) [1, 2, 3, 7, 90] (.cons (fun hg => (ldo hO.st 0 rfl 3 rfl)) <| .nil) (by kernel_rfl) fun a w hF hE => ?_)
      replace hO := hO.ext hE; clear hE
      rcases Bool.eq_false_or_eq_true (cond ok (decide ((k : Int) < (v.wn : Int))) false) with hc5 | hc5
      · refine (W_true ((evOp hF (by kernel_rfl)).trans (congrArg Value.bool hc5)) ?_)
        obtain ⟨hokt, hkn⟩ := rgo (by assumption : (cond ok (decide ((k : Int) < (v.wn : Int))) false) = true)
        have hhr := hokh hokt
        refine (W_skip ?_)
        refine W_seq (W_block ?_)
        refine (region_d {} mixed TBok hF (F' := [(1, .pointer (some ⟨b1, 0, none⟩)), (2, .int .i64 0), (3, .bool (refWkB d.hours (d.wks.getD k default))), (7, .int .i64 (k : Int))]) (rs := [.ld ⟨b1, 3, none⟩ (.slice v.wa v.wn v.wc), .idx v.wa v.wn (k : Int) 4 (adr v.wa 4 (k : Int)), .lds (adr v.wa 4 (k : Int)) [.int .i64 ((d.wks.getD k default).kd), .int .i64 ((d.wks.getD k default).fr), .int .i64 ((d.wks.getD k default).to), .int .i64 ((d.wks.getD k default).rt)], .ld ⟨b1, 0, none⟩ (.int .i64 d.hours), .call 55 #[.agg #[.int .i64 ((d.wks.getD k default).kd), .int .i64 ((d.wks.getD k default).fr), .int .i64 ((d.wks.getD k default).to), .int .i64 ((d.wks.getD k default).rt)], .int .i64 d.hours] (.bool (refWkB d.hours (d.wks.getD k default)))]) [1, 2, 3, 7] (.cons (ldo hO.st 0 rfl 3 rfl) <| .cons (ix hd.wks (by omega) (by omega)) <| .cons (ldsx hO.st nom hd.wks (by omega) (by omega) rfl) <| .cons (ldo hO.st 0 rfl 0 rfl) <| .cons (fun w _ => worker_calls (d.wks.getD k default) d.hours w (by omega)) <| .nil) (by kernel_rfl) (by kernel_rfl) fun a w hF hE => ?_)
        replace hO := hO.ext hE; clear hE
        refine (region_q {} TBok hF (F' := [(1, .pointer (some ⟨b1, 0, none⟩)), (2, .int .i64 0), (3, .bool (refWkB d.hours (d.wks.getD k default))), (7, .int .i64 ((k : Int) + 1))]) (rs := [.rng ((k : Int) + 1)]) [1, 2, 3, 7] (.cons (rg (by omega)) <| .nil) (by kernel_rfl) fun a w hF hE => ?_)
        replace hO := hO.ext hE; clear hE
        exact ⟨_, by omega, k + 1, _, rfl, by omega, rall_step heq hokt (by omega), fun _ => hhr, hF, hO⟩
      · refine (W_false ((evOp hF (by kernel_rfl)).trans (congrArg Value.bool hc5)) ?_)
        have hend := rall_end heq (by rw [hl3]; assumption)
        refine (W_exit ?_)
        refine W_seq ?_
        refine W_seq (region_q {} TBok hF (F' := [(2, .int .i64 0), (102, .bool (!ok))]) (rs := []) [2, 102] .nil (by kernel_rfl) fun a w hF hE => ?_)
        replace hO := hO.ext hE; clear hE
        rcases Bool.eq_false_or_eq_true (!ok) with hc6 | hc6
        · refine (W_true ((evOp hF (by kernel_rfl)).trans (congrArg Value.bool hc6)) ?_)
          refine W_seq (region_q {} TBok hF (F' := [(2, .int .i64 50)]) (rs := []) [2] .nil (by kernel_rfl) fun a w hF hE => ?_)
          replace hO := hO.ext hE; clear hE
          refine W_ret ?_
          show bodyPostM (FW none) 0 _ _ _ Exit.ret a w
          have hok3 : refDayB d = false := by rw [show refDayB d = ok from hend.symm]; simpa using hc6
          exact leave_r TBok hF (.nil _) (vs := [.int .i64 50]) (rs := []) .nil (by kernel_rfl) ⟨by rw [refChk, hok3]; rfl, hO.kp⟩
        · refine (W_false ((evOp hF (by kernel_rfl)).trans (congrArg Value.bool hc6)) ?_)
          refine (W_skip ?_)
          refine W_seq (region_q {} TBok hF (F' := [(2, .int .i64 0)]) (rs := []) [2] .nil (by kernel_rfl) fun a w hF hE => ?_)
          replace hO := hO.ext hE; clear hE
          refine W_ret ?_
          show bodyPostM (FW none) 0 _ _ _ Exit.ret a w
          have hok3 : refDayB d = true := by rw [show refDayB d = ok from hend.symm]; simpa using hc6
          exact leave_r TBok hF (.nil _) (vs := [.int .i64 0]) (rs := []) .nil (by kernel_rfl) ⟨by rw [refChk, hok3]; rfl, hO.kp⟩

set_option maxHeartbeats 4000000 in
set_option maxRecDepth 100000 in
theorem refUntil_calls (d : Day) (v : DV) (lot : Int) (w0 : World) (hd : DayR w0.heap.size w0 v d) :
    Calls Try.prog 17 #[.agg #[.int .i64 d.hours, .slice v.ha v.hn v.hc, .slice v.la v.ln v.lc, .slice v.wa v.wn v.wc], .int .i64 lot] w0 (fun e w' => e = .returned (.tuple #[.int .i64 (refUntilA d lot).1, .int .i64 (refUntilA d lot).2.1, .int .i64 (refUntilA d lot).2.2]) ∧ Ext w0 w') := by
  have hl1 := hd.heat.len; have hl2 := hd.lots.len; have hl3 := hd.wks.len; have hs1 := hd.heat.size; have hs2 := hd.lots.size; have hs3 := hd.wks.size
  refine calls_of_W Try.func17 rfl (by kernel_rfl) (args := [.agg #[.int .i64 d.hours, .slice v.ha v.hn v.hc, .slice v.la v.ln v.lc, .slice v.wa v.wn v.wc], .int .i64 lot]) fun a hF => ?_
  replace hF : Fr 26 [] [(0, .agg #[.int .i64 d.hours, .slice v.ha v.hn v.hc, .slice v.la v.ln v.lc, .slice v.wa v.wn v.wc]), (1, .int .i64 lot)] a := hF
  have hO : Own w0 none_ [] w0 := Own.start w0 _
  refine W_seq (region_seq ?_)
  refine op_box (i := 0) (t := 26) (v := .agg #[.int .i64 d.hours, .slice v.ha v.hn v.hc, .slice v.la v.ln v.lc, .slice v.wa v.wn v.wc]) (d := 2) hF hO (by kernel_rfl) fun a w b1 hF hO _ => ?_
  replace hO : Own w0 none_ [cel b1 #[.int .i64 d.hours, .slice v.ha v.hn v.hc, .slice v.la v.ln v.lc, .slice v.wa v.wn v.wc] 26] w := hO
  refine seq_quiet {} TBok hF (F' := [(1, .int .i64 lot), (2, .pointer (some ⟨b1, 0, none⟩)), (4, .int .i64 0), (5, .int .i64 0), (6, .int .i64 0)]) (rs := []) [1, 2, 3] [] [1, 2, 4, 5, 6] .nil (by kernel_rfl) fun a w hF hE => ?_
  replace hO := hO.ext hE; clear hE
  refine W_seq ?_
  refine W_seq (region_q {} TBok hF (F' := [(1, .int .i64 lot), (2, .pointer (some ⟨b1, 0, none⟩)), (4, .int .i64 0), (5, .int .i64 0), (6, .int .i64 0), (7, .int .i64 (refChk d))]) (rs := [.lds ⟨b1, 0, none⟩ [.int .i64 d.hours, .slice v.ha v.hn v.hc, .slice v.la v.ln v.lc, .slice v.wa v.wn v.wc], .call 19 #[.agg #[.int .i64 d.hours, .slice v.ha v.hn v.hc, .slice v.la v.ln v.lc, .slice v.wa v.wn v.wc]] (.int .i64 (refChk d))]) [1, 2, 4, 5, 6, 7] (.cons (ldso hO.st 0 rfl 0 rfl) <| .cons (fun w hE => refCheck_calls d v w (hd.upM (hO.st w hE).kp nom (Nat.le_refl _))) <| .nil) (by kernel_rfl) fun a w hF hE => ?_)
  replace hO := hO.ext hE; clear hE
  refine W_seq (region_q {} TBok hF (F' := [(1, .int .i64 lot), (2, .pointer (some ⟨b1, 0, none⟩)), (4, .int .i64 0), (5, .int .i64 0), (6, .int .i64 0), (7, .int .i64 (refChk d)), (11, .bool ((refChk d) != 0))]) (rs := []) [1, 2, 4, 5, 6, 7, 11] .nil (by kernel_rfl) fun a w hF hE => ?_)
  replace hO := hO.ext hE; clear hE
  rcases Bool.eq_false_or_eq_true ((refChk d) != 0) with hc2 | hc2
  · refine (W_true ((evOp hF (by kernel_rfl)).trans (congrArg Value.bool hc2)) ?_)
    refine W_seq (region_q {} TBok hF (F' := [(1, .int .i64 lot), (2, .pointer (some ⟨b1, 0, none⟩)), (4, .int .i64 0), (5, .int .i64 0), (6, .int .i64 (refChk d))]) (rs := []) [1, 2, 4, 5, 6] .nil (by kernel_rfl) fun a w hF hE => ?_)
    replace hO := hO.ext hE; clear hE
    refine W_ret ?_
    show bodyPostM (FW none) 0 _ _ _ Exit.ret a w
    exact leave_r TBok hF (.nil _) (vs := [.int .i64 0, .int .i64 0, .int .i64 (refChk d)]) (rs := []) .nil (by kernel_rfl) ⟨by rw [refUntilA, if_pos (by simpa using hc2)]; rfl, hO.kp⟩
  · refine (W_false ((evOp hF (by kernel_rfl)).trans (congrArg Value.bool hc2)) ?_)
    have hv := chk_ok (by rw [← refChk_eq]; assumption)
    have hv1 := day_ok hv
    refine (W_skip ?_)
    refine W_seq ?_
    refine W_seq (region_q {} TBok hF (F' := [(1, .int .i64 lot), (2, .pointer (some ⟨b1, 0, none⟩)), (4, .int .i64 0), (5, .int .i64 0), (6, .int .i64 0), (19, .bool (!(inB lot 0 ((v.ln : Int) - 1))))]) (rs := [.ld ⟨b1, 2, none⟩ (.slice v.la v.ln v.lc), .rng ((v.ln : Int) - 1), .call 36 #[.int .i64 lot, .int .i64 0, .int .i64 ((v.ln : Int) - 1)] (.bool (inB lot 0 ((v.ln : Int) - 1)))]) [1, 2, 4, 5, 6, 19] (.cons (ldo hO.st 0 rfl 2 rfl) <| .cons (rg (by omega)) <| .cons (fun w _ => In_calls _ _ _ w) <| .nil) (by kernel_rfl) fun a w hF hE => ?_)
    replace hO := hO.ext hE; clear hE
    rcases Bool.eq_false_or_eq_true (!(inB lot 0 ((v.ln : Int) - 1))) with hc3 | hc3
    · refine (W_true ((evOp hF (by kernel_rfl)).trans (congrArg Value.bool hc3)) ?_)
      refine W_seq (region_q {} TBok hF (F' := [(1, .int .i64 lot), (2, .pointer (some ⟨b1, 0, none⟩)), (4, .int .i64 0), (5, .int .i64 0), (6, .int .i64 7)]) (rs := []) [1, 2, 4, 5, 6] .nil (by kernel_rfl) fun a w hF hE => ?_)
      replace hO := hO.ext hE; clear hE
      refine W_ret ?_
      show bodyPostM (FW none) 0 _ _ _ Exit.ret a w
      exact leave_r TBok hF (.nil _) (vs := [.int .i64 0, .int .i64 0, .int .i64 7]) (rs := []) .nil (by kernel_rfl) ⟨by rw [refUntilA, if_neg (by simpa using hc2), if_neg (by simpa [hl2] using hc3)]; rfl, hO.kp⟩
    · refine (W_false ((evOp hF (by kernel_rfl)).trans (congrArg Value.bool hc3)) ?_)
      have hin := inB_iff.1 (by simpa using (by assumption : (!(inB lot 0 ((v.ln : Int) - 1))) = false))
      refine (W_skip ?_)
      refine W_seq (region_d {} mixed TBok hF (F' := [(4, .int .i64 (refUntil Sp.hi d (d.lots.getD lot.toNat default))), (5, .int .i64 (refUntil Sp.lo d (d.lots.getD lot.toNat default))), (6, .int .i64 0)]) (rs := [.lds ⟨b1, 0, none⟩ [.int .i64 d.hours, .slice v.ha v.hn v.hc, .slice v.la v.ln v.lc, .slice v.wa v.wn v.wc], .call 53 #[.agg #[.int .i64 d.hours, .slice v.ha v.hn v.hc, .slice v.la v.ln v.lc, .slice v.wa v.wn v.wc], .int .i64 lot, .bool false] (.int .i64 (refUntil Sp.hi d (d.lots.getD lot.toNat default))), .lds ⟨b1, 0, none⟩ [.int .i64 d.hours, .slice v.ha v.hn v.hc, .slice v.la v.ln v.lc, .slice v.wa v.wn v.wc], .call 53 #[.agg #[.int .i64 d.hours, .slice v.ha v.hn v.hc, .slice v.la v.ln v.lc, .slice v.wa v.wn v.wc], .int .i64 lot, .bool true] (.int .i64 (refUntil Sp.lo d (d.lots.getD lot.toNat default)))]) [4, 5, 6] (.cons (ldso hO.st 0 rfl 0 rfl) <| .cons (fun w hE => until_false_calls d v lot w (hd.upM (hO.st w hE).kp nom (Nat.le_refl _)) hv (by omega)) <| .cons (ldso hO.st 0 rfl 0 rfl) <| .cons (fun w hE => until_true_calls d v lot w (hd.upM (hO.st w hE).kp nom (Nat.le_refl _)) hv (by omega)) <| .nil) (by kernel_rfl) (by kernel_rfl) fun a w hF hE => ?_)
      replace hO := hO.ext hE; clear hE
      refine W_ret ?_
      show bodyPostM (FW none) 0 _ _ _ Exit.ret a w
      exact leave_r TBok hF (.nil _) (vs := [.int .i64 (refUntil Sp.hi d (d.lots.getD lot.toNat default)), .int .i64 (refUntil Sp.lo d (d.lots.getD lot.toNat default)), .int .i64 0]) (rs := []) .nil (by kernel_rfl) ⟨by rw [refUntilA, if_neg (by simpa using hc2), if_pos (by simpa [hl2] using hc3)]; rfl, hO.kp⟩

end Go.Proofs.Ytioimdegbdkppaa.DK
