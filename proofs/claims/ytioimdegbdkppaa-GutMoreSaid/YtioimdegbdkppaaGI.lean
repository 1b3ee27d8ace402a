/- Walks: sums of crans; Deficit; Told. Printed by my gen.py out of gut/i.py. -/
import Derived.Test.YtioimdegbdkppaaGH
namespace Go.Proofs.Ytioimdegbdkppaa.DK
open Go Go.Proofs
set_option linter.unusedVariables false

set_option maxHeartbeats 4000000 in
set_option maxRecDepth 100000 in
theorem crans_calls (d : Day) (v : DV) (f : Nat → Int) (w0 : World) (hd : DayR w0.heap.size w0 v d) (hv : dayV d = true) :
    Calls Try.prog 58 #[.agg (dayL v d f).toArray] w0 (fun e w' => e = .returned (.int .i64 (cransF d)) ∧ Ext w0 w') := by
  have hl1 := hd.heat.len; have hl2 := hd.lots.len; have hl3 := hd.wks.len; have hs1 := hd.heat.size; have hs2 := hd.lots.size; have hs3 := hd.wks.size; have hv1 := day_ok hv
  refine calls_of_W Try.func58 rfl (by kernel_rfl) (args := [.agg (dayL v d f).toArray]) fun a hF => ?_
  replace hF : Fr 22 [] [(0, .agg (dayL v d f).toArray)] a := hF
  have hO : Own w0 none_ [] w0 := Own.start w0 _
  refine W_seq (region_seq ?_)
  refine op_box (i := 0) (t := 81) (v := .agg (dayL v d f).toArray) (d := 1) hF hO (by kernel_rfl) fun a w b1 hF hO _ => ?_
  replace hO : Own w0 none_ [cel b1 (dayL v d f).toArray 81] w := hO
  refine seq_quiet {} TBok hF (F' := [(1, .pointer (some ⟨b1, 0, none⟩)), (2, .int .i64 0)]) (rs := []) [1] [] [1, 2] .nil (by kernel_rfl) fun a w hF hE => ?_
  replace hO := hO.ext hE; clear hE
  refine W_seq (region_q {} TBok hF (F' := [(1, .pointer (some ⟨b1, 0, none⟩)), (2, .int .i64 0), (3, .slice none 0 0)]) (rs := []) [1, 2, 3] .nil (by kernel_rfl) fun a w hF hE => ?_)
  replace hO := hO.ext hE; clear hE
  refine W_seq ?_
  refine W_seq (region_q {} TBok hF (F' := [(2, .int .i64 0), (3, .slice none 0 0), (8, .slice v.la v.ln v.lc), (9, .int .i64 (v.ln : Int)), (10, .int .i64 0)]) (rs := [.ld ⟨b1, 2, none⟩ (.slice v.la v.ln v.lc)]) [2, 3, 8, 9, 10] (.cons (ldo hO.st 0 rfl 2 (by kernel_rfl)) <| .nil) (by kernel_rfl) fun a w hF hE => ?_)
  replace hO := hO.ext hE; clear hE
  refine (W_block ?_)
  replace hO := hO.nilRow 3 1
  refine (W_loop (fun m a w => ∃ (k : Nat), ∃ (p : Option Addr), ∃ (c : Nat), m = v.ln - k ∧ k ≤ v.ln ∧ Fr 22 [] [(2, .int .i64 0), (3, .slice p k c), (8, .slice v.la v.ln v.lc), (9, .int .i64 (v.ln : Int)), (10, .int .i64 (k : Int))] a ∧ Own w0 none_ [cel b1 (dayL v d f).toArray 81, rowR 3 1 (.slice p k c) k (((d.lots.take k).map (·.cr)).flatMap encI)] w) _ ⟨0, none, 0, rfl, Nat.zero_le _, hF, hO⟩ ?_)
  clear hF hO
  rintro _ a w ⟨k, p, c, rfl, hk, hF, hO⟩
  refine W_seq (region_q {} TBok hF (F' := [(2, .int .i64 0), (3, .slice p k c), (8, .slice v.la v.ln v.lc), (9, .int .i64 (v.ln : Int)), (10, .int .i64 (k : Int)), (11, .bool (decide ((k : Int) < (v.ln : Int))))]) (rs := []) [2, 3, 8, 9, 10, 11] .nil (by kernel_rfl) fun a w hF hE => ?_)
  replace hO := hO.ext hE; clear hE
  rcases Bool.eq_false_or_eq_true (decide ((k : Int) < (v.ln : Int))) with hc2 | hc2
  · refine W_seq (W_true ((evOp hF (by kernel_rfl)).trans (congrArg Value.bool hc2)) ?_)
    have hc2_ := of_decide_eq_true hc2
    refine (W_skip ?_)
    refine W_seq (W_block ?_)
    refine W_seq (region_seq ?_)
    refine seq_quiet {} TBok hF (F' := [(2, .int .i64 0), (3, .slice p k c), (8, .slice v.la v.ln v.lc), (9, .int .i64 (v.ln : Int)), (10, .int .i64 (k : Int)), (13, .agg #[.int .i64 ((d.lots.getD k default).cr), .int .i64 ((d.lots.getD k default).la), .int .i64 ((d.lots.getD k default).ke), .int .i64 ((d.lots.getD k default).fi)])]) (rs := [.idx v.la v.ln (k : Int) 4 (adr v.la 4 (k : Int)), .lds (adr v.la 4 (k : Int)) [.int .i64 ((d.lots.getD k default).cr), .int .i64 ((d.lots.getD k default).la), .int .i64 ((d.lots.getD k default).ke), .int .i64 ((d.lots.getD k default).fi)]]) [0, 1] [2, 3] [2, 3, 8, 9, 10, 13] (.cons (ix hd.lots (by omega) (by omega)) <| .cons (ldsx hO.st nom hd.lots (by omega) (by omega) rfl) <| .nil) (by kernel_rfl) fun a w hF hE => ?_
    replace hO := hO.ext hE; clear hE
    refine op_alloc (i := 2) (t := 59) (d := 5) (z := .agg #[.int .i64 0, .int .i64 0, .int .i64 0, .int .i64 0]) hF hO (by kernel_rfl) (by kernel_rfl) fun a w b3 hF hO _ => ?_
    replace hO : Own w0 none_ [cel b1 (dayL v d f).toArray 81, rowR 3 1 (.slice p k c) k (((d.lots.take k).map (·.cr)).flatMap encI), cel b3 #[.int .i64 0, .int .i64 0, .int .i64 0, .int .i64 0] 59] w := hO
    refine op_store (i := 3) (t := 59) (p := ⟨b3, 0, none⟩) (v := .agg #[.int .i64 ((d.lots.getD k default).cr), .int .i64 ((d.lots.getD k default).la), .int .i64 ((d.lots.getD k default).ke), .int .i64 ((d.lots.getD k default).fi)]) (off := 0) (sz := 4) (cs' := #[.int .i64 ((d.lots.getD k default).cr), .int .i64 ((d.lots.getD k default).la), .int .i64 ((d.lots.getD k default).ke), .int .i64 ((d.lots.getD k default).fi)]) hF hO (by kernel_rfl) 2 rfl rfl (by kernel_rfl) (by kernel_rfl) (by kernel_rfl) fun a w hF hO _ => ?_
    replace hO : Own w0 none_ [cel b1 (dayL v d f).toArray 81, rowR 3 1 (.slice p k c) k (((d.lots.take k).map (·.cr)).flatMap encI), cel b3 #[.int .i64 ((d.lots.getD k default).cr), .int .i64 ((d.lots.getD k default).la), .int .i64 ((d.lots.getD k default).ke), .int .i64 ((d.lots.getD k default).fi)] 59] w := hO
    replace hF := hF.sel [2, 3, 5, 8, 9, 10]
    replace hF : Fr 22 [] [(2, .int .i64 0), (3, .slice p k c), (5, .pointer (some ⟨b3, 0, none⟩)), (8, .slice v.la v.ln v.lc), (9, .int .i64 (v.ln : Int)), (10, .int .i64 (k : Int))] a := hF
    refine (region_seq ?_)
    refine seq_quiet {} TBok hF (F' := [(2, .int .i64 0), (3, .slice p k c), (8, .slice v.la v.ln v.lc), (9, .int .i64 (v.ln : Int)), (10, .int .i64 (k : Int)), (14, .slice p k c), (16, .int .i64 ((d.lots.getD k default).cr))]) (rs := [.ld ⟨b3, 0, none⟩ (.int .i64 ((d.lots.getD k default).cr))]) [0, 1, 2] [3, 4, 5] [2, 3, 8, 9, 10, 14, 16] (.cons (ldo hO.st 2 rfl 0 rfl) <| .nil) (by kernel_rfl) fun a w hF hE => ?_
    replace hO := hO.ext hE; clear hE
    refine op_bsl (i := 3) (t := 41) (e := 3) (len := 1) (ps := [(0, .int .i64 ((d.lots.getD k default).cr))]) (d := 17) (sz := 1) (cs := #[.int .i64 ((d.lots.getD k default).cr)]) (z := .int .i64 0) hF hO (by kernel_rfl) (by kernel_rfl) (by kernel_rfl) (by kernel_rfl) (by kernel_rfl) fun a w b4 hF hO _ => ?_
    replace hO : Own w0 none_ [cel b1 (dayL v d f).toArray 81, rowR 3 1 (.slice p k c) k (((d.lots.take k).map (·.cr)).flatMap encI), cel b3 #[.int .i64 ((d.lots.getD k default).cr), .int .i64 ((d.lots.getD k default).la), .int .i64 ((d.lots.getD k default).ke), .int .i64 ((d.lots.getD k default).fi)] 59, cel b4 #[.int .i64 ((d.lots.getD k default).cr)] 3] w := hO
    refine op_appR (i := 4) (t := 41) (ty := 41) (e := 3) (d := 18) rowT41 hF hO (by kernel_rfl) 1 rfl 3 rfl (by kernel_rfl) (by omega) fun a w p5 c6 hF hO hx => ?_
    clear hx
    replace hO : Own w0 none_ [cel b1 (dayL v d f).toArray 81, rowR 3 1 (.slice p5 (k + 1) c6) (k + 1) ((((d.lots.take k).map (·.cr)).flatMap encI) ++ (#[.int .i64 ((d.lots.getD k default).cr)] : Array Value).toList), cel b3 #[.int .i64 ((d.lots.getD k default).cr), .int .i64 ((d.lots.getD k default).la), .int .i64 ((d.lots.getD k default).ke), .int .i64 ((d.lots.getD k default).fi)] 59, cel b4 #[.int .i64 ((d.lots.getD k default).cr)] 3] w := hO
    refine seq_quiet {} TBok hF (F' := [(2, .int .i64 0), (3, .slice p5 (k + 1) c6), (8, .slice v.la v.ln v.lc), (9, .int .i64 (v.ln : Int)), (10, .int .i64 (k : Int))]) (rs := []) [5] [] [2, 3, 8, 9, 10] .nil (by kernel_rfl) fun a w hF hE => ?_
    replace hO := hO.ext hE; clear hE
    refine (region_q {} TBok hF (F' := [(2, .int .i64 0), (3, .slice p5 (k + 1) c6), (8, .slice v.la v.ln v.lc), (9, .int .i64 (v.ln : Int)), (10, .int .i64 ((k : Int) + 1))]) (rs := [.rng ((k : Int) + 1)]) [2, 3, 8, 9, 10] (.cons (rg (by omega)) <| .nil) (by kernel_rfl) fun a w hF hE => ?_)
    replace hO := hO.ext hE; clear hE
    replace hO := hO.drop1 3
    replace hO := hO.drop1 2
    replace hO : Own w0 none_ [cel b1 (dayL v d f).toArray 81, rowR 3 1 (.slice p5 (k + 1) c6) (k + 1) ((((d.lots.take k).map (·.cr)).flatMap encI) ++ (#[.int .i64 ((d.lots.getD k default).cr)] : Array Value).toList)] w := hO
    replace hO : Own w0 none_ [cel b1 (dayL v d f).toArray 81, rowR 3 1 (.slice p5 (k + 1) c6) (k + 1) (((d.lots.take (k + 1)).map (·.cr)).flatMap encI)] w := hO.cast (by rw [take_map (by omega), List.flatMap_append]; rfl)
    exact ⟨_, by omega, k + 1, p5, c6, rfl, by omega, hF, hO⟩
  · refine W_seq (W_false ((evOp hF (by kernel_rfl)).trans (congrArg Value.bool hc2)) ?_)
    have hc2_ := of_decide_eq_false hc2
    refine (W_exit ?_)
    refine W_seq (region_q {} TBok hF (F' := [(2, .int .i64 (((d.lots.take k).map (·.cr)).sum))]) (rs := [.call 59 #[.slice p k c] (.int .i64 (((d.lots.take k).map (·.cr)).sum))]) [2] (.cons (fun w hE => sum_calls ((d.lots.take k).map (·.cr)) _ _ _ w (rd_row (fun _ => rfl) (by decide) (hO.st w hE) 1 rfl (by omega)) (bdd_cr hv k)) <| .nil) (by kernel_rfl) fun a w hF hE => ?_)
    replace hO := hO.ext hE; clear hE
    refine W_ret ?_
    show bodyPostM (FW none) 0 _ _ _ Exit.ret a w
    have hkk : k = d.lots.length := by omega
    exact leave_r TBok hF (.nil _) (vs := [.int .i64 (((d.lots.take k).map (·.cr)).sum)]) (rs := []) .nil (by kernel_rfl) ⟨by rw [hkk, List.take_length]; rfl, hO.kp⟩

set_option maxHeartbeats 4000000 in
set_option maxRecDepth 100000 in
theorem Deficit_calls (d : Day) (v : DV) (xs : List Int) (p : Option Addr) (n c : Nat) (w0 : World) (hd : DayR w0.heap.size w0 v d) (hx : Rd encI 1 w0.heap.size w0 p n xs) :
    Calls Try.prog 25 #[.agg #[.int .i64 d.hours, .slice v.ha v.hn v.hc, .slice v.la v.ln v.lc, .slice v.wa v.wn v.wc], .slice p n c] w0 (fun e w' => e = .returned (.tuple #[.int .i64 (gutDeficit d xs).1, .int .i64 (gutDeficit d xs).2]) ∧ Ext w0 w') := by
  have hl1 := hd.heat.len; have hl2 := hd.lots.len; have hl3 := hd.wks.len; have hs1 := hd.heat.size; have hs2 := hd.lots.size; have hs3 := hd.wks.size; have hx1 := hx.len; have hx2 := hx.size
  refine calls_of_W Try.func25 rfl (by kernel_rfl) (args := [.agg #[.int .i64 d.hours, .slice v.ha v.hn v.hc, .slice v.la v.ln v.lc, .slice v.wa v.wn v.wc], .slice p n c]) fun a hF => ?_
  replace hF : Fr 37 [] [(0, .agg #[.int .i64 d.hours, .slice v.ha v.hn v.hc, .slice v.la v.ln v.lc, .slice v.wa v.wn v.wc]), (1, .slice p n c)] a := hF
  have hO : Own w0 none_ [] w0 := Own.start w0 _
  refine W_seq (region_seq ?_)
  refine op_box (i := 0) (t := 26) (v := .agg #[.int .i64 d.hours, .slice v.ha v.hn v.hc, .slice v.la v.ln v.lc, .slice v.wa v.wn v.wc]) (d := 2) hF hO (by kernel_rfl) fun a w b1 hF hO _ => ?_
  replace hO : Own w0 none_ [cel b1 #[.int .i64 d.hours, .slice v.ha v.hn v.hc, .slice v.la v.ln v.lc, .slice v.wa v.wn v.wc] 26] w := hO
  refine seq_quiet {} TBok hF (F' := [(1, .slice p n c), (2, .pointer (some ⟨b1, 0, none⟩)), (4, .int .i64 0), (5, .int .i64 0)]) (rs := []) [1, 2] [] [1, 2, 4, 5] .nil (by kernel_rfl) fun a w hF hE => ?_
  replace hO := hO.ext hE; clear hE
  refine W_seq ?_
  refine W_seq (region_q {} TBok hF (F' := [(1, .slice p n c), (2, .pointer (some ⟨b1, 0, none⟩)), (4, .int .i64 0), (5, .int .i64 0), (6, .int .i64 (chk d))]) (rs := [.lds ⟨b1, 0, none⟩ [.int .i64 d.hours, .slice v.ha v.hn v.hc, .slice v.la v.ln v.lc, .slice v.wa v.wn v.wc], .call 18 #[.agg #[.int .i64 d.hours, .slice v.ha v.hn v.hc, .slice v.la v.ln v.lc, .slice v.wa v.wn v.wc]] (.int .i64 (chk d))]) [1, 2, 4, 5, 6] (.cons (ldso hO.st 0 rfl 0 rfl) <| .cons (fun w hE => Check_calls d v w (hd.upM (hO.st w hE).kp nom (Nat.le_refl _))) <| .nil) (by kernel_rfl) fun a w hF hE => ?_)
  replace hO := hO.ext hE; clear hE
  refine W_seq (region_q {} TBok hF (F' := [(1, .slice p n c), (2, .pointer (some ⟨b1, 0, none⟩)), (4, .int .i64 0), (5, .int .i64 0), (6, .int .i64 (chk d)), (13, .bool ((chk d) != 0))]) (rs := []) [1, 2, 4, 5, 6, 13] .nil (by kernel_rfl) fun a w hF hE => ?_)
  replace hO := hO.ext hE; clear hE
  rcases Bool.eq_false_or_eq_true ((chk d) != 0) with hc2 | hc2
  · refine (W_true ((evOp hF (by kernel_rfl)).trans (congrArg Value.bool hc2)) ?_)
    refine W_seq (region_q {} TBok hF (F' := [(1, .slice p n c), (2, .pointer (some ⟨b1, 0, none⟩)), (4, .int .i64 0), (5, .int .i64 (chk d))]) (rs := []) [1, 2, 4, 5] .nil (by kernel_rfl) fun a w hF hE => ?_)
    replace hO := hO.ext hE; clear hE
    refine W_ret ?_
    show bodyPostM (FW none) 0 _ _ _ Exit.ret a w
    exact leave_r TBok hF (.nil _) (vs := [.int .i64 0, .int .i64 (chk d)]) (rs := []) .nil (by kernel_rfl) ⟨by rw [gutDeficit, if_pos (by simpa using hc2)]; rfl, hO.kp⟩
  · refine (W_false ((evOp hF (by kernel_rfl)).trans (congrArg Value.bool hc2)) ?_)
    have hv := chk_ok (by assumption)
    have hv1 := day_ok hv
    refine (W_skip ?_)
    refine W_seq (region_q {} TBok hF (F' := [(1, .slice p n c), (2, .pointer (some ⟨b1, 0, none⟩)), (4, .int .i64 0), (5, .int .i64 0), (7, .int .i64 (-1))]) (rs := []) [1, 2, 4, 5, 7] .nil (by kernel_rfl) fun a w hF hE => ?_)
    replace hO := hO.ext hE; clear hE
    refine W_seq ?_
    refine W_seq (region_q {} TBok hF (F' := [(1, .slice p n c), (2, .pointer (some ⟨b1, 0, none⟩)), (4, .int .i64 0), (5, .int .i64 0), (7, .int .i64 (-1)), (15, .slice p n c), (16, .int .i64 (n : Int)), (17, .int .i64 0)]) (rs := []) [1, 2, 4, 5, 7, 15, 16, 17] .nil (by kernel_rfl) fun a w hF hE => ?_)
    replace hO := hO.ext hE; clear hE
    refine (W_block ?_)
    replace hF := hF.sel [1, 2, 7, 15, 16, 17]
    refine (W_loop (fun m a w => ∃ (k : Nat), ∃ (last : Int), m = n - k ∧ k ≤ n ∧ -1 ≤ last ∧ last < v.ln ∧ (k : Int) ≤ last + 1 ∧ risF d.lots.length last (xs.drop k) = risF d.lots.length (-1) xs ∧ (∀ x ∈ xs.take k, 0 ≤ x ∧ x < v.ln) ∧ Fr 37 [] [(1, .slice p n c), (2, .pointer (some ⟨b1, 0, none⟩)), (7, .int .i64 last), (15, .slice p n c), (16, .int .i64 (n : Int)), (17, .int .i64 (k : Int))] a ∧ Own w0 none_ [cel b1 #[.int .i64 d.hours, .slice v.ha v.hn v.hc, .slice v.la v.ln v.lc, .slice v.wa v.wn v.wc] 26] w) _ ⟨0, (-1), rfl, Nat.zero_le _, by omega, by omega, by omega, rfl, by simp, hF, hO⟩ ?_)
    clear hF hO
    rintro _ a w ⟨k, last, rfl, hk, hl0, hlast, hkl, hris, hin, hF, hO⟩
    refine W_seq (region_q {} TBok hF (F' := [(1, .slice p n c), (2, .pointer (some ⟨b1, 0, none⟩)), (7, .int .i64 last), (15, .slice p n c), (16, .int .i64 (n : Int)), (17, .int .i64 (k : Int)), (18, .bool (decide ((k : Int) < (n : Int))))]) (rs := []) [1, 2, 7, 15, 16, 17, 18] .nil (by kernel_rfl) fun a w hF hE => ?_)
    replace hO := hO.ext hE; clear hE
    rcases Bool.eq_false_or_eq_true (decide ((k : Int) < (n : Int))) with hc3 | hc3
    · refine W_seq (W_true ((evOp hF (by kernel_rfl)).trans (congrArg Value.bool hc3)) ?_)
      have hc3_ := of_decide_eq_true hc3
      refine (W_skip ?_)
      refine W_seq (W_block ?_)
      refine W_seq (region_q {} TBok hF (F' := [(1, .slice p n c), (2, .pointer (some ⟨b1, 0, none⟩)), (7, .int .i64 last), (9, .int .i64 (xs.getD k default)), (15, .slice p n c), (16, .int .i64 (n : Int)), (17, .int .i64 (k : Int))]) (rs := [.idx p n (k : Int) 1 (adr p 1 (k : Int)), .ld (adr p 1 (k : Int)) (.int .i64 (xs.getD k default))]) [1, 2, 7, 9, 15, 16, 17] (.cons (ix hx (by omega) (by omega)) <| .cons (ldx hO.st nom hx (by omega) (by omega) 0 rfl) <| .nil) (by kernel_rfl) fun a w hF hE => ?_)
      replace hO := hO.ext hE; clear hE
      refine W_seq ?_
      refine W_seq (region_q {} TBok hF (F' := [(1, .slice p n c), (2, .pointer (some ⟨b1, 0, none⟩)), (7, .int .i64 last), (9, .int .i64 (xs.getD k default)), (15, .slice p n c), (16, .int .i64 (n : Int)), (17, .int .i64 (k : Int)), (29, .bool (!(inB (xs.getD k default) (last + 1) ((v.ln : Int) - 1))))]) (rs := [.rng (last + 1), .ld ⟨b1, 2, none⟩ (.slice v.la v.ln v.lc), .rng ((v.ln : Int) - 1), .call 49 #[.int .i64 (xs.getD k default), .int .i64 (last + 1), .int .i64 ((v.ln : Int) - 1)] (.bool (inB (xs.getD k default) (last + 1) ((v.ln : Int) - 1)))]) [1, 2, 7, 9, 15, 16, 17, 29] (.cons (rg (by omega)) <| .cons (ldo hO.st 0 rfl 2 rfl) <| .cons (rg (by omega)) <| .cons (fun w _ => within_calls _ _ _ w) <| .nil) (by kernel_rfl) fun a w hF hE => ?_)
      replace hO := hO.ext hE; clear hE
      rcases Bool.eq_false_or_eq_true (!(inB (xs.getD k default) (last + 1) ((v.ln : Int) - 1))) with hc4 | hc4
      · refine (W_true ((evOp hF (by kernel_rfl)).trans (congrArg Value.bool hc4)) ?_)
        refine W_seq (region_q {} TBok hF (F' := [(1, .slice p n c), (2, .pointer (some ⟨b1, 0, none⟩)), (4, .int .i64 0), (5, .int .i64 51), (7, .int .i64 last), (9, .int .i64 (xs.getD k default)), (15, .slice p n c), (16, .int .i64 (n : Int)), (17, .int .i64 (k : Int))]) (rs := []) [1, 2, 4, 5, 7, 9, 15, 16, 17] .nil (by kernel_rfl) fun a w hF hE => ?_)
        replace hO := hO.ext hE; clear hE
        refine W_ret ?_
        show bodyPostM (FW none) 0 _ _ _ Exit.ret a w
        have hbad := risF_bad (ln := d.lots.length) (last := last) (by omega : k < xs.length) (show inB (xs.getD k default) (last + 1) ((d.lots.length : Int) - 1) = false by rw [hl2]; simpa using hc4)
        rw [hris] at hbad
        exact leave_r TBok hF (.nil _) (vs := [.int .i64 0, .int .i64 51]) (rs := []) .nil (by kernel_rfl) ⟨by rw [gutDeficit, if_neg (by simpa using hc2), if_neg (by rw [hbad]; simp)]; rfl, hO.kp⟩
      · refine (W_false ((evOp hF (by kernel_rfl)).trans (congrArg Value.bool hc4)) ?_)
        have hinb : (inB (xs.getD k default) (last + 1) ((v.ln : Int) - 1)) = true := by simpa using (by assumption : (!(inB (xs.getD k default) (last + 1) ((v.ln : Int) - 1))) = false)
        have hi2 := inB_iff.1 hinb
        refine (W_skip ?_)
        refine (region_q {} TBok hF (F' := [(1, .slice p n c), (2, .pointer (some ⟨b1, 0, none⟩)), (7, .int .i64 (xs.getD k default)), (15, .slice p n c), (16, .int .i64 (n : Int)), (17, .int .i64 (k : Int))]) (rs := []) [1, 2, 7, 15, 16, 17] .nil (by kernel_rfl) fun a w hF hE => ?_)
        replace hO := hO.ext hE; clear hE
        refine (region_q {} TBok hF (F' := [(1, .slice p n c), (2, .pointer (some ⟨b1, 0, none⟩)), (7, .int .i64 (xs.getD k default)), (15, .slice p n c), (16, .int .i64 (n : Int)), (17, .int .i64 ((k : Int) + 1))]) (rs := [.rng ((k : Int) + 1)]) [1, 2, 7, 15, 16, 17] (.cons (rg (by omega)) <| .nil) (by kernel_rfl) fun a w hF hE => ?_)
        replace hO := hO.ext hE; clear hE
        have hstep := risF_step (ln := d.lots.length) (last := last) (by omega : k < xs.length) (show inB (xs.getD k default) (last + 1) ((d.lots.length : Int) - 1) = true by rw [hl2]; assumption)
        exact ⟨_, by omega, k + 1, _, rfl, by omega, by omega, by omega, by omega, hstep.symm.trans hris, take_in hin (by omega) (by omega), hF, hO⟩
    · refine W_seq (W_false ((evOp hF (by kernel_rfl)).trans (congrArg Value.bool hc3)) ?_)
      have hc3_ := of_decide_eq_false hc3
      refine (W_exit ?_)
      refine W_seq (region_d {} mixed TBok hF (F' := [(4, .int .i64 (defF d (untils Sp.hi d) xs)), (5, .int .i64 0)]) (rs := [.lds ⟨b1, 0, none⟩ [.int .i64 d.hours, .slice v.ha v.hn v.hc, .slice v.la v.ln v.lc, .slice v.wa v.wn v.wc], .call 51 #[] (.agg #[.func (.func 69) #[] #[]]), .call 50 #[.agg #[.int .i64 d.hours, .slice v.ha v.hn v.hc, .slice v.la v.ln v.lc, .slice v.wa v.wn v.wc], .agg #[.func (.func 69) #[] #[]]] (.agg (dayL v d (untils Sp.hi d)).toArray), .call 65 #[.agg (dayL v d (untils Sp.hi d)).toArray, .slice p n c] (.int .i64 (defF d (untils Sp.hi d) xs))]) [4, 5] (.cons (ldso hO.st 0 rfl 0 rfl) <| .cons (fun w _ => surely_calls w) <| .cons (fun w hE => opened_hi_calls d v w (hd.upM (hO.st w hE).kp nom (Nat.le_refl _)) hv) <| .cons (fun w hE => deficit_calls d v (untils Sp.hi d) xs p n c w (hd.upM (hO.st w hE).kp nom (Nat.le_refl _)) hv (hx.upM (hO.st w hE).kp nom (Nat.le_refl _)) (by omega) (take_all_in hin (by omega))) <| .nil) (by kernel_rfl) (by kernel_rfl) fun a w hF hE => ?_)
      replace hO := hO.ext hE; clear hE
      refine W_ret ?_
      show bodyPostM (FW none) 0 _ _ _ Exit.ret a w
      have hgood : risF d.lots.length (-1) xs = true := by rw [← hris, List.drop_of_length_le (by omega)]; rfl
      exact leave_r TBok hF (.nil _) (vs := [.int .i64 (defF d (untils Sp.hi d) xs), .int .i64 0]) (rs := []) .nil (by kernel_rfl) ⟨by rw [gutDeficit, if_neg (by simpa using hc2), if_pos hgood]; rfl, hO.kp⟩

set_option maxHeartbeats 4000000 in
set_option maxRecDepth 100000 in
theorem Told_calls (d : Day) (v : DV) (w0 : World) (hd : DayR w0.heap.size w0 v d) :
    Calls Try.prog 30 #[.agg #[.int .i64 d.hours, .slice v.ha v.hn v.hc, .slice v.la v.ln v.lc, .slice v.wa v.wn v.wc]] w0 (fun e w' => e = .returned (.tuple #[.agg #[.int .i64 (gutTold d).1, .int .i64 (gutTold d).2.1], .int .i64 (gutTold d).2.2]) ∧ Ext w0 w') := by
  have hl1 := hd.heat.len; have hl2 := hd.lots.len; have hl3 := hd.wks.len; have hs1 := hd.heat.size; have hs2 := hd.lots.size; have hs3 := hd.wks.size
  refine calls_of_W Try.func30 rfl (by kernel_rfl) (args := [.agg #[.int .i64 d.hours, .slice v.ha v.hn v.hc, .slice v.la v.ln v.lc, .slice v.wa v.wn v.wc]]) fun a hF => ?_
  replace hF : Fr 41 [] [(0, .agg #[.int .i64 d.hours, .slice v.ha v.hn v.hc, .slice v.la v.ln v.lc, .slice v.wa v.wn v.wc])] a := hF
  have hO : Own w0 none_ [] w0 := Own.start w0 _
  refine W_seq (region_seq ?_)
  refine op_box (i := 0) (t := 26) (v := .agg #[.int .i64 d.hours, .slice v.ha v.hn v.hc, .slice v.la v.ln v.lc, .slice v.wa v.wn v.wc]) (d := 1) hF hO (by kernel_rfl) fun a w b1 hF hO _ => ?_
  replace hO : Own w0 none_ [cel b1 #[.int .i64 d.hours, .slice v.ha v.hn v.hc, .slice v.la v.ln v.lc, .slice v.wa v.wn v.wc] 26] w := hO
  refine op_alloc (i := 1) (t := 47) (d := 2) (z := .agg #[.int .i64 0, .int .i64 0]) hF hO (by kernel_rfl) (by kernel_rfl) fun a w b2 hF hO _ => ?_
  replace hO : Own w0 none_ [cel b1 #[.int .i64 d.hours, .slice v.ha v.hn v.hc, .slice v.la v.ln v.lc, .slice v.wa v.wn v.wc] 26, cel b2 #[.int .i64 0, .int .i64 0] 47] w := hO
  refine seq_quiet {} TBok hF (F' := [(1, .pointer (some ⟨b1, 0, none⟩)), (2, .pointer (some ⟨b2, 0, none⟩)), (3, .int .i64 0)]) (rs := []) [2] [] [1, 2, 3] .nil (by kernel_rfl) fun a w hF hE => ?_
  replace hO := hO.ext hE; clear hE
  refine W_seq ?_
  refine W_seq (region_q {} TBok hF (F' := [(1, .pointer (some ⟨b1, 0, none⟩)), (2, .pointer (some ⟨b2, 0, none⟩)), (3, .int .i64 0), (4, .int .i64 (chk d))]) (rs := [.lds ⟨b1, 0, none⟩ [.int .i64 d.hours, .slice v.ha v.hn v.hc, .slice v.la v.ln v.lc, .slice v.wa v.wn v.wc], .call 18 #[.agg #[.int .i64 d.hours, .slice v.ha v.hn v.hc, .slice v.la v.ln v.lc, .slice v.wa v.wn v.wc]] (.int .i64 (chk d))]) [1, 2, 3, 4] (.cons (ldso hO.st 0 rfl 0 rfl) <| .cons (fun w hE => Check_calls d v w (hd.upM (hO.st w hE).kp nom (Nat.le_refl _))) <| .nil) (by kernel_rfl) fun a w hF hE => ?_)
  replace hO := hO.ext hE; clear hE
  refine W_seq (region_q {} TBok hF (F' := [(1, .pointer (some ⟨b1, 0, none⟩)), (2, .pointer (some ⟨b2, 0, none⟩)), (3, .int .i64 0), (4, .int .i64 (chk d)), (13, .bool ((chk d) != 0))]) (rs := []) [1, 2, 3, 4, 13] .nil (by kernel_rfl) fun a w hF hE => ?_)
  replace hO := hO.ext hE; clear hE
  rcases Bool.eq_false_or_eq_true ((chk d) != 0) with hc3 | hc3
  · refine (W_true ((evOp hF (by kernel_rfl)).trans (congrArg Value.bool hc3)) ?_)
    refine W_seq (region_seq ?_)
    refine seq_quiet { md := [(0, 3)] } TBok hF (F' := [(1, .pointer (some ⟨b1, 0, none⟩)), (2, .pointer (some ⟨b2, 0, none⟩)), (3, .int .i64 0), (14, .agg #[.int .i64 0, .int .i64 0]), (15, .int .i64 (chk d))]) (rs := [.raw (Instr.build 47 #[]) (.agg #[.int .i64 0, .int .i64 0])]) [0, 1] [2, 3] [1, 2, 3, 14, 15] (.cons (fun w _ => by kernel_rfl) <| .nil) (by kernel_rfl) fun a w hF hE => ?_
    replace hO := hO.ext hE; clear hE
    refine op_store (i := 2) (t := 47) (p := ⟨b2, 0, none⟩) (v := .agg #[.int .i64 0, .int .i64 0]) (off := 0) (sz := 2) (cs' := #[.int .i64 0, .int .i64 0]) hF hO (by kernel_rfl) 1 rfl rfl (by kernel_rfl) (by kernel_rfl) (by kernel_rfl) fun a w hF hO _ => ?_
    replace hO : Own w0 none_ [cel b1 #[.int .i64 d.hours, .slice v.ha v.hn v.hc, .slice v.la v.ln v.lc, .slice v.wa v.wn v.wc] 26, cel b2 #[.int .i64 0, .int .i64 0] 47] w := hO
    refine seq_quiet {} TBok hF (F' := [(1, .pointer (some ⟨b1, 0, none⟩)), (2, .pointer (some ⟨b2, 0, none⟩)), (3, .int .i64 (chk d))]) (rs := []) [3] [] [1, 2, 3] .nil (by kernel_rfl) fun a w hF hE => ?_
    replace hO := hO.ext hE; clear hE
    refine W_ret ?_
    show bodyPostM (FW none) 0 _ _ _ Exit.ret a w
    exact leave_r TBok hF (.nil _) (vs := [.agg #[.int .i64 0, .int .i64 0], .int .i64 (chk d)]) (rs := [.lds ⟨b2, 0, none⟩ [.int .i64 0, .int .i64 0]]) (.cons (rdso hO 1 rfl 0 rfl) <| .nil) (by kernel_rfl) ⟨by rw [gutTold, if_pos (by simpa using hc3)]; rfl, hO.kp⟩
  · refine (W_false ((evOp hF (by kernel_rfl)).trans (congrArg Value.bool hc3)) ?_)
    have hv := chk_ok (by assumption)
    have hv1 := day_ok hv
    refine (W_skip ?_)
    refine W_seq (W_cut (fun a w => ∃ b4x : Nat, ∃ b5x : Nat, Fr 41 [] [(2, .pointer (some ⟨b2, 0, none⟩)), (3, .int .i64 0), (5, .pointer (some ⟨b4x, 0, none⟩)), (6, .pointer (some ⟨b5x, 0, none⟩))] a ∧ Own w0 none_ [cel b1 #[.int .i64 d.hours, .slice v.ha v.hn v.hc, .slice v.la v.ln v.lc, .slice v.wa v.wn v.wc] 26, cel b2 #[.int .i64 0, .int .i64 0] 47, cel b4x (dayL v d (untils Sp.hi d)).toArray 81, cel b5x (dayL v d (untils Sp.lo d)).toArray 81] w) (draw_start (R := none_) mixed [9] 10 (by kernel_rfl) fun w hS => ?_) ?_)
    · replace hO := hO.ext hS
      refine draw_q {} TBok hF hS (F' := [(2, .pointer (some ⟨b2, 0, none⟩)), (3, .int .i64 0), (18, .agg (dayL v d (untils Sp.hi d)).toArray), (21, .agg (dayL v d (untils Sp.lo d)).toArray)]) (rs := [.lds ⟨b1, 0, none⟩ [.int .i64 d.hours, .slice v.ha v.hn v.hc, .slice v.la v.ln v.lc, .slice v.wa v.wn v.wc], .call 51 #[] (.agg #[.func (.func 69) #[] #[]]), .call 50 #[.agg #[.int .i64 d.hours, .slice v.ha v.hn v.hc, .slice v.la v.ln v.lc, .slice v.wa v.wn v.wc], .agg #[.func (.func 69) #[] #[]]] (.agg (dayL v d (untils Sp.hi d)).toArray), .lds ⟨b1, 0, none⟩ [.int .i64 d.hours, .slice v.ha v.hn v.hc, .slice v.la v.ln v.lc, .slice v.wa v.wn v.wc], .call 52 #[] (.agg #[.func (.func 70) #[] #[]]), .call 50 #[.agg #[.int .i64 d.hours, .slice v.ha v.hn v.hc, .slice v.la v.ln v.lc, .slice v.wa v.wn v.wc], .agg #[.func (.func 70) #[] #[]]] (.agg (dayL v d (untils Sp.lo d)).toArray)]) [0, 1, 2, 3, 4, 5] 10 4 (by kernel_rfl) #[true, true, true, true, true, true, false, false, false, false] [2, 3, 18, 21] (.cons (ldso hO.st 0 rfl 0 rfl) <| .cons (fun w _ => surely_calls w) <| .cons (fun w hE => opened_hi_calls d v w (hd.upM (hO.st w hE).kp nom (Nat.le_refl _)) hv) <| .cons (ldso hO.st 0 rfl 0 rfl) <| .cons (fun w _ => best_calls w) <| .cons (fun w hE => opened_lo_calls d v w (hd.upM (hO.st w hE).kp nom (Nat.le_refl _)) hv) <| .nil) (by kernel_rfl) (by kernel_rfl) fun a hF => ?_
      replace hS := Kp.refl none_ w
      refine any_pick (rs := [6, 7]) (by kernel_rfl) (by simp) fun w hE => all2 ?_ ?_
      · replace hO := hO.ext hE; replace hS := hS.trans (Ext.kp hE)
        refine op_alloc (i := 6) (t := 81) (d := 5) (z := .agg #[.int .i64 0, .slice none 0 0, .slice none 0 0, .slice none 0 0, .int .i64 0, .int .i64 0, .int .i64 0, .int .i64 0, .int .i64 0, .int .i64 0, .int .i64 0, .int .i64 0]) hF hO (by kernel_rfl) (by kernel_rfl) fun a w b104 hF hO hx => ⟨.inr (hS.trans (Ext.kp hx.1)), ?_⟩
        have hf_b104 := Nat.le_trans hS.size hx.2; replace hS := hS.trans (Ext.kp hx.1); clear hx
        replace hO : Own w0 none_ [cel b1 #[.int .i64 d.hours, .slice v.ha v.hn v.hc, .slice v.la v.ln v.lc, .slice v.wa v.wn v.wc] 26, cel b2 #[.int .i64 0, .int .i64 0] 47, cel b104 #[.int .i64 0, .slice none 0 0, .slice none 0 0, .slice none 0 0, .int .i64 0, .int .i64 0, .int .i64 0, .int .i64 0, .int .i64 0, .int .i64 0, .int .i64 0, .int .i64 0] 81] w := hO
        refine any_pick (rs := [7]) (by kernel_rfl) (by simp) fun w hE => all1 ?_
        replace hO := hO.ext hE; replace hS := hS.trans (Ext.kp hE)
        refine op_alloc (i := 7) (t := 81) (d := 6) (z := .agg #[.int .i64 0, .slice none 0 0, .slice none 0 0, .slice none 0 0, .int .i64 0, .int .i64 0, .int .i64 0, .int .i64 0, .int .i64 0, .int .i64 0, .int .i64 0, .int .i64 0]) hF hO (by kernel_rfl) (by kernel_rfl) fun a w b105 hF hO hx => ⟨.inr (hS.trans (Ext.kp hx.1)), ?_⟩
        have hf_b105 := Nat.le_trans hS.size hx.2; replace hS := hS.trans (Ext.kp hx.1); clear hx
        replace hO : Own w0 none_ [cel b1 #[.int .i64 d.hours, .slice v.ha v.hn v.hc, .slice v.la v.ln v.lc, .slice v.wa v.wn v.wc] 26, cel b2 #[.int .i64 0, .int .i64 0] 47, cel b104 #[.int .i64 0, .slice none 0 0, .slice none 0 0, .slice none 0 0, .int .i64 0, .int .i64 0, .int .i64 0, .int .i64 0, .int .i64 0, .int .i64 0, .int .i64 0, .int .i64 0] 81, cel b105 #[.int .i64 0, .slice none 0 0, .slice none 0 0, .slice none 0 0, .int .i64 0, .int .i64 0, .int .i64 0, .int .i64 0, .int .i64 0, .int .i64 0, .int .i64 0, .int .i64 0] 81] w := hO
        refine any_pick (rs := [8]) (by kernel_rfl) (by simp) fun w hE => all1 ?_
        replace hO := hO.ext hE; replace hS := hS.trans (Ext.kp hE)
        refine op_store (i := 8) (t := 81) (p := ⟨b104, 0, none⟩) (v := .agg (dayL v d (untils Sp.hi d)).toArray) (off := 0) (sz := 12) (cs' := (dayL v d (untils Sp.hi d)).toArray) hF hO (by kernel_rfl) 2 rfl rfl (by kernel_rfl) (by kernel_rfl) (by kernel_rfl) fun a w hF hO hx => ⟨.inr (hS.fresh hx hf_b104), ?_⟩
        replace hS := hS.fresh hx hf_b104; clear hx
        replace hO : Own w0 none_ [cel b1 #[.int .i64 d.hours, .slice v.ha v.hn v.hc, .slice v.la v.ln v.lc, .slice v.wa v.wn v.wc] 26, cel b2 #[.int .i64 0, .int .i64 0] 47, cel b104 (dayL v d (untils Sp.hi d)).toArray 81, cel b105 #[.int .i64 0, .slice none 0 0, .slice none 0 0, .slice none 0 0, .int .i64 0, .int .i64 0, .int .i64 0, .int .i64 0, .int .i64 0, .int .i64 0, .int .i64 0, .int .i64 0] 81] w := hO
        refine any_pick (rs := [9]) (by kernel_rfl) (by simp) fun w hE => all1 ?_
        replace hO := hO.ext hE; replace hS := hS.trans (Ext.kp hE)
        refine op_store (i := 9) (t := 81) (p := ⟨b105, 0, none⟩) (v := .agg (dayL v d (untils Sp.lo d)).toArray) (off := 0) (sz := 12) (cs' := (dayL v d (untils Sp.lo d)).toArray) hF hO (by kernel_rfl) 3 rfl rfl (by kernel_rfl) (by kernel_rfl) (by kernel_rfl) fun a w hF hO _ => ⟨.inl rfl, ?_⟩
        replace hO : Own w0 none_ [cel b1 #[.int .i64 d.hours, .slice v.ha v.hn v.hc, .slice v.la v.ln v.lc, .slice v.wa v.wn v.wc] 26, cel b2 #[.int .i64 0, .int .i64 0] 47, cel b104 (dayL v d (untils Sp.hi d)).toArray 81, cel b105 (dayL v d (untils Sp.lo d)).toArray 81] w := hO
        refine any_done (by kernel_rfl) (fun w hE => ?_) _
        replace hO := hO.ext hE
        replace hF := hF.sel [2, 3, 5, 6]
        replace hF : Fr 41 [] [(2, .pointer (some ⟨b2, 0, none⟩)), (3, .int .i64 0), (5, .pointer (some ⟨b104, 0, none⟩)), (6, .pointer (some ⟨b105, 0, none⟩))] a := hF
        exact ⟨rfl, b104, b105, hF, hO.sel [0, 1, 2, 3] (by decide)⟩
      · replace hO := hO.ext hE; replace hS := hS.trans (Ext.kp hE)
        refine op_alloc (i := 7) (t := 81) (d := 6) (z := .agg #[.int .i64 0, .slice none 0 0, .slice none 0 0, .slice none 0 0, .int .i64 0, .int .i64 0, .int .i64 0, .int .i64 0, .int .i64 0, .int .i64 0, .int .i64 0, .int .i64 0]) hF hO (by kernel_rfl) (by kernel_rfl) fun a w b106 hF hO hx => ⟨.inr (hS.trans (Ext.kp hx.1)), ?_⟩
        have hf_b106 := Nat.le_trans hS.size hx.2; replace hS := hS.trans (Ext.kp hx.1); clear hx
        replace hO : Own w0 none_ [cel b1 #[.int .i64 d.hours, .slice v.ha v.hn v.hc, .slice v.la v.ln v.lc, .slice v.wa v.wn v.wc] 26, cel b2 #[.int .i64 0, .int .i64 0] 47, cel b106 #[.int .i64 0, .slice none 0 0, .slice none 0 0, .slice none 0 0, .int .i64 0, .int .i64 0, .int .i64 0, .int .i64 0, .int .i64 0, .int .i64 0, .int .i64 0, .int .i64 0] 81] w := hO
        refine any_pick (rs := [6]) (by kernel_rfl) (by simp) fun w hE => all1 ?_
        replace hO := hO.ext hE; replace hS := hS.trans (Ext.kp hE)
        refine op_alloc (i := 6) (t := 81) (d := 5) (z := .agg #[.int .i64 0, .slice none 0 0, .slice none 0 0, .slice none 0 0, .int .i64 0, .int .i64 0, .int .i64 0, .int .i64 0, .int .i64 0, .int .i64 0, .int .i64 0, .int .i64 0]) hF hO (by kernel_rfl) (by kernel_rfl) fun a w b107 hF hO hx => ⟨.inr (hS.trans (Ext.kp hx.1)), ?_⟩
        have hf_b107 := Nat.le_trans hS.size hx.2; replace hS := hS.trans (Ext.kp hx.1); clear hx
        replace hO : Own w0 none_ [cel b1 #[.int .i64 d.hours, .slice v.ha v.hn v.hc, .slice v.la v.ln v.lc, .slice v.wa v.wn v.wc] 26, cel b2 #[.int .i64 0, .int .i64 0] 47, cel b106 #[.int .i64 0, .slice none 0 0, .slice none 0 0, .slice none 0 0, .int .i64 0, .int .i64 0, .int .i64 0, .int .i64 0, .int .i64 0, .int .i64 0, .int .i64 0, .int .i64 0] 81, cel b107 #[.int .i64 0, .slice none 0 0, .slice none 0 0, .slice none 0 0, .int .i64 0, .int .i64 0, .int .i64 0, .int .i64 0, .int .i64 0, .int .i64 0, .int .i64 0, .int .i64 0] 81] w := hO
        refine any_pick (rs := [8]) (by kernel_rfl) (by simp) fun w hE => all1 ?_
        replace hO := hO.ext hE; replace hS := hS.trans (Ext.kp hE)
        refine op_store (i := 8) (t := 81) (p := ⟨b107, 0, none⟩) (v := .agg (dayL v d (untils Sp.hi d)).toArray) (off := 0) (sz := 12) (cs' := (dayL v d (untils Sp.hi d)).toArray) hF hO (by kernel_rfl) 3 rfl rfl (by kernel_rfl) (by kernel_rfl) (by kernel_rfl) fun a w hF hO hx => ⟨.inr (hS.fresh hx hf_b107), ?_⟩
        replace hS := hS.fresh hx hf_b107; clear hx
        replace hO : Own w0 none_ [cel b1 #[.int .i64 d.hours, .slice v.ha v.hn v.hc, .slice v.la v.ln v.lc, .slice v.wa v.wn v.wc] 26, cel b2 #[.int .i64 0, .int .i64 0] 47, cel b106 #[.int .i64 0, .slice none 0 0, .slice none 0 0, .slice none 0 0, .int .i64 0, .int .i64 0, .int .i64 0, .int .i64 0, .int .i64 0, .int .i64 0, .int .i64 0, .int .i64 0] 81, cel b107 (dayL v d (untils Sp.hi d)).toArray 81] w := hO
        refine any_pick (rs := [9]) (by kernel_rfl) (by simp) fun w hE => all1 ?_
        replace hO := hO.ext hE; replace hS := hS.trans (Ext.kp hE)
        refine op_store (i := 9) (t := 81) (p := ⟨b106, 0, none⟩) (v := .agg (dayL v d (untils Sp.lo d)).toArray) (off := 0) (sz := 12) (cs' := (dayL v d (untils Sp.lo d)).toArray) hF hO (by kernel_rfl) 2 rfl rfl (by kernel_rfl) (by kernel_rfl) (by kernel_rfl) fun a w hF hO _ => ⟨.inl rfl, ?_⟩
        replace hO : Own w0 none_ [cel b1 #[.int .i64 d.hours, .slice v.ha v.hn v.hc, .slice v.la v.ln v.lc, .slice v.wa v.wn v.wc] 26, cel b2 #[.int .i64 0, .int .i64 0] 47, cel b106 (dayL v d (untils Sp.lo d)).toArray 81, cel b107 (dayL v d (untils Sp.hi d)).toArray 81] w := hO
        refine any_done (by kernel_rfl) (fun w hE => ?_) _
        replace hO := hO.ext hE
        replace hF := hF.sel [2, 3, 5, 6]
        replace hF : Fr 41 [] [(2, .pointer (some ⟨b2, 0, none⟩)), (3, .int .i64 0), (5, .pointer (some ⟨b107, 0, none⟩)), (6, .pointer (some ⟨b106, 0, none⟩))] a := hF
        exact ⟨rfl, b107, b106, hF, hO.sel [0, 1, 3, 2] (by decide)⟩
    clear hF hO
    rintro a w ⟨b4x, b5x, hF, hO⟩
    refine W_seq (region_seq ?_)
    refine seq_quiet {} TBok hF (F' := [(2, .pointer (some ⟨b2, 0, none⟩)), (3, .int .i64 0), (5, .pointer (some ⟨b4x, 0, none⟩)), (6, .pointer (some ⟨b5x, 0, none⟩)), (23, .agg (dayL v d (untils Sp.hi d)).toArray)]) (rs := [.lds ⟨b4x, 0, none⟩ (dayL v d (untils Sp.hi d))]) [0] [1, 2, 3, 4, 5, 6, 7] [2, 3, 5, 6, 23] (.cons (ldso hO.st 2 rfl 0 (by kernel_rfl)) <| .nil) (by kernel_rfl) fun a w hF hE => ?_
    replace hO := hO.ext hE; clear hE
    refine op_call (i := 1) (f := 62) (args := #[.agg (dayL v d (untils Sp.hi d)).toArray]) (d := some 24) TBok (by kernel_rfl) hF (by kernel_rfl) (done_calls d v (untils Sp.hi d) _ (hd.own2 hO) hv) fun e w hR => ?_
    obtain ⟨bl108, he, hO2⟩ := hR; refine ⟨_, he, fun a hF => ?_⟩
    replace hO := hO.joinE hO2; clear hO2 he
    replace hO : Own w0 none_ [cel b1 #[.int .i64 d.hours, .slice v.ha v.hn v.hc, .slice v.la v.ln v.lc, .slice v.wa v.wn v.wc] 26, cel b2 #[.int .i64 0, .int .i64 0] 47, cel b4x (dayL v d (untils Sp.hi d)).toArray 81, cel b5x (dayL v d (untils Sp.lo d)).toArray 81, mapT bl108 zld (arrV 8) ((doneF d (untils Sp.hi d) d.lots.length).1)] w := hO
    refine seq_quiet {} TBok hF (F' := [(2, .pointer (some ⟨b2, 0, none⟩)), (3, .int .i64 0), (5, .pointer (some ⟨b4x, 0, none⟩)), (6, .pointer (some ⟨b5x, 0, none⟩)), (25, .agg (workL v d (untils Sp.hi d) bl108).toArray), (26, .int .i64 ((doneF d (untils Sp.hi d) d.lots.length).2))]) (rs := []) [2, 3, 4] [5, 6, 7] [2, 3, 5, 6, 25, 26] .nil (by kernel_rfl) fun a w hF hE => ?_
    replace hO := hO.ext hE; clear hE
    refine op_alloc (i := 5) (t := 99) (d := 7) (z := .agg #[.int .i64 0, .slice none 0 0, .slice none 0 0, .slice none 0 0, .int .i64 0, .int .i64 0, .int .i64 0, .int .i64 0, .int .i64 0, .int .i64 0, .int .i64 0, .int .i64 0, .map none]) hF hO (by kernel_rfl) (by kernel_rfl) fun a w b109 hF hO _ => ?_
    replace hO : Own w0 none_ [cel b1 #[.int .i64 d.hours, .slice v.ha v.hn v.hc, .slice v.la v.ln v.lc, .slice v.wa v.wn v.wc] 26, cel b2 #[.int .i64 0, .int .i64 0] 47, cel b4x (dayL v d (untils Sp.hi d)).toArray 81, cel b5x (dayL v d (untils Sp.lo d)).toArray 81, mapT bl108 zld (arrV 8) ((doneF d (untils Sp.hi d) d.lots.length).1), cel b109 #[.int .i64 0, .slice none 0 0, .slice none 0 0, .slice none 0 0, .int .i64 0, .int .i64 0, .int .i64 0, .int .i64 0, .int .i64 0, .int .i64 0, .int .i64 0, .int .i64 0, .map none] 99] w := hO
    refine op_store (i := 6) (t := 99) (p := ⟨b109, 0, none⟩) (v := .agg (workL v d (untils Sp.hi d) bl108).toArray) (off := 0) (sz := 13) (cs' := (workL v d (untils Sp.hi d) bl108).toArray) hF hO (by kernel_rfl) 5 rfl rfl (by kernel_rfl) (by kernel_rfl) (by kernel_rfl) fun a w hF hO _ => ?_
    replace hO : Own w0 none_ [cel b1 #[.int .i64 d.hours, .slice v.ha v.hn v.hc, .slice v.la v.ln v.lc, .slice v.wa v.wn v.wc] 26, cel b2 #[.int .i64 0, .int .i64 0] 47, cel b4x (dayL v d (untils Sp.hi d)).toArray 81, cel b5x (dayL v d (untils Sp.lo d)).toArray 81, mapT bl108 zld (arrV 8) ((doneF d (untils Sp.hi d) d.lots.length).1), cel b109 (workL v d (untils Sp.hi d) bl108).toArray 99] w := hO
    refine seq_quiet {} TBok hF (F' := [(2, .pointer (some ⟨b2, 0, none⟩)), (3, .int .i64 0), (5, .pointer (some ⟨b4x, 0, none⟩)), (6, .pointer (some ⟨b5x, 0, none⟩)), (8, .int .i64 ((doneF d (untils Sp.hi d) d.lots.length).2))]) (rs := []) [7] [] [2, 3, 5, 6, 8] .nil (by kernel_rfl) fun a w hF hE => ?_
    replace hO := hO.ext hE; clear hE
    refine W_seq (region_q {} TBok hF (F' := [(2, .pointer (some ⟨b2, 0, none⟩)), (3, .int .i64 0), (5, .pointer (some ⟨b4x, 0, none⟩)), (6, .pointer (some ⟨b5x, 0, none⟩)), (8, .int .i64 ((doneF d (untils Sp.hi d) d.lots.length).2)), (9, .int .i64 ((doneF d (untils Sp.hi d) d.lots.length).2))]) (rs := []) [2, 3, 5, 6, 8, 9] .nil (by kernel_rfl) fun a w hF hE => ?_)
    replace hO := hO.ext hE; clear hE
    refine W_seq ?_
    refine W_seq (region_q { md := [(4, 3)] } TBok hF (F' := [(2, .pointer (some ⟨b2, 0, none⟩)), (3, .int .i64 0), (6, .pointer (some ⟨b5x, 0, none⟩)), (8, .int .i64 ((doneF d (untils Sp.hi d) d.lots.length).2)), (9, .int .i64 ((doneF d (untils Sp.hi d) d.lots.length).2)), (32, .bool (!(feq 8 (untils Sp.lo d) (untils Sp.hi d))))]) (rs := [.lds ⟨b5x, 4, none⟩ (arrL 8 (untils Sp.lo d)), .lds ⟨b4x, 4, none⟩ (arrL 8 (untils Sp.hi d)), .raw (do eqGuard .neq 79 (.tmp 29) (.tmp 31) (.agg (arrL 8 (untils Sp.lo d)).toArray) (.agg (arrL 8 (untils Sp.hi d)).toArray); Go.binOp .neq 79 (.agg (arrL 8 (untils Sp.lo d)).toArray) (.agg (arrL 8 (untils Sp.hi d)).toArray)) (.bool (!(feq 8 (untils Sp.lo d) (untils Sp.hi d))))]) [2, 3, 6, 8, 9, 32] (.cons (ldso hO.st 3 rfl 4 (by kernel_rfl)) <| .cons (ldso hO.st 2 rfl 4 (by kernel_rfl)) <| .cons (raw_neA arrT79 arrG79 (untils Sp.lo d) (untils Sp.hi d)) <| .nil) (by kernel_rfl) fun a w hF hE => ?_)
    replace hO := hO.ext hE; clear hE
    rcases Bool.eq_false_or_eq_true (!(feq 8 (untils Sp.lo d) (untils Sp.hi d))) with hc110 | hc110
    · refine (W_true ((evOp hF (by kernel_rfl)).trans (congrArg Value.bool hc110)) ?_)
      refine (region_seq ?_)
      refine seq_quiet {} TBok hF (F' := [(2, .pointer (some ⟨b2, 0, none⟩)), (3, .int .i64 0), (8, .int .i64 ((doneF d (untils Sp.hi d) d.lots.length).2)), (9, .int .i64 ((doneF d (untils Sp.hi d) d.lots.length).2)), (34, .agg (dayL v d (untils Sp.lo d)).toArray)]) (rs := [.lds ⟨b5x, 0, none⟩ (dayL v d (untils Sp.lo d))]) [0] [1, 2, 3, 4, 5] [2, 3, 8, 9, 34] (.cons (ldso hO.st 3 rfl 0 (by kernel_rfl)) <| .nil) (by kernel_rfl) fun a w hF hE => ?_
      replace hO := hO.ext hE; clear hE
      refine op_call (i := 1) (f := 62) (args := #[.agg (dayL v d (untils Sp.lo d)).toArray]) (d := some 35) TBok (by kernel_rfl) hF (by kernel_rfl) (done_calls d v (untils Sp.lo d) _ (hd.own2 hO) hv) fun e w hR => ?_
      obtain ⟨bl111, he, hO2⟩ := hR; refine ⟨_, he, fun a hF => ?_⟩
      replace hO := hO.joinE hO2; clear hO2 he
      replace hO : Own w0 none_ [cel b1 #[.int .i64 d.hours, .slice v.ha v.hn v.hc, .slice v.la v.ln v.lc, .slice v.wa v.wn v.wc] 26, cel b2 #[.int .i64 0, .int .i64 0] 47, cel b4x (dayL v d (untils Sp.hi d)).toArray 81, cel b5x (dayL v d (untils Sp.lo d)).toArray 81, mapT bl108 zld (arrV 8) ((doneF d (untils Sp.hi d) d.lots.length).1), cel b109 (workL v d (untils Sp.hi d) bl108).toArray 99, mapT bl111 zld (arrV 8) ((doneF d (untils Sp.lo d) d.lots.length).1)] w := hO
      refine seq_quiet {} TBok hF (F' := [(2, .pointer (some ⟨b2, 0, none⟩)), (3, .int .i64 0), (8, .int .i64 ((doneF d (untils Sp.hi d) d.lots.length).2)), (9, .int .i64 ((doneF d (untils Sp.lo d) d.lots.length).2))]) (rs := []) [2, 3, 4, 5] [] [2, 3, 8, 9] .nil (by kernel_rfl) fun a w hF hE => ?_
      replace hO := hO.ext hE; clear hE
      refine W_seq (region_seq ?_)
      refine seq_quiet { md := [(2, 3)] } TBok hF (F' := [(2, .pointer (some ⟨b2, 0, none⟩)), (3, .int .i64 0), (40, .agg #[.int .i64 ((doneF d (untils Sp.lo d) d.lots.length).2), .int .i64 ((doneF d (untils Sp.hi d) d.lots.length).2)])]) (rs := [.raw (Instr.build 47 #[(0, .int .i64 ((doneF d (untils Sp.lo d) d.lots.length).2)), (1, .int .i64 ((doneF d (untils Sp.hi d) d.lots.length).2))]) (.agg #[.int .i64 ((doneF d (untils Sp.lo d) d.lots.length).2), .int .i64 ((doneF d (untils Sp.hi d) d.lots.length).2)])]) [0, 1, 2] [3, 4] [2, 3, 40] (.cons (fun w _ => by kernel_rfl) <| .nil) (by kernel_rfl) fun a w hF hE => ?_
      replace hO := hO.ext hE; clear hE
      refine op_store (i := 3) (t := 47) (p := ⟨b2, 0, none⟩) (v := .agg #[.int .i64 ((doneF d (untils Sp.lo d) d.lots.length).2), .int .i64 ((doneF d (untils Sp.hi d) d.lots.length).2)]) (off := 0) (sz := 2) (cs' := #[.int .i64 ((doneF d (untils Sp.lo d) d.lots.length).2), .int .i64 ((doneF d (untils Sp.hi d) d.lots.length).2)]) hF hO (by kernel_rfl) 1 rfl rfl (by kernel_rfl) (by kernel_rfl) (by kernel_rfl) fun a w hF hO _ => ?_
      replace hO : Own w0 none_ [cel b1 #[.int .i64 d.hours, .slice v.ha v.hn v.hc, .slice v.la v.ln v.lc, .slice v.wa v.wn v.wc] 26, cel b2 #[.int .i64 ((doneF d (untils Sp.lo d) d.lots.length).2), .int .i64 ((doneF d (untils Sp.hi d) d.lots.length).2)] 47, cel b4x (dayL v d (untils Sp.hi d)).toArray 81, cel b5x (dayL v d (untils Sp.lo d)).toArray 81, mapT bl108 zld (arrV 8) ((doneF d (untils Sp.hi d) d.lots.length).1), cel b109 (workL v d (untils Sp.hi d) bl108).toArray 99, mapT bl111 zld (arrV 8) ((doneF d (untils Sp.lo d) d.lots.length).1)] w := hO
      refine seq_quiet {} TBok hF (F' := [(2, .pointer (some ⟨b2, 0, none⟩)), (3, .int .i64 0)]) (rs := []) [4] [] [2, 3] .nil (by kernel_rfl) fun a w hF hE => ?_
      replace hO := hO.ext hE; clear hE
      refine W_ret ?_
      show bodyPostM (FW none) 0 _ _ _ Exit.ret a w
      exact leave_r TBok hF (.nil _) (vs := [.agg #[.int .i64 ((doneF d (untils Sp.lo d) d.lots.length).2), .int .i64 ((doneF d (untils Sp.hi d) d.lots.length).2)], .int .i64 0]) (rs := [.lds ⟨b2, 0, none⟩ [.int .i64 ((doneF d (untils Sp.lo d) d.lots.length).2), .int .i64 ((doneF d (untils Sp.hi d) d.lots.length).2)]]) (.cons (rdso hO 1 rfl 0 rfl) <| .nil) (by kernel_rfl) ⟨by rw [gutTold, if_neg (by simpa using hc3), toldLo, if_neg (by simpa using hc110)]; rfl, hO.kp⟩
    · refine (W_false ((evOp hF (by kernel_rfl)).trans (congrArg Value.bool hc110)) ?_)
      refine (W_skip ?_)
      refine W_seq (region_seq ?_)
      refine seq_quiet { md := [(2, 3)] } TBok hF (F' := [(2, .pointer (some ⟨b2, 0, none⟩)), (3, .int .i64 0), (40, .agg #[.int .i64 ((doneF d (untils Sp.hi d) d.lots.length).2), .int .i64 ((doneF d (untils Sp.hi d) d.lots.length).2)])]) (rs := [.raw (Instr.build 47 #[(0, .int .i64 ((doneF d (untils Sp.hi d) d.lots.length).2)), (1, .int .i64 ((doneF d (untils Sp.hi d) d.lots.length).2))]) (.agg #[.int .i64 ((doneF d (untils Sp.hi d) d.lots.length).2), .int .i64 ((doneF d (untils Sp.hi d) d.lots.length).2)])]) [0, 1, 2] [3, 4] [2, 3, 40] (.cons (fun w _ => by kernel_rfl) <| .nil) (by kernel_rfl) fun a w hF hE => ?_
      replace hO := hO.ext hE; clear hE
      refine op_store (i := 3) (t := 47) (p := ⟨b2, 0, none⟩) (v := .agg #[.int .i64 ((doneF d (untils Sp.hi d) d.lots.length).2), .int .i64 ((doneF d (untils Sp.hi d) d.lots.length).2)]) (off := 0) (sz := 2) (cs' := #[.int .i64 ((doneF d (untils Sp.hi d) d.lots.length).2), .int .i64 ((doneF d (untils Sp.hi d) d.lots.length).2)]) hF hO (by kernel_rfl) 1 rfl rfl (by kernel_rfl) (by kernel_rfl) (by kernel_rfl) fun a w hF hO _ => ?_
      replace hO : Own w0 none_ [cel b1 #[.int .i64 d.hours, .slice v.ha v.hn v.hc, .slice v.la v.ln v.lc, .slice v.wa v.wn v.wc] 26, cel b2 #[.int .i64 ((doneF d (untils Sp.hi d) d.lots.length).2), .int .i64 ((doneF d (untils Sp.hi d) d.lots.length).2)] 47, cel b4x (dayL v d (untils Sp.hi d)).toArray 81, cel b5x (dayL v d (untils Sp.lo d)).toArray 81, mapT bl108 zld (arrV 8) ((doneF d (untils Sp.hi d) d.lots.length).1), cel b109 (workL v d (untils Sp.hi d) bl108).toArray 99] w := hO
      refine seq_quiet {} TBok hF (F' := [(2, .pointer (some ⟨b2, 0, none⟩)), (3, .int .i64 0)]) (rs := []) [4] [] [2, 3] .nil (by kernel_rfl) fun a w hF hE => ?_
      replace hO := hO.ext hE; clear hE
      refine W_ret ?_
      show bodyPostM (FW none) 0 _ _ _ Exit.ret a w
      exact leave_r TBok hF (.nil _) (vs := [.agg #[.int .i64 ((doneF d (untils Sp.hi d) d.lots.length).2), .int .i64 ((doneF d (untils Sp.hi d) d.lots.length).2)], .int .i64 0]) (rs := [.lds ⟨b2, 0, none⟩ [.int .i64 ((doneF d (untils Sp.hi d) d.lots.length).2), .int .i64 ((doneF d (untils Sp.hi d) d.lots.length).2)]]) (.cons (rdso hO 1 rfl 0 rfl) <| .nil) (by kernel_rfl) ⟨by rw [gutTold, if_neg (by simpa using hc3), toldLo, if_pos (by simpa using hc110)]; rfl, hO.kp⟩

end Go.Proofs.Ytioimdegbdkppaa.DK
