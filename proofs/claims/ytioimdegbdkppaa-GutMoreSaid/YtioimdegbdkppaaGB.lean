/- Walks: the day in the calculation. Printed by my gen.py out of gut/b.py. -/
import Derived.Test.YtioimdegbdkppaaGA
namespace Go.Proofs.Ytioimdegbdkppaa.DK
open Go Go.Proofs
set_option linter.unusedVariables false

set_option maxHeartbeats 4000000 in
set_option maxRecDepth 100000 in
theorem end_hi_calls (x : Sp) (w0 : World) :
    Calls Try.prog 69 #[.agg #[.int .i64 x.lo, .int .i64 x.hi]] w0 (fun e w' => e = .returned (.int .i64 x.hi) ∧ Ext w0 w') := by
  refine calls_of_W Try.func69 rfl (by kernel_rfl) (args := [.agg #[.int .i64 x.lo, .int .i64 x.hi]]) fun a hF => ?_
  replace hF : Fr 5 [] [(0, .agg #[.int .i64 x.lo, .int .i64 x.hi])] a := hF
  have hO : Own w0 none_ [] w0 := Own.start w0 _
  refine W_seq (region_seq ?_)
  refine op_box (i := 0) (t := 47) (v := .agg #[.int .i64 x.lo, .int .i64 x.hi]) (d := 1) hF hO (by kernel_rfl) fun a w b1 hF hO _ => ?_
  replace hO : Own w0 none_ [cel b1 #[.int .i64 x.lo, .int .i64 x.hi] 47] w := hO
  refine seq_quiet {} TBok hF (F' := [(1, .pointer (some ⟨b1, 0, none⟩)), (2, .int .i64 0)]) (rs := []) [1] [] [1, 2] .nil (by kernel_rfl) fun a w hF hE => ?_
  replace hO := hO.ext hE; clear hE
  refine W_seq (region_q {} TBok hF (F' := [(2, .int .i64 x.hi)]) (rs := [.ld ⟨b1, 1, none⟩ (.int .i64 x.hi)]) [2] (.cons (ldo hO.st 0 rfl 1 rfl) <| .nil) (by kernel_rfl) fun a w hF hE => ?_)
  replace hO := hO.ext hE; clear hE
  refine W_ret ?_
  show bodyPostM (FW none) 0 _ _ _ Exit.ret a w
  exact leave_r TBok hF (.nil _) (vs := [.int .i64 x.hi]) (rs := []) .nil (by kernel_rfl) ⟨rfl, hO.kp⟩

set_option maxHeartbeats 4000000 in
set_option maxRecDepth 100000 in
theorem end_lo_calls (x : Sp) (w0 : World) :
    Calls Try.prog 70 #[.agg #[.int .i64 x.lo, .int .i64 x.hi]] w0 (fun e w' => e = .returned (.int .i64 x.lo) ∧ Ext w0 w') := by
  refine calls_of_W Try.func70 rfl (by kernel_rfl) (args := [.agg #[.int .i64 x.lo, .int .i64 x.hi]]) fun a hF => ?_
  replace hF : Fr 5 [] [(0, .agg #[.int .i64 x.lo, .int .i64 x.hi])] a := hF
  have hO : Own w0 none_ [] w0 := Own.start w0 _
  refine W_seq (region_seq ?_)
  refine op_box (i := 0) (t := 47) (v := .agg #[.int .i64 x.lo, .int .i64 x.hi]) (d := 1) hF hO (by kernel_rfl) fun a w b1 hF hO _ => ?_
  replace hO : Own w0 none_ [cel b1 #[.int .i64 x.lo, .int .i64 x.hi] 47] w := hO
  refine seq_quiet {} TBok hF (F' := [(1, .pointer (some ⟨b1, 0, none⟩)), (2, .int .i64 0)]) (rs := []) [1] [] [1, 2] .nil (by kernel_rfl) fun a w hF hE => ?_
  replace hO := hO.ext hE; clear hE
  refine W_seq (region_q {} TBok hF (F' := [(2, .int .i64 x.lo)]) (rs := [.ld ⟨b1, 0, none⟩ (.int .i64 x.lo)]) [2] (.cons (ldo hO.st 0 rfl 0 rfl) <| .nil) (by kernel_rfl) fun a w hF hE => ?_)
  replace hO := hO.ext hE; clear hE
  refine W_ret ?_
  show bodyPostM (FW none) 0 _ _ _ Exit.ret a w
  exact leave_r TBok hF (.nil _) (vs := [.int .i64 x.lo]) (rs := []) .nil (by kernel_rfl) ⟨rfl, hO.kp⟩

set_option maxHeartbeats 4000000 in
set_option maxRecDepth 100000 in
theorem surely_calls  (w0 : World) :
    Calls Try.prog 51 #[] w0 (fun e w' => e = .returned (.agg #[.func (.func 69) #[] #[]]) ∧ Ext w0 w') := by
  refine calls_of_W Try.func51 rfl (by kernel_rfl) (args := []) fun a hF => ?_
  replace hF : Fr 2 [] [] a := hF
  have hO : Own w0 none_ [] w0 := Own.start w0 _
  refine W_seq (region_seq ?_)
  refine op_alloc (i := 0) (t := 85) (d := 0) (z := .agg #[.nilFunc]) hF hO (by kernel_rfl) (by kernel_rfl) fun a w b1 hF hO _ => ?_
  replace hO : Own w0 none_ [cel b1 #[.nilFunc] 85] w := hO
  replace hF := hF.sel [0]
  replace hF : Fr 2 [] [(0, .pointer (some ⟨b1, 0, none⟩))] a := hF
  refine W_seq (region_seq ?_)
  refine seq_quiet { md := [(0, 3)] } TBok hF (F' := [(0, .pointer (some ⟨b1, 0, none⟩)), (1, .agg #[.func (.func 69) #[] #[]])]) (rs := [.raw (Instr.build 85 #[(0, .func (.func 69) #[] #[])]) (.agg #[.func (.func 69) #[] #[]])]) [0] [1] [0, 1] (.cons (fun w _ => by kernel_rfl) <| .nil) (by kernel_rfl) fun a w hF hE => ?_
  replace hO := hO.ext hE; clear hE
  refine op_store (i := 1) (t := 85) (p := ⟨b1, 0, none⟩) (v := .agg #[.func (.func 69) #[] #[]]) (off := 0) (sz := 1) (cs' := #[.func (.func 69) #[] #[]]) hF hO (by kernel_rfl) 0 rfl rfl (by kernel_rfl) (by kernel_rfl) (by kernel_rfl) fun a w hF hO _ => ?_
  replace hO : Own w0 none_ [cel b1 #[.func (.func 69) #[] #[]] 85] w := hO
  replace hF := hF.sel [0]
  replace hF : Fr 2 [] [(0, .pointer (some ⟨b1, 0, none⟩))] a := hF
  refine W_ret ?_
  show bodyPostM (FW none) 0 _ _ _ Exit.ret a w
  exact leave_r TBok hF (.nil _) (vs := [.agg #[.func (.func 69) #[] #[]]]) (rs := [.lds ⟨b1, 0, none⟩ [.func (.func 69) #[] #[]]]) (.cons (rdso hO 0 rfl 0 rfl) <| .nil) (by kernel_rfl) ⟨rfl, hO.kp⟩

set_option maxHeartbeats 4000000 in
set_option maxRecDepth 100000 in
theorem best_calls  (w0 : World) :
    Calls Try.prog 52 #[] w0 (fun e w' => e = .returned (.agg #[.func (.func 70) #[] #[]]) ∧ Ext w0 w') := by
  refine calls_of_W Try.func52 rfl (by kernel_rfl) (args := []) fun a hF => ?_
  replace hF : Fr 2 [] [] a := hF
  have hO : Own w0 none_ [] w0 := Own.start w0 _
  refine W_seq (region_seq ?_)
  refine op_alloc (i := 0) (t := 85) (d := 0) (z := .agg #[.nilFunc]) hF hO (by kernel_rfl) (by kernel_rfl) fun a w b1 hF hO _ => ?_
  replace hO : Own w0 none_ [cel b1 #[.nilFunc] 85] w := hO
  replace hF := hF.sel [0]
  replace hF : Fr 2 [] [(0, .pointer (some ⟨b1, 0, none⟩))] a := hF
  refine W_seq (region_seq ?_)
  refine seq_quiet { md := [(0, 3)] } TBok hF (F' := [(0, .pointer (some ⟨b1, 0, none⟩)), (1, .agg #[.func (.func 70) #[] #[]])]) (rs := [.raw (Instr.build 85 #[(0, .func (.func 70) #[] #[])]) (.agg #[.func (.func 70) #[] #[]])]) [0] [1] [0, 1] (.cons (fun w _ => by kernel_rfl) <| .nil) (by kernel_rfl) fun a w hF hE => ?_
  replace hO := hO.ext hE; clear hE
  refine op_store (i := 1) (t := 85) (p := ⟨b1, 0, none⟩) (v := .agg #[.func (.func 70) #[] #[]]) (off := 0) (sz := 1) (cs' := #[.func (.func 70) #[] #[]]) hF hO (by kernel_rfl) 0 rfl rfl (by kernel_rfl) (by kernel_rfl) (by kernel_rfl) fun a w hF hO _ => ?_
  replace hO : Own w0 none_ [cel b1 #[.func (.func 70) #[] #[]] 85] w := hO
  replace hF := hF.sel [0]
  replace hF : Fr 2 [] [(0, .pointer (some ⟨b1, 0, none⟩))] a := hF
  refine W_ret ?_
  show bodyPostM (FW none) 0 _ _ _ Exit.ret a w
  exact leave_r TBok hF (.nil _) (vs := [.agg #[.func (.func 70) #[] #[]]]) (rs := [.lds ⟨b1, 0, none⟩ [.func (.func 70) #[] #[]]]) (.cons (rdso hO 0 rfl 0 rfl) <| .nil) (by kernel_rfl) ⟨rfl, hO.kp⟩

set_option maxHeartbeats 4000000 in
set_option maxRecDepth 100000 in
theorem opened_hi_calls (d : Day) (v : DV) (w0 : World) (hd : DayR w0.heap.size w0 v d) (hv : dayV d = true) :
    Calls Try.prog 50 #[.agg #[.int .i64 d.hours, .slice v.ha v.hn v.hc, .slice v.la v.ln v.lc, .slice v.wa v.wn v.wc], .agg #[.func (.func 69) #[] #[]]] w0 (fun e w' => e = .returned (.agg (dayL v d (untils Sp.hi d)).toArray) ∧ Ext w0 w') := by
  have hl1 := hd.heat.len; have hl2 := hd.lots.len; have hl3 := hd.wks.len; have hs1 := hd.heat.size; have hs2 := hd.lots.size; have hs3 := hd.wks.size; have hv1 := day_ok hv
  refine calls_of_W Try.func50 rfl (by kernel_rfl) (args := [.agg #[.int .i64 d.hours, .slice v.ha v.hn v.hc, .slice v.la v.ln v.lc, .slice v.wa v.wn v.wc], .agg #[.func (.func 69) #[] #[]]]) fun a hF => ?_
  replace hF : Fr 56 [] [(0, .agg #[.int .i64 d.hours, .slice v.ha v.hn v.hc, .slice v.la v.ln v.lc, .slice v.wa v.wn v.wc]), (1, .agg #[.func (.func 69) #[] #[]])] a := hF
  have hO : Own w0 none_ [] w0 := Own.start w0 _
  refine W_seq (region_seq ?_)
  refine op_box (i := 0) (t := 26) (v := .agg #[.int .i64 d.hours, .slice v.ha v.hn v.hc, .slice v.la v.ln v.lc, .slice v.wa v.wn v.wc]) (d := 2) hF hO (by kernel_rfl) fun a w b1 hF hO _ => ?_
  replace hO : Own w0 none_ [cel b1 #[.int .i64 d.hours, .slice v.ha v.hn v.hc, .slice v.la v.ln v.lc, .slice v.wa v.wn v.wc] 26] w := hO
  refine op_box (i := 1) (t := 85) (v := .agg #[.func (.func 69) #[] #[]]) (d := 3) hF hO (by kernel_rfl) fun a w b2 hF hO _ => ?_
  replace hO : Own w0 none_ [cel b1 #[.int .i64 d.hours, .slice v.ha v.hn v.hc, .slice v.la v.ln v.lc, .slice v.wa v.wn v.wc] 26, cel b2 #[.func (.func 69) #[] #[]] 85] w := hO
  refine op_alloc (i := 2) (t := 81) (d := 4) (z := .agg #[.int .i64 0, .slice none 0 0, .slice none 0 0, .slice none 0 0, .int .i64 0, .int .i64 0, .int .i64 0, .int .i64 0, .int .i64 0, .int .i64 0, .int .i64 0, .int .i64 0]) hF hO (by kernel_rfl) (by kernel_rfl) fun a w b3 hF hO _ => ?_
  replace hO : Own w0 none_ [cel b1 #[.int .i64 d.hours, .slice v.ha v.hn v.hc, .slice v.la v.ln v.lc, .slice v.wa v.wn v.wc] 26, cel b2 #[.func (.func 69) #[] #[]] 85, cel b3 #[.int .i64 0, .slice none 0 0, .slice none 0 0, .slice none 0 0, .int .i64 0, .int .i64 0, .int .i64 0, .int .i64 0, .int .i64 0, .int .i64 0, .int .i64 0, .int .i64 0] 81] w := hO
  replace hF := hF.sel [2, 3, 4]
  replace hF : Fr 56 [] [(2, .pointer (some ⟨b1, 0, none⟩)), (3, .pointer (some ⟨b2, 0, none⟩)), (4, .pointer (some ⟨b3, 0, none⟩))] a := hF
  refine W_seq (region_seq ?_)
  refine seq_quiet { md := [(1, 3)] } TBok hF (F' := [(2, .pointer (some ⟨b1, 0, none⟩)), (3, .pointer (some ⟨b2, 0, none⟩)), (4, .pointer (some ⟨b3, 0, none⟩)), (11, .agg #[.int .i64 d.hours, .slice v.ha v.hn v.hc, .slice v.la v.ln v.lc, .slice v.wa v.wn v.wc, .int .i64 0, .int .i64 0, .int .i64 0, .int .i64 0, .int .i64 0, .int .i64 0, .int .i64 0, .int .i64 0])]) (rs := [.lds ⟨b1, 0, none⟩ [.int .i64 d.hours, .slice v.ha v.hn v.hc, .slice v.la v.ln v.lc, .slice v.wa v.wn v.wc], .raw (Instr.build 81 #[(0, .agg #[.int .i64 d.hours, .slice v.ha v.hn v.hc, .slice v.la v.ln v.lc, .slice v.wa v.wn v.wc])]) (.agg #[.int .i64 d.hours, .slice v.ha v.hn v.hc, .slice v.la v.ln v.lc, .slice v.wa v.wn v.wc, .int .i64 0, .int .i64 0, .int .i64 0, .int .i64 0, .int .i64 0, .int .i64 0, .int .i64 0, .int .i64 0])]) [0, 1] [2, 3] [2, 3, 4, 11] (.cons (ldso hO.st 0 rfl 0 rfl) <| .cons (fun w _ => by kernel_rfl) <| .nil) (by kernel_rfl) fun a w hF hE => ?_
  replace hO := hO.ext hE; clear hE
  refine op_alloc (i := 2) (t := 81) (d := 5) (z := .agg #[.int .i64 0, .slice none 0 0, .slice none 0 0, .slice none 0 0, .int .i64 0, .int .i64 0, .int .i64 0, .int .i64 0, .int .i64 0, .int .i64 0, .int .i64 0, .int .i64 0]) hF hO (by kernel_rfl) (by kernel_rfl) fun a w b4 hF hO _ => ?_
  replace hO : Own w0 none_ [cel b1 #[.int .i64 d.hours, .slice v.ha v.hn v.hc, .slice v.la v.ln v.lc, .slice v.wa v.wn v.wc] 26, cel b2 #[.func (.func 69) #[] #[]] 85, cel b3 #[.int .i64 0, .slice none 0 0, .slice none 0 0, .slice none 0 0, .int .i64 0, .int .i64 0, .int .i64 0, .int .i64 0, .int .i64 0, .int .i64 0, .int .i64 0, .int .i64 0] 81, cel b4 #[.int .i64 0, .slice none 0 0, .slice none 0 0, .slice none 0 0, .int .i64 0, .int .i64 0, .int .i64 0, .int .i64 0, .int .i64 0, .int .i64 0, .int .i64 0, .int .i64 0] 81] w := hO
  refine op_store (i := 3) (t := 81) (p := ⟨b4, 0, none⟩) (v := .agg #[.int .i64 d.hours, .slice v.ha v.hn v.hc, .slice v.la v.ln v.lc, .slice v.wa v.wn v.wc, .int .i64 0, .int .i64 0, .int .i64 0, .int .i64 0, .int .i64 0, .int .i64 0, .int .i64 0, .int .i64 0]) (off := 0) (sz := 12) (cs' := #[.int .i64 d.hours, .slice v.ha v.hn v.hc, .slice v.la v.ln v.lc, .slice v.wa v.wn v.wc, .int .i64 0, .int .i64 0, .int .i64 0, .int .i64 0, .int .i64 0, .int .i64 0, .int .i64 0, .int .i64 0]) hF hO (by kernel_rfl) 3 rfl rfl (by kernel_rfl) (by kernel_rfl) (by kernel_rfl) fun a w hF hO _ => ?_
  replace hO : Own w0 none_ [cel b1 #[.int .i64 d.hours, .slice v.ha v.hn v.hc, .slice v.la v.ln v.lc, .slice v.wa v.wn v.wc] 26, cel b2 #[.func (.func 69) #[] #[]] 85, cel b3 #[.int .i64 0, .slice none 0 0, .slice none 0 0, .slice none 0 0, .int .i64 0, .int .i64 0, .int .i64 0, .int .i64 0, .int .i64 0, .int .i64 0, .int .i64 0, .int .i64 0] 81, cel b4 #[.int .i64 d.hours, .slice v.ha v.hn v.hc, .slice v.la v.ln v.lc, .slice v.wa v.wn v.wc, .int .i64 0, .int .i64 0, .int .i64 0, .int .i64 0, .int .i64 0, .int .i64 0, .int .i64 0, .int .i64 0] 81] w := hO
  replace hF := hF.sel [2, 3, 4, 5]
  replace hF : Fr 56 [] [(2, .pointer (some ⟨b1, 0, none⟩)), (3, .pointer (some ⟨b2, 0, none⟩)), (4, .pointer (some ⟨b3, 0, none⟩)), (5, .pointer (some ⟨b4, 0, none⟩))] a := hF
  refine W_seq ?_
  refine W_seq (region_q {} TBok hF (F' := [(2, .pointer (some ⟨b1, 0, none⟩)), (3, .pointer (some ⟨b2, 0, none⟩)), (4, .pointer (some ⟨b3, 0, none⟩)), (5, .pointer (some ⟨b4, 0, none⟩)), (13, .slice v.la v.ln v.lc), (14, .int .i64 (v.ln : Int)), (15, .int .i64 0)]) (rs := [.ld ⟨b1, 2, none⟩ (.slice v.la v.ln v.lc)]) [2, 3, 4, 5, 13, 14, 15] (.cons (ldo hO.st 0 rfl 2 rfl) <| .nil) (by kernel_rfl) fun a w hF hE => ?_)
  replace hO := hO.ext hE; clear hE
  refine (W_block ?_)
  refine (W_loop (fun m a w => ∃ (k : Nat), m = v.ln - k ∧ k ≤ v.ln ∧ Fr 56 [] [(2, .pointer (some ⟨b1, 0, none⟩)), (3, .pointer (some ⟨b2, 0, none⟩)), (4, .pointer (some ⟨b3, 0, none⟩)), (5, .pointer (some ⟨b4, 0, none⟩)), (13, .slice v.la v.ln v.lc), (14, .int .i64 (v.ln : Int)), (15, .int .i64 (k : Int))] a ∧ Own w0 none_ [cel b1 #[.int .i64 d.hours, .slice v.ha v.hn v.hc, .slice v.la v.ln v.lc, .slice v.wa v.wn v.wc] 26, cel b2 #[.func (.func 69) #[] #[]] 85, cel b3 #[.int .i64 0, .slice none 0 0, .slice none 0 0, .slice none 0 0, .int .i64 0, .int .i64 0, .int .i64 0, .int .i64 0, .int .i64 0, .int .i64 0, .int .i64 0, .int .i64 0] 81, cel b4 (dayL v d (ufs Sp.hi d k)).toArray 81] w) _ ⟨0, rfl, Nat.zero_le _, hF, hO⟩ ?_)
  clear hF hO
  rintro _ a w ⟨k, rfl, hk, hF, hO⟩
  refine W_seq (region_q {} TBok hF (F' := [(2, .pointer (some ⟨b1, 0, none⟩)), (3, .pointer (some ⟨b2, 0, none⟩)), (4, .pointer (some ⟨b3, 0, none⟩)), (5, .pointer (some ⟨b4, 0, none⟩)), (13, .slice v.la v.ln v.lc), (14, .int .i64 (v.ln : Int)), (15, .int .i64 (k : Int)), (16, .bool (decide ((k : Int) < (v.ln : Int))))]) (rs := []) [2, 3, 4, 5, 13, 14, 15, 16] .nil (by kernel_rfl) fun a w hF hE => ?_)
  replace hO := hO.ext hE; clear hE
  rcases Bool.eq_false_or_eq_true (decide ((k : Int) < (v.ln : Int))) with hc5 | hc5
  · refine W_seq (W_true ((evOp hF (by kernel_rfl)).trans (congrArg Value.bool hc5)) ?_)
    have hc5_ := of_decide_eq_true hc5
    refine (W_skip ?_)
    refine W_seq (W_block ?_)
    refine W_seq (region_seq ?_)
    refine seq_quiet {} TBok hF (F' := [(2, .pointer (some ⟨b1, 0, none⟩)), (3, .pointer (some ⟨b2, 0, none⟩)), (4, .pointer (some ⟨b3, 0, none⟩)), (5, .pointer (some ⟨b4, 0, none⟩)), (13, .slice v.la v.ln v.lc), (14, .int .i64 (v.ln : Int)), (15, .int .i64 (k : Int)), (17, .int .i64 (k : Int)), (19, .agg #[.int .i64 ((d.lots.getD k default).cr), .int .i64 ((d.lots.getD k default).la), .int .i64 ((d.lots.getD k default).ke), .int .i64 ((d.lots.getD k default).fi)])]) (rs := [.idx v.la v.ln (k : Int) 4 (adr v.la 4 (k : Int)), .lds (adr v.la 4 (k : Int)) [.int .i64 ((d.lots.getD k default).cr), .int .i64 ((d.lots.getD k default).la), .int .i64 ((d.lots.getD k default).ke), .int .i64 ((d.lots.getD k default).fi)]]) [0, 1, 2] [3, 4, 5] [2, 3, 4, 5, 13, 14, 15, 17, 19] (.cons (ix hd.lots (by omega) (by omega)) <| .cons (ldsx hO.st nom hd.lots (by omega) (by omega) rfl) <| .nil) (by kernel_rfl) fun a w hF hE => ?_
    replace hO := hO.ext hE; clear hE
    refine op_alloc (i := 3) (t := 59) (d := 7) (z := .agg #[.int .i64 0, .int .i64 0, .int .i64 0, .int .i64 0]) hF hO (by kernel_rfl) (by kernel_rfl) fun a w b6 hF hO _ => ?_
    replace hO : Own w0 none_ [cel b1 #[.int .i64 d.hours, .slice v.ha v.hn v.hc, .slice v.la v.ln v.lc, .slice v.wa v.wn v.wc] 26, cel b2 #[.func (.func 69) #[] #[]] 85, cel b3 #[.int .i64 0, .slice none 0 0, .slice none 0 0, .slice none 0 0, .int .i64 0, .int .i64 0, .int .i64 0, .int .i64 0, .int .i64 0, .int .i64 0, .int .i64 0, .int .i64 0] 81, cel b4 (dayL v d (ufs Sp.hi d k)).toArray 81, cel b6 #[.int .i64 0, .int .i64 0, .int .i64 0, .int .i64 0] 59] w := hO
    refine seq_quiet {} TBok hF (F' := [(2, .pointer (some ⟨b1, 0, none⟩)), (3, .pointer (some ⟨b2, 0, none⟩)), (4, .pointer (some ⟨b3, 0, none⟩)), (5, .pointer (some ⟨b4, 0, none⟩)), (6, .int .i64 (k : Int)), (7, .pointer (some ⟨b6, 0, none⟩)), (13, .slice v.la v.ln v.lc), (14, .int .i64 (v.ln : Int)), (15, .int .i64 (k : Int)), (19, .agg #[.int .i64 ((d.lots.getD k default).cr), .int .i64 ((d.lots.getD k default).la), .int .i64 ((d.lots.getD k default).ke), .int .i64 ((d.lots.getD k default).fi)])]) (rs := []) [4] [5] [2, 3, 4, 5, 6, 7, 13, 14, 15, 19] .nil (by kernel_rfl) fun a w hF hE => ?_
    replace hO := hO.ext hE; clear hE
    refine op_store (i := 5) (t := 59) (p := ⟨b6, 0, none⟩) (v := .agg #[.int .i64 ((d.lots.getD k default).cr), .int .i64 ((d.lots.getD k default).la), .int .i64 ((d.lots.getD k default).ke), .int .i64 ((d.lots.getD k default).fi)]) (off := 0) (sz := 4) (cs' := #[.int .i64 ((d.lots.getD k default).cr), .int .i64 ((d.lots.getD k default).la), .int .i64 ((d.lots.getD k default).ke), .int .i64 ((d.lots.getD k default).fi)]) hF hO (by kernel_rfl) 4 rfl rfl (by kernel_rfl) (by kernel_rfl) (by kernel_rfl) fun a w hF hO _ => ?_
    replace hO : Own w0 none_ [cel b1 #[.int .i64 d.hours, .slice v.ha v.hn v.hc, .slice v.la v.ln v.lc, .slice v.wa v.wn v.wc] 26, cel b2 #[.func (.func 69) #[] #[]] 85, cel b3 #[.int .i64 0, .slice none 0 0, .slice none 0 0, .slice none 0 0, .int .i64 0, .int .i64 0, .int .i64 0, .int .i64 0, .int .i64 0, .int .i64 0, .int .i64 0, .int .i64 0] 81, cel b4 (dayL v d (ufs Sp.hi d k)).toArray 81, cel b6 #[.int .i64 ((d.lots.getD k default).cr), .int .i64 ((d.lots.getD k default).la), .int .i64 ((d.lots.getD k default).ke), .int .i64 ((d.lots.getD k default).fi)] 59] w := hO
    replace hF := hF.sel [2, 3, 4, 5, 6, 7, 13, 14, 15]
    replace hF : Fr 56 [] [(2, .pointer (some ⟨b1, 0, none⟩)), (3, .pointer (some ⟨b2, 0, none⟩)), (4, .pointer (some ⟨b3, 0, none⟩)), (5, .pointer (some ⟨b4, 0, none⟩)), (6, .int .i64 (k : Int)), (7, .pointer (some ⟨b6, 0, none⟩)), (13, .slice v.la v.ln v.lc), (14, .int .i64 (v.ln : Int)), (15, .int .i64 (k : Int))] a := hF
    refine (W_scope' ?_)
    refine W_seq (region_q {} TBok hF (F' := [(2, .pointer (some ⟨b1, 0, none⟩)), (3, .pointer (some ⟨b2, 0, none⟩)), (4, .pointer (some ⟨b3, 0, none⟩)), (5, .pointer (some ⟨b4, 0, none⟩)), (6, .int .i64 (k : Int)), (7, .pointer (some ⟨b6, 0, none⟩)), (8, .int .i64 ((d.lots.getD k default).ke)), (13, .slice v.la v.ln v.lc), (14, .int .i64 (v.ln : Int)), (15, .int .i64 (k : Int))]) (rs := [.ld ⟨b6, 2, none⟩ (.int .i64 ((d.lots.getD k default).ke))]) [2, 3, 4, 5, 6, 7, 8, 13, 14, 15] (.cons (ldo hO.st 4 rfl 2 rfl) <| .nil) (by kernel_rfl) fun a w hF hE => ?_)
    replace hO := hO.ext hE; clear hE
    refine W_seq (region_seq ?_)
    refine seq_quiet {} TBok hF (F' := [(2, .pointer (some ⟨b1, 0, none⟩)), (3, .pointer (some ⟨b2, 0, none⟩)), (4, .pointer (some ⟨b3, 0, none⟩)), (5, .pointer (some ⟨b4, 0, none⟩)), (6, .int .i64 (k : Int)), (7, .pointer (some ⟨b6, 0, none⟩)), (8, .int .i64 ((d.lots.getD k default).ke)), (13, .slice v.la v.ln v.lc), (14, .int .i64 (v.ln : Int)), (15, .int .i64 (k : Int)), (25, .int .i64 ((d.lots.getD k default).la - 1)), (27, .pointer (some ((⟨b4, 4, none⟩ : Addr).add ((k : Int).toNat * 1))))]) (rs := [.ld ⟨b6, 1, none⟩ (.int .i64 ((d.lots.getD k default).la)), .rng ((d.lots.getD k default).la - 1), .idx (some ⟨b4, 4, none⟩) 8 (k : Int) 1 ((⟨b4, 4, none⟩ : Addr).add ((k : Int).toNat * 1))]) [0, 1, 2, 3, 4, 5] [6] [2, 3, 4, 5, 6, 7, 8, 13, 14, 15, 25, 27] (.cons (ldo hO.st 4 rfl 1 rfl) <| .cons (rg (by have := lot_ok hv (i := k) (by omega); omega)) <| .cons (ixa (by omega) (by omega)) <| .nil) (by kernel_rfl) fun a w hF hE => ?_
    replace hO := hO.ext hE; clear hE
    refine op_storef (k := 6) (t := 3) (x := ((d.lots.getD k default).la - 1)) (n := 8) (pre := (dayPre v d)) (post := []) (f := (ufs Sp.hi d k)) (i := (k : Int)) (off := 4) hF hO (by kernel_rfl) 3 rfl rfl (by omega) (by omega) (by kernel_rfl) fun a w hF hO _ => ?_
    replace hO : Own w0 none_ [cel b1 #[.int .i64 d.hours, .slice v.ha v.hn v.hc, .slice v.la v.ln v.lc, .slice v.wa v.wn v.wc] 26, cel b2 #[.func (.func 69) #[] #[]] 85, cel b3 #[.int .i64 0, .slice none 0 0, .slice none 0 0, .slice none 0 0, .int .i64 0, .int .i64 0, .int .i64 0, .int .i64 0, .int .i64 0, .int .i64 0, .int .i64 0, .int .i64 0] 81, cel b4 (dayL v d (updf (ufs Sp.hi d k) k ((d.lots.getD k default).la - 1))).toArray 81, cel b6 #[.int .i64 ((d.lots.getD k default).cr), .int .i64 ((d.lots.getD k default).la), .int .i64 ((d.lots.getD k default).ke), .int .i64 ((d.lots.getD k default).fi)] 59] w := hO
    replace hF := hF.sel [2, 3, 4, 5, 6, 7, 8, 13, 14, 15]
    replace hF : Fr 56 [] [(2, .pointer (some ⟨b1, 0, none⟩)), (3, .pointer (some ⟨b2, 0, none⟩)), (4, .pointer (some ⟨b3, 0, none⟩)), (5, .pointer (some ⟨b4, 0, none⟩)), (6, .int .i64 (k : Int)), (7, .pointer (some ⟨b6, 0, none⟩)), (8, .int .i64 ((d.lots.getD k default).ke)), (13, .slice v.la v.ln v.lc), (14, .int .i64 (v.ln : Int)), (15, .int .i64 (k : Int))] a := hF
    refine W_seq (W_label ?_)
    refine W_seq (region_q {} TBok hF (F' := [(2, .pointer (some ⟨b1, 0, none⟩)), (3, .pointer (some ⟨b2, 0, none⟩)), (4, .pointer (some ⟨b3, 0, none⟩)), (5, .pointer (some ⟨b4, 0, none⟩)), (6, .int .i64 (k : Int)), (7, .pointer (some ⟨b6, 0, none⟩)), (8, .int .i64 ((d.lots.getD k default).ke)), (13, .slice v.la v.ln v.lc), (14, .int .i64 (v.ln : Int)), (15, .int .i64 (k : Int)), (29, .int .i64 d.hours), (30, .int .i64 0)]) (rs := [.ld ⟨b1, 0, none⟩ (.int .i64 d.hours)]) [2, 3, 4, 5, 6, 7, 8, 13, 14, 15, 29, 30] (.cons (ldo hO.st 0 rfl 0 rfl) <| .nil) (by kernel_rfl) fun a w hF hE => ?_)
    replace hO := hO.ext hE; clear hE
    refine (W_block_cut (fun a w => Fr 56 [] [(2, .pointer (some ⟨b1, 0, none⟩)), (3, .pointer (some ⟨b2, 0, none⟩)), (4, .pointer (some ⟨b3, 0, none⟩)), (5, .pointer (some ⟨b4, 0, none⟩)), (6, .int .i64 (k : Int)), (7, .pointer (some ⟨b6, 0, none⟩)), (13, .slice v.la v.ln v.lc), (14, .int .i64 (v.ln : Int)), (15, .int .i64 (k : Int)), (29, .int .i64 d.hours)] a ∧ Own w0 none_ [cel b1 #[.int .i64 d.hours, .slice v.ha v.hn v.hc, .slice v.la v.ln v.lc, .slice v.wa v.wn v.wc] 26, cel b2 #[.func (.func 69) #[] #[]] 85, cel b3 #[.int .i64 0, .slice none 0 0, .slice none 0 0, .slice none 0 0, .int .i64 0, .int .i64 0, .int .i64 0, .int .i64 0, .int .i64 0, .int .i64 0, .int .i64 0, .int .i64 0] 81, cel b4 (dayL v d (updf (ufs Sp.hi d k) k (untilL Sp.hi d.heat (d.lots.getD k default)))).toArray 81, cel b6 #[.int .i64 ((d.lots.getD k default).cr), .int .i64 ((d.lots.getD k default).la), .int .i64 ((d.lots.getD k default).ke), .int .i64 ((d.lots.getD k default).fi)] 59] w) ?_ ?_)
    · have hlk := lot_ok hv (i := k) (by omega)
      refine (W_loop (fun m a w => ∃ (h : Nat), ∃ (n : Int), ∃ (u : Int), m = v.hn - h ∧ (h : Int) ≤ d.hours ∧ 0 ≤ n ∧ n ≤ 10000 ∧ keepGo Sp.hi (d.lots.getD k default).la (d.heat.drop h) (h : Int) n u = untilL Sp.hi d.heat (d.lots.getD k default) ∧ Fr 56 [] [(2, .pointer (some ⟨b1, 0, none⟩)), (3, .pointer (some ⟨b2, 0, none⟩)), (4, .pointer (some ⟨b3, 0, none⟩)), (5, .pointer (some ⟨b4, 0, none⟩)), (6, .int .i64 (k : Int)), (7, .pointer (some ⟨b6, 0, none⟩)), (8, .int .i64 n), (13, .slice v.la v.ln v.lc), (14, .int .i64 (v.ln : Int)), (15, .int .i64 (k : Int)), (29, .int .i64 d.hours), (30, .int .i64 (h : Int))] a ∧ Own w0 none_ [cel b1 #[.int .i64 d.hours, .slice v.ha v.hn v.hc, .slice v.la v.ln v.lc, .slice v.wa v.wn v.wc] 26, cel b2 #[.func (.func 69) #[] #[]] 85, cel b3 #[.int .i64 0, .slice none 0 0, .slice none 0 0, .slice none 0 0, .int .i64 0, .int .i64 0, .int .i64 0, .int .i64 0, .int .i64 0, .int .i64 0, .int .i64 0, .int .i64 0] 81, cel b4 (dayL v d (updf (ufs Sp.hi d k) k u)).toArray 81, cel b6 #[.int .i64 ((d.lots.getD k default).cr), .int .i64 ((d.lots.getD k default).la), .int .i64 ((d.lots.getD k default).ke), .int .i64 ((d.lots.getD k default).fi)] 59] w) _ ⟨0, _, _, rfl, (by omega), (by omega), (by omega), rfl, hF, hO⟩ ?_)
      clear hF hO
      rintro _ a w ⟨h, n, u, rfl, hh, hn0, hn1, hkg, hF, hO⟩
      refine W_seq (region_q {} TBok hF (F' := [(2, .pointer (some ⟨b1, 0, none⟩)), (3, .pointer (some ⟨b2, 0, none⟩)), (4, .pointer (some ⟨b3, 0, none⟩)), (5, .pointer (some ⟨b4, 0, none⟩)), (6, .int .i64 (k : Int)), (7, .pointer (some ⟨b6, 0, none⟩)), (8, .int .i64 n), (13, .slice v.la v.ln v.lc), (14, .int .i64 (v.ln : Int)), (15, .int .i64 (k : Int)), (29, .int .i64 d.hours), (30, .int .i64 (h : Int)), (31, .bool (decide ((h : Int) < d.hours)))]) (rs := []) [2, 3, 4, 5, 6, 7, 8, 13, 14, 15, 29, 30, 31] .nil (by kernel_rfl) fun a w hF hE => ?_)
      replace hO := hO.ext hE; clear hE
      rcases Bool.eq_false_or_eq_true (decide ((h : Int) < d.hours)) with hc7 | hc7
      · refine W_seq (W_true ((evOp hF (by kernel_rfl)).trans (congrArg Value.bool hc7)) ?_)
        have hc7_ := of_decide_eq_true hc7
        refine (W_skip ?_)
        refine W_seq (W_block ?_)
        refine W_seq (region_q {} TBok hF (F' := [(2, .pointer (some ⟨b1, 0, none⟩)), (3, .pointer (some ⟨b2, 0, none⟩)), (4, .pointer (some ⟨b3, 0, none⟩)), (5, .pointer (some ⟨b4, 0, none⟩)), (6, .int .i64 (k : Int)), (7, .pointer (some ⟨b6, 0, none⟩)), (8, .int .i64 n), (9, .int .i64 (h : Int)), (13, .slice v.la v.ln v.lc), (14, .int .i64 (v.ln : Int)), (15, .int .i64 (k : Int)), (29, .int .i64 d.hours), (30, .int .i64 (h : Int))]) (rs := []) [2, 3, 4, 5, 6, 7, 8, 9, 13, 14, 15, 29, 30] .nil (by kernel_rfl) fun a w hF hE => ?_)
        replace hO := hO.ext hE; clear hE
        refine W_seq ?_
        refine W_seq (region_q {} TBok hF (F' := [(2, .pointer (some ⟨b1, 0, none⟩)), (3, .pointer (some ⟨b2, 0, none⟩)), (4, .pointer (some ⟨b3, 0, none⟩)), (5, .pointer (some ⟨b4, 0, none⟩)), (6, .int .i64 (k : Int)), (7, .pointer (some ⟨b6, 0, none⟩)), (8, .int .i64 n), (9, .int .i64 (h : Int)), (13, .slice v.la v.ln v.lc), (14, .int .i64 (v.ln : Int)), (15, .int .i64 (k : Int)), (29, .int .i64 d.hours), (30, .int .i64 (h : Int)), (36, .bool (decide ((h : Int) < (d.lots.getD k default).la)))]) (rs := [.ld ⟨b6, 1, none⟩ (.int .i64 ((d.lots.getD k default).la))]) [2, 3, 4, 5, 6, 7, 8, 9, 13, 14, 15, 29, 30, 36] (.cons (ldo hO.st 4 rfl 1 rfl) <| .nil) (by kernel_rfl) fun a w hF hE => ?_)
        replace hO := hO.ext hE; clear hE
        rcases Bool.eq_false_or_eq_true (decide ((h : Int) < (d.lots.getD k default).la)) with hc8 | hc8
        · refine (W_true ((evOp hF (by kernel_rfl)).trans (congrArg Value.bool hc8)) ?_)
          have hc8_ := of_decide_eq_true hc8
          refine (W_exit ?_)
          refine (region_q {} TBok hF (F' := [(2, .pointer (some ⟨b1, 0, none⟩)), (3, .pointer (some ⟨b2, 0, none⟩)), (4, .pointer (some ⟨b3, 0, none⟩)), (5, .pointer (some ⟨b4, 0, none⟩)), (6, .int .i64 (k : Int)), (7, .pointer (some ⟨b6, 0, none⟩)), (8, .int .i64 n), (13, .slice v.la v.ln v.lc), (14, .int .i64 (v.ln : Int)), (15, .int .i64 (k : Int)), (29, .int .i64 d.hours), (30, .int .i64 ((h : Int) + 1))]) (rs := [.rng ((h : Int) + 1)]) [2, 3, 4, 5, 6, 7, 8, 13, 14, 15, 29, 30] (.cons (rg (by have := lot_ok hv (i := k) (by omega); omega)) <| .nil) (by kernel_rfl) fun a w hF hE => ?_)
          replace hO := hO.ext hE; clear hE
          have hx := keepGo_lt (e := Sp.hi) (n := n) (u := u) (heat := d.heat) (h := h) (la := (d.lots.getD k default).la) (by omega) (of_decide_eq_true hc8)
          exact ⟨_, by omega, h + 1, n, u, rfl, by omega, hn0, hn1, hx.symm.trans hkg, hF, hO⟩
        · refine (W_false ((evOp hF (by kernel_rfl)).trans (congrArg Value.bool hc8)) ?_)
          have hc8_ := of_decide_eq_false hc8
          refine (W_skip ?_)
          refine W_seq ?_
          refine W_seq (region_d {} mixed TBok hF (F' := [(2, .pointer (some ⟨b1, 0, none⟩)), (3, .pointer (some ⟨b2, 0, none⟩)), (4, .pointer (some ⟨b3, 0, none⟩)), (5, .pointer (some ⟨b4, 0, none⟩)), (6, .int .i64 (k : Int)), (7, .pointer (some ⟨b6, 0, none⟩)), (8, .int .i64 (n - (d.heat.getD h default).hi)), (9, .int .i64 (h : Int)), (13, .slice v.la v.ln v.lc), (14, .int .i64 (v.ln : Int)), (15, .int .i64 (k : Int)), (29, .int .i64 d.hours), (30, .int .i64 (h : Int))]) (rs := [.ld ⟨b2, 0, none⟩ (.func (.func 69) #[] #[]), .ld ⟨b1, 1, none⟩ (.slice v.ha v.hn v.hc), .idx v.ha v.hn (h : Int) 2 (adr v.ha 2 (h : Int)), .lds (adr v.ha 2 (h : Int)) [.int .i64 ((d.heat.getD h default).lo), .int .i64 ((d.heat.getD h default).hi)], .call 69 #[.agg #[.int .i64 ((d.heat.getD h default).lo), .int .i64 ((d.heat.getD h default).hi)]] (.int .i64 ((d.heat.getD h default).hi)), .rng (n - (d.heat.getD h default).hi)]) [2, 3, 4, 5, 6, 7, 8, 9, 13, 14, 15, 29, 30] (.cons (ldo hO.st 1 rfl 0 rfl) <| .cons (ldo hO.st 0 rfl 1 rfl) <| .cons (ix hd.heat (by omega) (by omega)) <| .cons (ldsx hO.st nom hd.heat (by omega) (by omega) rfl) <| .cons (fun w _ => end_hi_calls (d.heat.getD h default) w) <| .cons (rg (by have := sp_ok hv (i := h) (by omega); omega)) <| .nil) (by kernel_rfl) (by kernel_rfl) fun a w hF hE => ?_)
          replace hO := hO.ext hE; clear hE
          refine W_seq (region_q {} TBok hF (F' := [(2, .pointer (some ⟨b1, 0, none⟩)), (3, .pointer (some ⟨b2, 0, none⟩)), (4, .pointer (some ⟨b3, 0, none⟩)), (5, .pointer (some ⟨b4, 0, none⟩)), (6, .int .i64 (k : Int)), (7, .pointer (some ⟨b6, 0, none⟩)), (8, .int .i64 (n - (d.heat.getD h default).hi)), (9, .int .i64 (h : Int)), (13, .slice v.la v.ln v.lc), (14, .int .i64 (v.ln : Int)), (15, .int .i64 (k : Int)), (29, .int .i64 d.hours), (30, .int .i64 (h : Int)), (48, .bool (decide ((n - (d.heat.getD h default).hi) < 0)))]) (rs := []) [2, 3, 4, 5, 6, 7, 8, 9, 13, 14, 15, 29, 30, 48] .nil (by kernel_rfl) fun a w hF hE => ?_)
          replace hO := hO.ext hE; clear hE
          rcases Bool.eq_false_or_eq_true (decide ((n - (d.heat.getD h default).hi) < 0)) with hc9 | hc9
          · refine (W_true ((evOp hF (by kernel_rfl)).trans (congrArg Value.bool hc9)) ?_)
            have hc9_ := of_decide_eq_true hc9
            refine (W_exit ?_)
            have hkg2 := keepGo_stop (e := Sp.hi) (n := n) (u := u) (heat := d.heat) (h := h) (la := (d.lots.getD k default).la) (by omega) (of_decide_eq_false hc8) (of_decide_eq_true hc9)
            rw [hkg] at hkg2
            replace hF := hF.sel [2, 3, 4, 5, 6, 7, 13, 14, 15, 29]
            exact ⟨hF, hO.cast (by rw [hkg2])⟩
          · refine (W_false ((evOp hF (by kernel_rfl)).trans (congrArg Value.bool hc9)) ?_)
            have hc9_ := of_decide_eq_false hc9
            refine (W_skip ?_)
            refine (region_seq ?_)
            refine seq_quiet {} TBok hF (F' := [(2, .pointer (some ⟨b1, 0, none⟩)), (3, .pointer (some ⟨b2, 0, none⟩)), (4, .pointer (some ⟨b3, 0, none⟩)), (5, .pointer (some ⟨b4, 0, none⟩)), (6, .int .i64 (k : Int)), (7, .pointer (some ⟨b6, 0, none⟩)), (8, .int .i64 (n - (d.heat.getD h default).hi)), (13, .slice v.la v.ln v.lc), (14, .int .i64 (v.ln : Int)), (15, .int .i64 (k : Int)), (29, .int .i64 d.hours), (30, .int .i64 (h : Int)), (50, .int .i64 (h : Int)), (52, .pointer (some ((⟨b4, 4, none⟩ : Addr).add ((k : Int).toNat * 1))))]) (rs := [.idx (some ⟨b4, 4, none⟩) 8 (k : Int) 1 ((⟨b4, 4, none⟩ : Addr).add ((k : Int).toNat * 1))]) [0, 1, 2, 3] [4] [2, 3, 4, 5, 6, 7, 8, 13, 14, 15, 29, 30, 50, 52] (.cons (ixa (by omega) (by omega)) <| .nil) (by kernel_rfl) fun a w hF hE => ?_
            replace hO := hO.ext hE; clear hE
            refine op_storef (k := 4) (t := 3) (x := (h : Int)) (n := 8) (pre := (dayPre v d)) (post := []) (f := (updf (ufs Sp.hi d k) k u)) (i := (k : Int)) (off := 4) hF hO (by kernel_rfl) 3 rfl rfl (by omega) (by omega) (by kernel_rfl) fun a w hF hO _ => ?_
            replace hO : Own w0 none_ [cel b1 #[.int .i64 d.hours, .slice v.ha v.hn v.hc, .slice v.la v.ln v.lc, .slice v.wa v.wn v.wc] 26, cel b2 #[.func (.func 69) #[] #[]] 85, cel b3 #[.int .i64 0, .slice none 0 0, .slice none 0 0, .slice none 0 0, .int .i64 0, .int .i64 0, .int .i64 0, .int .i64 0, .int .i64 0, .int .i64 0, .int .i64 0, .int .i64 0] 81, cel b4 (dayL v d (updf (updf (ufs Sp.hi d k) k u) k (h : Int))).toArray 81, cel b6 #[.int .i64 ((d.lots.getD k default).cr), .int .i64 ((d.lots.getD k default).la), .int .i64 ((d.lots.getD k default).ke), .int .i64 ((d.lots.getD k default).fi)] 59] w := hO
            replace hF := hF.sel [2, 3, 4, 5, 6, 7, 8, 13, 14, 15, 29, 30]
            replace hF : Fr 56 [] [(2, .pointer (some ⟨b1, 0, none⟩)), (3, .pointer (some ⟨b2, 0, none⟩)), (4, .pointer (some ⟨b3, 0, none⟩)), (5, .pointer (some ⟨b4, 0, none⟩)), (6, .int .i64 (k : Int)), (7, .pointer (some ⟨b6, 0, none⟩)), (8, .int .i64 (n - (d.heat.getD h default).hi)), (13, .slice v.la v.ln v.lc), (14, .int .i64 (v.ln : Int)), (15, .int .i64 (k : Int)), (29, .int .i64 d.hours), (30, .int .i64 (h : Int))] a := hF
            refine (region_q {} TBok hF (F' := [(2, .pointer (some ⟨b1, 0, none⟩)), (3, .pointer (some ⟨b2, 0, none⟩)), (4, .pointer (some ⟨b3, 0, none⟩)), (5, .pointer (some ⟨b4, 0, none⟩)), (6, .int .i64 (k : Int)), (7, .pointer (some ⟨b6, 0, none⟩)), (8, .int .i64 (n - (d.heat.getD h default).hi)), (13, .slice v.la v.ln v.lc), (14, .int .i64 (v.ln : Int)), (15, .int .i64 (k : Int)), (29, .int .i64 d.hours), (30, .int .i64 ((h : Int) + 1))]) (rs := [.rng ((h : Int) + 1)]) [2, 3, 4, 5, 6, 7, 8, 13, 14, 15, 29, 30] (.cons (rg (by have := lot_ok hv (i := k) (by omega); omega)) <| .nil) (by kernel_rfl) fun a w hF hE => ?_)
            replace hO := hO.ext hE; clear hE
            have hx := keepGo_ge (e := Sp.hi) (n := n) (u := u) (heat := d.heat) (h := h) (la := (d.lots.getD k default).la) (by omega) (of_decide_eq_false hc8) (of_decide_eq_false hc9)
            exact ⟨_, by omega, h + 1, _, (h : Int), rfl, by omega, by have := of_decide_eq_false hc9; omega, by have := sp_ok hv (i := h) (by omega); omega, hx.symm.trans hkg, hF, hO.cast (by rw [updf_updf])⟩
      · refine W_seq (W_false ((evOp hF (by kernel_rfl)).trans (congrArg Value.bool hc7)) ?_)
        have hc7_ := of_decide_eq_false hc7
        refine (W_exit ?_)
        have hkg2 : u = untilL Sp.hi d.heat (d.lots.getD k default) := by rw [← hkg, show h = d.heat.length from by omega, List.drop_length]; rfl
        replace hF := hF.sel [2, 3, 4, 5, 6, 7, 13, 14, 15, 29]
        exact ⟨hF, hO.cast (by rw [hkg2])⟩
    clear hF hO
    rintro a w ⟨hF, hO⟩
    refine (region_q {} TBok hF (F' := [(2, .pointer (some ⟨b1, 0, none⟩)), (3, .pointer (some ⟨b2, 0, none⟩)), (4, .pointer (some ⟨b3, 0, none⟩)), (5, .pointer (some ⟨b4, 0, none⟩)), (13, .slice v.la v.ln v.lc), (14, .int .i64 (v.ln : Int)), (15, .int .i64 ((k : Int) + 1))]) (rs := [.rng ((k : Int) + 1)]) [2, 3, 4, 5, 13, 14, 15] (.cons (rg (by have := lot_ok hv (i := k) (by omega); omega)) <| .nil) (by kernel_rfl) fun a w hF hE => ?_)
    replace hO := hO.ext hE; clear hE
    replace hO := hO.drop1 4
    replace hO : Own w0 none_ [cel b1 #[.int .i64 d.hours, .slice v.ha v.hn v.hc, .slice v.la v.ln v.lc, .slice v.wa v.wn v.wc] 26, cel b2 #[.func (.func 69) #[] #[]] 85, cel b3 #[.int .i64 0, .slice none 0 0, .slice none 0 0, .slice none 0 0, .int .i64 0, .int .i64 0, .int .i64 0, .int .i64 0, .int .i64 0, .int .i64 0, .int .i64 0, .int .i64 0] 81, cel b4 (dayL v d (updf (ufs Sp.hi d k) k (untilL Sp.hi d.heat (d.lots.getD k default)))).toArray 81] w := hO
    exact ⟨_, by omega, k + 1, rfl, by omega, hF, hO.cast (by rw [ufs_succ])⟩
  · refine W_seq (W_false ((evOp hF (by kernel_rfl)).trans (congrArg Value.bool hc5)) ?_)
    have hc5_ := of_decide_eq_false hc5
    refine (W_exit ?_)
    refine W_seq (region_seq ?_)
    refine seq_quiet {} TBok hF (F' := [(4, .pointer (some ⟨b3, 0, none⟩)), (55, .agg (dayL v d (ufs Sp.hi d k)).toArray)]) (rs := [.lds ⟨b4, 0, none⟩ (dayL v d (ufs Sp.hi d k))]) [0] [1] [4, 55] (.cons (ldso hO.st 3 rfl 0 (by kernel_rfl)) <| .nil) (by kernel_rfl) fun a w hF hE => ?_
    replace hO := hO.ext hE; clear hE
    refine op_store (i := 1) (t := 81) (p := ⟨b3, 0, none⟩) (v := .agg (dayL v d (ufs Sp.hi d k)).toArray) (off := 0) (sz := 12) (cs' := (dayL v d (ufs Sp.hi d k)).toArray) hF hO (by kernel_rfl) 2 rfl rfl (by kernel_rfl) (by kernel_rfl) (by kernel_rfl) fun a w hF hO _ => ?_
    replace hO : Own w0 none_ [cel b1 #[.int .i64 d.hours, .slice v.ha v.hn v.hc, .slice v.la v.ln v.lc, .slice v.wa v.wn v.wc] 26, cel b2 #[.func (.func 69) #[] #[]] 85, cel b3 (dayL v d (ufs Sp.hi d k)).toArray 81, cel b4 (dayL v d (ufs Sp.hi d k)).toArray 81] w := hO
    replace hF := hF.sel [4]
    replace hF : Fr 56 [] [(4, .pointer (some ⟨b3, 0, none⟩))] a := hF
    refine W_ret ?_
    show bodyPostM (FW none) 0 _ _ _ Exit.ret a w
    have hkk : k = d.lots.length := by omega
    exact leave_r TBok hF (.nil _) (vs := [.agg (dayL v d (ufs Sp.hi d k)).toArray]) (rs := [.lds ⟨b3, 0, none⟩ (dayL v d (ufs Sp.hi d k))]) (.cons (rdso hO 2 rfl 0 (by kernel_rfl)) <| .nil) (by kernel_rfl) ⟨by rw [hkk]; rfl, hO.kp⟩

set_option maxHeartbeats 4000000 in
set_option maxRecDepth 100000 in
theorem opened_lo_calls (d : Day) (v : DV) (w0 : World) (hd : DayR w0.heap.size w0 v d) (hv : dayV d = true) :
    Calls Try.prog 50 #[.agg #[.int .i64 d.hours, .slice v.ha v.hn v.hc, .slice v.la v.ln v.lc, .slice v.wa v.wn v.wc], .agg #[.func (.func 70) #[] #[]]] w0 (fun e w' => e = .returned (.agg (dayL v d (untils Sp.lo d)).toArray) ∧ Ext w0 w') := by
  have hl1 := hd.heat.len; have hl2 := hd.lots.len; have hl3 := hd.wks.len; have hs1 := hd.heat.size; have hs2 := hd.lots.size; have hs3 := hd.wks.size; have hv1 := day_ok hv
  refine calls_of_W Try.func50 rfl (by kernel_rfl) (args := [.agg #[.int .i64 d.hours, .slice v.ha v.hn v.hc, .slice v.la v.ln v.lc, .slice v.wa v.wn v.wc], .agg #[.func (.func 70) #[] #[]]]) fun a hF => ?_
  replace hF : Fr 56 [] [(0, .agg #[.int .i64 d.hours, .slice v.ha v.hn v.hc, .slice v.la v.ln v.lc, .slice v.wa v.wn v.wc]), (1, .agg #[.func (.func 70) #[] #[]])] a := hF
  have hO : Own w0 none_ [] w0 := Own.start w0 _
  refine W_seq (region_seq ?_)
  refine op_box (i := 0) (t := 26) (v := .agg #[.int .i64 d.hours, .slice v.ha v.hn v.hc, .slice v.la v.ln v.lc, .slice v.wa v.wn v.wc]) (d := 2) hF hO (by kernel_rfl) fun a w b1 hF hO _ => ?_
  replace hO : Own w0 none_ [cel b1 #[.int .i64 d.hours, .slice v.ha v.hn v.hc, .slice v.la v.ln v.lc, .slice v.wa v.wn v.wc] 26] w := hO
  refine op_box (i := 1) (t := 85) (v := .agg #[.func (.func 70) #[] #[]]) (d := 3) hF hO (by kernel_rfl) fun a w b2 hF hO _ => ?_
  replace hO : Own w0 none_ [cel b1 #[.int .i64 d.hours, .slice v.ha v.hn v.hc, .slice v.la v.ln v.lc, .slice v.wa v.wn v.wc] 26, cel b2 #[.func (.func 70) #[] #[]] 85] w := hO
  refine op_alloc (i := 2) (t := 81) (d := 4) (z := .agg #[.int .i64 0, .slice none 0 0, .slice none 0 0, .slice none 0 0, .int .i64 0, .int .i64 0, .int .i64 0, .int .i64 0, .int .i64 0, .int .i64 0, .int .i64 0, .int .i64 0]) hF hO (by kernel_rfl) (by kernel_rfl) fun a w b3 hF hO _ => ?_
  replace hO : Own w0 none_ [cel b1 #[.int .i64 d.hours, .slice v.ha v.hn v.hc, .slice v.la v.ln v.lc, .slice v.wa v.wn v.wc] 26, cel b2 #[.func (.func 70) #[] #[]] 85, cel b3 #[.int .i64 0, .slice none 0 0, .slice none 0 0, .slice none 0 0, .int .i64 0, .int .i64 0, .int .i64 0, .int .i64 0, .int .i64 0, .int .i64 0, .int .i64 0, .int .i64 0] 81] w := hO
  replace hF := hF.sel [2, 3, 4]
  replace hF : Fr 56 [] [(2, .pointer (some ⟨b1, 0, none⟩)), (3, .pointer (some ⟨b2, 0, none⟩)), (4, .pointer (some ⟨b3, 0, none⟩))] a := hF
  refine W_seq (region_seq ?_)
  refine seq_quiet { md := [(1, 3)] } TBok hF (F' := [(2, .pointer (some ⟨b1, 0, none⟩)), (3, .pointer (some ⟨b2, 0, none⟩)), (4, .pointer (some ⟨b3, 0, none⟩)), (11, .agg #[.int .i64 d.hours, .slice v.ha v.hn v.hc, .slice v.la v.ln v.lc, .slice v.wa v.wn v.wc, .int .i64 0, .int .i64 0, .int .i64 0, .int .i64 0, .int .i64 0, .int .i64 0, .int .i64 0, .int .i64 0])]) (rs := [.lds ⟨b1, 0, none⟩ [.int .i64 d.hours, .slice v.ha v.hn v.hc, .slice v.la v.ln v.lc, .slice v.wa v.wn v.wc], .raw (Instr.build 81 #[(0, .agg #[.int .i64 d.hours, .slice v.ha v.hn v.hc, .slice v.la v.ln v.lc, .slice v.wa v.wn v.wc])]) (.agg #[.int .i64 d.hours, .slice v.ha v.hn v.hc, .slice v.la v.ln v.lc, .slice v.wa v.wn v.wc, .int .i64 0, .int .i64 0, .int .i64 0, .int .i64 0, .int .i64 0, .int .i64 0, .int .i64 0, .int .i64 0])]) [0, 1] [2, 3] [2, 3, 4, 11] (.cons (ldso hO.st 0 rfl 0 rfl) <| .cons (fun w _ => by kernel_rfl) <| .nil) (by kernel_rfl) fun a w hF hE => ?_
  replace hO := hO.ext hE; clear hE
  refine op_alloc (i := 2) (t := 81) (d := 5) (z := .agg #[.int .i64 0, .slice none 0 0, .slice none 0 0, .slice none 0 0, .int .i64 0, .int .i64 0, .int .i64 0, .int .i64 0, .int .i64 0, .int .i64 0, .int .i64 0, .int .i64 0]) hF hO (by kernel_rfl) (by kernel_rfl) fun a w b4 hF hO _ => ?_
  replace hO : Own w0 none_ [cel b1 #[.int .i64 d.hours, .slice v.ha v.hn v.hc, .slice v.la v.ln v.lc, .slice v.wa v.wn v.wc] 26, cel b2 #[.func (.func 70) #[] #[]] 85, cel b3 #[.int .i64 0, .slice none 0 0, .slice none 0 0, .slice none 0 0, .int .i64 0, .int .i64 0, .int .i64 0, .int .i64 0, .int .i64 0, .int .i64 0, .int .i64 0, .int .i64 0] 81, cel b4 #[.int .i64 0, .slice none 0 0, .slice none 0 0, .slice none 0 0, .int .i64 0, .int .i64 0, .int .i64 0, .int .i64 0, .int .i64 0, .int .i64 0, .int .i64 0, .int .i64 0] 81] w := hO
  refine op_store (i := 3) (t := 81) (p := ⟨b4, 0, none⟩) (v := .agg #[.int .i64 d.hours, .slice v.ha v.hn v.hc, .slice v.la v.ln v.lc, .slice v.wa v.wn v.wc, .int .i64 0, .int .i64 0, .int .i64 0, .int .i64 0, .int .i64 0, .int .i64 0, .int .i64 0, .int .i64 0]) (off := 0) (sz := 12) (cs' := #[.int .i64 d.hours, .slice v.ha v.hn v.hc, .slice v.la v.ln v.lc, .slice v.wa v.wn v.wc, .int .i64 0, .int .i64 0, .int .i64 0, .int .i64 0, .int .i64 0, .int .i64 0, .int .i64 0, .int .i64 0]) hF hO (by kernel_rfl) 3 rfl rfl (by kernel_rfl) (by kernel_rfl) (by kernel_rfl) fun a w hF hO _ => ?_
  replace hO : Own w0 none_ [cel b1 #[.int .i64 d.hours, .slice v.ha v.hn v.hc, .slice v.la v.ln v.lc, .slice v.wa v.wn v.wc] 26, cel b2 #[.func (.func 70) #[] #[]] 85, cel b3 #[.int .i64 0, .slice none 0 0, .slice none 0 0, .slice none 0 0, .int .i64 0, .int .i64 0, .int .i64 0, .int .i64 0, .int .i64 0, .int .i64 0, .int .i64 0, .int .i64 0] 81, cel b4 #[.int .i64 d.hours, .slice v.ha v.hn v.hc, .slice v.la v.ln v.lc, .slice v.wa v.wn v.wc, .int .i64 0, .int .i64 0, .int .i64 0, .int .i64 0, .int .i64 0, .int .i64 0, .int .i64 0, .int .i64 0] 81] w := hO
  replace hF := hF.sel [2, 3, 4, 5]
  replace hF : Fr 56 [] [(2, .pointer (some ⟨b1, 0, none⟩)), (3, .pointer (some ⟨b2, 0, none⟩)), (4, .pointer (some ⟨b3, 0, none⟩)), (5, .pointer (some ⟨b4, 0, none⟩))] a := hF
  refine W_seq ?_
  refine W_seq (region_q {} TBok hF (F' := [(2, .pointer (some ⟨b1, 0, none⟩)), (3, .pointer (some ⟨b2, 0, none⟩)), (4, .pointer (some ⟨b3, 0, none⟩)), (5, .pointer (some ⟨b4, 0, none⟩)), (13, .slice v.la v.ln v.lc), (14, .int .i64 (v.ln : Int)), (15, .int .i64 0)]) (rs := [.ld ⟨b1, 2, none⟩ (.slice v.la v.ln v.lc)]) [2, 3, 4, 5, 13, 14, 15] (.cons (ldo hO.st 0 rfl 2 rfl) <| .nil) (by kernel_rfl) fun a w hF hE => ?_)
  replace hO := hO.ext hE; clear hE
  refine (W_block ?_)
  refine (W_loop (fun m a w => ∃ (k : Nat), m = v.ln - k ∧ k ≤ v.ln ∧ Fr 56 [] [(2, .pointer (some ⟨b1, 0, none⟩)), (3, .pointer (some ⟨b2, 0, none⟩)), (4, .pointer (some ⟨b3, 0, none⟩)), (5, .pointer (some ⟨b4, 0, none⟩)), (13, .slice v.la v.ln v.lc), (14, .int .i64 (v.ln : Int)), (15, .int .i64 (k : Int))] a ∧ Own w0 none_ [cel b1 #[.int .i64 d.hours, .slice v.ha v.hn v.hc, .slice v.la v.ln v.lc, .slice v.wa v.wn v.wc] 26, cel b2 #[.func (.func 70) #[] #[]] 85, cel b3 #[.int .i64 0, .slice none 0 0, .slice none 0 0, .slice none 0 0, .int .i64 0, .int .i64 0, .int .i64 0, .int .i64 0, .int .i64 0, .int .i64 0, .int .i64 0, .int .i64 0] 81, cel b4 (dayL v d (ufs Sp.lo d k)).toArray 81] w) _ ⟨0, rfl, Nat.zero_le _, hF, hO⟩ ?_)
  clear hF hO
  rintro _ a w ⟨k, rfl, hk, hF, hO⟩
  refine W_seq (region_q {} TBok hF (F' := [(2, .pointer (some ⟨b1, 0, none⟩)), (3, .pointer (some ⟨b2, 0, none⟩)), (4, .pointer (some ⟨b3, 0, none⟩)), (5, .pointer (some ⟨b4, 0, none⟩)), (13, .slice v.la v.ln v.lc), (14, .int .i64 (v.ln : Int)), (15, .int .i64 (k : Int)), (16, .bool (decide ((k : Int) < (v.ln : Int))))]) (rs := []) [2, 3, 4, 5, 13, 14, 15, 16] .nil (by kernel_rfl) fun a w hF hE => ?_)
  replace hO := hO.ext hE; clear hE
  rcases Bool.eq_false_or_eq_true (decide ((k : Int) < (v.ln : Int))) with hc5 | hc5
  · refine W_seq (W_true ((evOp hF (by kernel_rfl)).trans (congrArg Value.bool hc5)) ?_)
    have hc5_ := of_decide_eq_true hc5
    refine (W_skip ?_)
    refine W_seq (W_block ?_)
    refine W_seq (region_seq ?_)
    refine seq_quiet {} TBok hF (F' := [(2, .pointer (some ⟨b1, 0, none⟩)), (3, .pointer (some ⟨b2, 0, none⟩)), (4, .pointer (some ⟨b3, 0, none⟩)), (5, .pointer (some ⟨b4, 0, none⟩)), (13, .slice v.la v.ln v.lc), (14, .int .i64 (v.ln : Int)), (15, .int .i64 (k : Int)), (17, .int .i64 (k : Int)), (19, .agg #[.int .i64 ((d.lots.getD k default).cr), .int .i64 ((d.lots.getD k default).la), .int .i64 ((d.lots.getD k default).ke), .int .i64 ((d.lots.getD k default).fi)])]) (rs := [.idx v.la v.ln (k : Int) 4 (adr v.la 4 (k : Int)), .lds (adr v.la 4 (k : Int)) [.int .i64 ((d.lots.getD k default).cr), .int .i64 ((d.lots.getD k default).la), .int .i64 ((d.lots.getD k default).ke), .int .i64 ((d.lots.getD k default).fi)]]) [0, 1, 2] [3, 4, 5] [2, 3, 4, 5, 13, 14, 15, 17, 19] (.cons (ix hd.lots (by omega) (by omega)) <| .cons (ldsx hO.st nom hd.lots (by omega) (by omega) rfl) <| .nil) (by kernel_rfl) fun a w hF hE => ?_
    replace hO := hO.ext hE; clear hE
    refine op_alloc (i := 3) (t := 59) (d := 7) (z := .agg #[.int .i64 0, .int .i64 0, .int .i64 0, .int .i64 0]) hF hO (by kernel_rfl) (by kernel_rfl) fun a w b6 hF hO _ => ?_
    replace hO : Own w0 none_ [cel b1 #[.int .i64 d.hours, .slice v.ha v.hn v.hc, .slice v.la v.ln v.lc, .slice v.wa v.wn v.wc] 26, cel b2 #[.func (.func 70) #[] #[]] 85, cel b3 #[.int .i64 0, .slice none 0 0, .slice none 0 0, .slice none 0 0, .int .i64 0, .int .i64 0, .int .i64 0, .int .i64 0, .int .i64 0, .int .i64 0, .int .i64 0, .int .i64 0] 81, cel b4 (dayL v d (ufs Sp.lo d k)).toArray 81, cel b6 #[.int .i64 0, .int .i64 0, .int .i64 0, .int .i64 0] 59] w := hO
    refine seq_quiet {} TBok hF (F' := [(2, .pointer (some ⟨b1, 0, none⟩)), (3, .pointer (some ⟨b2, 0, none⟩)), (4, .pointer (some ⟨b3, 0, none⟩)), (5, .pointer (some ⟨b4, 0, none⟩)), (6, .int .i64 (k : Int)), (7, .pointer (some ⟨b6, 0, none⟩)), (13, .slice v.la v.ln v.lc), (14, .int .i64 (v.ln : Int)), (15, .int .i64 (k : Int)), (19, .agg #[.int .i64 ((d.lots.getD k default).cr), .int .i64 ((d.lots.getD k default).la), .int .i64 ((d.lots.getD k default).ke), .int .i64 ((d.lots.getD k default).fi)])]) (rs := []) [4] [5] [2, 3, 4, 5, 6, 7, 13, 14, 15, 19] .nil (by kernel_rfl) fun a w hF hE => ?_
    replace hO := hO.ext hE; clear hE
    refine op_store (i := 5) (t := 59) (p := ⟨b6, 0, none⟩) (v := .agg #[.int .i64 ((d.lots.getD k default).cr), .int .i64 ((d.lots.getD k default).la), .int .i64 ((d.lots.getD k default).ke), .int .i64 ((d.lots.getD k default).fi)]) (off := 0) (sz := 4) (cs' := #[.int .i64 ((d.lots.getD k default).cr), .int .i64 ((d.lots.getD k default).la), .int .i64 ((d.lots.getD k default).ke), .int .i64 ((d.lots.getD k default).fi)]) hF hO (by kernel_rfl) 4 rfl rfl (by kernel_rfl) (by kernel_rfl) (by kernel_rfl) fun a w hF hO _ => ?_
    replace hO : Own w0 none_ [cel b1 #[.int .i64 d.hours, .slice v.ha v.hn v.hc, .slice v.la v.ln v.lc, .slice v.wa v.wn v.wc] 26, cel b2 #[.func (.func 70) #[] #[]] 85, cel b3 #[.int .i64 0, .slice none 0 0, .slice none 0 0, .slice none 0 0, .int .i64 0, .int .i64 0, .int .i64 0, .int .i64 0, .int .i64 0, .int .i64 0, .int .i64 0, .int .i64 0] 81, cel b4 (dayL v d (ufs Sp.lo d k)).toArray 81, cel b6 #[.int .i64 ((d.lots.getD k default).cr), .int .i64 ((d.lots.getD k default).la), .int .i64 ((d.lots.getD k default).ke), .int .i64 ((d.lots.getD k default).fi)] 59] w := hO
    replace hF := hF.sel [2, 3, 4, 5, 6, 7, 13, 14, 15]
    replace hF : Fr 56 [] [(2, .pointer (some ⟨b1, 0, none⟩)), (3, .pointer (some ⟨b2, 0, none⟩)), (4, .pointer (some ⟨b3, 0, none⟩)), (5, .pointer (some ⟨b4, 0, none⟩)), (6, .int .i64 (k : Int)), (7, .pointer (some ⟨b6, 0, none⟩)), (13, .slice v.la v.ln v.lc), (14, .int .i64 (v.ln : Int)), (15, .int .i64 (k : Int))] a := hF
    refine (W_scope' ?_)
    refine W_seq (region_q {} TBok hF (F' := [(2, .pointer (some ⟨b1, 0, none⟩)), (3, .pointer (some ⟨b2, 0, none⟩)), (4, .pointer (some ⟨b3, 0, none⟩)), (5, .pointer (some ⟨b4, 0, none⟩)), (6, .int .i64 (k : Int)), (7, .pointer (some ⟨b6, 0, none⟩)), (8, .int .i64 ((d.lots.getD k default).ke)), (13, .slice v.la v.ln v.lc), (14, .int .i64 (v.ln : Int)), (15, .int .i64 (k : Int))]) (rs := [.ld ⟨b6, 2, none⟩ (.int .i64 ((d.lots.getD k default).ke))]) [2, 3, 4, 5, 6, 7, 8, 13, 14, 15] (.cons (ldo hO.st 4 rfl 2 rfl) <| .nil) (by kernel_rfl) fun a w hF hE => ?_)
    replace hO := hO.ext hE; clear hE
    refine W_seq (region_seq ?_)
    refine seq_quiet {} TBok hF (F' := [(2, .pointer (some ⟨b1, 0, none⟩)), (3, .pointer (some ⟨b2, 0, none⟩)), (4, .pointer (some ⟨b3, 0, none⟩)), (5, .pointer (some ⟨b4, 0, none⟩)), (6, .int .i64 (k : Int)), (7, .pointer (some ⟨b6, 0, none⟩)), (8, .int .i64 ((d.lots.getD k default).ke)), (13, .slice v.la v.ln v.lc), (14, .int .i64 (v.ln : Int)), (15, .int .i64 (k : Int)), (25, .int .i64 ((d.lots.getD k default).la - 1)), (27, .pointer (some ((⟨b4, 4, none⟩ : Addr).add ((k : Int).toNat * 1))))]) (rs := [.ld ⟨b6, 1, none⟩ (.int .i64 ((d.lots.getD k default).la)), .rng ((d.lots.getD k default).la - 1), .idx (some ⟨b4, 4, none⟩) 8 (k : Int) 1 ((⟨b4, 4, none⟩ : Addr).add ((k : Int).toNat * 1))]) [0, 1, 2, 3, 4, 5] [6] [2, 3, 4, 5, 6, 7, 8, 13, 14, 15, 25, 27] (.cons (ldo hO.st 4 rfl 1 rfl) <| .cons (rg (by have := lot_ok hv (i := k) (by omega); omega)) <| .cons (ixa (by omega) (by omega)) <| .nil) (by kernel_rfl) fun a w hF hE => ?_
    replace hO := hO.ext hE; clear hE
    refine op_storef (k := 6) (t := 3) (x := ((d.lots.getD k default).la - 1)) (n := 8) (pre := (dayPre v d)) (post := []) (f := (ufs Sp.lo d k)) (i := (k : Int)) (off := 4) hF hO (by kernel_rfl) 3 rfl rfl (by omega) (by omega) (by kernel_rfl) fun a w hF hO _ => ?_
    replace hO : Own w0 none_ [cel b1 #[.int .i64 d.hours, .slice v.ha v.hn v.hc, .slice v.la v.ln v.lc, .slice v.wa v.wn v.wc] 26, cel b2 #[.func (.func 70) #[] #[]] 85, cel b3 #[.int .i64 0, .slice none 0 0, .slice none 0 0, .slice none 0 0, .int .i64 0, .int .i64 0, .int .i64 0, .int .i64 0, .int .i64 0, .int .i64 0, .int .i64 0, .int .i64 0] 81, cel b4 (dayL v d (updf (ufs Sp.lo d k) k ((d.lots.getD k default).la - 1))).toArray 81, cel b6 #[.int .i64 ((d.lots.getD k default).cr), .int .i64 ((d.lots.getD k default).la), .int .i64 ((d.lots.getD k default).ke), .int .i64 ((d.lots.getD k default).fi)] 59] w := hO
    replace hF := hF.sel [2, 3, 4, 5, 6, 7, 8, 13, 14, 15]
    replace hF : Fr 56 [] [(2, .pointer (some ⟨b1, 0, none⟩)), (3, .pointer (some ⟨b2, 0, none⟩)), (4, .pointer (some ⟨b3, 0, none⟩)), (5, .pointer (some ⟨b4, 0, none⟩)), (6, .int .i64 (k : Int)), (7, .pointer (some ⟨b6, 0, none⟩)), (8, .int .i64 ((d.lots.getD k default).ke)), (13, .slice v.la v.ln v.lc), (14, .int .i64 (v.ln : Int)), (15, .int .i64 (k : Int))] a := hF
    refine W_seq (W_label ?_)
    refine W_seq (region_q {} TBok hF (F' := [(2, .pointer (some ⟨b1, 0, none⟩)), (3, .pointer (some ⟨b2, 0, none⟩)), (4, .pointer (some ⟨b3, 0, none⟩)), (5, .pointer (some ⟨b4, 0, none⟩)), (6, .int .i64 (k : Int)), (7, .pointer (some ⟨b6, 0, none⟩)), (8, .int .i64 ((d.lots.getD k default).ke)), (13, .slice v.la v.ln v.lc), (14, .int .i64 (v.ln : Int)), (15, .int .i64 (k : Int)), (29, .int .i64 d.hours), (30, .int .i64 0)]) (rs := [.ld ⟨b1, 0, none⟩ (.int .i64 d.hours)]) [2, 3, 4, 5, 6, 7, 8, 13, 14, 15, 29, 30] (.cons (ldo hO.st 0 rfl 0 rfl) <| .nil) (by kernel_rfl) fun a w hF hE => ?_)
    replace hO := hO.ext hE; clear hE
    refine (W_block_cut (fun a w => Fr 56 [] [(2, .pointer (some ⟨b1, 0, none⟩)), (3, .pointer (some ⟨b2, 0, none⟩)), (4, .pointer (some ⟨b3, 0, none⟩)), (5, .pointer (some ⟨b4, 0, none⟩)), (6, .int .i64 (k : Int)), (7, .pointer (some ⟨b6, 0, none⟩)), (13, .slice v.la v.ln v.lc), (14, .int .i64 (v.ln : Int)), (15, .int .i64 (k : Int)), (29, .int .i64 d.hours)] a ∧ Own w0 none_ [cel b1 #[.int .i64 d.hours, .slice v.ha v.hn v.hc, .slice v.la v.ln v.lc, .slice v.wa v.wn v.wc] 26, cel b2 #[.func (.func 70) #[] #[]] 85, cel b3 #[.int .i64 0, .slice none 0 0, .slice none 0 0, .slice none 0 0, .int .i64 0, .int .i64 0, .int .i64 0, .int .i64 0, .int .i64 0, .int .i64 0, .int .i64 0, .int .i64 0] 81, cel b4 (dayL v d (updf (ufs Sp.lo d k) k (untilL Sp.lo d.heat (d.lots.getD k default)))).toArray 81, cel b6 #[.int .i64 ((d.lots.getD k default).cr), .int .i64 ((d.lots.getD k default).la), .int .i64 ((d.lots.getD k default).ke), .int .i64 ((d.lots.getD k default).fi)] 59] w) ?_ ?_)
    · have hlk := lot_ok hv (i := k) (by omega)
      refine (W_loop (fun m a w => ∃ (h : Nat), ∃ (n : Int), ∃ (u : Int), m = v.hn - h ∧ (h : Int) ≤ d.hours ∧ 0 ≤ n ∧ n ≤ 10000 ∧ keepGo Sp.lo (d.lots.getD k default).la (d.heat.drop h) (h : Int) n u = untilL Sp.lo d.heat (d.lots.getD k default) ∧ Fr 56 [] [(2, .pointer (some ⟨b1, 0, none⟩)), (3, .pointer (some ⟨b2, 0, none⟩)), (4, .pointer (some ⟨b3, 0, none⟩)), (5, .pointer (some ⟨b4, 0, none⟩)), (6, .int .i64 (k : Int)), (7, .pointer (some ⟨b6, 0, none⟩)), (8, .int .i64 n), (13, .slice v.la v.ln v.lc), (14, .int .i64 (v.ln : Int)), (15, .int .i64 (k : Int)), (29, .int .i64 d.hours), (30, .int .i64 (h : Int))] a ∧ Own w0 none_ [cel b1 #[.int .i64 d.hours, .slice v.ha v.hn v.hc, .slice v.la v.ln v.lc, .slice v.wa v.wn v.wc] 26, cel b2 #[.func (.func 70) #[] #[]] 85, cel b3 #[.int .i64 0, .slice none 0 0, .slice none 0 0, .slice none 0 0, .int .i64 0, .int .i64 0, .int .i64 0, .int .i64 0, .int .i64 0, .int .i64 0, .int .i64 0, .int .i64 0] 81, cel b4 (dayL v d (updf (ufs Sp.lo d k) k u)).toArray 81, cel b6 #[.int .i64 ((d.lots.getD k default).cr), .int .i64 ((d.lots.getD k default).la), .int .i64 ((d.lots.getD k default).ke), .int .i64 ((d.lots.getD k default).fi)] 59] w) _ ⟨0, _, _, rfl, (by omega), (by omega), (by omega), rfl, hF, hO⟩ ?_)
      clear hF hO
      rintro _ a w ⟨h, n, u, rfl, hh, hn0, hn1, hkg, hF, hO⟩
      refine W_seq (region_q {} TBok hF (F' := [(2, .pointer (some ⟨b1, 0, none⟩)), (3, .pointer (some ⟨b2, 0, none⟩)), (4, .pointer (some ⟨b3, 0, none⟩)), (5, .pointer (some ⟨b4, 0, none⟩)), (6, .int .i64 (k : Int)), (7, .pointer (some ⟨b6, 0, none⟩)), (8, .int .i64 n), (13, .slice v.la v.ln v.lc), (14, .int .i64 (v.ln : Int)), (15, .int .i64 (k : Int)), (29, .int .i64 d.hours), (30, .int .i64 (h : Int)), (31, .bool (decide ((h : Int) < d.hours)))]) (rs := []) [2, 3, 4, 5, 6, 7, 8, 13, 14, 15, 29, 30, 31] .nil (by kernel_rfl) fun a w hF hE => ?_)
      replace hO := hO.ext hE; clear hE
      rcases Bool.eq_false_or_eq_true (decide ((h : Int) < d.hours)) with hc7 | hc7
      · refine W_seq (W_true ((evOp hF (by kernel_rfl)).trans (congrArg Value.bool hc7)) ?_)
        have hc7_ := of_decide_eq_true hc7
        refine (W_skip ?_)
        refine W_seq (W_block ?_)
        refine W_seq (region_q {} TBok hF (F' := [(2, .pointer (some ⟨b1, 0, none⟩)), (3, .pointer (some ⟨b2, 0, none⟩)), (4, .pointer (some ⟨b3, 0, none⟩)), (5, .pointer (some ⟨b4, 0, none⟩)), (6, .int .i64 (k : Int)), (7, .pointer (some ⟨b6, 0, none⟩)), (8, .int .i64 n), (9, .int .i64 (h : Int)), (13, .slice v.la v.ln v.lc), (14, .int .i64 (v.ln : Int)), (15, .int .i64 (k : Int)), (29, .int .i64 d.hours), (30, .int .i64 (h : Int))]) (rs := []) [2, 3, 4, 5, 6, 7, 8, 9, 13, 14, 15, 29, 30] .nil (by kernel_rfl) fun a w hF hE => ?_)
        replace hO := hO.ext hE; clear hE
        refine W_seq ?_
        refine W_seq (region_q {} TBok hF (F' := [(2, .pointer (some ⟨b1, 0, none⟩)), (3, .pointer (some ⟨b2, 0, none⟩)), (4, .pointer (some ⟨b3, 0, none⟩)), (5, .pointer (some ⟨b4, 0, none⟩)), (6, .int .i64 (k : Int)), (7, .pointer (some ⟨b6, 0, none⟩)), (8, .int .i64 n), (9, .int .i64 (h : Int)), (13, .slice v.la v.ln v.lc), (14, .int .i64 (v.ln : Int)), (15, .int .i64 (k : Int)), (29, .int .i64 d.hours), (30, .int .i64 (h : Int)), (36, .bool (decide ((h : Int) < (d.lots.getD k default).la)))]) (rs := [.ld ⟨b6, 1, none⟩ (.int .i64 ((d.lots.getD k default).la))]) [2, 3, 4, 5, 6, 7, 8, 9, 13, 14, 15, 29, 30, 36] (.cons (ldo hO.st 4 rfl 1 rfl) <| .nil) (by kernel_rfl) fun a w hF hE => ?_)
        replace hO := hO.ext hE; clear hE
        rcases Bool.eq_false_or_eq_true (decide ((h : Int) < (d.lots.getD k default).la)) with hc8 | hc8
        · refine (W_true ((evOp hF (by kernel_rfl)).trans (congrArg Value.bool hc8)) ?_)
          have hc8_ := of_decide_eq_true hc8
          refine (W_exit ?_)
          refine (region_q {} TBok hF (F' := [(2, .pointer (some ⟨b1, 0, none⟩)), (3, .pointer (some ⟨b2, 0, none⟩)), (4, .pointer (some ⟨b3, 0, none⟩)), (5, .pointer (some ⟨b4, 0, none⟩)), (6, .int .i64 (k : Int)), (7, .pointer (some ⟨b6, 0, none⟩)), (8, .int .i64 n), (13, .slice v.la v.ln v.lc), (14, .int .i64 (v.ln : Int)), (15, .int .i64 (k : Int)), (29, .int .i64 d.hours), (30, .int .i64 ((h : Int) + 1))]) (rs := [.rng ((h : Int) + 1)]) [2, 3, 4, 5, 6, 7, 8, 13, 14, 15, 29, 30] (.cons (rg (by have := lot_ok hv (i := k) (by omega); omega)) <| .nil) (by kernel_rfl) fun a w hF hE => ?_)
          replace hO := hO.ext hE; clear hE
          have hx := keepGo_lt (e := Sp.lo) (n := n) (u := u) (heat := d.heat) (h := h) (la := (d.lots.getD k default).la) (by omega) (of_decide_eq_true hc8)
          exact ⟨_, by omega, h + 1, n, u, rfl, by omega, hn0, hn1, hx.symm.trans hkg, hF, hO⟩
        · refine (W_false ((evOp hF (by kernel_rfl)).trans (congrArg Value.bool hc8)) ?_)
          have hc8_ := of_decide_eq_false hc8
          refine (W_skip ?_)
          refine W_seq ?_
          refine W_seq (region_d {} mixed TBok hF (F' := [(2, .pointer (some ⟨b1, 0, none⟩)), (3, .pointer (some ⟨b2, 0, none⟩)), (4, .pointer (some ⟨b3, 0, none⟩)), (5, .pointer (some ⟨b4, 0, none⟩)), (6, .int .i64 (k : Int)), (7, .pointer (some ⟨b6, 0, none⟩)), (8, .int .i64 (n - (d.heat.getD h default).lo)), (9, .int .i64 (h : Int)), (13, .slice v.la v.ln v.lc), (14, .int .i64 (v.ln : Int)), (15, .int .i64 (k : Int)), (29, .int .i64 d.hours), (30, .int .i64 (h : Int))]) (rs := [.ld ⟨b2, 0, none⟩ (.func (.func 70) #[] #[]), .ld ⟨b1, 1, none⟩ (.slice v.ha v.hn v.hc), .idx v.ha v.hn (h : Int) 2 (adr v.ha 2 (h : Int)), .lds (adr v.ha 2 (h : Int)) [.int .i64 ((d.heat.getD h default).lo), .int .i64 ((d.heat.getD h default).hi)], .call 70 #[.agg #[.int .i64 ((d.heat.getD h default).lo), .int .i64 ((d.heat.getD h default).hi)]] (.int .i64 ((d.heat.getD h default).lo)), .rng (n - (d.heat.getD h default).lo)]) [2, 3, 4, 5, 6, 7, 8, 9, 13, 14, 15, 29, 30] (.cons (ldo hO.st 1 rfl 0 rfl) <| .cons (ldo hO.st 0 rfl 1 rfl) <| .cons (ix hd.heat (by omega) (by omega)) <| .cons (ldsx hO.st nom hd.heat (by omega) (by omega) rfl) <| .cons (fun w _ => end_lo_calls (d.heat.getD h default) w) <| .cons (rg (by have := sp_ok hv (i := h) (by omega); omega)) <| .nil) (by kernel_rfl) (by kernel_rfl) fun a w hF hE => ?_)
          replace hO := hO.ext hE; clear hE
          refine W_seq (region_q {} TBok hF (F' := [(2, .pointer (some ⟨b1, 0, none⟩)), (3, .pointer (some ⟨b2, 0, none⟩)), (4, .pointer (some ⟨b3, 0, none⟩)), (5, .pointer (some ⟨b4, 0, none⟩)), (6, .int .i64 (k : Int)), (7, .pointer (some ⟨b6, 0, none⟩)), (8, .int .i64 (n - (d.heat.getD h default).lo)), (9, .int .i64 (h : Int)), (13, .slice v.la v.ln v.lc), (14, .int .i64 (v.ln : Int)), (15, .int .i64 (k : Int)), (29, .int .i64 d.hours), (30, .int .i64 (h : Int)), (48, .bool (decide ((n - (d.heat.getD h default).lo) < 0)))]) (rs := []) [2, 3, 4, 5, 6, 7, 8, 9, 13, 14, 15, 29, 30, 48] .nil (by kernel_rfl) fun a w hF hE => ?_)
          replace hO := hO.ext hE; clear hE
          rcases Bool.eq_false_or_eq_true (decide ((n - (d.heat.getD h default).lo) < 0)) with hc9 | hc9
          · refine (W_true ((evOp hF (by kernel_rfl)).trans (congrArg Value.bool hc9)) ?_)
            have hc9_ := of_decide_eq_true hc9
            refine (W_exit ?_)
            have hkg2 := keepGo_stop (e := Sp.lo) (n := n) (u := u) (heat := d.heat) (h := h) (la := (d.lots.getD k default).la) (by omega) (of_decide_eq_false hc8) (of_decide_eq_true hc9)
            rw [hkg] at hkg2
            replace hF := hF.sel [2, 3, 4, 5, 6, 7, 13, 14, 15, 29]
            exact ⟨hF, hO.cast (by rw [hkg2])⟩
          · refine (W_false ((evOp hF (by kernel_rfl)).trans (congrArg Value.bool hc9)) ?_)
            have hc9_ := of_decide_eq_false hc9
            refine (W_skip ?_)
            refine (region_seq ?_)
            refine seq_quiet {} TBok hF (F' := [(2, .pointer (some ⟨b1, 0, none⟩)), (3, .pointer (some ⟨b2, 0, none⟩)), (4, .pointer (some ⟨b3, 0, none⟩)), (5, .pointer (some ⟨b4, 0, none⟩)), (6, .int .i64 (k : Int)), (7, .pointer (some ⟨b6, 0, none⟩)), (8, .int .i64 (n - (d.heat.getD h default).lo)), (13, .slice v.la v.ln v.lc), (14, .int .i64 (v.ln : Int)), (15, .int .i64 (k : Int)), (29, .int .i64 d.hours), (30, .int .i64 (h : Int)), (50, .int .i64 (h : Int)), (52, .pointer (some ((⟨b4, 4, none⟩ : Addr).add ((k : Int).toNat * 1))))]) (rs := [.idx (some ⟨b4, 4, none⟩) 8 (k : Int) 1 ((⟨b4, 4, none⟩ : Addr).add ((k : Int).toNat * 1))]) [0, 1, 2, 3] [4] [2, 3, 4, 5, 6, 7, 8, 13, 14, 15, 29, 30, 50, 52] (.cons (ixa (by omega) (by omega)) <| .nil) (by kernel_rfl) fun a w hF hE => ?_
            replace hO := hO.ext hE; clear hE
            refine op_storef (k := 4) (t := 3) (x := (h : Int)) (n := 8) (pre := (dayPre v d)) (post := []) (f := (updf (ufs Sp.lo d k) k u)) (i := (k : Int)) (off := 4) hF hO (by kernel_rfl) 3 rfl rfl (by omega) (by omega) (by kernel_rfl) fun a w hF hO _ => ?_
            replace hO : Own w0 none_ [cel b1 #[.int .i64 d.hours, .slice v.ha v.hn v.hc, .slice v.la v.ln v.lc, .slice v.wa v.wn v.wc] 26, cel b2 #[.func (.func 70) #[] #[]] 85, cel b3 #[.int .i64 0, .slice none 0 0, .slice none 0 0, .slice none 0 0, .int .i64 0, .int .i64 0, .int .i64 0, .int .i64 0, .int .i64 0, .int .i64 0, .int .i64 0, .int .i64 0] 81, cel b4 (dayL v d (updf (updf (ufs Sp.lo d k) k u) k (h : Int))).toArray 81, cel b6 #[.int .i64 ((d.lots.getD k default).cr), .int .i64 ((d.lots.getD k default).la), .int .i64 ((d.lots.getD k default).ke), .int .i64 ((d.lots.getD k default).fi)] 59] w := hO
            replace hF := hF.sel [2, 3, 4, 5, 6, 7, 8, 13, 14, 15, 29, 30]
            replace hF : Fr 56 [] [(2, .pointer (some ⟨b1, 0, none⟩)), (3, .pointer (some ⟨b2, 0, none⟩)), (4, .pointer (some ⟨b3, 0, none⟩)), (5, .pointer (some ⟨b4, 0, none⟩)), (6, .int .i64 (k : Int)), (7, .pointer (some ⟨b6, 0, none⟩)), (8, .int .i64 (n - (d.heat.getD h default).lo)), (13, .slice v.la v.ln v.lc), (14, .int .i64 (v.ln : Int)), (15, .int .i64 (k : Int)), (29, .int .i64 d.hours), (30, .int .i64 (h : Int))] a := hF
            refine (region_q {} TBok hF (F' := [(2, .pointer (some ⟨b1, 0, none⟩)), (3, .pointer (some ⟨b2, 0, none⟩)), (4, .pointer (some ⟨b3, 0, none⟩)), (5, .pointer (some ⟨b4, 0, none⟩)), (6, .int .i64 (k : Int)), (7, .pointer (some ⟨b6, 0, none⟩)), (8, .int .i64 (n - (d.heat.getD h default).lo)), (13, .slice v.la v.ln v.lc), (14, .int .i64 (v.ln : Int)), (15, .int .i64 (k : Int)), (29, .int .i64 d.hours), (30, .int .i64 ((h : Int) + 1))]) (rs := [.rng ((h : Int) + 1)]) [2, 3, 4, 5, 6, 7, 8, 13, 14, 15, 29, 30] (.cons (rg (by have := lot_ok hv (i := k) (by omega); omega)) <| .nil) (by kernel_rfl) fun a w hF hE => ?_)
            replace hO := hO.ext hE; clear hE
            have hx := keepGo_ge (e := Sp.lo) (n := n) (u := u) (heat := d.heat) (h := h) (la := (d.lots.getD k default).la) (by omega) (of_decide_eq_false hc8) (of_decide_eq_false hc9)
            exact ⟨_, by omega, h + 1, _, (h : Int), rfl, by omega, by have := of_decide_eq_false hc9; omega, by have := sp_ok hv (i := h) (by omega); omega, hx.symm.trans hkg, hF, hO.cast (by rw [updf_updf])⟩
      · refine W_seq (W_false ((evOp hF (by kernel_rfl)).trans (congrArg Value.bool hc7)) ?_)
        have hc7_ := of_decide_eq_false hc7
        refine (W_exit ?_)
        have hkg2 : u = untilL Sp.lo d.heat (d.lots.getD k default) := by rw [← hkg, show h = d.heat.length from by omega, List.drop_length]; rfl
        replace hF := hF.sel [2, 3, 4, 5, 6, 7, 13, 14, 15, 29]
        exact ⟨hF, hO.cast (by rw [hkg2])⟩
    clear hF hO
    rintro a w ⟨hF, hO⟩
    refine (region_q {} TBok hF (F' := [(2, .pointer (some ⟨b1, 0, none⟩)), (3, .pointer (some ⟨b2, 0, none⟩)), (4, .pointer (some ⟨b3, 0, none⟩)), (5, .pointer (some ⟨b4, 0, none⟩)), (13, .slice v.la v.ln v.lc), (14, .int .i64 (v.ln : Int)), (15, .int .i64 ((k : Int) + 1))]) (rs := [.rng ((k : Int) + 1)]) [2, 3, 4, 5, 13, 14, 15] (.cons (rg (by have := lot_ok hv (i := k) (by omega); omega)) <| .nil) (by kernel_rfl) fun a w hF hE => ?_)
    replace hO := hO.ext hE; clear hE
    replace hO := hO.drop1 4
    replace hO : Own w0 none_ [cel b1 #[.int .i64 d.hours, .slice v.ha v.hn v.hc, .slice v.la v.ln v.lc, .slice v.wa v.wn v.wc] 26, cel b2 #[.func (.func 70) #[] #[]] 85, cel b3 #[.int .i64 0, .slice none 0 0, .slice none 0 0, .slice none 0 0, .int .i64 0, .int .i64 0, .int .i64 0, .int .i64 0, .int .i64 0, .int .i64 0, .int .i64 0, .int .i64 0] 81, cel b4 (dayL v d (updf (ufs Sp.lo d k) k (untilL Sp.lo d.heat (d.lots.getD k default)))).toArray 81] w := hO
    exact ⟨_, by omega, k + 1, rfl, by omega, hF, hO.cast (by rw [ufs_succ])⟩
  · refine W_seq (W_false ((evOp hF (by kernel_rfl)).trans (congrArg Value.bool hc5)) ?_)
    have hc5_ := of_decide_eq_false hc5
    refine (W_exit ?_)
    refine W_seq (region_seq ?_)
    refine seq_quiet {} TBok hF (F' := [(4, .pointer (some ⟨b3, 0, none⟩)), (55, .agg (dayL v d (ufs Sp.lo d k)).toArray)]) (rs := [.lds ⟨b4, 0, none⟩ (dayL v d (ufs Sp.lo d k))]) [0] [1] [4, 55] (.cons (ldso hO.st 3 rfl 0 (by kernel_rfl)) <| .nil) (by kernel_rfl) fun a w hF hE => ?_
    replace hO := hO.ext hE; clear hE
    refine op_store (i := 1) (t := 81) (p := ⟨b3, 0, none⟩) (v := .agg (dayL v d (ufs Sp.lo d k)).toArray) (off := 0) (sz := 12) (cs' := (dayL v d (ufs Sp.lo d k)).toArray) hF hO (by kernel_rfl) 2 rfl rfl (by kernel_rfl) (by kernel_rfl) (by kernel_rfl) fun a w hF hO _ => ?_
    replace hO : Own w0 none_ [cel b1 #[.int .i64 d.hours, .slice v.ha v.hn v.hc, .slice v.la v.ln v.lc, .slice v.wa v.wn v.wc] 26, cel b2 #[.func (.func 70) #[] #[]] 85, cel b3 (dayL v d (ufs Sp.lo d k)).toArray 81, cel b4 (dayL v d (ufs Sp.lo d k)).toArray 81] w := hO
    replace hF := hF.sel [4]
    replace hF : Fr 56 [] [(4, .pointer (some ⟨b3, 0, none⟩))] a := hF
    refine W_ret ?_
    show bodyPostM (FW none) 0 _ _ _ Exit.ret a w
    have hkk : k = d.lots.length := by omega
    exact leave_r TBok hF (.nil _) (vs := [.agg (dayL v d (ufs Sp.lo d k)).toArray]) (rs := [.lds ⟨b3, 0, none⟩ (dayL v d (ufs Sp.lo d k))]) (.cons (rdso hO 2 rfl 0 (by kernel_rfl)) <| .nil) (by kernel_rfl) ⟨by rw [hkk]; rfl, hO.kp⟩

end Go.Proofs.Ytioimdegbdkppaa.DK
