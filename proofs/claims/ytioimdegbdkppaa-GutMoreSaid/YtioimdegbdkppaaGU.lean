/- Walks: the small functions of the reference. Printed by my gen.py out of gut/m.py. -/
import Derived.Test.YtioimdegbdkppaaGL
import Derived.Test.YtioimdegbdkppaaGT
namespace Go.Proofs.Ytioimdegbdkppaa.DK
open Go Go.Proofs
set_option linter.unusedVariables false

set_option maxHeartbeats 4000000 in
set_option maxRecDepth 100000 in
theorem In_calls (n lo hi : Int) (w0 : World) :
    Calls Try.prog 36 #[.int .i64 n, .int .i64 lo, .int .i64 hi] w0 (fun e w' => e = .returned (.bool (inB n lo hi)) ∧ Ext w0 w') := by
  refine calls_of_W Try.func36 rfl (by kernel_rfl) (args := [.int .i64 n, .int .i64 lo, .int .i64 hi]) fun a hF => ?_
  replace hF : Fr 15 [] [(0, .int .i64 n), (1, .int .i64 lo), (2, .int .i64 hi)] a := hF
  have hO : Own w0 none_ [] w0 := Own.start w0 _
  refine W_seq (region_q {} TBok hF (F' := [(0, .int .i64 n), (1, .int .i64 lo), (2, .int .i64 hi), (6, .bool false)]) (rs := []) [0, 1, 2, 6] .nil (by kernel_rfl) fun a w hF hE => ?_)
  replace hO := hO.ext hE; clear hE
  refine W_seq (region_q { sy := [3] } TBok hF (F' := [(6, .bool (cond (decide (lo ≤ n)) (decide (n ≤ hi)) false))]) (rs := []) [6] .nil (by kernel_rfl) fun a w hF hE => ?_)
  replace hO := hO.ext hE; clear hE
  refine W_ret ?_
  show bodyPostM (FW none) 0 _ _ _ Exit.ret a w
  exact leave_r TBok hF (.nil _) (vs := [.bool (cond (decide (lo ≤ n)) (decide (n ≤ hi)) false)]) (rs := []) .nil (by kernel_rfl) ⟨rfl, hO.kp⟩

set_option maxHeartbeats 4000000 in
set_option maxRecDepth 100000 in
theorem Spanned_calls (x : Sp) (lo hi : Int) (w0 : World) :
    Calls Try.prog 47 #[.agg #[.int .i64 x.lo, .int .i64 x.hi], .int .i64 lo, .int .i64 hi] w0 (fun e w' => e = .returned (.bool (refSpB x lo hi)) ∧ Ext w0 w') := by
  refine calls_of_W Try.func47 rfl (by kernel_rfl) (args := [.agg #[.int .i64 x.lo, .int .i64 x.hi], .int .i64 lo, .int .i64 hi]) fun a hF => ?_
  replace hF : Fr 20 [] [(0, .agg #[.int .i64 x.lo, .int .i64 x.hi]), (1, .int .i64 lo), (2, .int .i64 hi)] a := hF
  have hO : Own w0 none_ [] w0 := Own.start w0 _
  refine W_seq (region_seq ?_)
  refine op_box (i := 0) (t := 47) (v := .agg #[.int .i64 x.lo, .int .i64 x.hi]) (d := 3) hF hO (by kernel_rfl) fun a w b1 hF hO _ => ?_
  replace hO : Own w0 none_ [cel b1 #[.int .i64 x.lo, .int .i64 x.hi] 47] w := hO
  refine seq_quiet {} TBok hF (F' := [(1, .int .i64 lo), (2, .int .i64 hi), (3, .pointer (some ⟨b1, 0, none⟩)), (6, .bool false)]) (rs := []) [1] [] [1, 2, 3, 6] .nil (by kernel_rfl) fun a w hF hE => ?_
  replace hO := hO.ext hE; clear hE
  refine W_seq (region_q { sy := [5] } TBok hF (F' := [(6, .bool (cond (inB x.lo lo hi) (inB x.hi x.lo hi) false))]) (rs := [.ld ⟨b1, 0, none⟩ (.int .i64 x.lo), .call 36 #[.int .i64 x.lo, .int .i64 lo, .int .i64 hi] (.bool (inB x.lo lo hi)), .und (inB x.lo lo hi) (.ld ⟨b1, 1, none⟩ (.int .i64 x.hi)), .und (inB x.lo lo hi) (.ld ⟨b1, 0, none⟩ (.int .i64 x.lo)), .und (inB x.lo lo hi) (.call 36 #[.int .i64 x.hi, .int .i64 x.lo, .int .i64 hi] (.bool (inB x.hi x.lo hi)))]) [6] (.cons (ldo hO.st 0 rfl 0 rfl) <| .cons (fun w _ => In_calls _ _ _ w) <| .cons (fun hg => (ldo hO.st 0 rfl 1 rfl)) <| .cons (fun hg => (ldo hO.st 0 rfl 0 rfl)) <| .cons (fun hg => (fun w _ => In_calls _ _ _ w)) <| .nil) (by kernel_rfl) fun a w hF hE => ?_)
  replace hO := hO.ext hE; clear hE
  refine W_ret ?_
  show bodyPostM (FW none) 0 _ _ _ Exit.ret a w
  exact leave_r TBok hF (.nil _) (vs := [.bool (cond (inB x.lo lo hi) (inB x.hi x.lo hi) false)]) (rs := []) .nil (by kernel_rfl) ⟨rfl, hO.kp⟩

set_option maxHeartbeats 4000000 in
set_option maxRecDepth 100000 in
theorem to_calls (x y : Int) (w0 : World) :
    Calls Try.prog 44 #[.int .i64 x, .int .i64 y] w0 (fun e w' => e = .returned (.agg #[.int .i64 x, .int .i64 y]) ∧ Ext w0 w') := by
  refine calls_of_W Try.func44 rfl (by kernel_rfl) (args := [.int .i64 x, .int .i64 y]) fun a hF => ?_
  replace hF : Fr 8 [] [(0, .int .i64 x), (1, .int .i64 y)] a := hF
  have hO : Own w0 none_ [] w0 := Own.start w0 _
  refine W_seq (region_seq ?_)
  refine op_alloc (i := 0) (t := 47) (d := 4) (z := .agg #[.int .i64 0, .int .i64 0]) hF hO (by kernel_rfl) (by kernel_rfl) fun a w b1 hF hO _ => ?_
  replace hO : Own w0 none_ [cel b1 #[.int .i64 0, .int .i64 0] 47] w := hO
  replace hF := hF.sel [0, 1, 4]
  replace hF : Fr 8 [] [(0, .int .i64 x), (1, .int .i64 y), (4, .pointer (some ⟨b1, 0, none⟩))] a := hF
  refine W_seq (region_seq ?_)
  refine seq_quiet { md := [(2, 3)] } TBok hF (F' := [(4, .pointer (some ⟨b1, 0, none⟩)), (7, .agg #[.int .i64 x, .int .i64 y])]) (rs := [.raw (Instr.build 47 #[(0, .int .i64 x), (1, .int .i64 y)]) (.agg #[.int .i64 x, .int .i64 y])]) [0, 1, 2] [3] [4, 7] (.cons (fun w _ => by kernel_rfl) <| .nil) (by kernel_rfl) fun a w hF hE => ?_
  replace hO := hO.ext hE; clear hE
  refine op_store (i := 3) (t := 47) (p := ⟨b1, 0, none⟩) (v := .agg #[.int .i64 x, .int .i64 y]) (off := 0) (sz := 2) (cs' := #[.int .i64 x, .int .i64 y]) hF hO (by kernel_rfl) 0 rfl rfl (by kernel_rfl) (by kernel_rfl) (by kernel_rfl) fun a w hF hO _ => ?_
  replace hO : Own w0 none_ [cel b1 #[.int .i64 x, .int .i64 y] 47] w := hO
  replace hF := hF.sel [4]
  replace hF : Fr 8 [] [(4, .pointer (some ⟨b1, 0, none⟩))] a := hF
  refine W_ret ?_
  show bodyPostM (FW none) 0 _ _ _ Exit.ret a w
  exact leave_r TBok hF (.nil _) (vs := [.agg #[.int .i64 x, .int .i64 y]]) (rs := [.lds ⟨b1, 0, none⟩ [.int .i64 x, .int .i64 y]]) (.cons (rdso hO 0 rfl 0 rfl) <| .nil) (by kernel_rfl) ⟨rfl, hO.kp⟩

set_option maxHeartbeats 4000000 in
set_option maxRecDepth 100000 in
theorem task_calls (x y z t : Int) (w0 : World) :
    Calls Try.prog 43 #[.int .i64 x, .int .i64 y, .int .i64 z, .int .i64 t] w0 (fun e w' => e = .returned (.agg #[.int .i64 x, .int .i64 y, .int .i64 z, .int .i64 t]) ∧ Ext w0 w') := by
  refine calls_of_W Try.func43 rfl (by kernel_rfl) (args := [.int .i64 x, .int .i64 y, .int .i64 z, .int .i64 t]) fun a hF => ?_
  replace hF : Fr 14 [] [(0, .int .i64 x), (1, .int .i64 y), (2, .int .i64 z), (3, .int .i64 t)] a := hF
  have hO : Own w0 none_ [] w0 := Own.start w0 _
  refine W_seq (region_seq ?_)
  refine op_alloc (i := 0) (t := 56) (d := 8) (z := .agg #[.int .i64 0, .int .i64 0, .int .i64 0, .int .i64 0]) hF hO (by kernel_rfl) (by kernel_rfl) fun a w b1 hF hO _ => ?_
  replace hO : Own w0 none_ [cel b1 #[.int .i64 0, .int .i64 0, .int .i64 0, .int .i64 0] 56] w := hO
  replace hF := hF.sel [0, 1, 2, 3, 8]
  replace hF : Fr 14 [] [(0, .int .i64 x), (1, .int .i64 y), (2, .int .i64 z), (3, .int .i64 t), (8, .pointer (some ⟨b1, 0, none⟩))] a := hF
  refine W_seq (region_seq ?_)
  refine seq_quiet { md := [(4, 3)] } TBok hF (F' := [(8, .pointer (some ⟨b1, 0, none⟩)), (13, .agg #[.int .i64 x, .int .i64 y, .int .i64 z, .int .i64 t])]) (rs := [.raw (Instr.build 56 #[(0, .int .i64 x), (1, .int .i64 y), (2, .int .i64 z), (3, .int .i64 t)]) (.agg #[.int .i64 x, .int .i64 y, .int .i64 z, .int .i64 t])]) [0, 1, 2, 3, 4] [5] [8, 13] (.cons (fun w _ => by kernel_rfl) <| .nil) (by kernel_rfl) fun a w hF hE => ?_
  replace hO := hO.ext hE; clear hE
  refine op_store (i := 5) (t := 56) (p := ⟨b1, 0, none⟩) (v := .agg #[.int .i64 x, .int .i64 y, .int .i64 z, .int .i64 t]) (off := 0) (sz := 4) (cs' := #[.int .i64 x, .int .i64 y, .int .i64 z, .int .i64 t]) hF hO (by kernel_rfl) 0 rfl rfl (by kernel_rfl) (by kernel_rfl) (by kernel_rfl) fun a w hF hO _ => ?_
  replace hO : Own w0 none_ [cel b1 #[.int .i64 x, .int .i64 y, .int .i64 z, .int .i64 t] 56] w := hO
  replace hF := hF.sel [8]
  replace hF : Fr 14 [] [(8, .pointer (some ⟨b1, 0, none⟩))] a := hF
  refine W_ret ?_
  show bodyPostM (FW none) 0 _ _ _ Exit.ret a w
  exact leave_r TBok hF (.nil _) (vs := [.agg #[.int .i64 x, .int .i64 y, .int .i64 z, .int .i64 t]]) (rs := [.lds ⟨b1, 0, none⟩ [.int .i64 x, .int .i64 y, .int .i64 z, .int .i64 t]]) (.cons (rdso hO 0 rfl 0 rfl) <| .nil) (by kernel_rfl) ⟨rfl, hO.kp⟩

set_option maxHeartbeats 4000000 in
set_option maxRecDepth 100000 in
theorem worker_calls (x : Wk) (hours : Int) (w0 : World) (hh : -9223372036854775807 ≤ hours ∧ hours ≤ 9223372036854775807) :
    Calls Try.prog 55 #[.agg #[.int .i64 x.kd, .int .i64 x.fr, .int .i64 x.to, .int .i64 x.rt], .int .i64 hours] w0 (fun e w' => e = .returned (.bool (refWkB hours x)) ∧ Ext w0 w') := by
  refine calls_of_W Try.func55 rfl (by kernel_rfl) (args := [.agg #[.int .i64 x.kd, .int .i64 x.fr, .int .i64 x.to, .int .i64 x.rt], .int .i64 hours]) fun a hF => ?_
  replace hF : Fr 29 [] [(0, .agg #[.int .i64 x.kd, .int .i64 x.fr, .int .i64 x.to, .int .i64 x.rt]), (1, .int .i64 hours)] a := hF
  have hO : Own w0 none_ [] w0 := Own.start w0 _
  refine W_seq (region_seq ?_)
  refine op_box (i := 0) (t := 61) (v := .agg #[.int .i64 x.kd, .int .i64 x.fr, .int .i64 x.to, .int .i64 x.rt]) (d := 2) hF hO (by kernel_rfl) fun a w b1 hF hO _ => ?_
  replace hO : Own w0 none_ [cel b1 #[.int .i64 x.kd, .int .i64 x.fr, .int .i64 x.to, .int .i64 x.rt] 61] w := hO
  refine seq_quiet {} TBok hF (F' := [(1, .int .i64 hours), (2, .pointer (some ⟨b1, 0, none⟩)), (4, .bool false)]) (rs := []) [1] [] [1, 2, 4] .nil (by kernel_rfl) fun a w hF hE => ?_
  replace hO := hO.ext hE; clear hE
  refine W_seq (region_q { sy := [3, 10, 19] } TBok hF (F' := [(4, .bool (cond (cond (cond (inB x.kd 0 2) (inB x.fr 0 (hours - 1)) false) (inB x.to x.fr (hours - 1)) false) (inB x.rt 0 20) false))]) (rs := [.ld ⟨b1, 0, none⟩ (.int .i64 x.kd), .call 36 #[.int .i64 x.kd, .int .i64 0, .int .i64 2] (.bool (inB x.kd 0 2)), .und (inB x.kd 0 2) (.ld ⟨b1, 1, none⟩ (.int .i64 x.fr)), .und (inB x.kd 0 2) (.rng (hours - 1)), .und (inB x.kd 0 2) (.call 36 #[.int .i64 x.fr, .int .i64 0, .int .i64 (hours - 1)] (.bool (inB x.fr 0 (hours - 1)))), .und (cond (inB x.kd 0 2) (inB x.fr 0 (hours - 1)) false) (.ld ⟨b1, 2, none⟩ (.int .i64 x.to)), .und (cond (inB x.kd 0 2) (inB x.fr 0 (hours - 1)) false) (.ld ⟨b1, 1, none⟩ (.int .i64 x.fr)), .und (cond (inB x.kd 0 2) (inB x.fr 0 (hours - 1)) false) (.rng (hours - 1)), .und (cond (inB x.kd 0 2) (inB x.fr 0 (hours - 1)) false) (.call 36 #[.int .i64 x.to, .int .i64 x.fr, .int .i64 (hours - 1)] (.bool (inB x.to x.fr (hours - 1)))), .und (cond (cond (inB x.kd 0 2) (inB x.fr 0 (hours - 1)) false) (inB x.to x.fr (hours - 1)) false) (.ld ⟨b1, 3, none⟩ (.int .i64 x.rt)), .und (cond (cond (inB x.kd 0 2) (inB x.fr 0 (hours - 1)) false) (inB x.to x.fr (hours - 1)) false) (.call 36 #[.int .i64 x.rt, .int .i64 0, .int .i64 20] (.bool (inB x.rt 0 20)))]) [4] (.cons (ldo hO.st 0 rfl 0 rfl) <| .cons (fun w _ => In_calls _ _ _ w) <| .cons (fun hg => (ldo hO.st 0 rfl 1 rfl)) <| .cons (fun hg => (rg (by omega))) <| .cons (fun hg => (fun w _ => In_calls _ _ _ w)) <| .cons (fun hg => (ldo hO.st 0 rfl 2 rfl)) <| .cons (fun hg => (ldo hO.st 0 rfl 1 rfl)) <| .cons (fun hg => (rg (by omega))) <| .cons (fun hg => (fun w _ => In_calls _ _ _ w)) <| .cons (fun hg => (ldo hO.st 0 rfl 3 rfl)) <| .cons (fun hg => (fun w _ => In_calls _ _ _ w)) <| .nil) (by kernel_rfl) fun a w hF hE => ?_)
  replace hO := hO.ext hE; clear hE
  refine W_ret ?_
  show bodyPostM (FW none) 0 _ _ _ Exit.ret a w
  exact leave_r TBok hF (.nil _) (vs := [.bool (cond (cond (cond (inB x.kd 0 2) (inB x.fr 0 (hours - 1)) false) (inB x.to x.fr (hours - 1)) false) (inB x.rt 0 20) false)]) (rs := []) .nil (by kernel_rfl) ⟨rfl, hO.kp⟩

set_option maxHeartbeats 4000000 in
set_option maxRecDepth 100000 in
theorem until_false_calls (d : Day) (v : DV) (lot : Int) (w0 : World) (hd : DayR w0.heap.size w0 v d) (hv : dayV d = true) (hl : 0 ≤ lot ∧ lot < v.ln) :
    Calls Try.prog 53 #[.agg #[.int .i64 d.hours, .slice v.ha v.hn v.hc, .slice v.la v.ln v.lc, .slice v.wa v.wn v.wc], .int .i64 lot, .bool false] w0 (fun e w' => e = .returned (.int .i64 (refUntil Sp.hi d (d.lots.getD lot.toNat default))) ∧ Ext w0 w') := by
  have hl1 := hd.heat.len; have hl2 := hd.lots.len; have hl3 := hd.wks.len; have hs1 := hd.heat.size; have hs2 := hd.lots.size; have hs3 := hd.wks.size; have hv1 := day_ok hv; have hlk := lot_ok hv (i := lot.toNat) (by omega)
  refine calls_of_W Try.func53 rfl (by kernel_rfl) (args := [.agg #[.int .i64 d.hours, .slice v.ha v.hn v.hc, .slice v.la v.ln v.lc, .slice v.wa v.wn v.wc], .int .i64 lot, .bool false]) fun a hF => ?_
  replace hF : Fr 50 [] [(0, .agg #[.int .i64 d.hours, .slice v.ha v.hn v.hc, .slice v.la v.ln v.lc, .slice v.wa v.wn v.wc]), (1, .int .i64 lot), (2, .bool false)] a := hF
  have hO : Own w0 none_ [] w0 := Own.start w0 _
  refine W_seq (region_seq ?_)
  refine op_box (i := 0) (t := 26) (v := .agg #[.int .i64 d.hours, .slice v.ha v.hn v.hc, .slice v.la v.ln v.lc, .slice v.wa v.wn v.wc]) (d := 3) hF hO (by kernel_rfl) fun a w b1 hF hO _ => ?_
  replace hO : Own w0 none_ [cel b1 #[.int .i64 d.hours, .slice v.ha v.hn v.hc, .slice v.la v.ln v.lc, .slice v.wa v.wn v.wc] 26] w := hO
  refine seq_quiet {} TBok hF (F' := [(1, .int .i64 lot), (2, .bool false), (3, .pointer (some ⟨b1, 0, none⟩)), (6, .int .i64 0)]) (rs := []) [1] [] [1, 2, 3, 6] .nil (by kernel_rfl) fun a w hF hE => ?_
  replace hO := hO.ext hE; clear hE
  refine W_seq (region_seq ?_)
  refine seq_quiet {} TBok hF (F' := [(2, .bool false), (3, .pointer (some ⟨b1, 0, none⟩)), (6, .int .i64 0), (15, .agg #[.int .i64 ((d.lots.getD lot.toNat default).cr), .int .i64 ((d.lots.getD lot.toNat default).la), .int .i64 ((d.lots.getD lot.toNat default).ke), .int .i64 ((d.lots.getD lot.toNat default).fi)])]) (rs := [.ld ⟨b1, 2, none⟩ (.slice v.la v.ln v.lc), .idx v.la v.ln lot 4 (adr v.la 4 lot), .lds (adr v.la 4 lot) [.int .i64 ((d.lots.getD lot.toNat default).cr), .int .i64 ((d.lots.getD lot.toNat default).la), .int .i64 ((d.lots.getD lot.toNat default).ke), .int .i64 ((d.lots.getD lot.toNat default).fi)]]) [0, 1, 2, 3, 4] [5, 6, 7] [2, 3, 6, 15] (.cons (ldo hO.st 0 rfl 2 rfl) <| .cons (ix hd.lots (by omega) (by omega)) <| .cons (ldsx hO.st nom hd.lots (by omega) (by omega) rfl) <| .nil) (by kernel_rfl) fun a w hF hE => ?_
  replace hO := hO.ext hE; clear hE
  refine op_alloc (i := 5) (t := 59) (d := 7) (z := .agg #[.int .i64 0, .int .i64 0, .int .i64 0, .int .i64 0]) hF hO (by kernel_rfl) (by kernel_rfl) fun a w b2 hF hO _ => ?_
  replace hO : Own w0 none_ [cel b1 #[.int .i64 d.hours, .slice v.ha v.hn v.hc, .slice v.la v.ln v.lc, .slice v.wa v.wn v.wc] 26, cel b2 #[.int .i64 0, .int .i64 0, .int .i64 0, .int .i64 0] 59] w := hO
  refine op_store (i := 6) (t := 59) (p := ⟨b2, 0, none⟩) (v := .agg #[.int .i64 ((d.lots.getD lot.toNat default).cr), .int .i64 ((d.lots.getD lot.toNat default).la), .int .i64 ((d.lots.getD lot.toNat default).ke), .int .i64 ((d.lots.getD lot.toNat default).fi)]) (off := 0) (sz := 4) (cs' := #[.int .i64 ((d.lots.getD lot.toNat default).cr), .int .i64 ((d.lots.getD lot.toNat default).la), .int .i64 ((d.lots.getD lot.toNat default).ke), .int .i64 ((d.lots.getD lot.toNat default).fi)]) hF hO (by kernel_rfl) 1 rfl rfl (by kernel_rfl) (by kernel_rfl) (by kernel_rfl) fun a w hF hO _ => ?_
  replace hO : Own w0 none_ [cel b1 #[.int .i64 d.hours, .slice v.ha v.hn v.hc, .slice v.la v.ln v.lc, .slice v.wa v.wn v.wc] 26, cel b2 #[.int .i64 ((d.lots.getD lot.toNat default).cr), .int .i64 ((d.lots.getD lot.toNat default).la), .int .i64 ((d.lots.getD lot.toNat default).ke), .int .i64 ((d.lots.getD lot.toNat default).fi)] 59] w := hO
  refine seq_quiet {} TBok hF (F' := [(2, .bool false), (3, .pointer (some ⟨b1, 0, none⟩)), (6, .int .i64 0), (7, .pointer (some ⟨b2, 0, none⟩)), (8, .int .i64 0)]) (rs := []) [7] [] [2, 3, 6, 7, 8] .nil (by kernel_rfl) fun a w hF hE => ?_
  replace hO := hO.ext hE; clear hE
  refine W_seq (region_q {} TBok hF (F' := [(2, .bool false), (3, .pointer (some ⟨b1, 0, none⟩)), (6, .int .i64 0), (7, .pointer (some ⟨b2, 0, none⟩)), (8, .int .i64 0), (9, .int .i64 ((d.lots.getD lot.toNat default).la - 1))]) (rs := [.ld ⟨b2, 1, none⟩ (.int .i64 ((d.lots.getD lot.toNat default).la)), .rng ((d.lots.getD lot.toNat default).la - 1)]) [2, 3, 6, 7, 8, 9] (.cons (ldo hO.st 1 rfl 1 rfl) <| .cons (rg (by omega)) <| .nil) (by kernel_rfl) fun a w hF hE => ?_)
  replace hO := hO.ext hE; clear hE
  refine W_seq ?_
  refine W_seq (region_q {} TBok hF (F' := [(2, .bool false), (3, .pointer (some ⟨b1, 0, none⟩)), (6, .int .i64 0), (7, .pointer (some ⟨b2, 0, none⟩)), (8, .int .i64 0), (9, .int .i64 ((d.lots.getD lot.toNat default).la - 1)), (10, .int .i64 ((d.lots.getD lot.toNat default).la))]) (rs := [.ld ⟨b2, 1, none⟩ (.int .i64 ((d.lots.getD lot.toNat default).la))]) [2, 3, 6, 7, 8, 9, 10] (.cons (ldo hO.st 1 rfl 1 rfl) <| .nil) (by kernel_rfl) fun a w hF hE => ?_)
  replace hO := hO.ext hE; clear hE
  refine (W_block ?_)
  refine (W_loop (fun m a w => ∃ (h : Int), ∃ (q : Int), ∃ (u : Int), m = (d.hours - h).toNat ∧ 0 ≤ h ∧ h ≤ d.hours ∧ 0 ≤ q ∧ q ≤ 100 * h ∧ refGo Sp.hi (d.lots.getD lot.toNat default).ke (d.heat.drop h.toNat) h q u = refUntil Sp.hi d (d.lots.getD lot.toNat default) ∧ Fr 50 [] [(2, .bool false), (3, .pointer (some ⟨b1, 0, none⟩)), (6, .int .i64 0), (7, .pointer (some ⟨b2, 0, none⟩)), (8, .int .i64 q), (9, .int .i64 u), (10, .int .i64 h)] a ∧ Own w0 none_ [cel b1 #[.int .i64 d.hours, .slice v.ha v.hn v.hc, .slice v.la v.ln v.lc, .slice v.wa v.wn v.wc] 26, cel b2 #[.int .i64 ((d.lots.getD lot.toNat default).cr), .int .i64 ((d.lots.getD lot.toNat default).la), .int .i64 ((d.lots.getD lot.toNat default).ke), .int .i64 ((d.lots.getD lot.toNat default).fi)] 59] w) _ ⟨(d.lots.getD lot.toNat default).la, 0, _, rfl, by omega, by omega, by omega, by omega, rfl, hF, hO⟩ ?_)
  clear hF hO
  rintro _ a w ⟨h, q, u, rfl, hh0, hh, hq0, hq1, heq, hF, hO⟩
  refine W_seq ?_
  refine W_seq (region_q {} TBok hF (F' := [(2, .bool false), (3, .pointer (some ⟨b1, 0, none⟩)), (6, .int .i64 0), (7, .pointer (some ⟨b2, 0, none⟩)), (8, .int .i64 q), (9, .int .i64 u), (10, .int .i64 h), (24, .bool (decide (h < d.hours)))]) (rs := [.ld ⟨b1, 0, none⟩ (.int .i64 d.hours)]) [2, 3, 6, 7, 8, 9, 10, 24] (.cons (ldo hO.st 0 rfl 0 rfl) <| .nil) (by kernel_rfl) fun a w hF hE => ?_)
  replace hO := hO.ext hE; clear hE
  rcases Bool.eq_false_or_eq_true (decide (h < d.hours)) with hc3 | hc3
  · refine (W_true ((evOp hF (by kernel_rfl)).trans (congrArg Value.bool hc3)) ?_)
    have hc_ := of_decide_eq_true (by assumption : (decide (h < d.hours)) = true)
    have hsp := sp_ok hv (i := h.toNat) (by omega)
    refine (W_skip ?_)
    refine W_seq (W_block ?_)
    refine W_seq ?_
    refine W_seq (region_q {} TBok hF (F' := [(2, .bool false), (3, .pointer (some ⟨b1, 0, none⟩)), (6, .int .i64 0), (7, .pointer (some ⟨b2, 0, none⟩)), (8, .int .i64 q), (9, .int .i64 u), (10, .int .i64 h), (27, .bool false)]) (rs := []) [2, 3, 6, 7, 8, 9, 10, 27] .nil (by kernel_rfl) fun a w hF hE => ?_)
    replace hO := hO.ext hE; clear hE
    refine (W_false (evOp hF (by kernel_rfl)) ?_)
    refine (region_q {} TBok hF (F' := [(2, .bool false), (3, .pointer (some ⟨b1, 0, none⟩)), (6, .int .i64 0), (7, .pointer (some ⟨b2, 0, none⟩)), (8, .int .i64 (q + (d.heat.getD h.toNat default).hi)), (9, .int .i64 u), (10, .int .i64 h)]) (rs := [.ld ⟨b1, 1, none⟩ (.slice v.ha v.hn v.hc), .idx v.ha v.hn h 2 (adr v.ha 2 h), .ld ((adr v.ha 2 h).add 1) (.int .i64 ((d.heat.getD h.toNat default).hi)), .rng (q + (d.heat.getD h.toNat default).hi)]) [2, 3, 6, 7, 8, 9, 10] (.cons (ldo hO.st 0 rfl 1 rfl) <| .cons (ix hd.heat (by omega) (by omega)) <| .cons (ldx hO.st nom hd.heat (by omega) (by omega) 1 rfl) <| .cons (rg (by omega)) <| .nil) (by kernel_rfl) fun a w hF hE => ?_)
    replace hO := hO.ext hE; clear hE
    refine W_seq (region_q {} TBok hF (F' := [(2, .bool false), (3, .pointer (some ⟨b1, 0, none⟩)), (6, .int .i64 0), (7, .pointer (some ⟨b2, 0, none⟩)), (8, .int .i64 (q + (d.heat.getD h.toNat default).hi)), (9, .int .i64 u), (10, .int .i64 h), (47, .bool (decide ((q + (d.heat.getD h.toNat default).hi) ≤ (d.lots.getD lot.toNat default).ke)))]) (rs := [.ld ⟨b2, 2, none⟩ (.int .i64 ((d.lots.getD lot.toNat default).ke))]) [2, 3, 6, 7, 8, 9, 10, 47] (.cons (ldo hO.st 1 rfl 2 rfl) <| .nil) (by kernel_rfl) fun a w hF hE => ?_)
    replace hO := hO.ext hE; clear hE
    rcases Bool.eq_false_or_eq_true (decide ((q + (d.heat.getD h.toNat default).hi) ≤ (d.lots.getD lot.toNat default).ke)) with hc4 | hc4
    · refine (W_true ((evOp hF (by kernel_rfl)).trans (congrArg Value.bool hc4)) ?_)
      have hc4_ := of_decide_eq_true hc4
      refine (region_q {} TBok hF (F' := [(2, .bool false), (3, .pointer (some ⟨b1, 0, none⟩)), (6, .int .i64 0), (7, .pointer (some ⟨b2, 0, none⟩)), (8, .int .i64 (q + (d.heat.getD h.toNat default).hi)), (9, .int .i64 h), (10, .int .i64 h)]) (rs := []) [2, 3, 6, 7, 8, 9, 10] .nil (by kernel_rfl) fun a w hF hE => ?_)
      replace hO := hO.ext hE; clear hE
      refine (region_q {} TBok hF (F' := [(2, .bool false), (3, .pointer (some ⟨b1, 0, none⟩)), (6, .int .i64 0), (7, .pointer (some ⟨b2, 0, none⟩)), (8, .int .i64 (q + (d.heat.getD h.toNat default).hi)), (9, .int .i64 h), (10, .int .i64 (h + 1))]) (rs := [.rng (h + 1)]) [2, 3, 6, 7, 8, 9, 10] (.cons (rg (by omega)) <| .nil) (by kernel_rfl) fun a w hF hE => ?_)
      replace hO := hO.ext hE; clear hE
      have hstp := refGo_step (e := Sp.hi) (keep := (d.lots.getD lot.toNat default).ke) (h := h) (s := q) (u := u) (heat := d.heat) (by omega) (by omega)
      rw [show (decide (q + Sp.hi (d.heat.getD h.toNat default) ≤ (d.lots.getD lot.toNat default).ke)) = true from hc4] at hstp
      exact ⟨_, by omega, h + 1, _, _, rfl, by omega, by omega, by omega, by omega, hstp.symm.trans heq, hF, hO⟩
    · refine (W_false ((evOp hF (by kernel_rfl)).trans (congrArg Value.bool hc4)) ?_)
      have hc4_ := of_decide_eq_false hc4
      refine (W_skip ?_)
      refine (region_q {} TBok hF (F' := [(2, .bool false), (3, .pointer (some ⟨b1, 0, none⟩)), (6, .int .i64 0), (7, .pointer (some ⟨b2, 0, none⟩)), (8, .int .i64 (q + (d.heat.getD h.toNat default).hi)), (9, .int .i64 u), (10, .int .i64 (h + 1))]) (rs := [.rng (h + 1)]) [2, 3, 6, 7, 8, 9, 10] (.cons (rg (by omega)) <| .nil) (by kernel_rfl) fun a w hF hE => ?_)
      replace hO := hO.ext hE; clear hE
      have hstp := refGo_step (e := Sp.hi) (keep := (d.lots.getD lot.toNat default).ke) (h := h) (s := q) (u := u) (heat := d.heat) (by omega) (by omega)
      rw [show (decide (q + Sp.hi (d.heat.getD h.toNat default) ≤ (d.lots.getD lot.toNat default).ke)) = false from hc4] at hstp
      exact ⟨_, by omega, h + 1, _, _, rfl, by omega, by omega, by omega, by omega, hstp.symm.trans heq, hF, hO⟩
  · refine (W_false ((evOp hF (by kernel_rfl)).trans (congrArg Value.bool hc3)) ?_)
    have hc_ := of_decide_eq_false (by assumption : (decide (h < d.hours)) = false)
    refine (W_exit ?_)
    refine W_seq (region_q {} TBok hF (F' := [(6, .int .i64 u)]) (rs := []) [6] .nil (by kernel_rfl) fun a w hF hE => ?_)
    replace hO := hO.ext hE; clear hE
    refine W_ret ?_
    show bodyPostM (FW none) 0 _ _ _ Exit.ret a w
    rw [List.drop_of_length_le (by omega)] at heq
    exact leave_r TBok hF (.nil _) (vs := [.int .i64 u]) (rs := []) .nil (by kernel_rfl) ⟨by rw [← heq]; rfl, hO.kp⟩

set_option maxHeartbeats 4000000 in
set_option maxRecDepth 100000 in
theorem until_true_calls (d : Day) (v : DV) (lot : Int) (w0 : World) (hd : DayR w0.heap.size w0 v d) (hv : dayV d = true) (hl : 0 ≤ lot ∧ lot < v.ln) :
    Calls Try.prog 53 #[.agg #[.int .i64 d.hours, .slice v.ha v.hn v.hc, .slice v.la v.ln v.lc, .slice v.wa v.wn v.wc], .int .i64 lot, .bool true] w0 (fun e w' => e = .returned (.int .i64 (refUntil Sp.lo d (d.lots.getD lot.toNat default))) ∧ Ext w0 w') := by
  have hl1 := hd.heat.len; have hl2 := hd.lots.len; have hl3 := hd.wks.len; have hs1 := hd.heat.size; have hs2 := hd.lots.size; have hs3 := hd.wks.size; have hv1 := day_ok hv; have hlk := lot_ok hv (i := lot.toNat) (by omega)
  refine calls_of_W Try.func53 rfl (by kernel_rfl) (args := [.agg #[.int .i64 d.hours, .slice v.ha v.hn v.hc, .slice v.la v.ln v.lc, .slice v.wa v.wn v.wc], .int .i64 lot, .bool true]) fun a hF => ?_
  replace hF : Fr 50 [] [(0, .agg #[.int .i64 d.hours, .slice v.ha v.hn v.hc, .slice v.la v.ln v.lc, .slice v.wa v.wn v.wc]), (1, .int .i64 lot), (2, .bool true)] a := hF
  have hO : Own w0 none_ [] w0 := Own.start w0 _
  refine W_seq (region_seq ?_)
  refine op_box (i := 0) (t := 26) (v := .agg #[.int .i64 d.hours, .slice v.ha v.hn v.hc, .slice v.la v.ln v.lc, .slice v.wa v.wn v.wc]) (d := 3) hF hO (by kernel_rfl) fun a w b1 hF hO _ => ?_
  replace hO : Own w0 none_ [cel b1 #[.int .i64 d.hours, .slice v.ha v.hn v.hc, .slice v.la v.ln v.lc, .slice v.wa v.wn v.wc] 26] w := hO
  refine seq_quiet {} TBok hF (F' := [(1, .int .i64 lot), (2, .bool true), (3, .pointer (some ⟨b1, 0, none⟩)), (6, .int .i64 0)]) (rs := []) [1] [] [1, 2, 3, 6] .nil (by kernel_rfl) fun a w hF hE => ?_
  replace hO := hO.ext hE; clear hE
  refine W_seq (region_seq ?_)
  refine seq_quiet {} TBok hF (F' := [(2, .bool true), (3, .pointer (some ⟨b1, 0, none⟩)), (6, .int .i64 0), (15, .agg #[.int .i64 ((d.lots.getD lot.toNat default).cr), .int .i64 ((d.lots.getD lot.toNat default).la), .int .i64 ((d.lots.getD lot.toNat default).ke), .int .i64 ((d.lots.getD lot.toNat default).fi)])]) (rs := [.ld ⟨b1, 2, none⟩ (.slice v.la v.ln v.lc), .idx v.la v.ln lot 4 (adr v.la 4 lot), .lds (adr v.la 4 lot) [.int .i64 ((d.lots.getD lot.toNat default).cr), .int .i64 ((d.lots.getD lot.toNat default).la), .int .i64 ((d.lots.getD lot.toNat default).ke), .int .i64 ((d.lots.getD lot.toNat default).fi)]]) [0, 1, 2, 3, 4] [5, 6, 7] [2, 3, 6, 15] (.cons (ldo hO.st 0 rfl 2 rfl) <| .cons (ix hd.lots (by omega) (by omega)) <| .cons (ldsx hO.st nom hd.lots (by omega) (by omega) rfl) <| .nil) (by kernel_rfl) fun a w hF hE => ?_
  replace hO := hO.ext hE; clear hE
  refine op_alloc (i := 5) (t := 59) (d := 7) (z := .agg #[.int .i64 0, .int .i64 0, .int .i64 0, .int .i64 0]) hF hO (by kernel_rfl) (by kernel_rfl) fun a w b2 hF hO _ => ?_
  replace hO : Own w0 none_ [cel b1 #[.int .i64 d.hours, .slice v.ha v.hn v.hc, .slice v.la v.ln v.lc, .slice v.wa v.wn v.wc] 26, cel b2 #[.int .i64 0, .int .i64 0, .int .i64 0, .int .i64 0] 59] w := hO
  refine op_store (i := 6) (t := 59) (p := ⟨b2, 0, none⟩) (v := .agg #[.int .i64 ((d.lots.getD lot.toNat default).cr), .int .i64 ((d.lots.getD lot.toNat default).la), .int .i64 ((d.lots.getD lot.toNat default).ke), .int .i64 ((d.lots.getD lot.toNat default).fi)]) (off := 0) (sz := 4) (cs' := #[.int .i64 ((d.lots.getD lot.toNat default).cr), .int .i64 ((d.lots.getD lot.toNat default).la), .int .i64 ((d.lots.getD lot.toNat default).ke), .int .i64 ((d.lots.getD lot.toNat default).fi)]) hF hO (by kernel_rfl) 1 rfl rfl (by kernel_rfl) (by kernel_rfl) (by kernel_rfl) fun a w hF hO _ => ?_
  replace hO : Own w0 none_ [cel b1 #[.int .i64 d.hours, .slice v.ha v.hn v.hc, .slice v.la v.ln v.lc, .slice v.wa v.wn v.wc] 26, cel b2 #[.int .i64 ((d.lots.getD lot.toNat default).cr), .int .i64 ((d.lots.getD lot.toNat default).la), .int .i64 ((d.lots.getD lot.toNat default).ke), .int .i64 ((d.lots.getD lot.toNat default).fi)] 59] w := hO
  refine seq_quiet {} TBok hF (F' := [(2, .bool true), (3, .pointer (some ⟨b1, 0, none⟩)), (6, .int .i64 0), (7, .pointer (some ⟨b2, 0, none⟩)), (8, .int .i64 0)]) (rs := []) [7] [] [2, 3, 6, 7, 8] .nil (by kernel_rfl) fun a w hF hE => ?_
  replace hO := hO.ext hE; clear hE
  refine W_seq (region_q {} TBok hF (F' := [(2, .bool true), (3, .pointer (some ⟨b1, 0, none⟩)), (6, .int .i64 0), (7, .pointer (some ⟨b2, 0, none⟩)), (8, .int .i64 0), (9, .int .i64 ((d.lots.getD lot.toNat default).la - 1))]) (rs := [.ld ⟨b2, 1, none⟩ (.int .i64 ((d.lots.getD lot.toNat default).la)), .rng ((d.lots.getD lot.toNat default).la - 1)]) [2, 3, 6, 7, 8, 9] (.cons (ldo hO.st 1 rfl 1 rfl) <| .cons (rg (by omega)) <| .nil) (by kernel_rfl) fun a w hF hE => ?_)
  replace hO := hO.ext hE; clear hE
  refine W_seq ?_
  refine W_seq (region_q {} TBok hF (F' := [(2, .bool true), (3, .pointer (some ⟨b1, 0, none⟩)), (6, .int .i64 0), (7, .pointer (some ⟨b2, 0, none⟩)), (8, .int .i64 0), (9, .int .i64 ((d.lots.getD lot.toNat default).la - 1)), (10, .int .i64 ((d.lots.getD lot.toNat default).la))]) (rs := [.ld ⟨b2, 1, none⟩ (.int .i64 ((d.lots.getD lot.toNat default).la))]) [2, 3, 6, 7, 8, 9, 10] (.cons (ldo hO.st 1 rfl 1 rfl) <| .nil) (by kernel_rfl) fun a w hF hE => ?_)
  replace hO := hO.ext hE; clear hE
  refine (W_block ?_)
  refine (W_loop (fun m a w => ∃ (h : Int), ∃ (q : Int), ∃ (u : Int), m = (d.hours - h).toNat ∧ 0 ≤ h ∧ h ≤ d.hours ∧ 0 ≤ q ∧ q ≤ 100 * h ∧ refGo Sp.lo (d.lots.getD lot.toNat default).ke (d.heat.drop h.toNat) h q u = refUntil Sp.lo d (d.lots.getD lot.toNat default) ∧ Fr 50 [] [(2, .bool true), (3, .pointer (some ⟨b1, 0, none⟩)), (6, .int .i64 0), (7, .pointer (some ⟨b2, 0, none⟩)), (8, .int .i64 q), (9, .int .i64 u), (10, .int .i64 h)] a ∧ Own w0 none_ [cel b1 #[.int .i64 d.hours, .slice v.ha v.hn v.hc, .slice v.la v.ln v.lc, .slice v.wa v.wn v.wc] 26, cel b2 #[.int .i64 ((d.lots.getD lot.toNat default).cr), .int .i64 ((d.lots.getD lot.toNat default).la), .int .i64 ((d.lots.getD lot.toNat default).ke), .int .i64 ((d.lots.getD lot.toNat default).fi)] 59] w) _ ⟨(d.lots.getD lot.toNat default).la, 0, _, rfl, by omega, by omega, by omega, by omega, rfl, hF, hO⟩ ?_)
  clear hF hO
  rintro _ a w ⟨h, q, u, rfl, hh0, hh, hq0, hq1, heq, hF, hO⟩
  refine W_seq ?_
  refine W_seq (region_q {} TBok hF (F' := [(2, .bool true), (3, .pointer (some ⟨b1, 0, none⟩)), (6, .int .i64 0), (7, .pointer (some ⟨b2, 0, none⟩)), (8, .int .i64 q), (9, .int .i64 u), (10, .int .i64 h), (24, .bool (decide (h < d.hours)))]) (rs := [.ld ⟨b1, 0, none⟩ (.int .i64 d.hours)]) [2, 3, 6, 7, 8, 9, 10, 24] (.cons (ldo hO.st 0 rfl 0 rfl) <| .nil) (by kernel_rfl) fun a w hF hE => ?_)
  replace hO := hO.ext hE; clear hE
  rcases Bool.eq_false_or_eq_true (decide (h < d.hours)) with hc3 | hc3
  · refine (W_true ((evOp hF (by kernel_rfl)).trans (congrArg Value.bool hc3)) ?_)
    have hc_ := of_decide_eq_true (by assumption : (decide (h < d.hours)) = true)
    have hsp := sp_ok hv (i := h.toNat) (by omega)
    refine (W_skip ?_)
    refine W_seq (W_block ?_)
    refine W_seq ?_
    refine W_seq (region_q {} TBok hF (F' := [(2, .bool true), (3, .pointer (some ⟨b1, 0, none⟩)), (6, .int .i64 0), (7, .pointer (some ⟨b2, 0, none⟩)), (8, .int .i64 q), (9, .int .i64 u), (10, .int .i64 h), (27, .bool true)]) (rs := []) [2, 3, 6, 7, 8, 9, 10, 27] .nil (by kernel_rfl) fun a w hF hE => ?_)
    replace hO := hO.ext hE; clear hE
    refine (W_true (evOp hF (by kernel_rfl)) ?_)
    refine (region_q {} TBok hF (F' := [(2, .bool true), (3, .pointer (some ⟨b1, 0, none⟩)), (6, .int .i64 0), (7, .pointer (some ⟨b2, 0, none⟩)), (8, .int .i64 (q + (d.heat.getD h.toNat default).lo)), (9, .int .i64 u), (10, .int .i64 h)]) (rs := [.ld ⟨b1, 1, none⟩ (.slice v.ha v.hn v.hc), .idx v.ha v.hn h 2 (adr v.ha 2 h), .ld (adr v.ha 2 h) (.int .i64 ((d.heat.getD h.toNat default).lo)), .rng (q + (d.heat.getD h.toNat default).lo)]) [2, 3, 6, 7, 8, 9, 10] (.cons (ldo hO.st 0 rfl 1 rfl) <| .cons (ix hd.heat (by omega) (by omega)) <| .cons (ldx hO.st nom hd.heat (by omega) (by omega) 0 rfl) <| .cons (rg (by omega)) <| .nil) (by kernel_rfl) fun a w hF hE => ?_)
    replace hO := hO.ext hE; clear hE
    refine W_seq (region_q {} TBok hF (F' := [(2, .bool true), (3, .pointer (some ⟨b1, 0, none⟩)), (6, .int .i64 0), (7, .pointer (some ⟨b2, 0, none⟩)), (8, .int .i64 (q + (d.heat.getD h.toNat default).lo)), (9, .int .i64 u), (10, .int .i64 h), (47, .bool (decide ((q + (d.heat.getD h.toNat default).lo) ≤ (d.lots.getD lot.toNat default).ke)))]) (rs := [.ld ⟨b2, 2, none⟩ (.int .i64 ((d.lots.getD lot.toNat default).ke))]) [2, 3, 6, 7, 8, 9, 10, 47] (.cons (ldo hO.st 1 rfl 2 rfl) <| .nil) (by kernel_rfl) fun a w hF hE => ?_)
    replace hO := hO.ext hE; clear hE
    rcases Bool.eq_false_or_eq_true (decide ((q + (d.heat.getD h.toNat default).lo) ≤ (d.lots.getD lot.toNat default).ke)) with hc4 | hc4
    · refine (W_true ((evOp hF (by kernel_rfl)).trans (congrArg Value.bool hc4)) ?_)
      have hc4_ := of_decide_eq_true hc4
      refine (region_q {} TBok hF (F' := [(2, .bool true), (3, .pointer (some ⟨b1, 0, none⟩)), (6, .int .i64 0), (7, .pointer (some ⟨b2, 0, none⟩)), (8, .int .i64 (q + (d.heat.getD h.toNat default).lo)), (9, .int .i64 h), (10, .int .i64 h)]) (rs := []) [2, 3, 6, 7, 8, 9, 10] .nil (by kernel_rfl) fun a w hF hE => ?_)
      replace hO := hO.ext hE; clear hE
      refine (region_q {} TBok hF (F' := [(2, .bool true), (3, .pointer (some ⟨b1, 0, none⟩)), (6, .int .i64 0), (7, .pointer (some ⟨b2, 0, none⟩)), (8, .int .i64 (q + (d.heat.getD h.toNat default).lo)), (9, .int .i64 h), (10, .int .i64 (h + 1))]) (rs := [.rng (h + 1)]) [2, 3, 6, 7, 8, 9, 10] (.cons (rg (by omega)) <| .nil) (by kernel_rfl) fun a w hF hE => ?_)
      replace hO := hO.ext hE; clear hE
      have hstp := refGo_step (e := Sp.lo) (keep := (d.lots.getD lot.toNat default).ke) (h := h) (s := q) (u := u) (heat := d.heat) (by omega) (by omega)
      rw [show (decide (q + Sp.lo (d.heat.getD h.toNat default) ≤ (d.lots.getD lot.toNat default).ke)) = true from hc4] at hstp
      exact ⟨_, by omega, h + 1, _, _, rfl, by omega, by omega, by omega, by omega, hstp.symm.trans heq, hF, hO⟩
    · refine (W_false ((evOp hF (by kernel_rfl)).trans (congrArg Value.bool hc4)) ?_)
      have hc4_ := of_decide_eq_false hc4
      refine (W_skip ?_)
      refine (region_q {} TBok hF (F' := [(2, .bool true), (3, .pointer (some ⟨b1, 0, none⟩)), (6, .int .i64 0), (7, .pointer (some ⟨b2, 0, none⟩)), (8, .int .i64 (q + (d.heat.getD h.toNat default).lo)), (9, .int .i64 u), (10, .int .i64 (h + 1))]) (rs := [.rng (h + 1)]) [2, 3, 6, 7, 8, 9, 10] (.cons (rg (by omega)) <| .nil) (by kernel_rfl) fun a w hF hE => ?_)
      replace hO := hO.ext hE; clear hE
      have hstp := refGo_step (e := Sp.lo) (keep := (d.lots.getD lot.toNat default).ke) (h := h) (s := q) (u := u) (heat := d.heat) (by omega) (by omega)
      rw [show (decide (q + Sp.lo (d.heat.getD h.toNat default) ≤ (d.lots.getD lot.toNat default).ke)) = false from hc4] at hstp
      exact ⟨_, by omega, h + 1, _, _, rfl, by omega, by omega, by omega, by omega, hstp.symm.trans heq, hF, hO⟩
  · refine (W_false ((evOp hF (by kernel_rfl)).trans (congrArg Value.bool hc3)) ?_)
    have hc_ := of_decide_eq_false (by assumption : (decide (h < d.hours)) = false)
    refine (W_exit ?_)
    refine W_seq (region_q {} TBok hF (F' := [(6, .int .i64 u)]) (rs := []) [6] .nil (by kernel_rfl) fun a w hF hE => ?_)
    replace hO := hO.ext hE; clear hE
    refine W_ret ?_
    show bodyPostM (FW none) 0 _ _ _ Exit.ret a w
    rw [List.drop_of_length_le (by omega)] at heq
    exact leave_r TBok hF (.nil _) (vs := [.int .i64 u]) (rs := []) .nil (by kernel_rfl) ⟨by rw [← heq]; rfl, hO.kp⟩

end Go.Proofs.Ytioimdegbdkppaa.DK
