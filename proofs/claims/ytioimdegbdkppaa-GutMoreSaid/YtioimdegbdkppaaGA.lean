/- Walks: the check of a day. Printed by my gen.py out of gut/a.py. -/
import Derived.Test.YtioimdegbdkppaaGDef
import Derived.Test.YtioimdegbdkppaaProg
namespace Go.Proofs.Ytioimdegbdkppaa.DK
open Go Go.Proofs
set_option linter.unusedVariables false

def TB : Tbl := { fld := [(26, [0, 1, 2, 3]), (47, [0, 1]), (56, [0, 1, 2, 3]), (59, [0, 1, 2, 3]), (61, [0, 1, 2, 3]), (81, [0, 4]), (85, [0]), (93, [0, 1]), (99, [0, 12])], sl := [(22, 2), (23, 4), (24, 4), (33, 4), (41, 1), (76, 4), (77, 1)], arr := [(68, 3, 1), (79, 8, 1), (104, 8, 1)], agg := [(26, 4), (47, 2), (56, 4), (59, 4), (61, 4), (68, 3), (79, 8), (81, 12), (85, 1), (93, 2), (99, 13), (104, 8)], sca := [3, 4, 22, 23, 24, 33, 41, 76, 77, 83, 91, 97, 109, 111, 113], fns := [3, 4, 5, 6, 7, 8, 9, 10, 11, 12, 13, 14, 15, 16, 17, 18, 19, 20, 21, 22, 23, 24, 25, 26, 27, 28, 29, 30, 31, 32, 33, 34, 35, 36, 37, 38, 39, 40, 41, 42, 43, 44, 45, 46, 47, 48, 49, 50, 51, 52, 53, 54, 55, 56, 57, 58, 59, 60, 61, 62, 63, 64, 65, 66, 67, 68, 69, 70, 71, 72, 73] }
theorem TBok : Tbl.ok Try.prog TB = true := by kernel_rfl
theorem mixed : Try.prog.follows .mixedOrders = true := by kernel_rfl
theorem arrT79 : arrTy Try.prog 79 8 = true := by kernel_rfl
theorem arrT104 : arrTy Try.prog 104 8 = true := by kernel_rfl
theorem arrG79 : Try.prog.eqGuardType Try.prog.depth 79 = false := by kernel_rfl
theorem arrG104 : Try.prog.eqGuardType Try.prog.depth 104 = false := by kernel_rfl
theorem pairT93 : pairTy Try.prog 93 = true := by kernel_rfl
theorem pairG93 : Try.prog.eqGuardType Try.prog.depth 93 = false := by kernel_rfl
theorem pairT47 : pairTy Try.prog 47 = true := by kernel_rfl
theorem pairG47 : Try.prog.eqGuardType Try.prog.depth 47 = false := by kernel_rfl
theorem rowT33 : rowTy Try.prog 33 56 4 = true := by kernel_rfl
theorem rowT41 : rowTy Try.prog 41 3 1 = true := by kernel_rfl
theorem rowT24 : rowTy Try.prog 24 61 4 = true := by kernel_rfl
theorem rowT23 : rowTy Try.prog 23 59 4 = true := by kernel_rfl
theorem rowT22 : rowTy Try.prog 22 47 2 = true := by kernel_rfl
theorem mt113 : mapTy Try.prog 113 93 4 (.bool false) := ⟨by kernel_rfl, by kernel_rfl, by kernel_rfl⟩
theorem mt97 : mapTy Try.prog 97 93 104 (.agg #[.int .i64 0, .int .i64 0, .int .i64 0, .int .i64 0, .int .i64 0, .int .i64 0, .int .i64 0, .int .i64 0]) := ⟨by kernel_rfl, by kernel_rfl, by kernel_rfl⟩
theorem mt91 : mapTy Try.prog 91 93 3 (.int .i64 0) := ⟨by kernel_rfl, by kernel_rfl, by kernel_rfl⟩

set_option maxRecDepth 100000 in
theorem within_calls (n lo hi : Int) (w0 : World) :
    Calls Try.prog 49 #[.int .i64 n, .int .i64 lo, .int .i64 hi] w0 (fun e w' => e = .returned (.bool (inB n lo hi)) ∧ Ext w0 w') := by
  refine calls_of_W Try.func49 rfl (by kernel_rfl) (args := [.int .i64 n, .int .i64 lo, .int .i64 hi]) fun a hF => ?_
  replace hF : Fr 15 [] [(0, .int .i64 n), (1, .int .i64 lo), (2, .int .i64 hi)] a := hF
  have hO : Own w0 none_ [] w0 := Own.start w0 _
  refine W_seq (region_q {} TBok hF (F' := [(0, .int .i64 n), (1, .int .i64 lo), (2, .int .i64 hi), (6, .bool false)]) (rs := []) [0, 1, 2, 6] .nil (by kernel_rfl) fun a w hF hE => ?_)
  replace hO := hO.ext hE; clear hE
  refine W_seq (region_q { sy := [3] } TBok hF (F' := [(6, .bool (cond (decide (lo ≤ n)) (decide (n ≤ hi)) false))]) (rs := []) [6] .nil (by kernel_rfl) fun a w hF hE => ?_)
  replace hO := hO.ext hE; clear hE
  refine W_ret ?_
  show bodyPostM (FW none) 0 _ _ _ Exit.ret a w
  exact leave_r TBok hF (.nil _) (vs := [.bool (cond (decide (lo ≤ n)) (decide (n ≤ hi)) false)]) (rs := []) .nil (by kernel_rfl) ⟨rfl, hO.kp⟩

set_option maxRecDepth 100000 in
theorem isWorker_calls (x : Wk) (hours : Int) (w0 : World) (hh : -9223372036854775807 ≤ hours ∧ hours ≤ 9223372036854775807) :
    Calls Try.prog 54 #[.agg #[.int .i64 x.kd, .int .i64 x.fr, .int .i64 x.to, .int .i64 x.rt], .int .i64 hours] w0 (fun e w' => e = .returned (.bool (wkB hours x)) ∧ Ext w0 w') := by
  refine calls_of_W Try.func54 rfl (by kernel_rfl) (args := [.agg #[.int .i64 x.kd, .int .i64 x.fr, .int .i64 x.to, .int .i64 x.rt], .int .i64 hours]) fun a hF => ?_
  replace hF : Fr 27 [] [(0, .agg #[.int .i64 x.kd, .int .i64 x.fr, .int .i64 x.to, .int .i64 x.rt]), (1, .int .i64 hours)] a := hF
  have hO : Own w0 none_ [] w0 := Own.start w0 _
  refine W_seq (region_seq ?_)
  refine op_box (i := 0) (t := 61) (v := .agg #[.int .i64 x.kd, .int .i64 x.fr, .int .i64 x.to, .int .i64 x.rt]) (d := 2) hF hO (by kernel_rfl) fun a w b1 hF hO _ => ?_
  replace hO : Own w0 none_ [cel b1 #[.int .i64 x.kd, .int .i64 x.fr, .int .i64 x.to, .int .i64 x.rt] 61] w := hO
  refine seq_quiet {} TBok hF (F' := [(1, .int .i64 hours), (2, .pointer (some ⟨b1, 0, none⟩)), (4, .bool false)]) (rs := []) [1] [] [1, 2, 4] .nil (by kernel_rfl) fun a w hF hE => ?_
  replace hO := hO.ext hE; clear hE
  refine W_seq (region_q { sy := [3, 10, 17] } TBok hF (F' := [(4, .bool (cond (cond (cond (inB x.kd 0 2) (inB x.fr 0 x.to) false) (inB x.to 0 (hours - 1)) false) (inB x.rt 0 20) false))]) (rs := [.ld ⟨b1, 0, none⟩ (.int .i64 x.kd), .call 49 #[.int .i64 x.kd, .int .i64 0, .int .i64 2] (.bool (inB x.kd 0 2)), .und (inB x.kd 0 2) (.ld ⟨b1, 1, none⟩ (.int .i64 x.fr)), .und (inB x.kd 0 2) (.ld ⟨b1, 2, none⟩ (.int .i64 x.to)), .und (inB x.kd 0 2) (.call 49 #[.int .i64 x.fr, .int .i64 0, .int .i64 x.to] (.bool (inB x.fr 0 x.to))), .und (cond (inB x.kd 0 2) (inB x.fr 0 x.to) false) (.ld ⟨b1, 2, none⟩ (.int .i64 x.to)), .und (cond (inB x.kd 0 2) (inB x.fr 0 x.to) false) (.rng (hours - 1)), .und (cond (inB x.kd 0 2) (inB x.fr 0 x.to) false) (.call 49 #[.int .i64 x.to, .int .i64 0, .int .i64 (hours - 1)] (.bool (inB x.to 0 (hours - 1)))), .und (cond (cond (inB x.kd 0 2) (inB x.fr 0 x.to) false) (inB x.to 0 (hours - 1)) false) (.ld ⟨b1, 3, none⟩ (.int .i64 x.rt)), .und (cond (cond (inB x.kd 0 2) (inB x.fr 0 x.to) false) (inB x.to 0 (hours - 1)) false) (.call 49 #[.int .i64 x.rt, .int .i64 0, .int .i64 20] (.bool (inB x.rt 0 20)))]) [4] (.cons (ldo hO.st 0 rfl 0 rfl) <| .cons (fun w _ => within_calls _ _ _ w) <| .cons (fun hg => (ldo hO.st 0 rfl 1 rfl)) <| .cons (fun hg => (ldo hO.st 0 rfl 2 rfl)) <| .cons (fun hg => (fun w _ => within_calls _ _ _ w)) <| .cons (fun hg => (ldo hO.st 0 rfl 2 rfl)) <| .cons (fun hg => (rg (by omega))) <| .cons (fun hg => (fun w _ => within_calls _ _ _ w)) <| .cons (fun hg => (ldo hO.st 0 rfl 3 rfl)) <| .cons (fun hg => (fun w _ => within_calls _ _ _ w)) <| .nil) (by kernel_rfl) fun a w hF hE => ?_)
  replace hO := hO.ext hE; clear hE
  refine W_ret ?_
  show bodyPostM (FW none) 0 _ _ _ Exit.ret a w
  exact leave_r TBok hF (.nil _) (vs := [.bool (cond (cond (cond (inB x.kd 0 2) (inB x.fr 0 x.to) false) (inB x.to 0 (hours - 1)) false) (inB x.rt 0 20) false)]) (rs := []) .nil (by kernel_rfl) ⟨rfl, hO.kp⟩

set_option maxRecDepth 100000 in
theorem Check_calls (d : Day) (v : DV) (w0 : World) (hd : DayR w0.heap.size w0 v d) :
    Calls Try.prog 18 #[.agg #[.int .i64 d.hours, .slice v.ha v.hn v.hc, .slice v.la v.ln v.lc, .slice v.wa v.wn v.wc]] w0 (fun e w' => e = .returned (.int .i64 (chk d)) ∧ Ext w0 w') := by
  have hl1 := hd.heat.len; have hl2 := hd.lots.len; have hl3 := hd.wks.len; have hs1 := hd.heat.size; have hs2 := hd.lots.size; have hs3 := hd.wks.size
  refine calls_of_W Try.func18 rfl (by kernel_rfl) (args := [.agg #[.int .i64 d.hours, .slice v.ha v.hn v.hc, .slice v.la v.ln v.lc, .slice v.wa v.wn v.wc]]) fun a hF => ?_
  replace hF : Fr 108 [] [(0, .agg #[.int .i64 d.hours, .slice v.ha v.hn v.hc, .slice v.la v.ln v.lc, .slice v.wa v.wn v.wc])] a := hF
  have hO : Own w0 none_ [] w0 := Own.start w0 _
  refine W_seq (region_seq ?_)
  refine op_box (i := 0) (t := 26) (v := .agg #[.int .i64 d.hours, .slice v.ha v.hn v.hc, .slice v.la v.ln v.lc, .slice v.wa v.wn v.wc]) (d := 1) hF hO (by kernel_rfl) fun a w b1 hF hO _ => ?_
  replace hO : Own w0 none_ [cel b1 #[.int .i64 d.hours, .slice v.ha v.hn v.hc, .slice v.la v.ln v.lc, .slice v.wa v.wn v.wc] 26] w := hO
  refine seq_quiet {} TBok hF (F' := [(1, .pointer (some ⟨b1, 0, none⟩)), (2, .int .i64 0)]) (rs := []) [1] [] [1, 2] .nil (by kernel_rfl) fun a w hF hE => ?_
  replace hO := hO.ext hE; clear hE
  refine W_seq (region_q { sy := [3, 11, 17] } TBok hF (F' := [(1, .pointer (some ⟨b1, 0, none⟩)), (2, .int .i64 0), (3, .bool (cond (cond (cond (inB d.hours 1 24) ((v.hn : Int) == d.hours) false) (decide ((v.ln : Int) ≤ 8)) false) (decide ((v.wn : Int) ≤ 6)) false))]) (rs := [.ld ⟨b1, 0, none⟩ (.int .i64 d.hours), .call 49 #[.int .i64 d.hours, .int .i64 1, .int .i64 24] (.bool (inB d.hours 1 24)), .und (inB d.hours 1 24) (.ld ⟨b1, 1, none⟩ (.slice v.ha v.hn v.hc)), .und (inB d.hours 1 24) (.ld ⟨b1, 0, none⟩ (.int .i64 d.hours)), .und (cond (inB d.hours 1 24) ((v.hn : Int) == d.hours) false) (.ld ⟨b1, 2, none⟩ (.slice v.la v.ln v.lc)), .und (cond (cond (inB d.hours 1 24) ((v.hn : Int) == d.hours) false) (decide ((v.ln : Int) ≤ 8)) false) (.ld ⟨b1, 3, none⟩ (.slice v.wa v.wn v.wc))]) [1, 2, 3] (.cons (ldo hO.st 0 rfl 0 rfl) <| .cons (fun w _ => within_calls _ _ _ w) <| .cons (fun hg => (ldo hO.st 0 rfl 1 rfl)) <| .cons (fun hg => (ldo hO.st 0 rfl 0 rfl)) <| .cons (fun hg => (ldo hO.st 0 rfl 2 rfl)) <| .cons (fun hg => (ldo hO.st 0 rfl 3 rfl)) <| .nil) (by kernel_rfl) fun a w hF hE => ?_)
  replace hO := hO.ext hE; clear hE
  refine W_seq ?_
  refine W_seq (region_q {} TBok hF (F' := [(1, .pointer (some ⟨b1, 0, none⟩)), (2, .int .i64 0), (3, .bool (cond (cond (cond (inB d.hours 1 24) ((v.hn : Int) == d.hours) false) (decide ((v.ln : Int) ≤ 8)) false) (decide ((v.wn : Int) ≤ 6)) false)), (34, .slice v.ha v.hn v.hc), (35, .int .i64 (v.hn : Int)), (36, .int .i64 0)]) (rs := [.ld ⟨b1, 1, none⟩ (.slice v.ha v.hn v.hc)]) [1, 2, 3, 34, 35, 36] (.cons (ldo hO.st 0 rfl 1 rfl) <| .nil) (by kernel_rfl) fun a w hF hE => ?_)
  replace hO := hO.ext hE; clear hE
  refine (W_block ?_)
  refine (W_loop (fun m a w => ∃ (k : Nat), ∃ (ok : Bool), m = v.hn - k ∧ k ≤ v.hn ∧ ok = (headB d && ((d.heat.take k).all spB)) ∧ Fr 108 [] [(1, .pointer (some ⟨b1, 0, none⟩)), (2, .int .i64 0), (3, .bool ok), (34, .slice v.ha v.hn v.hc), (35, .int .i64 (v.hn : Int)), (36, .int .i64 (k : Int))] a ∧ Own w0 none_ [cel b1 #[.int .i64 d.hours, .slice v.ha v.hn v.hc, .slice v.la v.ln v.lc, .slice v.wa v.wn v.wc] 26] w) _ ⟨0, (cond (cond (cond (inB d.hours 1 24) ((v.hn : Int) == d.hours) false) (decide ((v.ln : Int) ≤ 8)) false) (decide ((v.wn : Int) ≤ 6)) false), rfl, Nat.zero_le _, (by rw [← hl1, ← hl2, ← hl3]; simp only [headB, List.take_zero, List.all_nil, Bool.and_true, Bool.beq_eq_decide_eq]; cases inB d.hours 1 24 <;> simp <;> rfl), hF, hO⟩ ?_)
  clear hF hO
  rintro _ a w ⟨k, ok, rfl, hk, hok, hF, hO⟩
  refine W_seq (region_q {} TBok hF (F' := [(1, .pointer (some ⟨b1, 0, none⟩)), (2, .int .i64 0), (3, .bool ok), (34, .slice v.ha v.hn v.hc), (35, .int .i64 (v.hn : Int)), (36, .int .i64 (k : Int)), (37, .bool (decide ((k : Int) < (v.hn : Int))))]) (rs := []) [1, 2, 3, 34, 35, 36, 37] .nil (by kernel_rfl) fun a w hF hE => ?_)
  replace hO := hO.ext hE; clear hE
  rcases Bool.eq_false_or_eq_true (decide ((k : Int) < (v.hn : Int))) with hc2 | hc2
  · refine W_seq (W_true ((evOp hF (by kernel_rfl)).trans (congrArg Value.bool hc2)) ?_)
    have hc2_ := of_decide_eq_true hc2
    refine (W_skip ?_)
    refine W_seq (W_block ?_)
    refine W_seq (region_seq ?_)
    refine seq_quiet {} TBok hF (F' := [(1, .pointer (some ⟨b1, 0, none⟩)), (2, .int .i64 0), (3, .bool ok), (34, .slice v.ha v.hn v.hc), (35, .int .i64 (v.hn : Int)), (36, .int .i64 (k : Int)), (39, .agg #[.int .i64 ((d.heat.getD k default).lo), .int .i64 ((d.heat.getD k default).hi)])]) (rs := [.idx v.ha v.hn (k : Int) 2 (adr v.ha 2 (k : Int)), .lds (adr v.ha 2 (k : Int)) [.int .i64 ((d.heat.getD k default).lo), .int .i64 ((d.heat.getD k default).hi)]]) [0, 1] [2, 3] [1, 2, 3, 34, 35, 36, 39] (.cons (ix hd.heat (by omega) (by omega)) <| .cons (ldsx hO.st nom hd.heat (by omega) (by omega) rfl) <| .nil) (by kernel_rfl) fun a w hF hE => ?_
    replace hO := hO.ext hE; clear hE
    refine op_alloc (i := 2) (t := 47) (d := 5) (z := .agg #[.int .i64 0, .int .i64 0]) hF hO (by kernel_rfl) (by kernel_rfl) fun a w b3 hF hO _ => ?_
    replace hO : Own w0 none_ [cel b1 #[.int .i64 d.hours, .slice v.ha v.hn v.hc, .slice v.la v.ln v.lc, .slice v.wa v.wn v.wc] 26, cel b3 #[.int .i64 0, .int .i64 0] 47] w := hO
    refine op_store (i := 3) (t := 47) (p := ⟨b3, 0, none⟩) (v := .agg #[.int .i64 ((d.heat.getD k default).lo), .int .i64 ((d.heat.getD k default).hi)]) (off := 0) (sz := 2) (cs' := #[.int .i64 ((d.heat.getD k default).lo), .int .i64 ((d.heat.getD k default).hi)]) hF hO (by kernel_rfl) 1 rfl rfl (by kernel_rfl) (by kernel_rfl) (by kernel_rfl) fun a w hF hO _ => ?_
    replace hO : Own w0 none_ [cel b1 #[.int .i64 d.hours, .slice v.ha v.hn v.hc, .slice v.la v.ln v.lc, .slice v.wa v.wn v.wc] 26, cel b3 #[.int .i64 ((d.heat.getD k default).lo), .int .i64 ((d.heat.getD k default).hi)] 47] w := hO
    replace hF := hF.sel [1, 2, 3, 5, 34, 35, 36]
    replace hF : Fr 108 [] [(1, .pointer (some ⟨b1, 0, none⟩)), (2, .int .i64 0), (3, .bool ok), (5, .pointer (some ⟨b3, 0, none⟩)), (34, .slice v.ha v.hn v.hc), (35, .int .i64 (v.hn : Int)), (36, .int .i64 (k : Int))] a := hF
    refine (region_q { sy := [1, 6, 13] } TBok hF (F' := [(1, .pointer (some ⟨b1, 0, none⟩)), (2, .int .i64 0), (3, .bool (cond (cond (cond ok (decide ((0 : Int) ≤ (d.heat.getD k default).lo)) false) (decide ((d.heat.getD k default).lo ≤ (d.heat.getD k default).hi)) false) (decide ((d.heat.getD k default).hi ≤ 100)) false)), (34, .slice v.ha v.hn v.hc), (35, .int .i64 (v.hn : Int)), (36, .int .i64 (k : Int))]) (rs := [.und ok (.ld ⟨b3, 0, none⟩ (.int .i64 ((d.heat.getD k default).lo))), .und (cond ok (decide ((0 : Int) ≤ (d.heat.getD k default).lo)) false) (.ld ⟨b3, 0, none⟩ (.int .i64 ((d.heat.getD k default).lo))), .und (cond ok (decide ((0 : Int) ≤ (d.heat.getD k default).lo)) false) (.ld ⟨b3, 1, none⟩ (.int .i64 ((d.heat.getD k default).hi))), .und (cond (cond ok (decide ((0 : Int) ≤ (d.heat.getD k default).lo)) false) (decide ((d.heat.getD k default).lo ≤ (d.heat.getD k default).hi)) false) (.ld ⟨b3, 1, none⟩ (.int .i64 ((d.heat.getD k default).hi)))]) [1, 2, 3, 34, 35, 36] (.cons (fun hg => (ldo hO.st 1 rfl 0 rfl)) <| .cons (fun hg => (ldo hO.st 1 rfl 0 rfl)) <| .cons (fun hg => (ldo hO.st 1 rfl 1 rfl)) <| .cons (fun hg => (ldo hO.st 1 rfl 1 rfl)) <| .nil) (by kernel_rfl) fun a w hF hE => ?_)
    replace hO := hO.ext hE; clear hE
    refine (region_q {} TBok hF (F' := [(1, .pointer (some ⟨b1, 0, none⟩)), (2, .int .i64 0), (3, .bool (cond (cond (cond ok (decide ((0 : Int) ≤ (d.heat.getD k default).lo)) false) (decide ((d.heat.getD k default).lo ≤ (d.heat.getD k default).hi)) false) (decide ((d.heat.getD k default).hi ≤ 100)) false)), (34, .slice v.ha v.hn v.hc), (35, .int .i64 (v.hn : Int)), (36, .int .i64 ((k : Int) + 1))]) (rs := [.rng ((k : Int) + 1)]) [1, 2, 3, 34, 35, 36] (.cons (rg (by omega)) <| .nil) (by kernel_rfl) fun a w hF hE => ?_)
    replace hO := hO.ext hE; clear hE
    have e : (d.heat.take (k + 1)).all spB = ((d.heat.take k).all spB && spB (d.heat.getD k default)) := take_all _ (by omega)
    have e2 : (headB d && (((d.heat.take k).all spB && spB (d.heat.getD k default)))) = (ok && spB (d.heat.getD k default)) := by rw [hok]; simp only [Bool.and_assoc]
    replace hO := hO.drop1 1
    replace hO : Own w0 none_ [cel b1 #[.int .i64 d.hours, .slice v.ha v.hn v.hc, .slice v.la v.ln v.lc, .slice v.wa v.wn v.wc] 26] w := hO
    exact ⟨_, by omega, k + 1, _, rfl, by omega, by rw [e, e2]; cases ok <;> rfl, hF, hO⟩
  · refine W_seq (W_false ((evOp hF (by kernel_rfl)).trans (congrArg Value.bool hc2)) ?_)
    have hc2_ := of_decide_eq_false hc2
    refine (W_exit ?_)
    refine W_seq ?_
    refine W_seq (region_q {} TBok hF (F' := [(1, .pointer (some ⟨b1, 0, none⟩)), (2, .int .i64 0), (3, .bool ok), (60, .slice v.la v.ln v.lc), (61, .int .i64 (v.ln : Int)), (62, .int .i64 0)]) (rs := [.ld ⟨b1, 2, none⟩ (.slice v.la v.ln v.lc)]) [1, 2, 3, 60, 61, 62] (.cons (ldo hO.st 0 rfl 2 rfl) <| .nil) (by kernel_rfl) fun a w hF hE => ?_)
    replace hO := hO.ext hE; clear hE
    refine (W_block ?_)
    refine (W_loop (fun m a w => ∃ (k : Nat), ∃ (ok : Bool), m = v.ln - k ∧ k ≤ v.ln ∧ ok = (headB d && (d.heat.all spB && (d.lots.take k).all (lotB d.hours))) ∧ Fr 108 [] [(1, .pointer (some ⟨b1, 0, none⟩)), (2, .int .i64 0), (3, .bool ok), (60, .slice v.la v.ln v.lc), (61, .int .i64 (v.ln : Int)), (62, .int .i64 (k : Int))] a ∧ Own w0 none_ [cel b1 #[.int .i64 d.hours, .slice v.ha v.hn v.hc, .slice v.la v.ln v.lc, .slice v.wa v.wn v.wc] 26] w) _ ⟨0, ok, rfl, Nat.zero_le _, (by rw [hok, List.take_of_length_le (by omega)]; simp), hF, hO⟩ ?_)
    clear hF hO
    rintro _ a w ⟨k, ok, rfl, hk, hok, hF, hO⟩
    refine W_seq (region_q {} TBok hF (F' := [(1, .pointer (some ⟨b1, 0, none⟩)), (2, .int .i64 0), (3, .bool ok), (60, .slice v.la v.ln v.lc), (61, .int .i64 (v.ln : Int)), (62, .int .i64 (k : Int)), (63, .bool (decide ((k : Int) < (v.ln : Int))))]) (rs := []) [1, 2, 3, 60, 61, 62, 63] .nil (by kernel_rfl) fun a w hF hE => ?_)
    replace hO := hO.ext hE; clear hE
    rcases Bool.eq_false_or_eq_true (decide ((k : Int) < (v.ln : Int))) with hc4 | hc4
    · refine W_seq (W_true ((evOp hF (by kernel_rfl)).trans (congrArg Value.bool hc4)) ?_)
      have hc4_ := of_decide_eq_true hc4
      refine (W_skip ?_)
      refine W_seq (W_block ?_)
      refine W_seq (region_seq ?_)
      refine seq_quiet {} TBok hF (F' := [(1, .pointer (some ⟨b1, 0, none⟩)), (2, .int .i64 0), (3, .bool ok), (60, .slice v.la v.ln v.lc), (61, .int .i64 (v.ln : Int)), (62, .int .i64 (k : Int)), (65, .agg #[.int .i64 ((d.lots.getD k default).cr), .int .i64 ((d.lots.getD k default).la), .int .i64 ((d.lots.getD k default).ke), .int .i64 ((d.lots.getD k default).fi)])]) (rs := [.idx v.la v.ln (k : Int) 4 (adr v.la 4 (k : Int)), .lds (adr v.la 4 (k : Int)) [.int .i64 ((d.lots.getD k default).cr), .int .i64 ((d.lots.getD k default).la), .int .i64 ((d.lots.getD k default).ke), .int .i64 ((d.lots.getD k default).fi)]]) [0, 1] [2, 3] [1, 2, 3, 60, 61, 62, 65] (.cons (ix hd.lots (by omega) (by omega)) <| .cons (ldsx hO.st nom hd.lots (by omega) (by omega) rfl) <| .nil) (by kernel_rfl) fun a w hF hE => ?_
      replace hO := hO.ext hE; clear hE
      refine op_alloc (i := 2) (t := 59) (d := 7) (z := .agg #[.int .i64 0, .int .i64 0, .int .i64 0, .int .i64 0]) hF hO (by kernel_rfl) (by kernel_rfl) fun a w b5 hF hO _ => ?_
      replace hO : Own w0 none_ [cel b1 #[.int .i64 d.hours, .slice v.ha v.hn v.hc, .slice v.la v.ln v.lc, .slice v.wa v.wn v.wc] 26, cel b5 #[.int .i64 0, .int .i64 0, .int .i64 0, .int .i64 0] 59] w := hO
      refine op_store (i := 3) (t := 59) (p := ⟨b5, 0, none⟩) (v := .agg #[.int .i64 ((d.lots.getD k default).cr), .int .i64 ((d.lots.getD k default).la), .int .i64 ((d.lots.getD k default).ke), .int .i64 ((d.lots.getD k default).fi)]) (off := 0) (sz := 4) (cs' := #[.int .i64 ((d.lots.getD k default).cr), .int .i64 ((d.lots.getD k default).la), .int .i64 ((d.lots.getD k default).ke), .int .i64 ((d.lots.getD k default).fi)]) hF hO (by kernel_rfl) 1 rfl rfl (by kernel_rfl) (by kernel_rfl) (by kernel_rfl) fun a w hF hO _ => ?_
      replace hO : Own w0 none_ [cel b1 #[.int .i64 d.hours, .slice v.ha v.hn v.hc, .slice v.la v.ln v.lc, .slice v.wa v.wn v.wc] 26, cel b5 #[.int .i64 ((d.lots.getD k default).cr), .int .i64 ((d.lots.getD k default).la), .int .i64 ((d.lots.getD k default).ke), .int .i64 ((d.lots.getD k default).fi)] 59] w := hO
      replace hF := hF.sel [1, 2, 3, 7, 60, 61, 62]
      replace hF : Fr 108 [] [(1, .pointer (some ⟨b1, 0, none⟩)), (2, .int .i64 0), (3, .bool ok), (7, .pointer (some ⟨b5, 0, none⟩)), (60, .slice v.la v.ln v.lc), (61, .int .i64 (v.ln : Int)), (62, .int .i64 (k : Int))] a := hF
      refine (region_q { sy := [1, 6, 14, 19] } TBok hF (F' := [(1, .pointer (some ⟨b1, 0, none⟩)), (2, .int .i64 0), (3, .bool (cond (cond (cond (cond ok (inB ((d.lots.getD k default).cr) 1 50) false) (inB ((d.lots.getD k default).la) 0 (d.hours - 1)) false) (inB ((d.lots.getD k default).ke) 0 10000) false) (inB ((d.lots.getD k default).fi) 0 7) false)), (60, .slice v.la v.ln v.lc), (61, .int .i64 (v.ln : Int)), (62, .int .i64 (k : Int))]) (rs := [.und ok (.ld ⟨b5, 0, none⟩ (.int .i64 ((d.lots.getD k default).cr))), .und ok (.call 49 #[.int .i64 ((d.lots.getD k default).cr), .int .i64 1, .int .i64 50] (.bool (inB ((d.lots.getD k default).cr) 1 50))), .und (cond ok (inB ((d.lots.getD k default).cr) 1 50) false) (.ld ⟨b5, 1, none⟩ (.int .i64 ((d.lots.getD k default).la))), .und (cond ok (inB ((d.lots.getD k default).cr) 1 50) false) (.ld ⟨b1, 0, none⟩ (.int .i64 d.hours)), .und (cond ok (inB ((d.lots.getD k default).cr) 1 50) false) (.rng (d.hours - 1)), .und (cond ok (inB ((d.lots.getD k default).cr) 1 50) false) (.call 49 #[.int .i64 ((d.lots.getD k default).la), .int .i64 0, .int .i64 (d.hours - 1)] (.bool (inB ((d.lots.getD k default).la) 0 (d.hours - 1)))), .und (cond (cond ok (inB ((d.lots.getD k default).cr) 1 50) false) (inB ((d.lots.getD k default).la) 0 (d.hours - 1)) false) (.ld ⟨b5, 2, none⟩ (.int .i64 ((d.lots.getD k default).ke))), .und (cond (cond ok (inB ((d.lots.getD k default).cr) 1 50) false) (inB ((d.lots.getD k default).la) 0 (d.hours - 1)) false) (.call 49 #[.int .i64 ((d.lots.getD k default).ke), .int .i64 0, .int .i64 10000] (.bool (inB ((d.lots.getD k default).ke) 0 10000))), .und (cond (cond (cond ok (inB ((d.lots.getD k default).cr) 1 50) false) (inB ((d.lots.getD k default).la) 0 (d.hours - 1)) false) (inB ((d.lots.getD k default).ke) 0 10000) false) (.ld ⟨b5, 3, none⟩ (.int .i64 ((d.lots.getD k default).fi))), .und (cond (cond (cond ok (inB ((d.lots.getD k default).cr) 1 50) false) (inB ((d.lots.getD k default).la) 0 (d.hours - 1)) false) (inB ((d.lots.getD k default).ke) 0 10000) false) (.call 49 #[.int .i64 ((d.lots.getD k default).fi), .int .i64 0, .int .i64 7] (.bool (inB ((d.lots.getD k default).fi) 0 7)))]) [1, 2, 3, 60, 61, 62] (.cons (fun hg => (ldo hO.st 1 rfl 0 rfl)) <| .cons (fun hg => (fun w _ => within_calls _ _ _ w)) <| .cons (fun hg => (ldo hO.st 1 rfl 1 rfl)) <| .cons (fun hg => (ldo hO.st 0 rfl 0 rfl)) <| .cons (fun hg => rg (by have := okhours hok (guard_ok hg); omega)) <| .cons (fun hg => (fun w _ => within_calls _ _ _ w)) <| .cons (fun hg => (ldo hO.st 1 rfl 2 rfl)) <| .cons (fun hg => (fun w _ => within_calls _ _ _ w)) <| .cons (fun hg => (ldo hO.st 1 rfl 3 rfl)) <| .cons (fun hg => (fun w _ => within_calls _ _ _ w)) <| .nil) (by kernel_rfl) fun a w hF hE => ?_)
      replace hO := hO.ext hE; clear hE
      refine (region_q {} TBok hF (F' := [(1, .pointer (some ⟨b1, 0, none⟩)), (2, .int .i64 0), (3, .bool (cond (cond (cond (cond ok (inB ((d.lots.getD k default).cr) 1 50) false) (inB ((d.lots.getD k default).la) 0 (d.hours - 1)) false) (inB ((d.lots.getD k default).ke) 0 10000) false) (inB ((d.lots.getD k default).fi) 0 7) false)), (60, .slice v.la v.ln v.lc), (61, .int .i64 (v.ln : Int)), (62, .int .i64 ((k : Int) + 1))]) (rs := [.rng ((k : Int) + 1)]) [1, 2, 3, 60, 61, 62] (.cons (rg (by omega)) <| .nil) (by kernel_rfl) fun a w hF hE => ?_)
      replace hO := hO.ext hE; clear hE
      have e : (d.lots.take (k + 1)).all (lotB d.hours) = ((d.lots.take k).all (lotB d.hours) && (lotB d.hours) (d.lots.getD k default)) := take_all _ (by omega)
      have e2 : (headB d && (d.heat.all spB && ((d.lots.take k).all (lotB d.hours) && (lotB d.hours) (d.lots.getD k default)))) = (ok && (lotB d.hours) (d.lots.getD k default)) := by rw [hok]; simp only [Bool.and_assoc]
      replace hO := hO.drop1 1
      replace hO : Own w0 none_ [cel b1 #[.int .i64 d.hours, .slice v.ha v.hn v.hc, .slice v.la v.ln v.lc, .slice v.wa v.wn v.wc] 26] w := hO
      exact ⟨_, by omega, k + 1, _, rfl, by omega, by rw [e, e2]; cases ok <;> rfl, hF, hO⟩
    · refine W_seq (W_false ((evOp hF (by kernel_rfl)).trans (congrArg Value.bool hc4)) ?_)
      have hc4_ := of_decide_eq_false hc4
      refine (W_exit ?_)
      refine W_seq ?_
      refine W_seq (region_q {} TBok hF (F' := [(1, .pointer (some ⟨b1, 0, none⟩)), (2, .int .i64 0), (3, .bool ok), (92, .slice v.wa v.wn v.wc), (93, .int .i64 (v.wn : Int)), (94, .int .i64 0)]) (rs := [.ld ⟨b1, 3, none⟩ (.slice v.wa v.wn v.wc)]) [1, 2, 3, 92, 93, 94] (.cons (ldo hO.st 0 rfl 3 rfl) <| .nil) (by kernel_rfl) fun a w hF hE => ?_)
      replace hO := hO.ext hE; clear hE
      refine (W_block ?_)
      refine (W_loop (fun m a w => ∃ (k : Nat), ∃ (ok : Bool), m = v.wn - k ∧ k ≤ v.wn ∧ ok = (headB d && (d.heat.all spB && d.lots.all (lotB d.hours) && (d.wks.take k).all (wkB d.hours))) ∧ Fr 108 [] [(1, .pointer (some ⟨b1, 0, none⟩)), (2, .int .i64 0), (3, .bool ok), (92, .slice v.wa v.wn v.wc), (93, .int .i64 (v.wn : Int)), (94, .int .i64 (k : Int))] a ∧ Own w0 none_ [cel b1 #[.int .i64 d.hours, .slice v.ha v.hn v.hc, .slice v.la v.ln v.lc, .slice v.wa v.wn v.wc] 26] w) _ ⟨0, ok, rfl, Nat.zero_le _, (by rw [hok, List.take_of_length_le (by omega)]; simp), hF, hO⟩ ?_)
      clear hF hO
      rintro _ a w ⟨k, ok, rfl, hk, hok, hF, hO⟩
      refine W_seq (region_q {} TBok hF (F' := [(1, .pointer (some ⟨b1, 0, none⟩)), (2, .int .i64 0), (3, .bool ok), (92, .slice v.wa v.wn v.wc), (93, .int .i64 (v.wn : Int)), (94, .int .i64 (k : Int)), (95, .bool (decide ((k : Int) < (v.wn : Int))))]) (rs := []) [1, 2, 3, 92, 93, 94, 95] .nil (by kernel_rfl) fun a w hF hE => ?_)
      replace hO := hO.ext hE; clear hE
      rcases Bool.eq_false_or_eq_true (decide ((k : Int) < (v.wn : Int))) with hc6 | hc6
      · refine W_seq (W_true ((evOp hF (by kernel_rfl)).trans (congrArg Value.bool hc6)) ?_)
        have hc6_ := of_decide_eq_true hc6
        refine (W_skip ?_)
        refine W_seq (W_block ?_)
        refine W_seq (region_seq ?_)
        refine seq_quiet {} TBok hF (F' := [(1, .pointer (some ⟨b1, 0, none⟩)), (2, .int .i64 0), (3, .bool ok), (92, .slice v.wa v.wn v.wc), (93, .int .i64 (v.wn : Int)), (94, .int .i64 (k : Int)), (97, .agg #[.int .i64 ((d.wks.getD k default).kd), .int .i64 ((d.wks.getD k default).fr), .int .i64 ((d.wks.getD k default).to), .int .i64 ((d.wks.getD k default).rt)])]) (rs := [.idx v.wa v.wn (k : Int) 4 (adr v.wa 4 (k : Int)), .lds (adr v.wa 4 (k : Int)) [.int .i64 ((d.wks.getD k default).kd), .int .i64 ((d.wks.getD k default).fr), .int .i64 ((d.wks.getD k default).to), .int .i64 ((d.wks.getD k default).rt)]]) [0, 1] [2, 3] [1, 2, 3, 92, 93, 94, 97] (.cons (ix hd.wks (by omega) (by omega)) <| .cons (ldsx hO.st nom hd.wks (by omega) (by omega) rfl) <| .nil) (by kernel_rfl) fun a w hF hE => ?_
        replace hO := hO.ext hE; clear hE
        refine op_alloc (i := 2) (t := 61) (d := 9) (z := .agg #[.int .i64 0, .int .i64 0, .int .i64 0, .int .i64 0]) hF hO (by kernel_rfl) (by kernel_rfl) fun a w b7 hF hO _ => ?_
        replace hO : Own w0 none_ [cel b1 #[.int .i64 d.hours, .slice v.ha v.hn v.hc, .slice v.la v.ln v.lc, .slice v.wa v.wn v.wc] 26, cel b7 #[.int .i64 0, .int .i64 0, .int .i64 0, .int .i64 0] 61] w := hO
        refine op_store (i := 3) (t := 61) (p := ⟨b7, 0, none⟩) (v := .agg #[.int .i64 ((d.wks.getD k default).kd), .int .i64 ((d.wks.getD k default).fr), .int .i64 ((d.wks.getD k default).to), .int .i64 ((d.wks.getD k default).rt)]) (off := 0) (sz := 4) (cs' := #[.int .i64 ((d.wks.getD k default).kd), .int .i64 ((d.wks.getD k default).fr), .int .i64 ((d.wks.getD k default).to), .int .i64 ((d.wks.getD k default).rt)]) hF hO (by kernel_rfl) 1 rfl rfl (by kernel_rfl) (by kernel_rfl) (by kernel_rfl) fun a w hF hO _ => ?_
        replace hO : Own w0 none_ [cel b1 #[.int .i64 d.hours, .slice v.ha v.hn v.hc, .slice v.la v.ln v.lc, .slice v.wa v.wn v.wc] 26, cel b7 #[.int .i64 ((d.wks.getD k default).kd), .int .i64 ((d.wks.getD k default).fr), .int .i64 ((d.wks.getD k default).to), .int .i64 ((d.wks.getD k default).rt)] 61] w := hO
        replace hF := hF.sel [1, 2, 3, 9, 92, 93, 94]
        replace hF : Fr 108 [] [(1, .pointer (some ⟨b1, 0, none⟩)), (2, .int .i64 0), (3, .bool ok), (9, .pointer (some ⟨b7, 0, none⟩)), (92, .slice v.wa v.wn v.wc), (93, .int .i64 (v.wn : Int)), (94, .int .i64 (k : Int))] a := hF
        refine (region_q { sy := [1] } TBok hF (F' := [(1, .pointer (some ⟨b1, 0, none⟩)), (2, .int .i64 0), (3, .bool (cond ok (wkB d.hours (d.wks.getD k default)) false)), (92, .slice v.wa v.wn v.wc), (93, .int .i64 (v.wn : Int)), (94, .int .i64 (k : Int))]) (rs := [.und ok (.lds ⟨b7, 0, none⟩ [.int .i64 ((d.wks.getD k default).kd), .int .i64 ((d.wks.getD k default).fr), .int .i64 ((d.wks.getD k default).to), .int .i64 ((d.wks.getD k default).rt)]), .und ok (.ld ⟨b1, 0, none⟩ (.int .i64 d.hours)), .und ok (.call 54 #[.agg #[.int .i64 ((d.wks.getD k default).kd), .int .i64 ((d.wks.getD k default).fr), .int .i64 ((d.wks.getD k default).to), .int .i64 ((d.wks.getD k default).rt)], .int .i64 d.hours] (.bool (wkB d.hours (d.wks.getD k default))))]) [1, 2, 3, 92, 93, 94] (.cons (fun hg => (ldso hO.st 1 rfl 0 rfl)) <| .cons (fun hg => (ldo hO.st 0 rfl 0 rfl)) <| .cons (fun hg => (fun w _ => isWorker_calls (d.wks.getD k default) d.hours w (by have := okhours hok hg; omega))) <| .nil) (by kernel_rfl) fun a w hF hE => ?_)
        replace hO := hO.ext hE; clear hE
        refine (region_q {} TBok hF (F' := [(1, .pointer (some ⟨b1, 0, none⟩)), (2, .int .i64 0), (3, .bool (cond ok (wkB d.hours (d.wks.getD k default)) false)), (92, .slice v.wa v.wn v.wc), (93, .int .i64 (v.wn : Int)), (94, .int .i64 ((k : Int) + 1))]) (rs := [.rng ((k : Int) + 1)]) [1, 2, 3, 92, 93, 94] (.cons (rg (by omega)) <| .nil) (by kernel_rfl) fun a w hF hE => ?_)
        replace hO := hO.ext hE; clear hE
        have e : (d.wks.take (k + 1)).all (wkB d.hours) = ((d.wks.take k).all (wkB d.hours) && (wkB d.hours) (d.wks.getD k default)) := take_all _ (by omega)
        have e2 : (headB d && (d.heat.all spB && d.lots.all (lotB d.hours) && ((d.wks.take k).all (wkB d.hours) && (wkB d.hours) (d.wks.getD k default)))) = (ok && (wkB d.hours) (d.wks.getD k default)) := by rw [hok]; simp only [Bool.and_assoc]
        replace hO := hO.drop1 1
        replace hO : Own w0 none_ [cel b1 #[.int .i64 d.hours, .slice v.ha v.hn v.hc, .slice v.la v.ln v.lc, .slice v.wa v.wn v.wc] 26] w := hO
        exact ⟨_, by omega, k + 1, _, rfl, by omega, by rw [e, e2]; cases ok <;> rfl, hF, hO⟩
      · refine W_seq (W_false ((evOp hF (by kernel_rfl)).trans (congrArg Value.bool hc6)) ?_)
        have hc6_ := of_decide_eq_false hc6
        refine (W_exit ?_)
        refine W_seq ?_
        refine W_seq (region_q {} TBok hF (F' := [(2, .int .i64 0), (107, .bool (!ok))]) (rs := []) [2, 107] .nil (by kernel_rfl) fun a w hF hE => ?_)
        replace hO := hO.ext hE; clear hE
        rcases Bool.eq_false_or_eq_true (!ok) with hc8 | hc8
        · refine (W_true ((evOp hF (by kernel_rfl)).trans (congrArg Value.bool hc8)) ?_)
          refine W_seq (region_q {} TBok hF (F' := [(2, .int .i64 50)]) (rs := []) [2] .nil (by kernel_rfl) fun a w hF hE => ?_)
          replace hO := hO.ext hE; clear hE
          refine W_ret ?_
          show bodyPostM (FW none) 0 _ _ _ Exit.ret a w
          have hok2 : dayB d = ok := by rw [hok, dayB, List.take_of_length_le (by omega)]; simp [Bool.and_assoc]
          have hok3 : ok = false := by simpa using hc8
          exact leave_r TBok hF (.nil _) (vs := [.int .i64 50]) (rs := []) .nil (by kernel_rfl) ⟨by rw [chk, hok2, hok3]; rfl, hO.kp⟩
        · refine (W_false ((evOp hF (by kernel_rfl)).trans (congrArg Value.bool hc8)) ?_)
          refine (W_skip ?_)
          refine W_seq (region_q {} TBok hF (F' := [(2, .int .i64 0)]) (rs := []) [2] .nil (by kernel_rfl) fun a w hF hE => ?_)
          replace hO := hO.ext hE; clear hE
          refine W_ret ?_
          show bodyPostM (FW none) 0 _ _ _ Exit.ret a w
          have hok2 : dayB d = ok := by rw [hok, dayB, List.take_of_length_le (by omega)]; simp [Bool.and_assoc]
          have hok3 : ok = true := by simpa using hc8
          exact leave_r TBok hF (.nil _) (vs := [.int .i64 0]) (rs := []) .nil (by kernel_rfl) ⟨by rw [chk, hok2, hok3]; rfl, hO.kp⟩

end Go.Proofs.Ytioimdegbdkppaa.DK
