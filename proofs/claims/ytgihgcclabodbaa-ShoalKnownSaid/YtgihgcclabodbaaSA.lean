/- Walks: the check of a sea; places. Printed by my gen.py out of shoal/a.py. -/
import Derived.Test.YtgihgcclabodbaaSDef
import Derived.Test.YtgihgcclabodbaaProg
namespace Go.Proofs.Ytgihgcclabodbaa.DK
open Go Go.Proofs
set_option linter.unusedVariables false
set_option linter.unusedSimpArgs false

def TB : Tbl := { fld := [(25, [0, 1, 2, 3, 4, 5]), (28, [0, 6]), (52, [0, 1, 2, 3]), (64, [0, 1]), (70, [0, 1]), (77, [0, 6]), (80, [0, 7]), (85, [0, 1]), (105, [0, 4]), (114, [0, 2]), (125, [0])], sl := [(22, 1), (23, 2), (26, 4), (44, 2), (59, 1), (72, 6), (73, 1), (78, 6), (92, 80), (108, 2), (109, 3)], arr := [(38, 2, 1), (55, 3, 1), (99, 80, 1)], agg := [(25, 6), (28, 7), (38, 2), (52, 4), (55, 3), (64, 2), (70, 2), (77, 7), (80, 8), (85, 2), (99, 80), (105, 6), (114, 3), (125, 1)], sca := [3, 4, 22, 23, 26, 44, 54, 59, 65, 72, 73, 75, 78, 92, 108, 109, 116, 122], fns := [3, 4, 5, 6, 7, 8, 9, 10, 11, 12, 13, 14, 15, 16, 17, 18, 19, 20, 21, 22, 23, 24, 25, 26, 27, 28, 29, 30, 31, 32, 33, 34, 35, 36, 37, 38, 39, 40, 41, 42, 43, 44, 45, 46, 47, 48, 49, 50, 51, 52, 53, 54, 55, 56, 57, 58, 59, 60, 61, 62, 63, 64, 65, 66, 67, 68, 69, 70, 71, 72, 73, 74, 75, 76, 77, 78, 79, 80, 81, 82, 83, 84, 85, 86, 87] }
theorem TBok : Tbl.ok Try.prog TB = true := by kernel_rfl
theorem mixed : Try.prog.follows .mixedOrders = true := by kernel_rfl
theorem boolT4 : Try.prog.underlying 4 = some .bool := by kernel_rfl
theorem arrT99 : arrTy Try.prog 99 80 = true := by kernel_rfl
theorem arrG99 : Try.prog.eqGuardType Try.prog.depth 99 = false := by kernel_rfl
theorem pairT85 : pairTy Try.prog 85 = true := by kernel_rfl
theorem pairG85 : Try.prog.eqGuardType Try.prog.depth 85 = false := by kernel_rfl
theorem rowT22 : rowTy Try.prog 22 3 1 = true := by kernel_rfl
theorem rowT23 : rowTy Try.prog 23 70 2 = true := by kernel_rfl
theorem rowT26 : rowTy Try.prog 26 52 4 = true := by kernel_rfl
theorem rowT44 : rowTy Try.prog 44 64 2 = true := by kernel_rfl
theorem rowT78 : rowTy Try.prog 78 105 6 = true := by kernel_rfl
theorem rowT108 : rowTy Try.prog 108 85 2 = true := by kernel_rfl
theorem rowT109 : rowTy Try.prog 109 114 3 = true := by kernel_rfl
theorem mt75 : mapTy Try.prog 75 85 4 (.bool false) := ⟨by kernel_rfl, by kernel_rfl, by kernel_rfl⟩
theorem risD {ok : Bool} {ln last : Int} {xs : List Int} {k : Nat} (hk : k < xs.length) : (ok && risF ln last (xs.drop k)) = (cond ok (inB (xs.getD k default) (last + 1) (ln - 1)) false && risF ln (xs.getD k default) (xs.drop (k + 1))) := by
  rw [drop_getD hk, risF]
  cases ok <;> cases inB (xs.getD k default) (last + 1) (ln - 1) <;> rfl
theorem risDb {ok : Bool} {ln last x : Int} (h : ok = true → 1 ≤ ln ∧ ln ≤ 80 ∧ -1 ≤ last ∧ last ≤ 80) (h2 : cond ok (inB x (last + 1) (ln - 1)) false = true) : 1 ≤ ln ∧ ln ≤ 80 ∧ -1 ≤ x ∧ x ≤ 80 := by
  cases ok with
  | false => cases h2
  | true => have h3 := inB_iff.1 h2; have h4 := h rfl; omega
theorem guard4 {a b c : Bool} {n : Int} (h : cond (cond (cond a b false) c false) (inB n 1 12) false = true) : 1 ≤ n ∧ n ≤ 12 := by
  cases a <;> cases b <;> cases c <;> simp at h
  exact inB_iff.1 h

set_option maxHeartbeats 4000000 in
set_option maxRecDepth 100000 in
theorem within_calls (n lo hi : Int) (w0 : World) :
    Calls Try.prog 48 #[iv n, iv lo, iv hi] w0 (fun e w' => e = .returned (.bool (inB n lo hi)) ∧ Ext w0 w') := by
  refine calls_of_W Try.func48 rfl (by kernel_rfl) (args := [iv n, iv lo, iv hi]) fun a hF => ?_
  replace hF : Fr 15 [] [(0, iv n), (1, iv lo), (2, iv hi)] a := hF
  have hO : Own w0 none_ [] w0 := Own.start w0 _
  refine W_seq (region_q {} TBok hF (F' := [(0, iv n), (1, iv lo), (2, iv hi), (6, .bool false)]) (rs := []) [0, 1, 2, 6] .nil (by kernel_rfl) fun a w hF hE => ?_)
  replace hO := hO.ext hE; clear hE
  refine W_seq (region_q { sy := [3] } TBok hF (F' := [(6, .bool (cond (decide (lo ≤ n)) (decide (n ≤ hi)) false))]) (rs := []) [6] .nil (by kernel_rfl) fun a w hF hE => ?_)
  replace hO := hO.ext hE; clear hE
  refine W_ret ?_
  show bodyPostM (FW none) 0 _ _ _ Exit.ret a w
  exact leave_r TBok hF (.nil _) (vs := [.bool (cond (decide (lo ≤ n)) (decide (n ≤ hi)) false)]) (rs := []) .nil (by kernel_rfl) ⟨rfl, hO.kp⟩

set_option maxHeartbeats 4000000 in
set_option maxRecDepth 100000 in
theorem In_calls (n lo hi : Int) (w0 : World) :
    Calls Try.prog 40 #[iv n, iv lo, iv hi] w0 (fun e w' => e = .returned (.bool (inB n lo hi)) ∧ Ext w0 w') := by
  refine calls_of_W Try.func40 rfl (by kernel_rfl) (args := [iv n, iv lo, iv hi]) fun a hF => ?_
  replace hF : Fr 15 [] [(0, iv n), (1, iv lo), (2, iv hi)] a := hF
  have hO : Own w0 none_ [] w0 := Own.start w0 _
  refine W_seq (region_q {} TBok hF (F' := [(0, iv n), (1, iv lo), (2, iv hi), (6, .bool false)]) (rs := []) [0, 1, 2, 6] .nil (by kernel_rfl) fun a w hF hE => ?_)
  replace hO := hO.ext hE; clear hE
  refine W_seq (region_q { sy := [3] } TBok hF (F' := [(6, .bool (cond (decide (lo ≤ n)) (decide (n ≤ hi)) false))]) (rs := []) [6] .nil (by kernel_rfl) fun a w hF hE => ?_)
  replace hO := hO.ext hE; clear hE
  refine W_ret ?_
  show bodyPostM (FW none) 0 _ _ _ Exit.ret a w
  exact leave_r TBok hF (.nil _) (vs := [.bool (cond (decide (lo ≤ n)) (decide (n ≤ hi)) false)]) (rs := []) .nil (by kernel_rfl) ⟨rfl, hO.kp⟩

set_option maxHeartbeats 4000000 in
set_option maxRecDepth 100000 in
theorem Abs_calls (n : Int) (w0 : World) (hn : -9223372036854775807 ≤ n ∧ n ≤ 9223372036854775807) :
    Calls Try.prog 74 #[iv n] w0 (fun e w' => e = .returned (iv (absI n)) ∧ Ext w0 w') := by
  refine calls_of_W Try.func74 rfl (by kernel_rfl) (args := [iv n]) fun a hF => ?_
  replace hF : Fr 7 [] [(0, iv n)] a := hF
  have hO : Own w0 none_ [] w0 := Own.start w0 _
  refine W_seq (region_q {} TBok hF (F' := [(0, iv n), (2, iv 0)]) (rs := []) [0, 2] .nil (by kernel_rfl) fun a w hF hE => ?_)
  replace hO := hO.ext hE; clear hE
  refine W_seq (region_q { md := [(1, 3), (3, 3)] } TBok hF (F' := [(2, iv (mx (-n) n))]) (rs := [.raw (Op.unary .neg (iv n)) (iv (-n)), .raw (Builtin.max_ #[3, 3] 3 #[iv (-n), iv n]) (iv (mx (-n) n))]) [2] (.cons (raw_neg hn) <| .cons raw_max2 <| .nil) (by kernel_rfl) fun a w hF hE => ?_)
  replace hO := hO.ext hE; clear hE
  refine W_ret ?_
  show bodyPostM (FW none) 0 _ _ _ Exit.ret a w
  exact leave_r TBok hF (.nil _) (vs := [iv (mx (-n) n)]) (rs := []) .nil (by kernel_rfl) ⟨rfl, hO.kp⟩

set_option maxHeartbeats 4000000 in
set_option maxRecDepth 100000 in
theorem far_calls (p o : Int × Int) (w0 : World) (hp : plB p) (ho : plB o) :
    Calls Try.prog 79 #[.agg #[iv p.1, iv p.2], .agg #[iv o.1, iv o.2]] w0 (fun e w' => e = .returned (iv (farP p o)) ∧ Ext w0 w') := by
  unfold plB at hp ho
  refine calls_of_W Try.func79 rfl (by kernel_rfl) (args := [.agg #[iv p.1, iv p.2], .agg #[iv o.1, iv o.2]]) fun a hF => ?_
  replace hF : Fr 26 [] [(0, .agg #[iv p.1, iv p.2]), (1, .agg #[iv o.1, iv o.2])] a := hF
  have hO : Own w0 none_ [] w0 := Own.start w0 _
  refine W_seq (region_seq ?_)
  refine op_box (i := 0) (t := 85) (v := .agg #[iv p.1, iv p.2]) (d := 2) hF hO (by kernel_rfl) fun a w b1 hF hO _ => ?_
  refine op_box (i := 1) (t := 85) (v := .agg #[iv o.1, iv o.2]) (d := 3) hF hO (by kernel_rfl) fun a w b2 hF hO _ => ?_
  refine seq_quiet {} TBok hF (F' := [(2, pv b1), (3, pv b2), (4, iv 0)]) (rs := []) [2] [] [2, 3, 4] .nil (by kernel_rfl) fun a w hF hE => ?_
  replace hO := hO.ext hE; clear hE
  refine W_seq (region_q { md := [(20, 3)] } TBok hF (F' := [(4, iv (mx (mx (mx (p.1 - o.1) (o.1 - p.1)) (p.2 - o.2)) (o.2 - p.2)))]) (rs := [.ld ⟨b1, 0, none⟩ (iv p.1), .ld ⟨b2, 0, none⟩ (iv o.1), .rng (p.1 - o.1), .ld ⟨b2, 0, none⟩ (iv o.1), .ld ⟨b1, 0, none⟩ (iv p.1), .rng (o.1 - p.1), .ld ⟨b1, 1, none⟩ (iv p.2), .ld ⟨b2, 1, none⟩ (iv o.2), .rng (p.2 - o.2), .ld ⟨b2, 1, none⟩ (iv o.2), .ld ⟨b1, 1, none⟩ (iv p.2), .rng (o.2 - p.2), .raw (Builtin.max_ #[3, 3, 3, 3] 3 #[iv (p.1 - o.1), iv (o.1 - p.1), iv (p.2 - o.2), iv (o.2 - p.2)]) (iv (mx (mx (mx (p.1 - o.1) (o.1 - p.1)) (p.2 - o.2)) (o.2 - p.2)))]) [4] (.cons (ldo hO.st 0 rfl 0 rfl) <| .cons (ldo hO.st 1 rfl 0 rfl) <| .cons (rg (by omega)) <| .cons (ldo hO.st 1 rfl 0 rfl) <| .cons (ldo hO.st 0 rfl 0 rfl) <| .cons (rg (by omega)) <| .cons (ldo hO.st 0 rfl 1 rfl) <| .cons (ldo hO.st 1 rfl 1 rfl) <| .cons (rg (by omega)) <| .cons (ldo hO.st 1 rfl 1 rfl) <| .cons (ldo hO.st 0 rfl 1 rfl) <| .cons (rg (by omega)) <| .cons raw_max4 <| .nil) (by kernel_rfl) fun a w hF hE => ?_)
  replace hO := hO.ext hE; clear hE
  refine W_ret ?_
  show bodyPostM (FW none) 0 _ _ _ Exit.ret a w
  exact leave_r TBok hF (.nil _) (vs := [iv (mx (mx (mx (p.1 - o.1) (o.1 - p.1)) (p.2 - o.2)) (o.2 - p.2))]) (rs := []) .nil (by kernel_rfl) ⟨rfl, hO.kp⟩

set_option maxHeartbeats 4000000 in
set_option maxRecDepth 100000 in
theorem Check_calls (s : Sea) (v : SV) (w0 : World) (hs : SeaR w0.heap.size w0 v s) :
    Calls Try.prog 18 #[.agg (sS6 s v)] w0 (fun e w' => e = .returned (iv (chk s)) ∧ Ext w0 w') := by
  have hl1 := hs.land.len; have hl2 := hs.drift.len; have hs1 := hs.land.size; have hs2 := hs.drift.size; have hr_ := hs.rg; unfold i64 at hr_
  refine calls_of_W Try.func18 rfl (by kernel_rfl) (args := [.agg (sS6 s v)]) fun a hF => ?_
  replace hF : Fr 79 [] [(0, .agg (sS6 s v))] a := hF
  have hO : Own w0 none_ [] w0 := Own.start w0 _
  refine W_seq (region_seq ?_)
  refine op_box (i := 0) (t := 25) (v := .agg (sS6 s v)) (d := 1) hF hO (by kernel_rfl) fun a w b1 hF hO _ => ?_
  refine seq_quiet {} TBok hF (F' := [(1, pv b1), (2, iv 0)]) (rs := []) [1] [] [1, 2] .nil (by kernel_rfl) fun a w hF hE => ?_
  replace hO := hO.ext hE; clear hE
  refine W_seq (region_q { sy := [3, 8, 13, 18] } TBok hF (F' := [(1, pv b1), (2, iv 0), (3, .bool (cond (cond (cond (cond (inB s.wide 1 10) (inB s.high 1 8) false) (inB s.speed 0 2) false) (inB s.hours 1 12) false) ((v.dn : Int) == (s.hours - 1)) false))]) (rs := [.ld ⟨b1, 0, none⟩ (iv s.wide), .call 48 #[iv s.wide, iv 1, iv 10] (.bool (inB s.wide 1 10)), .und (inB s.wide 1 10) (.ld ⟨b1, 1, none⟩ (iv s.high)), .und (inB s.wide 1 10) (.call 48 #[iv s.high, iv 1, iv 8] (.bool (inB s.high 1 8))), .und (cond (inB s.wide 1 10) (inB s.high 1 8) false) (.ld ⟨b1, 5, none⟩ (iv s.speed)), .und (cond (inB s.wide 1 10) (inB s.high 1 8) false) (.call 48 #[iv s.speed, iv 0, iv 2] (.bool (inB s.speed 0 2))), .und (cond (cond (inB s.wide 1 10) (inB s.high 1 8) false) (inB s.speed 0 2) false) (.ld ⟨b1, 3, none⟩ (iv s.hours)), .und (cond (cond (inB s.wide 1 10) (inB s.high 1 8) false) (inB s.speed 0 2) false) (.call 48 #[iv s.hours, iv 1, iv 12] (.bool (inB s.hours 1 12))), .und (cond (cond (cond (inB s.wide 1 10) (inB s.high 1 8) false) (inB s.speed 0 2) false) (inB s.hours 1 12) false) (.ld ⟨b1, 4, none⟩ (.slice v.da v.dn v.dc)), .und (cond (cond (cond (inB s.wide 1 10) (inB s.high 1 8) false) (inB s.speed 0 2) false) (inB s.hours 1 12) false) (.ld ⟨b1, 3, none⟩ (iv s.hours)), .und (cond (cond (cond (inB s.wide 1 10) (inB s.high 1 8) false) (inB s.speed 0 2) false) (inB s.hours 1 12) false) (.rng (s.hours - 1))]) [1, 2, 3] (.cons (ldo hO.st 0 rfl 0 rfl) <| .cons (fun w _ => within_calls _ _ _ w) <| .cons (fun hg => (ldo hO.st 0 rfl 1 rfl)) <| .cons (fun hg => (fun w _ => within_calls _ _ _ w)) <| .cons (fun hg => (ldo hO.st 0 rfl 5 rfl)) <| .cons (fun hg => (fun w _ => within_calls _ _ _ w)) <| .cons (fun hg => (ldo hO.st 0 rfl 3 rfl)) <| .cons (fun hg => (fun w _ => within_calls _ _ _ w)) <| .cons (fun hg => (ldo hO.st 0 rfl 4 rfl)) <| .cons (fun hg => (ldo hO.st 0 rfl 3 rfl)) <| .cons (fun hg => rg (by have h_ := guard4 hg; omega)) <| .nil) (by kernel_rfl) fun a w hF hE => ?_)
  replace hO := hO.ext hE; clear hE
  refine W_seq (region_q {} TBok hF (F' := [(1, pv b1), (2, iv 0), (3, .bool (cond (cond (cond (cond (inB s.wide 1 10) (inB s.high 1 8) false) (inB s.speed 0 2) false) (inB s.hours 1 12) false) ((v.dn : Int) == (s.hours - 1)) false)), (4, iv (-1))]) (rs := []) [1, 2, 3, 4] .nil (by kernel_rfl) fun a w hF hE => ?_)
  replace hO := hO.ext hE; clear hE
  refine W_seq ?_
  refine W_seq (region_q {} TBok hF (F' := [(1, pv b1), (2, iv 0), (3, .bool (cond (cond (cond (cond (inB s.wide 1 10) (inB s.high 1 8) false) (inB s.speed 0 2) false) (inB s.hours 1 12) false) ((v.dn : Int) == (s.hours - 1)) false)), (4, iv (-1)), (37, .slice v.la v.ln v.lc), (38, iv (v.ln : Int)), (39, iv 0)]) (rs := [.ld ⟨b1, 2, none⟩ (.slice v.la v.ln v.lc)]) [1, 2, 3, 4, 37, 38, 39] (.cons (ldo hO.st 0 rfl 2 rfl) <| .nil) (by kernel_rfl) fun a w hF hE => ?_)
  replace hO := hO.ext hE; clear hE
  refine (W_block ?_)
  have hh0 : headB s = (cond (cond (cond (cond (inB s.wide 1 10) (inB s.high 1 8) false) (inB s.speed 0 2) false) (inB s.hours 1 12) false) ((v.dn : Int) == (s.hours - 1)) false) := by unfold headB; rw [hl2]
  refine (W_loop (fun m a w => ∃ (k : Nat), ∃ (ok : Bool), ∃ (last : Int), m = v.ln - k ∧ k ≤ v.ln ∧ (ok = true → 1 ≤ nC s ∧ nC s ≤ 80 ∧ -1 ≤ last ∧ last ≤ 80) ∧ ((ok && risF (nC s) last (s.land.drop k)) = (headB s && risF (nC s) (-1) s.land)) ∧ Fr 79 [] [(1, pv b1), (2, iv 0), (3, .bool ok), (4, iv last), (37, .slice v.la v.ln v.lc), (38, iv (v.ln : Int)), (39, iv (k : Int))] a ∧ Own w0 none_ [cel b1 (sS6 s v) 25] w) _ ⟨0, _, (-1), rfl, Nat.zero_le _, (fun h_ => by rw [← hh0] at h_; have h1_ := head_ok h_; have h2_ := nC_bd (s := s) (by omega) (by omega) (by omega) (by omega); omega), (by rw [← hh0]; rfl), hF, hO⟩ ?_)
  clear hF hO
  rintro _ a w ⟨k, ok, last, rfl, hk, hla, hok, hF, hO⟩
  refine W_seq (region_q {} TBok hF (F' := [(1, pv b1), (2, iv 0), (3, .bool ok), (4, iv last), (37, .slice v.la v.ln v.lc), (38, iv (v.ln : Int)), (39, iv (k : Int)), (40, .bool (decide ((k : Int) < (v.ln : Int))))]) (rs := []) [1, 2, 3, 4, 37, 38, 39, 40] .nil (by kernel_rfl) fun a w hF hE => ?_)
  replace hO := hO.ext hE; clear hE
  rcases Bool.eq_false_or_eq_true (decide ((k : Int) < (v.ln : Int))) with hc2 | hc2
  · refine W_seq (W_true ((evOp hF (by kernel_rfl)).trans (congrArg Value.bool hc2)) ?_)
    have hc2_ := of_decide_eq_true hc2
    refine (W_skip ?_)
    refine W_seq (W_block ?_)
    refine W_seq (region_q {} TBok hF (F' := [(1, pv b1), (2, iv 0), (3, .bool ok), (4, iv last), (6, iv (s.land.getD k default)), (37, .slice v.la v.ln v.lc), (38, iv (v.ln : Int)), (39, iv (k : Int))]) (rs := [.idx v.la v.ln (k : Int) 1 (adr v.la 1 (k : Int)), .ld (adr v.la 1 (k : Int)) (iv (s.land.getD k default))]) [1, 2, 3, 4, 6, 37, 38, 39] (.cons (ix hs.land (by omega) (by omega)) <| .cons (ldx hO.st nom hs.land (by omega) (by omega) 0 rfl) <| .nil) (by kernel_rfl) fun a w hF hE => ?_)
    replace hO := hO.ext hE; clear hE
    refine W_seq (region_q { sy := [1] } TBok hF (F' := [(1, pv b1), (2, iv 0), (3, .bool (cond ok (inB (s.land.getD k default) (last + 1) ((s.wide * s.high) - 1)) false)), (4, iv last), (6, iv (s.land.getD k default)), (37, .slice v.la v.ln v.lc), (38, iv (v.ln : Int)), (39, iv (k : Int))]) (rs := [.und ok (.rng (last + 1)), .und ok (.ld ⟨b1, 0, none⟩ (iv s.wide)), .und ok (.ld ⟨b1, 1, none⟩ (iv s.high)), .und ok (.rng (s.wide * s.high)), .und ok (.rng ((s.wide * s.high) - 1)), .und ok (.call 48 #[iv (s.land.getD k default), iv (last + 1), iv ((s.wide * s.high) - 1)] (.bool (inB (s.land.getD k default) (last + 1) ((s.wide * s.high) - 1))))]) [1, 2, 3, 4, 6, 37, 38, 39] (.cons (fun hg => rg (by have := hla hg; unfold nC at this; omega)) <| .cons (fun hg => (ldo hO.st 0 rfl 0 rfl)) <| .cons (fun hg => (ldo hO.st 0 rfl 1 rfl)) <| .cons (fun hg => rg (by have := hla hg; unfold nC at this; omega)) <| .cons (fun hg => rg (by have := hla hg; unfold nC at this; omega)) <| .cons (fun hg => (fun w _ => within_calls _ _ _ w)) <| .nil) (by kernel_rfl) fun a w hF hE => ?_)
    replace hO := hO.ext hE; clear hE
    refine (region_q {} TBok hF (F' := [(1, pv b1), (2, iv 0), (3, .bool (cond ok (inB (s.land.getD k default) (last + 1) ((s.wide * s.high) - 1)) false)), (4, iv (s.land.getD k default)), (37, .slice v.la v.ln v.lc), (38, iv (v.ln : Int)), (39, iv (k : Int))]) (rs := []) [1, 2, 3, 4, 37, 38, 39] .nil (by kernel_rfl) fun a w hF hE => ?_)
    replace hO := hO.ext hE; clear hE
    refine (region_q {} TBok hF (F' := [(1, pv b1), (2, iv 0), (3, .bool (cond ok (inB (s.land.getD k default) (last + 1) ((s.wide * s.high) - 1)) false)), (4, iv (s.land.getD k default)), (37, .slice v.la v.ln v.lc), (38, iv (v.ln : Int)), (39, iv ((k : Int) + 1))]) (rs := [.rng ((k : Int) + 1)]) [1, 2, 3, 4, 37, 38, 39] (.cons (rg (by omega)) <| .nil) (by kernel_rfl) fun a w hF hE => ?_)
    replace hO := hO.ext hE; clear hE
    have hstp := risD (ok := ok) (ln := nC s) (last := last) (xs := s.land) (k := k) (by omega)
    exact ⟨_, by omega, k + 1, _, _, rfl, by omega, risDb hla, hstp.symm.trans hok, hF, hO⟩
  · refine W_seq (W_false ((evOp hF (by kernel_rfl)).trans (congrArg Value.bool hc2)) ?_)
    have hc2_ := of_decide_eq_false hc2
    refine (W_exit ?_)
    refine W_seq ?_
    refine W_seq (region_q {} TBok hF (F' := [(2, iv 0), (3, .bool ok), (59, .slice v.da v.dn v.dc), (60, iv (v.dn : Int)), (61, iv 0)]) (rs := [.ld ⟨b1, 4, none⟩ (.slice v.da v.dn v.dc)]) [2, 3, 59, 60, 61] (.cons (ldo hO.st 0 rfl 4 rfl) <| .nil) (by kernel_rfl) fun a w hF hE => ?_)
    replace hO := hO.ext hE; clear hE
    refine (W_block ?_)
    refine (W_loop (fun m a w => ∃ (k : Nat), ∃ (ok : Bool), m = v.dn - k ∧ k ≤ v.dn ∧ ok = (headB s && risF (nC s) (-1) s.land && (s.drift.take k).all stB) ∧ Fr 79 [] [(2, iv 0), (3, .bool ok), (59, .slice v.da v.dn v.dc), (60, iv (v.dn : Int)), (61, iv (k : Int))] a ∧ Own w0 none_ [cel b1 (sS6 s v) 25] w) _ ⟨0, _, rfl, Nat.zero_le _, (by rw [← hok, List.drop_of_length_le (by omega)]; simp [risF]), hF, hO⟩ ?_)
    clear hF hO
    rintro _ a w ⟨k, ok, rfl, hk, hok, hF, hO⟩
    refine W_seq (region_q {} TBok hF (F' := [(2, iv 0), (3, .bool ok), (59, .slice v.da v.dn v.dc), (60, iv (v.dn : Int)), (61, iv (k : Int)), (62, .bool (decide ((k : Int) < (v.dn : Int))))]) (rs := []) [2, 3, 59, 60, 61, 62] .nil (by kernel_rfl) fun a w hF hE => ?_)
    replace hO := hO.ext hE; clear hE
    rcases Bool.eq_false_or_eq_true (decide ((k : Int) < (v.dn : Int))) with hc3 | hc3
    · refine W_seq (W_true ((evOp hF (by kernel_rfl)).trans (congrArg Value.bool hc3)) ?_)
      have hc3_ := of_decide_eq_true hc3
      refine (W_skip ?_)
      refine W_seq (W_block ?_)
      refine W_seq (region_seq ?_)
      refine seq_quiet {} TBok hF (F' := [(2, iv 0), (3, .bool ok), (59, .slice v.da v.dn v.dc), (60, iv (v.dn : Int)), (61, iv (k : Int)), (64, .agg #[iv ((s.drift.getD k default).e), iv ((s.drift.getD k default).n)])]) (rs := [.idx v.da v.dn (k : Int) 2 (adr v.da 2 (k : Int)), .lds (adr v.da 2 (k : Int)) [iv ((s.drift.getD k default).e), iv ((s.drift.getD k default).n)]]) [0, 1] [2, 3] [2, 3, 59, 60, 61, 64] (.cons (ix hs.drift (by omega) (by omega)) <| .cons (ldsx hO.st nom hs.drift (by omega) (by omega) rfl) <| .nil) (by kernel_rfl) fun a w hF hE => ?_
      replace hO := hO.ext hE; clear hE
      refine op_alloc (i := 2) (t := 70) (d := 8) (z := .agg #[iv 0, iv 0]) hF hO (by kernel_rfl) (by kernel_rfl) fun a w b4 hF hO _ => ?_
      refine op_store (i := 3) (t := 70) (p := ⟨b4, 0, none⟩) (v := .agg #[iv ((s.drift.getD k default).e), iv ((s.drift.getD k default).n)]) (off := 0) (sz := 2) (cs' := #[iv ((s.drift.getD k default).e), iv ((s.drift.getD k default).n)]) hF hO (by kernel_rfl) 1 rfl rfl (by kernel_rfl) (by kernel_rfl) (by kernel_rfl) fun a w hF hO _ => ?_
      replace hF := hF.sel [2, 3, 8, 59, 60, 61]
      replace hF : Fr 79 [] [(2, iv 0), (3, .bool ok), (8, pv b4), (59, .slice v.da v.dn v.dc), (60, iv (v.dn : Int)), (61, iv (k : Int))] a := hF
      refine (region_q { sy := [1, 6] } TBok hF (F' := [(2, iv 0), (3, .bool (cond (cond ok (inB ((s.drift.getD k default).e) (-2) 2) false) (inB ((s.drift.getD k default).n) (-2) 2) false)), (59, .slice v.da v.dn v.dc), (60, iv (v.dn : Int)), (61, iv (k : Int))]) (rs := [.und ok (.ld ⟨b4, 0, none⟩ (iv ((s.drift.getD k default).e))), .und ok (.call 48 #[iv ((s.drift.getD k default).e), iv (-2), iv 2] (.bool (inB ((s.drift.getD k default).e) (-2) 2))), .und (cond ok (inB ((s.drift.getD k default).e) (-2) 2) false) (.ld ⟨b4, 1, none⟩ (iv ((s.drift.getD k default).n))), .und (cond ok (inB ((s.drift.getD k default).e) (-2) 2) false) (.call 48 #[iv ((s.drift.getD k default).n), iv (-2), iv 2] (.bool (inB ((s.drift.getD k default).n) (-2) 2)))]) [2, 3, 59, 60, 61] (.cons (fun hg => (ldo hO.st 1 rfl 0 rfl)) <| .cons (fun hg => (fun w _ => within_calls _ _ _ w)) <| .cons (fun hg => (ldo hO.st 1 rfl 1 rfl)) <| .cons (fun hg => (fun w _ => within_calls _ _ _ w)) <| .nil) (by kernel_rfl) fun a w hF hE => ?_)
      replace hO := hO.ext hE; clear hE
      refine (region_q {} TBok hF (F' := [(2, iv 0), (3, .bool (cond (cond ok (inB ((s.drift.getD k default).e) (-2) 2) false) (inB ((s.drift.getD k default).n) (-2) 2) false)), (59, .slice v.da v.dn v.dc), (60, iv (v.dn : Int)), (61, iv ((k : Int) + 1))]) (rs := [.rng ((k : Int) + 1)]) [2, 3, 59, 60, 61] (.cons (rg (by omega)) <| .nil) (by kernel_rfl) fun a w hF hE => ?_)
      replace hO := hO.ext hE; clear hE
      replace hO := hO.drop1 1
      replace hO : Own w0 none_ [cel b1 (sS6 s v) 25] w := hO
      exact ⟨_, by omega, k + 1, _, rfl, by omega, by rw [take_all _ (by omega), ← Bool.and_assoc, ← hok]; cases ok <;> rfl, hF, hO⟩
    · refine W_seq (W_false ((evOp hF (by kernel_rfl)).trans (congrArg Value.bool hc3)) ?_)
      have hc3_ := of_decide_eq_false hc3
      refine (W_exit ?_)
      refine W_seq ?_
      refine W_seq (region_q {} TBok hF (F' := [(2, iv 0), (78, .bool (!ok))]) (rs := []) [2, 78] .nil (by kernel_rfl) fun a w hF hE => ?_)
      replace hO := hO.ext hE; clear hE
      rcases Bool.eq_false_or_eq_true (!ok) with hc5 | hc5
      · refine (W_true ((evOp hF (by kernel_rfl)).trans (congrArg Value.bool hc5)) ?_)
        refine W_seq (region_q {} TBok hF (F' := [(2, iv 10)]) (rs := []) [2] .nil (by kernel_rfl) fun a w hF hE => ?_)
        replace hO := hO.ext hE; clear hE
        refine W_ret ?_
        show bodyPostM (FW none) 0 _ _ _ Exit.ret a w
        have hok2 : seaB s = ok := by rw [hok, seaB, List.take_of_length_le (by omega)]
        have hok3 : ok = false := by simpa using hc5
        exact leave_r TBok hF (.nil _) (vs := [iv 10]) (rs := []) .nil (by kernel_rfl) ⟨by rw [chk, hok2, hok3]; rfl, hO.kp⟩
      · refine (W_false ((evOp hF (by kernel_rfl)).trans (congrArg Value.bool hc5)) ?_)
        refine (W_skip ?_)
        refine W_seq (region_q {} TBok hF (F' := [(2, iv 0)]) (rs := []) [2] .nil (by kernel_rfl) fun a w hF hE => ?_)
        replace hO := hO.ext hE; clear hE
        refine W_ret ?_
        show bodyPostM (FW none) 0 _ _ _ Exit.ret a w
        have hok2 : seaB s = ok := by rw [hok, seaB, List.take_of_length_le (by omega)]
        have hok3 : ok = true := by simpa using hc5
        exact leave_r TBok hF (.nil _) (vs := [iv 0]) (rs := []) .nil (by kernel_rfl) ⟨by rw [chk, hok2, hok3]; rfl, hO.kp⟩

set_option maxHeartbeats 4000000 in
set_option maxRecDepth 100000 in
theorem many_calls (s : Sea) (v : SV) (mb : Nat) (w0 : World) (hv : seaB s = true) :
    Calls Try.prog 49 #[.agg (sS7 s v mb)] w0 (fun e w' => e = .returned (iv (nC s)) ∧ Ext w0 w') := by
  have hv1 := sea_ok hv
  refine calls_of_W Try.func49 rfl (by kernel_rfl) (args := [.agg (sS7 s v mb)]) fun a hF => ?_
  replace hF : Fr 10 [] [(0, .agg (sS7 s v mb))] a := hF
  have hO : Own w0 none_ [] w0 := Own.start w0 _
  refine W_seq (region_seq ?_)
  refine op_box (i := 0) (t := 77) (v := .agg (sS7 s v mb)) (d := 1) hF hO (by kernel_rfl) fun a w b1 hF hO _ => ?_
  refine seq_quiet {} TBok hF (F' := [(1, pv b1), (2, iv 0)]) (rs := []) [1] [] [1, 2] .nil (by kernel_rfl) fun a w hF hE => ?_
  replace hO := hO.ext hE; clear hE
  refine W_seq (region_q {} TBok hF (F' := [(2, iv (s.wide * s.high))]) (rs := [.ld ⟨b1, 0, none⟩ (iv s.wide), .ld ⟨b1, 1, none⟩ (iv s.high), .rng (s.wide * s.high)]) [2] (.cons (ldo hO.st 0 rfl 0 rfl) <| .cons (ldo hO.st 0 rfl 1 rfl) <| .cons (rg (by unfold nC at hv1; omega)) <| .nil) (by kernel_rfl) fun a w hF hE => ?_)
  replace hO := hO.ext hE; clear hE
  refine W_ret ?_
  show bodyPostM (FW none) 0 _ _ _ Exit.ret a w
  exact leave_r TBok hF (.nil _) (vs := [iv (s.wide * s.high)]) (rs := []) .nil (by kernel_rfl) ⟨rfl, hO.kp⟩

set_option maxHeartbeats 4000000 in
set_option maxRecDepth 100000 in
theorem place_calls (s : Sea) (v : SV) (mb : Nat) (c : Int) (w0 : World) (hv : seaB s = true) (hc : -9223372036854775808 ≤ c ∧ c ≤ 9223372036854775807) :
    Calls Try.prog 50 #[.agg (sS7 s v mb), iv c] w0 (fun e w' => e = .returned (.agg #[iv (pl s c).1, iv (pl s c).2]) ∧ Ext w0 w') := by
  have hv1 := sea_ok hv
  refine calls_of_W Try.func50 rfl (by kernel_rfl) (args := [.agg (sS7 s v mb), iv c]) fun a hF => ?_
  replace hF : Fr 16 [] [(0, .agg (sS7 s v mb)), (1, iv c)] a := hF
  have hO : Own w0 none_ [] w0 := Own.start w0 _
  refine W_seq (region_seq ?_)
  refine op_box (i := 0) (t := 77) (v := .agg (sS7 s v mb)) (d := 2) hF hO (by kernel_rfl) fun a w b1 hF hO _ => ?_
  refine op_alloc (i := 1) (t := 85) (d := 4) (z := .agg #[iv 0, iv 0]) hF hO (by kernel_rfl) (by kernel_rfl) fun a w b2 hF hO _ => ?_
  replace hF := hF.sel [1, 2, 4]
  replace hF : Fr 16 [] [(1, iv c), (2, pv b1), (4, pv b2)] a := hF
  refine W_seq (draw_start (R := none_) mixed [11] 12 (by kernel_rfl) fun w hS => ?_)
  replace hO := hO.ext hS
  refine draw_q { md := [(4, 3), (9, 3), (10, 3)] } TBok hF hS (F' := [(4, pv b2), (15, .agg #[iv (Int.tmod c s.wide), iv (Int.tdiv c s.wide)])]) (rs := [.ld ⟨b1, 0, none⟩ (iv s.wide), .raw (rb .rem 3 (.tmp 5) (.tmp 8) (iv c) (iv s.wide)) (iv (Int.tmod c s.wide)), .ld ⟨b1, 0, none⟩ (iv s.wide), .raw (rb .quo 3 (.tmp 10) (.tmp 13) (iv c) (iv s.wide)) (iv (Int.tdiv c s.wide)), .raw (Instr.build 85 #[(0, iv (Int.tmod c s.wide)), (1, iv (Int.tdiv c s.wide))]) (.agg #[iv (Int.tmod c s.wide), iv (Int.tdiv c s.wide)])]) [0, 1, 2, 3, 4, 5, 6, 7, 8, 9, 10] 12 1 (by kernel_rfl) #[true, true, true, true, true, true, true, true, true, true, true, false] [4, 15] (.cons (ldo hO.st 0 rfl 0 rfl) <| .cons (raw_tmod (by omega)) <| .cons (ldo hO.st 0 rfl 0 rfl) <| .cons (raw_tquo ⟨hc, by omega⟩) <| .cons (fun w _ => by kernel_rfl) <| .nil) (by kernel_rfl) (by kernel_rfl) fun a hF => ?_
  replace hS := Kp.refl none_ w
  refine any_pick (rs := [11]) (by kernel_rfl) (by simp) fun w hE => all1 ?_
  replace hO := hO.ext hE; replace hS := hS.trans (Ext.kp hE)
  refine op_store (i := 11) (t := 85) (p := ⟨b2, 0, none⟩) (v := .agg #[iv (Int.tmod c s.wide), iv (Int.tdiv c s.wide)]) (off := 0) (sz := 2) (cs' := #[iv (Int.tmod c s.wide), iv (Int.tdiv c s.wide)]) hF hO (by kernel_rfl) 1 rfl rfl (by kernel_rfl) (by kernel_rfl) (by kernel_rfl) fun a w hF hO _ => ⟨.inl rfl, ?_⟩
  refine any_done (by kernel_rfl) (fun w hE => ?_) _
  replace hO := hO.ext hE
  replace hF := hF.sel [4]
  replace hF : Fr 16 [] [(4, pv b2)] a := hF
  refine W_ret ?_
  show bodyPostM (FW none) 0 _ _ _ Exit.ret a w
  exact leave_r TBok hF (.nil _) (vs := [.agg #[iv (Int.tmod c s.wide), iv (Int.tdiv c s.wide)]]) (rs := [.lds ⟨b2, 0, none⟩ [iv (Int.tmod c s.wide), iv (Int.tdiv c s.wide)]]) (.cons (rdso hO 1 rfl 0 rfl) <| .nil) (by kernel_rfl) ⟨rfl, hO.kp⟩

set_option maxHeartbeats 4000000 in
set_option maxRecDepth 100000 in
theorem steps_calls (s : Sea) (v : SV) (mb : Nat) (h : Int) (p q : Int × Int) (w0 : World) (hs : SeaR w0.heap.size w0 v s) (hv : seaB s = true) (hh : 0 ≤ h ∧ h < v.dn) (hp : 0 ≤ p.1 ∧ p.1 ≤ 10 ∧ 0 ≤ p.2 ∧ p.2 ≤ 80) (hq : 0 ≤ q.1 ∧ q.1 ≤ 10 ∧ 0 ≤ q.2 ∧ q.2 ≤ 80) :
    Calls Try.prog 51 #[.agg (sS7 s v mb), iv h, .agg #[iv p.1, iv p.2], .agg #[iv q.1, iv q.2]] w0 (fun e w' => e = .returned (.bool (stepP s h p q)) ∧ Ext w0 w') := by
  have hl1 := hs.land.len; have hl2 := hs.drift.len; have hs1 := hs.land.size; have hs2 := hs.drift.size; have hr_ := hs.rg; unfold i64 at hr_; have hv1 := sea_ok hv; have hst := st_ok hv (i := h.toNat) (by omega)
  refine calls_of_W Try.func51 rfl (by kernel_rfl) (args := [.agg (sS7 s v mb), iv h, .agg #[iv p.1, iv p.2], .agg #[iv q.1, iv q.2]]) fun a hF => ?_
  replace hF : Fr 40 [] [(0, .agg (sS7 s v mb)), (1, iv h), (2, .agg #[iv p.1, iv p.2]), (3, .agg #[iv q.1, iv q.2])] a := hF
  have hO : Own w0 none_ [] w0 := Own.start w0 _
  refine W_seq (region_seq ?_)
  refine op_box (i := 0) (t := 77) (v := .agg (sS7 s v mb)) (d := 4) hF hO (by kernel_rfl) fun a w b1 hF hO _ => ?_
  refine op_box (i := 1) (t := 85) (v := .agg #[iv p.1, iv p.2]) (d := 6) hF hO (by kernel_rfl) fun a w b2 hF hO _ => ?_
  refine op_box (i := 2) (t := 85) (v := .agg #[iv q.1, iv q.2]) (d := 7) hF hO (by kernel_rfl) fun a w b3 hF hO _ => ?_
  refine seq_quiet {} TBok hF (F' := [(1, iv h), (4, pv b1), (6, pv b2), (7, pv b3), (8, .bool false)]) (rs := []) [3] [] [1, 4, 6, 7, 8] .nil (by kernel_rfl) fun a w hF hE => ?_
  replace hO := hO.ext hE; clear hE
  refine W_seq (region_seq ?_)
  refine seq_quiet {} TBok hF (F' := [(4, pv b1), (6, pv b2), (7, pv b3), (8, .bool false), (16, .agg #[iv ((s.drift.getD h.toNat default).e), iv ((s.drift.getD h.toNat default).n)])]) (rs := [.ld ⟨b1, 4, none⟩ (.slice v.da v.dn v.dc), .idx v.da v.dn h 2 (adr v.da 2 h), .lds (adr v.da 2 h) [iv ((s.drift.getD h.toNat default).e), iv ((s.drift.getD h.toNat default).n)]]) [0, 1, 2, 3, 4, 5] [6, 7] [4, 6, 7, 8, 16] (.cons (ldo hO.st 0 rfl 4 rfl) <| .cons (ix hs.drift (by omega) (by omega)) <| .cons (ldsx hO.st nom hs.drift (by omega) (by omega) rfl) <| .nil) (by kernel_rfl) fun a w hF hE => ?_
  replace hO := hO.ext hE; clear hE
  refine op_alloc (i := 6) (t := 70) (d := 9) (z := .agg #[iv 0, iv 0]) hF hO (by kernel_rfl) (by kernel_rfl) fun a w b4 hF hO _ => ?_
  replace hO : Own w0 none_ [cel b1 (sS7 s v mb) 77, cel b2 #[iv p.1, iv p.2] 85, cel b3 #[iv q.1, iv q.2] 85, cel b4 #[iv 0, iv 0] 70] w := hO
  refine op_store (i := 7) (t := 70) (p := ⟨b4, 0, none⟩) (v := .agg #[iv ((s.drift.getD h.toNat default).e), iv ((s.drift.getD h.toNat default).n)]) (off := 0) (sz := 2) (cs' := #[iv ((s.drift.getD h.toNat default).e), iv ((s.drift.getD h.toNat default).n)]) hF hO (by kernel_rfl) 3 rfl rfl (by kernel_rfl) (by kernel_rfl) (by kernel_rfl) fun a w hF hO _ => ?_
  replace hF := hF.sel [4, 6, 7, 8, 9]
  replace hF : Fr 40 [] [(4, pv b1), (6, pv b2), (7, pv b3), (8, .bool false), (9, pv b4)] a := hF
  refine W_seq (region_seq ?_)
  refine seq_quiet { md := [(10, 3)] } TBok hF (F' := [(4, pv b1), (7, pv b3), (8, .bool false), (27, .agg #[iv (p.1 + (s.drift.getD h.toNat default).e), iv (p.2 + (s.drift.getD h.toNat default).n)])]) (rs := [.ld ⟨b2, 0, none⟩ (iv p.1), .ld ⟨b4, 0, none⟩ (iv ((s.drift.getD h.toNat default).e)), .rng (p.1 + (s.drift.getD h.toNat default).e), .ld ⟨b2, 1, none⟩ (iv p.2), .ld ⟨b4, 1, none⟩ (iv ((s.drift.getD h.toNat default).n)), .rng (p.2 + (s.drift.getD h.toNat default).n), .raw (Instr.build 85 #[(0, iv (p.1 + (s.drift.getD h.toNat default).e)), (1, iv (p.2 + (s.drift.getD h.toNat default).n))]) (.agg #[iv (p.1 + (s.drift.getD h.toNat default).e), iv (p.2 + (s.drift.getD h.toNat default).n)])]) [0, 1, 2, 3, 4, 5, 6, 7, 8, 9, 10] [11, 12] [4, 7, 8, 27] (.cons (ldo hO.st 1 rfl 0 rfl) <| .cons (ldo hO.st 3 rfl 0 rfl) <| .cons (rg (by omega)) <| .cons (ldo hO.st 1 rfl 1 rfl) <| .cons (ldo hO.st 3 rfl 1 rfl) <| .cons (rg (by omega)) <| .cons (fun w _ => by kernel_rfl) <| .nil) (by kernel_rfl) fun a w hF hE => ?_
  replace hO := hO.ext hE; clear hE
  refine op_alloc (i := 11) (t := 85) (d := 10) (z := .agg #[iv 0, iv 0]) hF hO (by kernel_rfl) (by kernel_rfl) fun a w b5 hF hO _ => ?_
  refine op_store (i := 12) (t := 85) (p := ⟨b5, 0, none⟩) (v := .agg #[iv (p.1 + (s.drift.getD h.toNat default).e), iv (p.2 + (s.drift.getD h.toNat default).n)]) (off := 0) (sz := 2) (cs' := #[iv (p.1 + (s.drift.getD h.toNat default).e), iv (p.2 + (s.drift.getD h.toNat default).n)]) hF hO (by kernel_rfl) 4 rfl rfl (by kernel_rfl) (by kernel_rfl) (by kernel_rfl) fun a w hF hO _ => ?_
  replace hF := hF.sel [4, 7, 8, 10]
  replace hF : Fr 40 [] [(4, pv b1), (7, pv b3), (8, .bool false), (10, pv b5)] a := hF
  refine W_seq (region_d { sy := [3], md := [(2, 3)] } mixed TBok hF (F' := [(8, .bool (cond ((p.1 + (s.drift.getD h.toNat default).e) == q.1 && (p.2 + (s.drift.getD h.toNat default).n) == q.2) true (decide ((farP ((p.1 + (s.drift.getD h.toNat default).e), (p.2 + (s.drift.getD h.toNat default).n)) q) ≤ s.speed))))]) (rs := [.lds ⟨b5, 0, none⟩ [iv (p.1 + (s.drift.getD h.toNat default).e), iv (p.2 + (s.drift.getD h.toNat default).n)], .lds ⟨b3, 0, none⟩ [iv q.1, iv q.2], .raw (rb .eql 85 (.tmp 28) (.tmp 29) (.agg #[iv (p.1 + (s.drift.getD h.toNat default).e), iv (p.2 + (s.drift.getD h.toNat default).n)]) (.agg #[iv q.1, iv q.2])) (.bool ((p.1 + (s.drift.getD h.toNat default).e) == q.1 && (p.2 + (s.drift.getD h.toNat default).n) == q.2)), .und (!((p.1 + (s.drift.getD h.toNat default).e) == q.1 && (p.2 + (s.drift.getD h.toNat default).n) == q.2)) (.lds ⟨b5, 0, none⟩ [iv (p.1 + (s.drift.getD h.toNat default).e), iv (p.2 + (s.drift.getD h.toNat default).n)]), .und (!((p.1 + (s.drift.getD h.toNat default).e) == q.1 && (p.2 + (s.drift.getD h.toNat default).n) == q.2)) (.lds ⟨b3, 0, none⟩ [iv q.1, iv q.2]), .und (!((p.1 + (s.drift.getD h.toNat default).e) == q.1 && (p.2 + (s.drift.getD h.toNat default).n) == q.2)) (.call 79 #[.agg #[iv (p.1 + (s.drift.getD h.toNat default).e), iv (p.2 + (s.drift.getD h.toNat default).n)], .agg #[iv q.1, iv q.2]] (iv (farP ((p.1 + (s.drift.getD h.toNat default).e), (p.2 + (s.drift.getD h.toNat default).n)) q))), .und (!((p.1 + (s.drift.getD h.toNat default).e) == q.1 && (p.2 + (s.drift.getD h.toNat default).n) == q.2)) (.ld ⟨b1, 5, none⟩ (iv s.speed))]) [8] (.cons (ldso hO.st 4 rfl 0 rfl) <| .cons (ldso hO.st 2 rfl 0 rfl) <| .cons (raw_eqP pairT85 pairG85 ((p.1 + (s.drift.getD h.toNat default).e), (p.2 + (s.drift.getD h.toNat default).n)) q) <| .cons (fun hg => (ldso hO.st 4 rfl 0 rfl)) <| .cons (fun hg => (ldso hO.st 2 rfl 0 rfl)) <| .cons (fun hg => (fun w _ => far_calls ((p.1 + (s.drift.getD h.toNat default).e), (p.2 + (s.drift.getD h.toNat default).n)) q w (by unfold plB; omega) (by unfold plB; omega))) <| .cons (fun hg => (ldo hO.st 0 rfl 5 rfl)) <| .nil) (by kernel_rfl) (by kernel_rfl) fun a w hF hE => ?_)
  replace hO := hO.ext hE; clear hE
  refine W_ret ?_
  show bodyPostM (FW none) 0 _ _ _ Exit.ret a w
  exact leave_r TBok hF (.nil _) (vs := [.bool (cond ((p.1 + (s.drift.getD h.toNat default).e) == q.1 && (p.2 + (s.drift.getD h.toNat default).n) == q.2) true (decide ((farP ((p.1 + (s.drift.getD h.toNat default).e), (p.2 + (s.drift.getD h.toNat default).n)) q) ≤ s.speed)))]) (rs := []) .nil (by kernel_rfl) ⟨rfl, hO.kp⟩

end Go.Proofs.Ytgihgcclabodbaa.DK
