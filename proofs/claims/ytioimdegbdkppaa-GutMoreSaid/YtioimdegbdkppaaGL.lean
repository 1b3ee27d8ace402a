/- Walks: the search for the lots with the greatest deficit. Printed by my gen.py out of gut/l.py. -/
import Derived.Test.YtioimdegbdkppaaGK
import Derived.Test.YtioimdegbdkppaaGS
namespace Go.Proofs.Ytioimdegbdkppaa.DK
open Go Go.Proofs
set_option linter.unusedVariables false

set_option maxHeartbeats 4000000 in
set_option maxRecDepth 100000 in
theorem choose_step (d : Day) (v : DV) (f : Nat → Int) (bd z2 z3 z4 z5 m : Nat) (many : Int) (xs : List Int) (p : Option Addr) (n c : Nat) (q0 : Int) (ys0 : List Int) (op0 : Option Addr) (on0 oc0 : Nat) (w0 : World) (hv : dayV d = true) (hmn : many = (n : Int) + (m : Int)) (hp : ChPre d v f bd z2 z3 z4 z5 m xs p n c q0 ys0 op0 on0 oc0 w0)
    (ih : ∀ m', m = m' + 1 → ∀ (many : Int) (xs : List Int) (p : Option Addr) (n c : Nat) (q0 : Int) (ys0 : List Int) (op0 : Option Addr) (on0 oc0 : Nat) (w : World), ChPre d v f bd z2 z3 z4 z5 m' xs p n c q0 ys0 op0 on0 oc0 w → many = (n : Int) + (m' : Int) → Calls Try.prog 67 #[.slice p n c, .int .i64 many, .pointer (some ⟨z2, 0, none⟩), .pointer (some ⟨z3, 0, none⟩), .pointer (some ⟨z4, 0, none⟩), .pointer (some ⟨z5, 0, none⟩)] w (ChPost d f bd z3 z4 m' xs q0 ys0 w)) :
    Calls Try.prog 67 #[.slice p n c, .int .i64 many, .pointer (some ⟨z2, 0, none⟩), .pointer (some ⟨z3, 0, none⟩), .pointer (some ⟨z4, 0, none⟩), .pointer (some ⟨z5, 0, none⟩)] w0 (ChPost d f bd z3 z4 m xs q0 ys0 w0) := by
  have hd := hp.hd; have hb := hp.hb; have hx := hp.hx; have hy := hp.hy; have hxl := hx.len; have hin := hp.hin; have hnm := hp.hnm
  have hl1 := hd.heat.len; have hl2 := hd.lots.len; have hl3 := hd.wks.len; have hs1 := hd.heat.size; have hs2 := hd.lots.size; have hs3 := hd.wks.size; have hv1 := day_ok hv
  refine calls_of_W Try.func67 rfl (by kernel_rfl) (args := [.slice p n c, .int .i64 many, .pointer (some ⟨z2, 0, none⟩), .pointer (some ⟨z3, 0, none⟩), .pointer (some ⟨z4, 0, none⟩), .pointer (some ⟨z5, 0, none⟩)]) fun a hF => ?_
  replace hF : Fr 54 [] [(0, .slice p n c), (1, .int .i64 many), (2, .pointer (some ⟨z2, 0, none⟩)), (3, .pointer (some ⟨z3, 0, none⟩)), (4, .pointer (some ⟨z4, 0, none⟩)), (5, .pointer (some ⟨z5, 0, none⟩))] a := hF
  have hO : Own w0 (mc z3 z4) [cel z3 #[.int .i64 q0] 3, cel z4 #[.slice op0 on0 oc0] 41] w0 := hp.own
  refine W_seq ?_
  refine W_seq (region_q {} TBok hF (F' := [(0, .slice p n c), (1, .int .i64 many), (2, .pointer (some ⟨z2, 0, none⟩)), (3, .pointer (some ⟨z3, 0, none⟩)), (4, .pointer (some ⟨z4, 0, none⟩)), (5, .pointer (some ⟨z5, 0, none⟩)), (14, .bool ((n : Int) == many))]) (rs := []) [0, 1, 2, 3, 4, 5, 14] .nil (by kernel_rfl) fun a w hF hE => ?_)
  replace hO := hO.ext hE; replace hy := hy.ext hE; clear hE
  rcases Bool.eq_false_or_eq_true ((n : Int) == many) with hc1 | hc1
  · refine (W_true ((evOp hF (by kernel_rfl)).trans (congrArg Value.bool hc1)) ?_)
    have hm0 : m = 0 := by rw [beq_iff_eq] at *; omega
    subst hm0
    refine W_seq ?_
    refine W_seq (region_q {} TBok hF (F' := [(0, .slice p n c), (1, .int .i64 many), (2, .pointer (some ⟨z2, 0, none⟩)), (3, .pointer (some ⟨z3, 0, none⟩)), (4, .pointer (some ⟨z4, 0, none⟩)), (5, .pointer (some ⟨z5, 0, none⟩)), (8, .int .i64 (defF d f xs))]) (rs := [.lds ⟨z2, 0, none⟩ (dayL v d f), .call 65 #[.agg (dayL v d f).toArray, .slice p n c] (.int .i64 (defF d f xs))]) [0, 1, 2, 3, 4, 5, 8] (.cons (ldsr hO.st hp.r2 hp.n2 0 (by kernel_rfl)) <| .cons (fun w hE => deficit_calls d v f xs p n c w (hp.hd.upM (hO.st w hE).kp hp.nom hp.hb) hv ((hx.kp (hO.st w hE).kp hmx).rd encI_0) (by omega) hp.hin) <| .nil) (by kernel_rfl) fun a w hF hE => ?_)
    replace hO := hO.ext hE; replace hy := hy.ext hE; clear hE
    refine W_seq (region_q {} TBok hF (F' := [(0, .slice p n c), (1, .int .i64 many), (2, .pointer (some ⟨z2, 0, none⟩)), (3, .pointer (some ⟨z3, 0, none⟩)), (4, .pointer (some ⟨z4, 0, none⟩)), (5, .pointer (some ⟨z5, 0, none⟩)), (8, .int .i64 (defF d f xs)), (20, .bool (decide ((defF d f xs) > q0)))]) (rs := [.ld ⟨z3, 0, none⟩ (.int .i64 q0)]) [0, 1, 2, 3, 4, 5, 8, 20] (.cons (ldo hO.st 0 rfl 0 rfl) <| .nil) (by kernel_rfl) fun a w hF hE => ?_)
    replace hO := hO.ext hE; replace hy := hy.ext hE; clear hE
    rcases Bool.eq_false_or_eq_true (decide ((defF d f xs) > q0)) with hc2 | hc2
    · refine (W_true ((evOp hF (by kernel_rfl)).trans (congrArg Value.bool hc2)) ?_)
      have hc2_ := of_decide_eq_true hc2
      refine (region_seq ?_)
      refine seq_quiet {} TBok hF (F' := [(0, .slice p n c), (1, .int .i64 many), (2, .pointer (some ⟨z2, 0, none⟩)), (3, .pointer (some ⟨z3, 0, none⟩)), (4, .pointer (some ⟨z4, 0, none⟩)), (5, .pointer (some ⟨z5, 0, none⟩)), (21, .int .i64 (defF d f xs)), (22, .slice p n c)]) (rs := []) [0, 1] [2, 3] [0, 1, 2, 3, 4, 5, 21, 22] .nil (by kernel_rfl) fun a w hF hE => ?_
      replace hO := hO.ext hE; replace hy := hy.ext hE; clear hE
      refine op_store (i := 2) (t := 3) (p := ⟨z3, 0, none⟩) (v := .int .i64 (defF d f xs)) (off := 0) (sz := 1) (cs' := #[.int .i64 (defF d f xs)]) hF hO (by kernel_rfl) 0 rfl rfl (by kernel_rfl) (by kernel_rfl) (by kernel_rfl) fun a w hF hO _ => ?_
      replace hO : Own w0 (mc z3 z4) [cel z3 #[.int .i64 (defF d f xs)] 3, cel z4 #[.slice op0 on0 oc0] 41] w := hO
      refine op_store (i := 3) (t := 41) (p := ⟨z4, 0, none⟩) (v := .slice p n c) (off := 0) (sz := 1) (cs' := #[.slice p n c]) hF hO (by kernel_rfl) 1 rfl rfl (by kernel_rfl) (by kernel_rfl) (by kernel_rfl) fun a w hF hO _ => ?_
      replace hO : Own w0 (mc z3 z4) [cel z3 #[.int .i64 (defF d f xs)] 3, cel z4 #[.slice p n c] 41] w := hO
      replace hF := hF.sel [0, 1, 2, 5]
      replace hF : Fr 54 [] [(0, .slice p n c), (1, .int .i64 many), (2, .pointer (some ⟨z2, 0, none⟩)), (5, .pointer (some ⟨z5, 0, none⟩))] a := hF
      refine W_ret ?_
      show bodyPostM (FW none) 0 _ _ _ Exit.ret a w
      have hc2 : chooseF d f 0 xs (q0, ys0) = (defF d f xs, xs) := by rw [chooseF]; show cond (decide ((defF d f xs) > q0)) _ _ = _; rw [hc2]; rfl
      exact leave_r TBok hF (.nil _) (vs := []) (rs := []) .nil (by kernel_rfl) ⟨rfl, p, n, c, hO.cast (by rw [hc2]), by rw [hc2]; exact hx.kp hO.kp hmx⟩
    · refine (W_false ((evOp hF (by kernel_rfl)).trans (congrArg Value.bool hc2)) ?_)
      have hc2_ := of_decide_eq_false hc2
      refine (W_skip ?_)
      refine W_ret ?_
      show bodyPostM (FW none) 0 _ _ _ Exit.ret a w
      have hc2 : chooseF d f 0 xs (q0, ys0) = (q0, ys0) := by rw [chooseF]; show cond (decide ((defF d f xs) > q0)) _ _ = _; rw [hc2]; rfl
      exact leave_r TBok hF (.nil _) (vs := []) (rs := []) .nil (by kernel_rfl) ⟨rfl, op0, on0, oc0, hO.cast (by rw [hc2]), by rw [hc2]; exact hy⟩
  · refine (W_false ((evOp hF (by kernel_rfl)).trans (congrArg Value.bool hc1)) ?_)
    have hm1 : ¬ (n : Int) = many := by simpa using (by assumption : ((n : Int) == many) = false)
    obtain ⟨m', rfl⟩ : ∃ m', m = m' + 1 := ⟨m - 1, by omega⟩
    refine (W_skip ?_)
    refine W_seq (region_q {} TBok hF (F' := [(0, .slice p n c), (1, .int .i64 many), (2, .pointer (some ⟨z2, 0, none⟩)), (5, .pointer (some ⟨z5, 0, none⟩)), (9, .int .i64 0)]) (rs := []) [0, 1, 2, 5, 9] .nil (by kernel_rfl) fun a w hF hE => ?_)
    replace hO := hO.ext hE; replace hy := hy.ext hE; clear hE
    refine W_seq ?_
    refine W_seq (region_q {} TBok hF (F' := [(0, .slice p n c), (1, .int .i64 many), (2, .pointer (some ⟨z2, 0, none⟩)), (5, .pointer (some ⟨z5, 0, none⟩)), (9, .int .i64 0), (25, .bool (decide ((n : Int) > 0)))]) (rs := []) [0, 1, 2, 5, 9, 25] .nil (by kernel_rfl) fun a w hF hE => ?_)
    replace hO := hO.ext hE; replace hy := hy.ext hE; clear hE
    rcases Bool.eq_false_or_eq_true (decide ((n : Int) > 0)) with hc3 | hc3
    · refine (W_true ((evOp hF (by kernel_rfl)).trans (congrArg Value.bool hc3)) ?_)
      have hfr : fromF n xs = (xs.getD ((n : Int) - 1).toNat default) + 1 := by rw [fromF, show (decide ((n : Int) > 0)) = true by assumption]; rfl
      have hn0 := of_decide_eq_true (by assumption : (decide ((n : Int) > 0)) = true)
      refine (region_q {} TBok hF (F' := [(0, .slice p n c), (1, .int .i64 many), (2, .pointer (some ⟨z2, 0, none⟩)), (5, .pointer (some ⟨z5, 0, none⟩)), (9, .int .i64 ((xs.getD ((n : Int) - 1).toNat default) + 1))]) (rs := [.rng ((n : Int) - 1), .idx p n ((n : Int) - 1) 1 (adr p 1 ((n : Int) - 1)), .ld (adr p 1 ((n : Int) - 1)) (.int .i64 (xs.getD ((n : Int) - 1).toNat default)), .rng ((xs.getD ((n : Int) - 1).toNat default) + 1)]) [0, 1, 2, 5, 9] (.cons (rg (by omega)) <| .cons (ixX hx (by omega) (by omega)) <| .cons (ldxX hO.st hmx hx (by omega) (by omega) 0 rfl) <| .cons (rg (by have := hin _ (getD_mem (show ((n : Int) - 1).toNat < xs.length by omega)); omega)) <| .nil) (by kernel_rfl) fun a w hF hE => ?_)
      replace hO := hO.ext hE; replace hy := hy.ext hE; clear hE
      refine W_seq (region_q {} TBok hF (F' := [(0, .slice p n c), (1, .int .i64 many), (2, .pointer (some ⟨z2, 0, none⟩)), (5, .pointer (some ⟨z5, 0, none⟩)), (10, .int .i64 ((xs.getD ((n : Int) - 1).toNat default) + 1))]) (rs := []) [0, 1, 2, 5, 10] .nil (by kernel_rfl) fun a w hF hE => ?_)
      replace hO := hO.ext hE; replace hy := hy.ext hE; clear hE
      refine (W_block ?_)
      have hfi := fromF_ok hxl hin
      have hfe : (((fromF n xs).toNat : Nat) : Int) = ((xs.getD ((n : Int) - 1).toNat default) + 1) := by omega
      refine (W_loop (fun m a w => ∃ (i : Nat), ∃ (q : Int), ∃ (ys : List Int), ∃ (op : Option Addr), ∃ (on : Nat), ∃ (oc : Nat), m = v.ln - i ∧ i ≤ v.ln ∧ chooseL (chooseF d f m') xs (List.range' i (d.lots.length - i)) (q, ys) = chooseF d f (m' + 1) xs (q0, ys0) ∧ RdX (mx bd z3 z4) encI 1 w op on ys ∧ Fr 54 [] [(0, .slice p n c), (1, .int .i64 many), (2, .pointer (some ⟨z2, 0, none⟩)), (5, .pointer (some ⟨z5, 0, none⟩)), (10, .int .i64 (i : Int))] a ∧ Own w0 (mc z3 z4) [cel z3 #[.int .i64 q] 3, cel z4 #[.slice op on oc] 41] w) _ ⟨(fromF n xs).toNat, q0, ys0, op0, on0, oc0, rfl, (by omega), (by rw [← hxl]; rfl), hy, (hF.cast (by rw [hfe])), hO⟩ ?_)
      clear hF hO
      rintro _ a w ⟨i, q, ys, op, on, oc, rfl, hi, heq, hy, hF, hO⟩
      refine W_seq ?_
      refine W_seq (region_q {} TBok hF (F' := [(0, .slice p n c), (1, .int .i64 many), (2, .pointer (some ⟨z2, 0, none⟩)), (5, .pointer (some ⟨z5, 0, none⟩)), (10, .int .i64 (i : Int)), (39, .bool (decide ((i : Int) < (v.ln : Int))))]) (rs := [.ld ⟨z2, 2, none⟩ (.slice v.la v.ln v.lc)]) [0, 1, 2, 5, 10, 39] (.cons (ldr hO.st hp.r2 hp.n2 2 (by kernel_rfl)) <| .nil) (by kernel_rfl) fun a w hF hE => ?_)
      replace hO := hO.ext hE; replace hy := hy.ext hE; clear hE
      rcases Bool.eq_false_or_eq_true (decide ((i : Int) < (v.ln : Int))) with hc4 | hc4
      · refine (W_true ((evOp hF (by kernel_rfl)).trans (congrArg Value.bool hc4)) ?_)
        have hc4_ := of_decide_eq_true hc4
        refine (W_skip ?_)
        refine W_seq (W_block ?_)
        refine (draw_start (R := (mc z3 z4)) mixed [] 12 (by kernel_rfl) fun w hS => ?_)
        replace hO := hO.ext hS
        replace hy := hy.ext hS; skip
        have hH := hO.bare; replace hS := Ext.kp (M := (mc z3 z4)) hS
        refine draw_q { md := [(6, 3)] } TBok hF hS (F' := [(0, .slice p n c), (1, .int .i64 many), (2, .pointer (some ⟨z2, 0, none⟩)), (5, .pointer (some ⟨z5, 0, none⟩)), (10, .int .i64 (i : Int)), (42, .func (.func 67) #[] #[.pointer (some ⟨z2, 0, none⟩), .pointer (some ⟨z3, 0, none⟩), .pointer (some ⟨z4, 0, none⟩), .pointer (some ⟨z5, 0, none⟩)]), (48, .slice p n n), (49, .int .i64 (i : Int)), (52, .int .i64 many)]) (rs := [.ld ⟨z5, 0, none⟩ (.func (.func 67) #[] #[.pointer (some ⟨z2, 0, none⟩), .pointer (some ⟨z3, 0, none⟩), .pointer (some ⟨z4, 0, none⟩), .pointer (some ⟨z5, 0, none⟩)]), .raw (Instr.sliceAt 41 (.slice p n c) none (some (.int .i64 (n : Int))) (some (.int .i64 (n : Int)))) (.slice p n n)]) [0, 1, 2, 3, 4, 5, 6, 7, 10] 12 3 (by kernel_rfl) #[true, true, true, true, true, true, true, true, false, false, true, false] [0, 1, 2, 5, 10, 42, 48, 49, 52] (.cons (ldr hH hp.r5 hp.n5 0 rfl) <| .cons (raw_sliceCap rowT41 hp.cap) <| .nil) (by kernel_rfl) (by kernel_rfl) fun a hF => ?_
        replace hS := Kp.refl (mc z3 z4) w
        refine any_pick (rs := [8]) (by kernel_rfl) (by simp) fun w hE => all1 ?_
        replace hO := hO.ext hE; replace hS := hS.trans (Ext.kp hE)
        refine op_bsl (i := 8) (t := 41) (e := 3) (len := 1) (ps := [(0, .int .i64 (i : Int))]) (d := 50) (sz := 1) (cs := #[.int .i64 (i : Int)]) (z := .int .i64 0) hF hO (by kernel_rfl) (by kernel_rfl) (by kernel_rfl) (by kernel_rfl) (by kernel_rfl) fun a w b5 hF hO hx => ⟨.inr (hS.trans (Ext.kp hx.1)), ?_⟩
        have hf_b5 := Nat.le_trans hS.size hx.2; replace hS := hS.trans (Ext.kp hx.1); clear hx
        replace hO : Own w0 (mc z3 z4) [cel z3 #[.int .i64 q] 3, cel z4 #[.slice op on oc] 41, cel b5 #[.int .i64 (i : Int)] 3] w := hO
        refine any_pick (rs := [9]) (by kernel_rfl) (by simp) fun w hE => all1 ?_
        replace hO := hO.ext hE; replace hS := hS.trans (Ext.kp hE)
        refine op_appA (i := 9) (t := 41) (ty := 41) (e := 3) (d := 51) rowT41 (fun _ => rfl) hF hO (by kernel_rfl) (((hx.kp hO.kp hmx).rd encI_0)) ((hx.rd encI_0).nil) 2 rfl (by kernel_rfl) (by omega) fun a w p6 c7 hF hO hx => ⟨.inr (hS.trans (Ext.kp hx)), ?_⟩
        replace hS := hS.trans (Ext.kp hx)
        clear hx
        replace hO : Own w0 (mc z3 z4) [cel z3 #[.int .i64 q] 3, cel z4 #[.slice op on oc] 41, cel b5 #[.int .i64 (i : Int)] 3, rowR 3 1 (.slice p6 (n + 1) c7) (n + 1) ((xs.flatMap encI) ++ (#[.int .i64 (i : Int)] : Array Value).toList)] w := hO
        refine any_pick (rs := [11]) (by kernel_rfl) (by simp) fun w hE => all1 ?_
        replace hO := hO.ext hE; replace hS := hS.trans (Ext.kp hE)
        replace hy := hy.kp hS hmx
        replace hO : Own w0 (mc z3 z4) [cel z3 #[.int .i64 q] 3, cel z4 #[.slice op on oc] 41, cel b5 #[.int .i64 (i : Int)] 3, rowR 3 1 (.slice p6 (n + 1) c7) (n + 1) ((xs ++ [(i : Int)]).flatMap encI)] w := hO.cast (by rw [List.flatMap_append]; rfl)
        have hpre := hp.step hO 0 1 rfl rfl (xs' := xs ++ [(i : Int)]) (rdx_row (c3 := #[.int .i64 q]) (fun _ => rfl) (by decide) hO 3 0 1 rfl rfl rfl (by decide) (fun _ h => h) hp.hb (fun _ h => h) (by omega)) (row_cap hO 3 rfl).1 hy (snoc_in hin (by omega)) (by omega)
        have hcall := ih m' rfl many (xs ++ [(i : Int)]) p6 (n + 1) c7 q ys op on oc w hpre (by omega)
        replace hO := hO.sel [2, 3, 0, 1] (by decide)
        refine op_call (i := 11) (f := 67) (args := #[.slice p6 (n + 1) c7, .int .i64 many, .pointer (some ⟨z2, 0, none⟩), .pointer (some ⟨z3, 0, none⟩), .pointer (some ⟨z4, 0, none⟩), .pointer (some ⟨z5, 0, none⟩)]) (d := some 53) TBok (by kernel_rfl) hF (by kernel_rfl) hcall fun e w hR => ?_
        obtain ⟨he, op1, on1, oc1, hO2, hy⟩ := hR; refine ⟨_, he, fun a hF => ⟨.inr (hS.trans hO2.kp), ?_⟩⟩
        replace hS := hS.trans hO2.kp
        replace hO := Own.join (L1 := [cel b5 #[.int .i64 (i : Int)] 3, rowR 3 1 (.slice p6 (n + 1) c7) (n + 1) ((xs ++ [(i : Int)]).flatMap encI)]) (L2 := [cel z3 #[.int .i64 q] 3, cel z4 #[.slice op on oc] 41]) hO hO2 hmc; clear hO2 he hpre hcall
        replace hO := hO.sel [2, 3, 0, 1] (by decide)
        replace hO : Own w0 (mc z3 z4) [cel z3 #[.int .i64 ((chooseF d f m' (xs ++ [(i : Int)]) (q, ys)).1)] 3, cel z4 #[.slice op1 on1 oc1] 41, cel b5 #[.int .i64 (i : Int)] 3, rowR 3 1 (.slice p6 (n + 1) c7) (n + 1) ((xs ++ [(i : Int)]).flatMap encI)] w := hO
        refine any_done (by kernel_rfl) (fun w hE => ?_) _
        replace hO := hO.ext hE; replace hy := hy.ext hE
        replace hF := hF.sel [0, 1, 2, 5, 10]
        replace hF : Fr 54 [] [(0, .slice p n c), (1, .int .i64 many), (2, .pointer (some ⟨z2, 0, none⟩)), (5, .pointer (some ⟨z5, 0, none⟩)), (10, .int .i64 (i : Int))] a := hF
        refine (region_q {} TBok hF (F' := [(0, .slice p n c), (1, .int .i64 many), (2, .pointer (some ⟨z2, 0, none⟩)), (5, .pointer (some ⟨z5, 0, none⟩)), (10, .int .i64 ((i : Int) + 1))]) (rs := [.rng ((i : Int) + 1)]) [0, 1, 2, 5, 10] (.cons (rg (by omega)) <| .nil) (by kernel_rfl) fun a w hF hE => ?_)
        replace hO := hO.ext hE; replace hy := hy.ext hE; clear hE
        rw [chooseL_cons (by omega)] at heq
        replace hO := hO.drop1 3
        replace hO := hO.drop1 2
        replace hO : Own w0 (mc z3 z4) [cel z3 #[.int .i64 ((chooseF d f m' (xs ++ [(i : Int)]) (q, ys)).1)] 3, cel z4 #[.slice op1 on1 oc1] 41] w := hO
        exact ⟨_, by omega, i + 1, _, _, op1, on1, oc1, rfl, by omega, heq, hy, hF, hO⟩
      · refine (W_false ((evOp hF (by kernel_rfl)).trans (congrArg Value.bool hc4)) ?_)
        have hc4_ := of_decide_eq_false hc4
        refine (W_exit ?_)
        show bodyPostM (FW none) 0 _ _ _ Exit.normal a w
        rw [chooseL_nil (by omega)] at heq
        exact leave_normal TBok hF (.nil _) (vs := []) (rs := []) .nil (by kernel_rfl) ⟨rfl, op, on, oc, hO.cast (by rw [← heq]), by rw [← heq]; exact hy⟩
    · refine (W_false ((evOp hF (by kernel_rfl)).trans (congrArg Value.bool hc3)) ?_)
      have hfr : fromF n xs = 0 := by rw [fromF, show (decide ((n : Int) > 0)) = false by assumption]; rfl
      refine (W_skip ?_)
      refine W_seq (region_q {} TBok hF (F' := [(0, .slice p n c), (1, .int .i64 many), (2, .pointer (some ⟨z2, 0, none⟩)), (5, .pointer (some ⟨z5, 0, none⟩)), (10, .int .i64 0)]) (rs := []) [0, 1, 2, 5, 10] .nil (by kernel_rfl) fun a w hF hE => ?_)
      replace hO := hO.ext hE; replace hy := hy.ext hE; clear hE
      refine (W_block ?_)
      have hfi := fromF_ok hxl hin
      have hfe : (((fromF n xs).toNat : Nat) : Int) = 0 := by omega
      refine (W_loop (fun m a w => ∃ (i : Nat), ∃ (q : Int), ∃ (ys : List Int), ∃ (op : Option Addr), ∃ (on : Nat), ∃ (oc : Nat), m = v.ln - i ∧ i ≤ v.ln ∧ chooseL (chooseF d f m') xs (List.range' i (d.lots.length - i)) (q, ys) = chooseF d f (m' + 1) xs (q0, ys0) ∧ RdX (mx bd z3 z4) encI 1 w op on ys ∧ Fr 54 [] [(0, .slice p n c), (1, .int .i64 many), (2, .pointer (some ⟨z2, 0, none⟩)), (5, .pointer (some ⟨z5, 0, none⟩)), (10, .int .i64 (i : Int))] a ∧ Own w0 (mc z3 z4) [cel z3 #[.int .i64 q] 3, cel z4 #[.slice op on oc] 41] w) _ ⟨(fromF n xs).toNat, q0, ys0, op0, on0, oc0, rfl, (by omega), (by rw [← hxl]; rfl), hy, (hF.cast (by rw [hfe])), hO⟩ ?_)
      clear hF hO
      rintro _ a w ⟨i, q, ys, op, on, oc, rfl, hi, heq, hy, hF, hO⟩
      refine W_seq ?_
      refine W_seq (region_q {} TBok hF (F' := [(0, .slice p n c), (1, .int .i64 many), (2, .pointer (some ⟨z2, 0, none⟩)), (5, .pointer (some ⟨z5, 0, none⟩)), (10, .int .i64 (i : Int)), (39, .bool (decide ((i : Int) < (v.ln : Int))))]) (rs := [.ld ⟨z2, 2, none⟩ (.slice v.la v.ln v.lc)]) [0, 1, 2, 5, 10, 39] (.cons (ldr hO.st hp.r2 hp.n2 2 (by kernel_rfl)) <| .nil) (by kernel_rfl) fun a w hF hE => ?_)
      replace hO := hO.ext hE; replace hy := hy.ext hE; clear hE
      rcases Bool.eq_false_or_eq_true (decide ((i : Int) < (v.ln : Int))) with hc8 | hc8
      · refine (W_true ((evOp hF (by kernel_rfl)).trans (congrArg Value.bool hc8)) ?_)
        have hc8_ := of_decide_eq_true hc8
        refine (W_skip ?_)
        refine W_seq (W_block ?_)
        refine (draw_start (R := (mc z3 z4)) mixed [] 12 (by kernel_rfl) fun w hS => ?_)
        replace hO := hO.ext hS
        replace hy := hy.ext hS; skip
        have hH := hO.bare; replace hS := Ext.kp (M := (mc z3 z4)) hS
        refine draw_q { md := [(6, 3)] } TBok hF hS (F' := [(0, .slice p n c), (1, .int .i64 many), (2, .pointer (some ⟨z2, 0, none⟩)), (5, .pointer (some ⟨z5, 0, none⟩)), (10, .int .i64 (i : Int)), (42, .func (.func 67) #[] #[.pointer (some ⟨z2, 0, none⟩), .pointer (some ⟨z3, 0, none⟩), .pointer (some ⟨z4, 0, none⟩), .pointer (some ⟨z5, 0, none⟩)]), (48, .slice p n n), (49, .int .i64 (i : Int)), (52, .int .i64 many)]) (rs := [.ld ⟨z5, 0, none⟩ (.func (.func 67) #[] #[.pointer (some ⟨z2, 0, none⟩), .pointer (some ⟨z3, 0, none⟩), .pointer (some ⟨z4, 0, none⟩), .pointer (some ⟨z5, 0, none⟩)]), .raw (Instr.sliceAt 41 (.slice p n c) none (some (.int .i64 (n : Int))) (some (.int .i64 (n : Int)))) (.slice p n n)]) [0, 1, 2, 3, 4, 5, 6, 7, 10] 12 3 (by kernel_rfl) #[true, true, true, true, true, true, true, true, false, false, true, false] [0, 1, 2, 5, 10, 42, 48, 49, 52] (.cons (ldr hH hp.r5 hp.n5 0 rfl) <| .cons (raw_sliceCap rowT41 hp.cap) <| .nil) (by kernel_rfl) (by kernel_rfl) fun a hF => ?_
        replace hS := Kp.refl (mc z3 z4) w
        refine any_pick (rs := [8]) (by kernel_rfl) (by simp) fun w hE => all1 ?_
        replace hO := hO.ext hE; replace hS := hS.trans (Ext.kp hE)
        refine op_bsl (i := 8) (t := 41) (e := 3) (len := 1) (ps := [(0, .int .i64 (i : Int))]) (d := 50) (sz := 1) (cs := #[.int .i64 (i : Int)]) (z := .int .i64 0) hF hO (by kernel_rfl) (by kernel_rfl) (by kernel_rfl) (by kernel_rfl) (by kernel_rfl) fun a w b9 hF hO hx => ⟨.inr (hS.trans (Ext.kp hx.1)), ?_⟩
        have hf_b9 := Nat.le_trans hS.size hx.2; replace hS := hS.trans (Ext.kp hx.1); clear hx
        replace hO : Own w0 (mc z3 z4) [cel z3 #[.int .i64 q] 3, cel z4 #[.slice op on oc] 41, cel b9 #[.int .i64 (i : Int)] 3] w := hO
        refine any_pick (rs := [9]) (by kernel_rfl) (by simp) fun w hE => all1 ?_
        replace hO := hO.ext hE; replace hS := hS.trans (Ext.kp hE)
        refine op_appA (i := 9) (t := 41) (ty := 41) (e := 3) (d := 51) rowT41 (fun _ => rfl) hF hO (by kernel_rfl) (((hx.kp hO.kp hmx).rd encI_0)) ((hx.rd encI_0).nil) 2 rfl (by kernel_rfl) (by omega) fun a w p10 c11 hF hO hx => ⟨.inr (hS.trans (Ext.kp hx)), ?_⟩
        replace hS := hS.trans (Ext.kp hx)
        clear hx
        replace hO : Own w0 (mc z3 z4) [cel z3 #[.int .i64 q] 3, cel z4 #[.slice op on oc] 41, cel b9 #[.int .i64 (i : Int)] 3, rowR 3 1 (.slice p10 (n + 1) c11) (n + 1) ((xs.flatMap encI) ++ (#[.int .i64 (i : Int)] : Array Value).toList)] w := hO
        refine any_pick (rs := [11]) (by kernel_rfl) (by simp) fun w hE => all1 ?_
        replace hO := hO.ext hE; replace hS := hS.trans (Ext.kp hE)
        replace hy := hy.kp hS hmx
        replace hO : Own w0 (mc z3 z4) [cel z3 #[.int .i64 q] 3, cel z4 #[.slice op on oc] 41, cel b9 #[.int .i64 (i : Int)] 3, rowR 3 1 (.slice p10 (n + 1) c11) (n + 1) ((xs ++ [(i : Int)]).flatMap encI)] w := hO.cast (by rw [List.flatMap_append]; rfl)
        have hpre := hp.step hO 0 1 rfl rfl (xs' := xs ++ [(i : Int)]) (rdx_row (c3 := #[.int .i64 q]) (fun _ => rfl) (by decide) hO 3 0 1 rfl rfl rfl (by decide) (fun _ h => h) hp.hb (fun _ h => h) (by omega)) (row_cap hO 3 rfl).1 hy (snoc_in hin (by omega)) (by omega)
        have hcall := ih m' rfl many (xs ++ [(i : Int)]) p10 (n + 1) c11 q ys op on oc w hpre (by omega)
        replace hO := hO.sel [2, 3, 0, 1] (by decide)
        refine op_call (i := 11) (f := 67) (args := #[.slice p10 (n + 1) c11, .int .i64 many, .pointer (some ⟨z2, 0, none⟩), .pointer (some ⟨z3, 0, none⟩), .pointer (some ⟨z4, 0, none⟩), .pointer (some ⟨z5, 0, none⟩)]) (d := some 53) TBok (by kernel_rfl) hF (by kernel_rfl) hcall fun e w hR => ?_
        obtain ⟨he, op1, on1, oc1, hO2, hy⟩ := hR; refine ⟨_, he, fun a hF => ⟨.inr (hS.trans hO2.kp), ?_⟩⟩
        replace hS := hS.trans hO2.kp
        replace hO := Own.join (L1 := [cel b9 #[.int .i64 (i : Int)] 3, rowR 3 1 (.slice p10 (n + 1) c11) (n + 1) ((xs ++ [(i : Int)]).flatMap encI)]) (L2 := [cel z3 #[.int .i64 q] 3, cel z4 #[.slice op on oc] 41]) hO hO2 hmc; clear hO2 he hpre hcall
        replace hO := hO.sel [2, 3, 0, 1] (by decide)
        replace hO : Own w0 (mc z3 z4) [cel z3 #[.int .i64 ((chooseF d f m' (xs ++ [(i : Int)]) (q, ys)).1)] 3, cel z4 #[.slice op1 on1 oc1] 41, cel b9 #[.int .i64 (i : Int)] 3, rowR 3 1 (.slice p10 (n + 1) c11) (n + 1) ((xs ++ [(i : Int)]).flatMap encI)] w := hO
        refine any_done (by kernel_rfl) (fun w hE => ?_) _
        replace hO := hO.ext hE; replace hy := hy.ext hE
        replace hF := hF.sel [0, 1, 2, 5, 10]
        replace hF : Fr 54 [] [(0, .slice p n c), (1, .int .i64 many), (2, .pointer (some ⟨z2, 0, none⟩)), (5, .pointer (some ⟨z5, 0, none⟩)), (10, .int .i64 (i : Int))] a := hF
        refine (region_q {} TBok hF (F' := [(0, .slice p n c), (1, .int .i64 many), (2, .pointer (some ⟨z2, 0, none⟩)), (5, .pointer (some ⟨z5, 0, none⟩)), (10, .int .i64 ((i : Int) + 1))]) (rs := [.rng ((i : Int) + 1)]) [0, 1, 2, 5, 10] (.cons (rg (by omega)) <| .nil) (by kernel_rfl) fun a w hF hE => ?_)
        replace hO := hO.ext hE; replace hy := hy.ext hE; clear hE
        rw [chooseL_cons (by omega)] at heq
        replace hO := hO.drop1 3
        replace hO := hO.drop1 2
        replace hO : Own w0 (mc z3 z4) [cel z3 #[.int .i64 ((chooseF d f m' (xs ++ [(i : Int)]) (q, ys)).1)] 3, cel z4 #[.slice op1 on1 oc1] 41] w := hO
        exact ⟨_, by omega, i + 1, _, _, op1, on1, oc1, rfl, by omega, heq, hy, hF, hO⟩
      · refine (W_false ((evOp hF (by kernel_rfl)).trans (congrArg Value.bool hc8)) ?_)
        have hc8_ := of_decide_eq_false hc8
        refine (W_exit ?_)
        show bodyPostM (FW none) 0 _ _ _ Exit.normal a w
        rw [chooseL_nil (by omega)] at heq
        exact leave_normal TBok hF (.nil _) (vs := []) (rs := []) .nil (by kernel_rfl) ⟨rfl, op, on, oc, hO.cast (by rw [← heq]), by rw [← heq]; exact hy⟩

theorem choose_calls (d : Day) (v : DV) (f : Nat → Int) (bd z2 z3 z4 z5 : Nat) (hv : dayV d = true) : ∀ (m : Nat) (many : Int) (xs : List Int) (p : Option Addr) (n c : Nat) (q0 : Int) (ys0 : List Int) (op0 : Option Addr) (on0 oc0 : Nat) (w : World), ChPre d v f bd z2 z3 z4 z5 m xs p n c q0 ys0 op0 on0 oc0 w → many = (n : Int) + (m : Int) → Calls Try.prog 67 #[.slice p n c, .int .i64 many, .pointer (some ⟨z2, 0, none⟩), .pointer (some ⟨z3, 0, none⟩), .pointer (some ⟨z4, 0, none⟩), .pointer (some ⟨z5, 0, none⟩)] w (ChPost d f bd z3 z4 m xs q0 ys0 w)
  | 0, many, xs, p, n, c, q0, ys0, op0, on0, oc0, w, hp, hmn => choose_step d v f bd z2 z3 z4 z5 0 many xs p n c q0 ys0 op0 on0 oc0 w hv hmn hp (fun m' h => absurd h (by omega))
  | m + 1, many, xs, p, n, c, q0, ys0, op0, on0, oc0, w, hp, hmn => choose_step d v f bd z2 z3 z4 z5 (m + 1) many xs p n c q0 ys0 op0 on0 oc0 w hv hmn hp (fun m' h => by cases h; exact choose_calls d v f bd z2 z3 z4 z5 hv m)

set_option maxHeartbeats 4000000 in
set_option maxRecDepth 100000 in
theorem Proof_calls (d : Day) (v : DV) (w0 : World) (hd : DayR w0.heap.size w0 v d) :
    Calls Try.prog 27 #[.agg #[.int .i64 d.hours, .slice v.ha v.hn v.hc, .slice v.la v.ln v.lc, .slice v.wa v.wn v.wc]] w0 (fun e w' => ∃ op on oc, e = .returned (.tuple #[.slice op on oc, .int .i64 (chk d)]) ∧ Own w0 none_ [rdR encI 1 op on (gutProof d)] w') := by
  have hl1 := hd.heat.len; have hl2 := hd.lots.len; have hl3 := hd.wks.len; have hs1 := hd.heat.size; have hs2 := hd.lots.size; have hs3 := hd.wks.size
  refine calls_of_W Try.func27 rfl (by kernel_rfl) (args := [.agg #[.int .i64 d.hours, .slice v.ha v.hn v.hc, .slice v.la v.ln v.lc, .slice v.wa v.wn v.wc]]) fun a hF => ?_
  replace hF : Fr 32 [] [(0, .agg #[.int .i64 d.hours, .slice v.ha v.hn v.hc, .slice v.la v.ln v.lc, .slice v.wa v.wn v.wc])] a := hF
  have hO : Own w0 none_ [] w0 := Own.start w0 _
  refine W_seq (region_seq ?_)
  refine op_box (i := 0) (t := 26) (v := .agg #[.int .i64 d.hours, .slice v.ha v.hn v.hc, .slice v.la v.ln v.lc, .slice v.wa v.wn v.wc]) (d := 1) hF hO (by kernel_rfl) fun a w b1 hF hO _ => ?_
  replace hO : Own w0 none_ [cel b1 #[.int .i64 d.hours, .slice v.ha v.hn v.hc, .slice v.la v.ln v.lc, .slice v.wa v.wn v.wc] 26] w := hO
  refine seq_quiet {} TBok hF (F' := [(1, .pointer (some ⟨b1, 0, none⟩)), (2, .slice none 0 0), (3, .int .i64 0)]) (rs := []) [1, 2] [] [1, 2, 3] .nil (by kernel_rfl) fun a w hF hE => ?_
  replace hO := hO.ext hE; clear hE
  refine W_seq ?_
  refine W_seq (region_q {} TBok hF (F' := [(1, .pointer (some ⟨b1, 0, none⟩)), (2, .slice none 0 0), (3, .int .i64 0), (4, .int .i64 (chk d))]) (rs := [.lds ⟨b1, 0, none⟩ [.int .i64 d.hours, .slice v.ha v.hn v.hc, .slice v.la v.ln v.lc, .slice v.wa v.wn v.wc], .call 18 #[.agg #[.int .i64 d.hours, .slice v.ha v.hn v.hc, .slice v.la v.ln v.lc, .slice v.wa v.wn v.wc]] (.int .i64 (chk d))]) [1, 2, 3, 4] (.cons (ldso hO.st 0 rfl 0 rfl) <| .cons (fun w hE => Check_calls d v w (hd.upM (hO.st w hE).kp nom (Nat.le_refl _))) <| .nil) (by kernel_rfl) fun a w hF hE => ?_)
  replace hO := hO.ext hE; clear hE
  refine W_seq (region_q {} TBok hF (F' := [(1, .pointer (some ⟨b1, 0, none⟩)), (2, .slice none 0 0), (3, .int .i64 0), (4, .int .i64 (chk d)), (13, .bool ((chk d) != 0))]) (rs := []) [1, 2, 3, 4, 13] .nil (by kernel_rfl) fun a w hF hE => ?_)
  replace hO := hO.ext hE; clear hE
  rcases Bool.eq_false_or_eq_true ((chk d) != 0) with hc2 | hc2
  · refine (W_true ((evOp hF (by kernel_rfl)).trans (congrArg Value.bool hc2)) ?_)
    refine W_seq (region_q {} TBok hF (F' := [(1, .pointer (some ⟨b1, 0, none⟩)), (2, .slice none 0 0), (3, .int .i64 (chk d))]) (rs := []) [1, 2, 3] .nil (by kernel_rfl) fun a w hF hE => ?_)
    replace hO := hO.ext hE; clear hE
    refine W_ret ?_
    show bodyPostM (FW none) 0 _ _ _ Exit.ret a w
    have hb1 : gutProof d = [] := if_pos (by simpa using hc2)
    exact leave_r TBok hF (.nil _) (vs := [.slice none 0 0, .int .i64 (chk d)]) (rs := []) .nil (by kernel_rfl) ⟨none, 0, 0, rfl, by rw [hb1]; exact own_rdR hO (RdX.none_ (M := fun _ => True)) encI_0 (fun _ _ => trivial)⟩
  · refine (W_false ((evOp hF (by kernel_rfl)).trans (congrArg Value.bool hc2)) ?_)
    have hv := chk_ok (by assumption)
    have hv1 := day_ok hv
    refine (W_skip ?_)
    refine W_seq (draw_start (R := none_) mixed [4] 5 (by kernel_rfl) fun w hS => ?_)
    replace hO := hO.ext hS
    refine draw_q {} TBok hF hS (F' := [(2, .slice none 0 0), (3, .int .i64 0), (17, .agg (dayL v d (untils Sp.hi d)).toArray)]) (rs := [.lds ⟨b1, 0, none⟩ [.int .i64 d.hours, .slice v.ha v.hn v.hc, .slice v.la v.ln v.lc, .slice v.wa v.wn v.wc], .call 51 #[] (.agg #[.func (.func 69) #[] #[]]), .call 50 #[.agg #[.int .i64 d.hours, .slice v.ha v.hn v.hc, .slice v.la v.ln v.lc, .slice v.wa v.wn v.wc], .agg #[.func (.func 69) #[] #[]]] (.agg (dayL v d (untils Sp.hi d)).toArray)]) [0, 1, 2] 5 2 (by kernel_rfl) #[true, true, true, false, false] [2, 3, 17] (.cons (ldso hO.st 0 rfl 0 rfl) <| .cons (fun w _ => surely_calls w) <| .cons (fun w hE => opened_hi_calls d v w (hd.upM (hO.st w hE).kp nom (Nat.le_refl _)) hv) <| .nil) (by kernel_rfl) (by kernel_rfl) fun a hF => ?_
    replace hS := Kp.refl none_ w
    refine any_pick (rs := [3]) (by kernel_rfl) (by simp) fun w hE => all1 ?_
    replace hO := hO.ext hE; replace hS := hS.trans (Ext.kp hE)
    refine op_alloc (i := 3) (t := 81) (d := 5) (z := .agg #[.int .i64 0, .slice none 0 0, .slice none 0 0, .slice none 0 0, .int .i64 0, .int .i64 0, .int .i64 0, .int .i64 0, .int .i64 0, .int .i64 0, .int .i64 0, .int .i64 0]) hF hO (by kernel_rfl) (by kernel_rfl) fun a w b3 hF hO hx => ⟨.inr (hS.trans (Ext.kp hx.1)), ?_⟩
    have hf_b3 := Nat.le_trans hS.size hx.2; replace hS := hS.trans (Ext.kp hx.1); clear hx
    replace hO : Own w0 none_ [cel b1 #[.int .i64 d.hours, .slice v.ha v.hn v.hc, .slice v.la v.ln v.lc, .slice v.wa v.wn v.wc] 26, cel b3 #[.int .i64 0, .slice none 0 0, .slice none 0 0, .slice none 0 0, .int .i64 0, .int .i64 0, .int .i64 0, .int .i64 0, .int .i64 0, .int .i64 0, .int .i64 0, .int .i64 0] 81] w := hO
    refine any_pick (rs := [4]) (by kernel_rfl) (by simp) fun w hE => all1 ?_
    replace hO := hO.ext hE; replace hS := hS.trans (Ext.kp hE)
    refine op_store (i := 4) (t := 81) (p := ⟨b3, 0, none⟩) (v := .agg (dayL v d (untils Sp.hi d)).toArray) (off := 0) (sz := 12) (cs' := (dayL v d (untils Sp.hi d)).toArray) hF hO (by kernel_rfl) 1 rfl rfl (by kernel_rfl) (by kernel_rfl) (by kernel_rfl) fun a w hF hO _ => ⟨.inl rfl, ?_⟩
    replace hO : Own w0 none_ [cel b1 #[.int .i64 d.hours, .slice v.ha v.hn v.hc, .slice v.la v.ln v.lc, .slice v.wa v.wn v.wc] 26, cel b3 (dayL v d (untils Sp.hi d)).toArray 81] w := hO
    refine any_done (by kernel_rfl) (fun w hE => ?_) _
    replace hO := hO.ext hE
    replace hF := hF.sel [2, 3, 5]
    replace hF : Fr 32 [] [(2, .slice none 0 0), (3, .int .i64 0), (5, .pointer (some ⟨b3, 0, none⟩))] a := hF
    refine W_seq (region_seq ?_)
    refine op_alloc (i := 0) (t := 3) (d := 6) (z := .int .i64 0) hF hO (by kernel_rfl) (by kernel_rfl) fun a w b4 hF hO _ => ?_
    replace hO : Own w0 none_ [cel b1 #[.int .i64 d.hours, .slice v.ha v.hn v.hc, .slice v.la v.ln v.lc, .slice v.wa v.wn v.wc] 26, cel b3 (dayL v d (untils Sp.hi d)).toArray 81, cel b4 #[.int .i64 0] 3] w := hO
    refine op_store (i := 1) (t := 3) (p := ⟨b4, 0, none⟩) (v := .int .i64 0) (off := 0) (sz := 1) (cs' := #[.int .i64 0]) hF hO (by kernel_rfl) 2 rfl rfl (by kernel_rfl) (by kernel_rfl) (by kernel_rfl) fun a w hF hO _ => ?_
    replace hO : Own w0 none_ [cel b1 #[.int .i64 d.hours, .slice v.ha v.hn v.hc, .slice v.la v.ln v.lc, .slice v.wa v.wn v.wc] 26, cel b3 (dayL v d (untils Sp.hi d)).toArray 81, cel b4 #[.int .i64 0] 3] w := hO
    replace hF := hF.sel [2, 3, 5, 6]
    replace hF : Fr 32 [] [(2, .slice none 0 0), (3, .int .i64 0), (5, .pointer (some ⟨b3, 0, none⟩)), (6, .pointer (some ⟨b4, 0, none⟩))] a := hF
    refine W_seq (region_seq ?_)
    refine op_alloc (i := 0) (t := 41) (d := 7) (z := .slice none 0 0) hF hO (by kernel_rfl) (by kernel_rfl) fun a w b5 hF hO _ => ?_
    replace hO : Own w0 none_ [cel b1 #[.int .i64 d.hours, .slice v.ha v.hn v.hc, .slice v.la v.ln v.lc, .slice v.wa v.wn v.wc] 26, cel b3 (dayL v d (untils Sp.hi d)).toArray 81, cel b4 #[.int .i64 0] 3, cel b5 #[.slice none 0 0] 41] w := hO
    replace hF := hF.sel [2, 3, 5, 6, 7]
    replace hF : Fr 32 [] [(2, .slice none 0 0), (3, .int .i64 0), (5, .pointer (some ⟨b3, 0, none⟩)), (6, .pointer (some ⟨b4, 0, none⟩)), (7, .pointer (some ⟨b5, 0, none⟩))] a := hF
    refine W_seq (region_seq ?_)
    refine op_alloc (i := 0) (t := 109) (d := 8) (z := .nilFunc) hF hO (by kernel_rfl) (by kernel_rfl) fun a w b6 hF hO _ => ?_
    replace hO : Own w0 none_ [cel b1 #[.int .i64 d.hours, .slice v.ha v.hn v.hc, .slice v.la v.ln v.lc, .slice v.wa v.wn v.wc] 26, cel b3 (dayL v d (untils Sp.hi d)).toArray 81, cel b4 #[.int .i64 0] 3, cel b5 #[.slice none 0 0] 41, cel b6 #[.nilFunc] 109] w := hO
    replace hF := hF.sel [2, 3, 5, 6, 7, 8]
    replace hF : Fr 32 [] [(2, .slice none 0 0), (3, .int .i64 0), (5, .pointer (some ⟨b3, 0, none⟩)), (6, .pointer (some ⟨b4, 0, none⟩)), (7, .pointer (some ⟨b5, 0, none⟩)), (8, .pointer (some ⟨b6, 0, none⟩))] a := hF
    refine W_seq (region_seq ?_)
    refine seq_quiet {} TBok hF (F' := [(2, .slice none 0 0), (3, .int .i64 0), (5, .pointer (some ⟨b3, 0, none⟩)), (7, .pointer (some ⟨b5, 0, none⟩)), (8, .pointer (some ⟨b6, 0, none⟩)), (18, .func (.func 67) #[] #[.pointer (some ⟨b3, 0, none⟩), .pointer (some ⟨b4, 0, none⟩), .pointer (some ⟨b5, 0, none⟩), .pointer (some ⟨b6, 0, none⟩)])]) (rs := []) [0] [1] [2, 3, 5, 7, 8, 18] .nil (by kernel_rfl) fun a w hF hE => ?_
    replace hO := hO.ext hE; clear hE
    refine op_store (i := 1) (t := 109) (p := ⟨b6, 0, none⟩) (v := .func (.func 67) #[] #[.pointer (some ⟨b3, 0, none⟩), .pointer (some ⟨b4, 0, none⟩), .pointer (some ⟨b5, 0, none⟩), .pointer (some ⟨b6, 0, none⟩)]) (off := 0) (sz := 1) (cs' := #[.func (.func 67) #[] #[.pointer (some ⟨b3, 0, none⟩), .pointer (some ⟨b4, 0, none⟩), .pointer (some ⟨b5, 0, none⟩), .pointer (some ⟨b6, 0, none⟩)]]) hF hO (by kernel_rfl) 4 rfl rfl (by kernel_rfl) (by kernel_rfl) (by kernel_rfl) fun a w hF hO _ => ?_
    replace hO : Own w0 none_ [cel b1 #[.int .i64 d.hours, .slice v.ha v.hn v.hc, .slice v.la v.ln v.lc, .slice v.wa v.wn v.wc] 26, cel b3 (dayL v d (untils Sp.hi d)).toArray 81, cel b4 #[.int .i64 0] 3, cel b5 #[.slice none 0 0] 41, cel b6 #[.func (.func 67) #[] #[.pointer (some ⟨b3, 0, none⟩), .pointer (some ⟨b4, 0, none⟩), .pointer (some ⟨b5, 0, none⟩), .pointer (some ⟨b6, 0, none⟩)]] 109] w := hO
    replace hF := hF.sel [2, 3, 5, 7, 8]
    replace hF : Fr 32 [] [(2, .slice none 0 0), (3, .int .i64 0), (5, .pointer (some ⟨b3, 0, none⟩)), (7, .pointer (some ⟨b5, 0, none⟩)), (8, .pointer (some ⟨b6, 0, none⟩))] a := hF
    refine W_seq ?_
    refine W_seq (region_q {} TBok hF (F' := [(2, .slice none 0 0), (3, .int .i64 0), (7, .pointer (some ⟨b5, 0, none⟩)), (8, .pointer (some ⟨b6, 0, none⟩)), (22, .int .i64 (v.ln : Int)), (23, .int .i64 0)]) (rs := [.ld ⟨b3, 2, none⟩ (.slice v.la v.ln v.lc)]) [2, 3, 7, 8, 22, 23] (.cons (ldo hO.st 1 rfl 2 (by kernel_rfl)) <| .nil) (by kernel_rfl) fun a w hF hE => ?_)
    replace hO := hO.ext hE; clear hE
    refine (W_block ?_)
    refine (W_loop (fun m a w => ∃ (k : Nat), ∃ (op : Option Addr), ∃ (on : Nat), ∃ (oc : Nat), m = v.ln - k ∧ k ≤ v.ln ∧ RdX (mx w0.heap.size b4 b5) encI 1 w op on (proofK d (untils Sp.hi d) k).2 ∧ Fr 32 [] [(2, .slice none 0 0), (3, .int .i64 0), (7, .pointer (some ⟨b5, 0, none⟩)), (8, .pointer (some ⟨b6, 0, none⟩)), (22, .int .i64 (v.ln : Int)), (23, .int .i64 (k : Int))] a ∧ Own w0 none_ [cel b1 #[.int .i64 d.hours, .slice v.ha v.hn v.hc, .slice v.la v.ln v.lc, .slice v.wa v.wn v.wc] 26, cel b3 (dayL v d (untils Sp.hi d)).toArray 81, cel b4 #[.int .i64 ((proofK d (untils Sp.hi d) k).1)] 3, cel b5 #[.slice op on oc] 41, cel b6 #[.func (.func 67) #[] #[.pointer (some ⟨b3, 0, none⟩), .pointer (some ⟨b4, 0, none⟩), .pointer (some ⟨b5, 0, none⟩), .pointer (some ⟨b6, 0, none⟩)]] 109] w) _ ⟨0, none, 0, 0, rfl, Nat.zero_le _, RdX.none_, hF, hO⟩ ?_)
    clear hF hO
    rintro _ a w ⟨k, op, on, oc, rfl, hk, hy, hF, hO⟩
    refine W_seq (region_q {} TBok hF (F' := [(2, .slice none 0 0), (3, .int .i64 0), (7, .pointer (some ⟨b5, 0, none⟩)), (8, .pointer (some ⟨b6, 0, none⟩)), (22, .int .i64 (v.ln : Int)), (23, .int .i64 (k : Int)), (24, .bool (decide ((k : Int) < (v.ln : Int))))]) (rs := []) [2, 3, 7, 8, 22, 23, 24] .nil (by kernel_rfl) fun a w hF hE => ?_)
    replace hO := hO.ext hE; replace hy := hy.ext hE; clear hE
    rcases Bool.eq_false_or_eq_true (decide ((k : Int) < (v.ln : Int))) with hc7 | hc7
    · refine W_seq (W_true ((evOp hF (by kernel_rfl)).trans (congrArg Value.bool hc7)) ?_)
      have hc7_ := of_decide_eq_true hc7
      refine (W_skip ?_)
      refine W_seq (W_block ?_)
      refine W_seq (region_q {} TBok hF (F' := [(2, .slice none 0 0), (3, .int .i64 0), (7, .pointer (some ⟨b5, 0, none⟩)), (8, .pointer (some ⟨b6, 0, none⟩)), (9, .int .i64 (k : Int)), (22, .int .i64 (v.ln : Int)), (23, .int .i64 (k : Int))]) (rs := []) [2, 3, 7, 8, 9, 22, 23] .nil (by kernel_rfl) fun a w hF hE => ?_)
      replace hO := hO.ext hE; replace hy := hy.ext hE; clear hE
      refine (region_seq ?_)
      refine seq_quiet {} TBok hF (F' := [(2, .slice none 0 0), (3, .int .i64 0), (7, .pointer (some ⟨b5, 0, none⟩)), (8, .pointer (some ⟨b6, 0, none⟩)), (22, .int .i64 (v.ln : Int)), (23, .int .i64 (k : Int)), (26, .func (.func 67) #[] #[.pointer (some ⟨b3, 0, none⟩), .pointer (some ⟨b4, 0, none⟩), .pointer (some ⟨b5, 0, none⟩), .pointer (some ⟨b6, 0, none⟩)]), (28, .int .i64 ((k : Int) + 1))]) (rs := [.ld ⟨b6, 0, none⟩ (.func (.func 67) #[] #[.pointer (some ⟨b3, 0, none⟩), .pointer (some ⟨b4, 0, none⟩), .pointer (some ⟨b5, 0, none⟩), .pointer (some ⟨b6, 0, none⟩)]), .rng ((k : Int) + 1)]) [0, 1, 2] [3] [2, 3, 7, 8, 22, 23, 26, 28] (.cons (ldo hO.st 4 rfl 0 rfl) <| .cons (rg (by omega)) <| .nil) (by kernel_rfl) fun a w hF hE => ?_
      replace hO := hO.ext hE; replace hy := hy.ext hE; clear hE
      have hpre := ch_start (m := k + 1) hd hO 1 2 3 4 rfl rfl rfl rfl (by decide) hy (by omega)
      have hcall := choose_calls d v (untils Sp.hi d) w0.heap.size b3 b4 b5 b6 hv (k + 1) ((k : Int) + 1) _ _ _ _ _ _ _ _ _ _ hpre (by omega)
      replace hO := hO.sel [0, 1, 4, 2, 3] (by decide)
      refine op_call (i := 3) (f := 67) (args := #[.slice none 0 0, .int .i64 ((k : Int) + 1), .pointer (some ⟨b3, 0, none⟩), .pointer (some ⟨b4, 0, none⟩), .pointer (some ⟨b5, 0, none⟩), .pointer (some ⟨b6, 0, none⟩)]) (d := some 29) TBok (by kernel_rfl) hF (by kernel_rfl) hcall fun e w hR => ?_
      obtain ⟨he, op1, on1, oc1, hO2, hy⟩ := hR; refine ⟨_, he, fun a hF => ?_⟩
      replace hO := Own.join (L1 := [cel b1 #[.int .i64 d.hours, .slice v.ha v.hn v.hc, .slice v.la v.ln v.lc, .slice v.wa v.wn v.wc] 26, cel b3 (dayL v d (untils Sp.hi d)).toArray 81, cel b6 #[.func (.func 67) #[] #[.pointer (some ⟨b3, 0, none⟩), .pointer (some ⟨b4, 0, none⟩), .pointer (some ⟨b5, 0, none⟩), .pointer (some ⟨b6, 0, none⟩)]] 109]) (L2 := [cel b4 #[.int .i64 ((proofK d (untils Sp.hi d) k).1)] 3, cel b5 #[.slice op on oc] 41]) hO hO2 hmc; clear hO2 he hpre hcall
      replace hO := hO.sel [0, 1, 3, 4, 2] (by decide)
      replace hO : Own w0 none_ [cel b1 #[.int .i64 d.hours, .slice v.ha v.hn v.hc, .slice v.la v.ln v.lc, .slice v.wa v.wn v.wc] 26, cel b3 (dayL v d (untils Sp.hi d)).toArray 81, cel b4 #[.int .i64 ((proofK d (untils Sp.hi d) (k + 1)).1)] 3, cel b5 #[.slice op1 on1 oc1] 41, cel b6 #[.func (.func 67) #[] #[.pointer (some ⟨b3, 0, none⟩), .pointer (some ⟨b4, 0, none⟩), .pointer (some ⟨b5, 0, none⟩), .pointer (some ⟨b6, 0, none⟩)]] 109] w := hO
      replace hF := hF.sel [2, 3, 7, 8, 22, 23]
      replace hF : Fr 32 [] [(2, .slice none 0 0), (3, .int .i64 0), (7, .pointer (some ⟨b5, 0, none⟩)), (8, .pointer (some ⟨b6, 0, none⟩)), (22, .int .i64 (v.ln : Int)), (23, .int .i64 (k : Int))] a := hF
      refine (region_q {} TBok hF (F' := [(2, .slice none 0 0), (3, .int .i64 0), (7, .pointer (some ⟨b5, 0, none⟩)), (8, .pointer (some ⟨b6, 0, none⟩)), (22, .int .i64 (v.ln : Int)), (23, .int .i64 ((k : Int) + 1))]) (rs := [.rng ((k : Int) + 1)]) [2, 3, 7, 8, 22, 23] (.cons (rg (by omega)) <| .nil) (by kernel_rfl) fun a w hF hE => ?_)
      replace hO := hO.ext hE; replace hy := hy.ext hE; clear hE
      exact ⟨_, by omega, k + 1, op1, on1, oc1, rfl, by omega, hy, hF, hO⟩
    · refine W_seq (W_false ((evOp hF (by kernel_rfl)).trans (congrArg Value.bool hc7)) ?_)
      have hc7_ := of_decide_eq_false hc7
      refine (W_exit ?_)
      refine W_seq (region_q {} TBok hF (F' := [(2, .slice op on oc), (3, .int .i64 0)]) (rs := [.ld ⟨b5, 0, none⟩ (.slice op on oc)]) [2, 3] (.cons (ldo hO.st 3 rfl 0 rfl) <| .nil) (by kernel_rfl) fun a w hF hE => ?_)
      replace hO := hO.ext hE; replace hy := hy.ext hE; clear hE
      refine W_ret ?_
      show bodyPostM (FW none) 0 _ _ _ Exit.ret a w
      have h0 : chk d = 0 := by simpa using hc2
      have hkk : k = d.lots.length := by omega
      have hb1 : gutProof d = (proofK d (untils Sp.hi d) k).2 := by rw [hkk]; exact if_neg (by simpa using h0)
      exact leave_r TBok hF (.nil _) (vs := [.slice op on oc, .int .i64 0]) (rs := []) .nil (by kernel_rfl) ⟨op, on, oc, by rw [h0]; rfl, by rw [hb1]; exact own_rdR hO hy encI_0 (fun _ h => .inr (.inr h))⟩

end Go.Proofs.Ytioimdegbdkppaa.DK
