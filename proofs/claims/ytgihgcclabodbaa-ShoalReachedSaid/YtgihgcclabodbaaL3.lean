/- The law ShoalReached, walked. Printed by my gen.py out of shoal/cc.py. -/
import Derived.Test.YtgihgcclabodbaaT5
import Derived.Test.YtgihgcclabodbaaSLaw2
namespace Go.Proofs.Ytgihgcclabodbaa.DK
open Go Go.Proofs
set_option linter.unusedVariables false
set_option linter.unusedSimpArgs false

theorem rep_zero {rs : List Rp} {x : Rp} : (rs ++ List.replicate 0 x).flatMap encRp = rs.flatMap encRp := by rw [List.replicate_zero, List.append_nil]
theorem rep_app {rs : List Rp} {x : Rp} {k : Nat} : (rs ++ List.replicate (k + 1) x).flatMap encRp = (rs ++ List.replicate k x).flatMap encRp ++ encRp x := by
  rw [List.replicate_succ', ← List.append_assoc, List.flatMap_append]; simp
set_option maxHeartbeats 4000000 in
set_option maxRecDepth 100000 in
theorem ShoalReached_calls (s : Sea) (v : SV) (rs : List Rp) (p : Option Addr) (n c : Nat) (nf : Nat → Int) (w0 : World) (hs : SeaR w0.heap.size w0 v s) (hx : Rd encRp 4 w0.heap.size w0 p n rs) :
    Calls Try.prog 9 #[.agg #[iv s.wide, iv s.high, .slice v.la v.ln v.lc, iv s.hours, .slice v.da v.dn v.dc, iv s.speed, .slice p n c], .agg (arrL 3 nf).toArray] w0 (fun e w' => e = .returned (.bool true) ∧ Ext w0 w') := by
  have hl1 := hs.land.len; have hl2 := hs.drift.len; have hs1 := hs.land.size; have hs2 := hs.drift.size; have hr_ := hs.rg; unfold i64 at hr_; have hl3 := hx.len; have hs3 := hx.size
  refine calls_of_W Try.func9 rfl (by kernel_rfl) (args := [.agg #[iv s.wide, iv s.high, .slice v.la v.ln v.lc, iv s.hours, .slice v.da v.dn v.dc, iv s.speed, .slice p n c], .agg (arrL 3 nf).toArray]) fun a hF => ?_
  replace hF : Fr 133 [] [(0, .agg #[iv s.wide, iv s.high, .slice v.la v.ln v.lc, iv s.hours, .slice v.da v.dn v.dc, iv s.speed, .slice p n c]), (1, .agg (arrL 3 nf).toArray)] a := hF
  have hO : Own w0 none_ [] w0 := Own.start w0 _
  refine W_seq (region_seq ?_)
  refine op_box (i := 0) (t := 28) (v := .agg #[iv s.wide, iv s.high, .slice v.la v.ln v.lc, iv s.hours, .slice v.da v.dn v.dc, iv s.speed, .slice p n c]) (d := 2) hF hO (by kernel_rfl) fun a w b1 hF hO _ => ?_
  refine op_box (i := 1) (t := 55) (v := .agg (arrL 3 nf).toArray) (d := 3) hF hO (by kernel_rfl) fun a w b2 hF hO _ => ?_
  refine seq_quiet {} TBok hF (F' := [(2, pv b1), (3, pv b2), (4, .bool false)]) (rs := []) [2] [] [2, 3, 4] .nil (by kernel_rfl) fun a w hF hE => ?_
  replace hO := hO.ext hE; clear hE
  refine W_seq ?_
  refine W_seq (region_q {} TBok hF (F' := [(2, pv b1), (3, pv b2), (4, .bool false), (20, .bool (!(err s rs == 0)))]) (rs := [.lds ⟨b1, 0, none⟩ [iv s.wide, iv s.high, .slice v.la v.ln v.lc, iv s.hours, .slice v.da v.dn v.dc, iv s.speed, .slice p n c], .call 32 #[.agg #[iv s.wide, iv s.high, .slice v.la v.ln v.lc, iv s.hours, .slice v.da v.dn v.dc, iv s.speed, .slice p n c]] (.bool (err s rs == 0))]) [2, 3, 4, 20] (.cons (ldso hO.st 0 rfl 0 rfl) <| .cons (fun w hE => sound_calls s v rs p n c w (hs.upM (hO.st w hE).kp nom (Nat.le_refl _)) (hx.upM (hO.st w hE).kp nom (Nat.le_refl _))) <| .nil) (by kernel_rfl) fun a w hF hE => ?_)
  replace hO := hO.ext hE; clear hE
  rcases Bool.eq_false_or_eq_true (!(err s rs == 0)) with hc3 | hc3
  · refine (W_true ((evOp hF (by kernel_rfl)).trans (congrArg Value.bool hc3)) ?_)
    refine W_seq (region_q {} TBok hF (F' := [(2, pv b1), (3, pv b2), (4, .bool true)]) (rs := [.call 23 #[] (.bool true)]) [2, 3, 4] (.cons (fun w _ => works_calls w) <| .nil) (by kernel_rfl) fun a w hF hE => ?_)
    replace hO := hO.ext hE; clear hE
    refine W_ret ?_
    show bodyPostM (FW none) 0 _ _ _ Exit.ret a w
    exact leave_r TBok hF (.nil _) (vs := [.bool true]) (rs := []) .nil (by kernel_rfl) ⟨rfl, hO.kp⟩
  · refine (W_false ((evOp hF (by kernel_rfl)).trans (congrArg Value.bool hc3)) ?_)
    have her : err s rs = 0 := by have h_ := (by assumption : (!(err s rs == 0)) = false); simpa using h_
    obtain ⟨hv, hr⟩ := err_hd her
    have hv1 := sea_ok hv; have hrp := rp_ok hr
    have hnc : 0 < s.wide * s.high := by unfold nC at hv1; omega
    have hm1 := Int.emod_nonneg (nf 1) (show s.hours ≠ 0 by omega); have hm2 := Int.emod_lt_of_pos (nf 1) (show 0 < s.hours by omega)
    have hm3 := Int.emod_nonneg (nf 2) (show s.wide * s.high ≠ 0 by omega); have hm4 := Int.emod_lt_of_pos (nf 2) hnc
    have hask : askB s ((nf 0) % 6) ((nf 1) % s.hours) = true := askB_iff.2 ⟨by omega, by omega, by omega, by omega⟩
    refine (W_skip ?_)
    refine W_seq (region_d {} mixed TBok hF (F' := [(2, pv b1), (4, .bool false), (5, iv ((nf 0) % 6)), (6, iv ((nf 1) % s.hours)), (7, iv ((nf 2) % (s.wide * s.high)))]) (rs := [.idx (some ⟨b2, 0, none⟩) 3 0 1 ((⟨b2, 0, none⟩ : Addr).add ((0 : Int).toNat * 1)), .ld ((⟨b2, 0, none⟩ : Addr).add ((0 : Int).toNat * 1)) (iv (nf 0)), .call 38 #[iv (nf 0), iv 6] (iv ((nf 0) % 6)), .idx (some ⟨b2, 0, none⟩) 3 1 1 ((⟨b2, 0, none⟩ : Addr).add ((1 : Int).toNat * 1)), .ld ((⟨b2, 0, none⟩ : Addr).add ((1 : Int).toNat * 1)) (iv (nf 1)), .ld ⟨b1, 3, none⟩ (iv s.hours), .call 38 #[iv (nf 1), iv s.hours] (iv ((nf 1) % s.hours)), .idx (some ⟨b2, 0, none⟩) 3 2 1 ((⟨b2, 0, none⟩ : Addr).add ((2 : Int).toNat * 1)), .ld ((⟨b2, 0, none⟩ : Addr).add ((2 : Int).toNat * 1)) (iv (nf 2)), .ld ⟨b1, 0, none⟩ (iv s.wide), .ld ⟨b1, 1, none⟩ (iv s.high), .rng (s.wide * s.high), .call 38 #[iv (nf 2), iv (s.wide * s.high)] (iv ((nf 2) % (s.wide * s.high)))]) [2, 4, 5, 6, 7] (.cons (ixa (by omega) (by omega)) <| .cons (ldf (pre := []) (n := 3) (f := nf) (post := []) hO.st 1 rfl rfl (by omega) (by omega)) <| .cons (fun w hE => Mod_calls (nf 0) 6 w (by unfold nC at hv1; omega) (by unfold nC at hv1; omega)) <| .cons (ixa (by omega) (by omega)) <| .cons (ldf (pre := []) (n := 3) (f := nf) (post := []) hO.st 1 rfl rfl (by omega) (by omega)) <| .cons (ldo hO.st 0 rfl 3 rfl) <| .cons (fun w hE => Mod_calls (nf 1) s.hours w (by unfold nC at hv1; omega) (by unfold nC at hv1; omega)) <| .cons (ixa (by omega) (by omega)) <| .cons (ldf (pre := []) (n := 3) (f := nf) (post := []) hO.st 1 rfl rfl (by omega) (by omega)) <| .cons (ldo hO.st 0 rfl 0 rfl) <| .cons (ldo hO.st 0 rfl 1 rfl) <| .cons (rg (by unfold nC at hv1; omega)) <| .cons (fun w hE => Mod_calls (nf 2) (s.wide * s.high) w (by unfold nC at hv1; omega) (by unfold nC at hv1; omega)) <| .nil) (by kernel_rfl) (by kernel_rfl) fun a w hF hE => ?_)
    replace hO := hO.ext hE; clear hE
    refine W_seq ?_
    refine W_seq (region_q {} TBok hF (F' := [(2, pv b1), (4, .bool false), (5, iv ((nf 0) % 6)), (6, iv ((nf 1) % s.hours)), (7, iv ((nf 2) % (s.wide * s.high))), (47, .bool (decide ((((n : Int) + ((nf 0) % 6)) + 1) > 24)))]) (rs := [.ld ⟨b1, 6, none⟩ (.slice p n c), .rng ((n : Int) + ((nf 0) % 6)), .rng (((n : Int) + ((nf 0) % 6)) + 1)]) [2, 4, 5, 6, 7, 47] (.cons (ldo hO.st 0 rfl 6 rfl) <| .cons (rg (by unfold nC at hv1; omega)) <| .cons (rg (by unfold nC at hv1; omega)) <| .nil) (by kernel_rfl) fun a w hF hE => ?_)
    replace hO := hO.ext hE; clear hE
    rcases Bool.eq_false_or_eq_true (decide ((((n : Int) + ((nf 0) % 6)) + 1) > 24)) with hc4 | hc4
    · refine (W_true ((evOp hF (by kernel_rfl)).trans (congrArg Value.bool hc4)) ?_)
      have hc4_ := of_decide_eq_true hc4
      refine W_seq (region_q {} TBok hF (F' := [(2, pv b1), (4, .bool true), (5, iv ((nf 0) % 6)), (6, iv ((nf 1) % s.hours)), (7, iv ((nf 2) % (s.wide * s.high)))]) (rs := [.call 23 #[] (.bool true)]) [2, 4, 5, 6, 7] (.cons (fun w _ => works_calls w) <| .nil) (by kernel_rfl) fun a w hF hE => ?_)
      replace hO := hO.ext hE; clear hE
      refine W_ret ?_
      show bodyPostM (FW none) 0 _ _ _ Exit.ret a w
      exact leave_r TBok hF (.nil _) (vs := [.bool true]) (rs := []) .nil (by kernel_rfl) ⟨rfl, hO.kp⟩
    · refine (W_false ((evOp hF (by kernel_rfl)).trans (congrArg Value.bool hc4)) ?_)
      have h24 := of_decide_eq_false (by assumption : (decide ((((n : Int) + ((nf 0) % 6)) + 1) > 24)) = false)
      refine (W_skip ?_)
      refine W_seq (region_seq ?_)
      refine seq_quiet {} TBok hF (F' := [(2, pv b1), (4, .bool false), (5, iv ((nf 0) % 6)), (6, iv ((nf 1) % s.hours)), (7, iv ((nf 2) % (s.wide * s.high))), (51, .agg (sS6 s v)), (53, .slice p n c), (54, iv ((nf 0) % 6)), (55, iv ((nf 1) % s.hours))]) (rs := [.lds ⟨b1, 0, none⟩ (sL6 s v), .ld ⟨b1, 6, none⟩ (.slice p n c)]) [0, 1, 2, 3, 4, 5] [6, 7, 8, 9, 10, 11] [2, 4, 5, 6, 7, 51, 53, 54, 55] (.cons (ldso hO.st 0 rfl 0 rfl) <| .cons (ldo hO.st 0 rfl 6 rfl) <| .nil) (by kernel_rfl) fun a w hF hE => ?_
      replace hO := hO.ext hE; clear hE
      refine op_call (i := 6) (f := 24) (args := #[.agg (sS6 s v), .slice p n c, iv ((nf 0) % 6), iv ((nf 1) % s.hours)]) (d := some 56) TBok (by kernel_rfl) hF (by kernel_rfl) (Can_calls s v rs p n c ((nf 0) % 6) ((nf 1) % s.hours) _ (hs.upM hO.kp nom (Nat.le_refl _)) (hx.upM hO.kp nom (Nat.le_refl _))) fun e w hR => ?_
      obtain ⟨p5, n6, c7, hn8, he, hO2⟩ := hR
      refine ⟨_, he, fun a hF => ?_⟩
      replace hO := hO.joinE hO2; clear hO2 he
      refine seq_quiet {} TBok hF (F' := [(2, pv b1), (4, .bool false), (5, iv ((nf 0) % 6)), (6, iv ((nf 1) % s.hours)), (7, iv ((nf 2) % (s.wide * s.high))), (8, .slice p5 n6 c7), (9, iv ((canR s rs ((nf 0) % 6) ((nf 1) % s.hours)).2))]) (rs := []) [7, 8, 9, 10, 11] [] [2, 4, 5, 6, 7, 8, 9] .nil (by kernel_rfl) fun a w hF hE => ?_
      replace hO := hO.ext hE; clear hE
      refine W_seq (region_seq ?_)
      refine seq_quiet {} TBok hF (F' := [(2, pv b1), (4, .bool false), (5, iv ((nf 0) % 6)), (6, iv ((nf 1) % s.hours)), (7, iv ((nf 2) % (s.wide * s.high))), (8, .slice p5 n6 c7), (9, iv ((canR s rs ((nf 0) % 6) ((nf 1) % s.hours)).2)), (61, .agg (sS6 s v)), (63, .slice p n c)]) (rs := [.lds ⟨b1, 0, none⟩ (sL6 s v), .ld ⟨b1, 6, none⟩ (.slice p n c)]) [0, 1, 2, 3] [4, 5, 6, 7, 8, 9, 10, 11] [2, 4, 5, 6, 7, 8, 9, 61, 63] (.cons (ldso hO.st 0 rfl 0 rfl) <| .cons (ldo hO.st 0 rfl 6 rfl) <| .nil) (by kernel_rfl) fun a w hF hE => ?_
      replace hO := hO.ext hE; clear hE
      refine op_call (i := 4) (f := 20) (args := #[.agg (sS6 s v), .slice p n c]) (d := some 64) TBok (by kernel_rfl) hF (by kernel_rfl) (Least_calls s v rs p n c _ (hs.upM hO.kp nom (Nat.le_refl _)) (hx.upM hO.kp nom (Nat.le_refl _))) fun e w hR => ?_
      obtain ⟨p9, n10, c11, hn12, he, hO2⟩ := hR
      refine ⟨_, he, fun a hF => ?_⟩
      replace hO := hO.joinE hO2; clear hO2 he
      replace hO : Own w0 none_ [cel b1 #[iv s.wide, iv s.high, .slice v.la v.ln v.lc, iv s.hours, .slice v.da v.dn v.dc, iv s.speed, .slice p n c] 28, cel b2 (arrL 3 nf).toArray 55, rdR encI 1 p5 n6 (canR s rs ((nf 0) % 6) ((nf 1) % s.hours)).1, rdR encI 1 p9 n10 (leastR s rs).2.1] w := hO
      refine seq_quiet {} TBok hF (F' := [(2, pv b1), (4, .bool false), (5, iv ((nf 0) % 6)), (6, iv ((nf 1) % s.hours)), (7, iv ((nf 2) % (s.wide * s.high))), (8, .slice p5 n6 c7), (9, iv ((canR s rs ((nf 0) % 6) ((nf 1) % s.hours)).2)), (10, iv ((leastR s rs).1)), (12, iv ((leastR s rs).2.2))]) (rs := []) [5, 6, 7, 8, 9, 10, 11] [] [2, 4, 5, 6, 7, 8, 9, 10, 12] .nil (by kernel_rfl) fun a w hF hE => ?_
      replace hO := hO.ext hE; clear hE
      refine W_seq ?_
      refine W_seq (region_q { sy := [2, 6, 11, 18, 21], md := [(16, 3)] } TBok hF (F' := [(2, pv b1), (4, .bool false), (5, iv ((nf 0) % 6)), (6, iv ((nf 1) % s.hours)), (7, iv ((nf 2) % (s.wide * s.high))), (8, .slice p5 n6 c7), (94, .bool (cond (cond (cond ((canR s rs ((nf 0) % 6) ((nf 1) % s.hours)).2 != 0) ((canR s rs ((nf 0) % 6) ((nf 1) % s.hours)).2 != 12) false) true (((canR s rs ((nf 0) % 6) ((nf 1) % s.hours)).2 == 0) != (cond ((leastR s rs).2.2 == 0) (decide ((leastR s rs).1 ≤ ((nf 0) % 6))) false))) true (cond ((canR s rs ((nf 0) % 6) ((nf 1) % s.hours)).2 != 0) (decide ((n6 : Int) > 0)) false)))]) (rs := [.und (!(cond ((canR s rs ((nf 0) % 6) ((nf 1) % s.hours)).2 != 0) ((canR s rs ((nf 0) % 6) ((nf 1) % s.hours)).2 != 12) false)) (.raw (rb .neq 4 (.tmp 76) (.tmp 83) (.bool ((canR s rs ((nf 0) % 6) ((nf 1) % s.hours)).2 == 0)) (.bool (cond ((leastR s rs).2.2 == 0) (decide ((leastR s rs).1 ≤ ((nf 0) % 6))) false))) (.bool (((canR s rs ((nf 0) % 6) ((nf 1) % s.hours)).2 == 0) != (cond ((leastR s rs).2.2 == 0) (decide ((leastR s rs).1 ≤ ((nf 0) % 6))) false))))]) [2, 4, 5, 6, 7, 8, 94] (.cons (fun hg => (raw_neB boolT4 _ _)) <| .nil) (by kernel_rfl) fun a w hF hE => ?_)
      replace hO := hO.ext hE; clear hE
      rcases Bool.eq_false_or_eq_true (cond (cond (cond ((canR s rs ((nf 0) % 6) ((nf 1) % s.hours)).2 != 0) ((canR s rs ((nf 0) % 6) ((nf 1) % s.hours)).2 != 12) false) true (((canR s rs ((nf 0) % 6) ((nf 1) % s.hours)).2 == 0) != (cond ((leastR s rs).2.2 == 0) (decide ((leastR s rs).1 ≤ ((nf 0) % 6))) false))) true (cond ((canR s rs ((nf 0) % 6) ((nf 1) % s.hours)).2 != 0) (decide ((n6 : Int) > 0)) false)) with hc13 | hc13
      · refine (W_true ((evOp hF (by kernel_rfl)).trans (congrArg Value.bool hc13)) ?_)
        exact absurd ((reach_dead her hask (by assumption)).symm.trans hc13) (by decide)
      · refine (W_false ((evOp hF (by kernel_rfl)).trans (congrArg Value.bool hc13)) ?_)
        refine (W_skip ?_)
        refine W_seq (region_seq ?_)
        refine op_bsl (i := 0) (t := 26) (e := 52) (len := 0) (ps := []) (d := 95) (sz := 4) (cs := #[]) (z := .agg #[iv 0, iv 0, iv 0, .bool false]) hF hO (by kernel_rfl) (by kernel_rfl) (by kernel_rfl) (by kernel_rfl) (by kernel_rfl) fun a w b14 hF hO _ => ?_
        refine seq_quiet {} TBok hF (F' := [(2, pv b1), (4, .bool false), (5, iv ((nf 0) % 6)), (6, iv ((nf 1) % s.hours)), (7, iv ((nf 2) % (s.wide * s.high))), (8, .slice p5 n6 c7), (95, .slice (some ⟨b14, 0, none⟩) 0 0), (97, .slice p n c)]) (rs := [.ld ⟨b1, 6, none⟩ (.slice p n c)]) [1, 2] [3, 4] [2, 4, 5, 6, 7, 8, 95, 97] (.cons (ldo hO.st 0 rfl 6 rfl) <| .nil) (by kernel_rfl) fun a w hF hE => ?_
        replace hO := hO.ext hE; clear hE
        replace hO := hO.emptyRow 4 rfl 4
        refine op_appX (i := 3) (t := 26) (ty := 26) (e := 52) (d := 98) (c2 := c) (enc := encRp) (ys := rs) rowT26 (fun _ => rfl) (fun _ => rfl) hF hO (by kernel_rfl) ((hx.upM hO.kp nom (Nat.le_refl _))) 4 rfl (by omega) fun a w p15 c16 hF hO hx => ?_
        clear hx
        have hn17 : 0 + n = n := Nat.zero_add _
        rw [hn17] at hO hF
        clear hn17
        replace hO : Own w0 none_ [cel b1 #[iv s.wide, iv s.high, .slice v.la v.ln v.lc, iv s.hours, .slice v.da v.dn v.dc, iv s.speed, .slice p n c] 28, cel b2 (arrL 3 nf).toArray 55, rdR encI 1 p5 n6 (canR s rs ((nf 0) % 6) ((nf 1) % s.hours)).1, rdR encI 1 p9 n10 (leastR s rs).2.1, rowR 52 4 (.slice p15 n c16) n (rs.flatMap encRp)] w := hO
        refine seq_quiet {} TBok hF (F' := [(2, pv b1), (4, .bool false), (5, iv ((nf 0) % 6)), (6, iv ((nf 1) % s.hours)), (7, iv ((nf 2) % (s.wide * s.high))), (8, .slice p5 n6 c7), (13, .slice p15 n c16)]) (rs := []) [4] [] [2, 4, 5, 6, 7, 8, 13] .nil (by kernel_rfl) fun a w hF hE => ?_
        replace hO := hO.ext hE; clear hE
        refine W_seq ?_
        refine W_seq (region_q {} TBok hF (F' := [(2, pv b1), (4, .bool false), (5, iv ((nf 0) % 6)), (6, iv ((nf 1) % s.hours)), (7, iv ((nf 2) % (s.wide * s.high))), (8, .slice p5 n6 c7), (13, .slice p15 n c16), (14, iv 0)]) (rs := []) [2, 4, 5, 6, 7, 8, 13, 14] .nil (by kernel_rfl) fun a w hF hE => ?_)
        replace hO := hO.ext hE; clear hE
        refine (W_block ?_)
        replace hO : Own w0 none_ [cel b1 #[iv s.wide, iv s.high, .slice v.la v.ln v.lc, iv s.hours, .slice v.da v.dn v.dc, iv s.speed, .slice p n c] 28, cel b2 (arrL 3 nf).toArray 55, rdR encI 1 p5 n6 (canR s rs ((nf 0) % 6) ((nf 1) % s.hours)).1, rdR encI 1 p9 n10 (leastR s rs).2.1, rowR 52 4 (.slice p15 (n + 0) c16) (n + 0) ((rs ++ List.replicate 0 (⟨((nf 1) % s.hours), ((nf 2) % (s.wide * s.high)), 0, true⟩ : Rp)).flatMap encRp)] w := hO.cast (by rw [rep_zero] <;> rfl)
        refine (W_loop (fun m a w => ∃ (k : Nat), ∃ (p_ : Option Addr), ∃ (cc_ : Nat), m = (((nf 0) % 6) + 1).toNat - k ∧ (k : Int) ≤ (((nf 0) % 6) + 1) ∧ Fr 133 [] [(2, pv b1), (4, .bool false), (5, iv ((nf 0) % 6)), (6, iv ((nf 1) % s.hours)), (7, iv ((nf 2) % (s.wide * s.high))), (8, .slice p5 n6 c7), (13, .slice p_ (n + k) cc_), (14, iv (k : Int))] a ∧ Own w0 none_ [cel b1 #[iv s.wide, iv s.high, .slice v.la v.ln v.lc, iv s.hours, .slice v.da v.dn v.dc, iv s.speed, .slice p n c] 28, cel b2 (arrL 3 nf).toArray 55, rdR encI 1 p5 n6 (canR s rs ((nf 0) % 6) ((nf 1) % s.hours)).1, rdR encI 1 p9 n10 (leastR s rs).2.1, rowR 52 4 (.slice p_ (n + k) cc_) (n + k) ((rs ++ List.replicate k (⟨((nf 1) % s.hours), ((nf 2) % (s.wide * s.high)), 0, true⟩ : Rp)).flatMap encRp)] w) _ ⟨0, p15, c16, rfl, (by omega), hF, hO⟩ ?_)
        clear hF hO
        rintro _ a w ⟨k, p_, cc_, rfl, hk, hF, hO⟩
        refine W_seq ?_
        refine W_seq (region_q {} TBok hF (F' := [(2, pv b1), (4, .bool false), (5, iv ((nf 0) % 6)), (6, iv ((nf 1) % s.hours)), (7, iv ((nf 2) % (s.wide * s.high))), (8, .slice p5 n6 c7), (13, .slice p_ (n + k) cc_), (14, iv (k : Int)), (101, .bool (decide ((k : Int) ≤ ((nf 0) % 6))))]) (rs := []) [2, 4, 5, 6, 7, 8, 13, 14, 101] .nil (by kernel_rfl) fun a w hF hE => ?_)
        replace hO := hO.ext hE; clear hE
        rcases Bool.eq_false_or_eq_true (decide ((k : Int) ≤ ((nf 0) % 6))) with hc18 | hc18
        · refine (W_true ((evOp hF (by kernel_rfl)).trans (congrArg Value.bool hc18)) ?_)
          have hkl := of_decide_eq_true (by assumption : (decide ((k : Int) ≤ ((nf 0) % 6))) = true)
          refine (W_skip ?_)
          refine W_seq (W_block ?_)
          refine (region_seq ?_)
          refine seq_quiet { md := [(3, 3)] } TBok hF (F' := [(2, pv b1), (4, .bool false), (5, iv ((nf 0) % 6)), (6, iv ((nf 1) % s.hours)), (7, iv ((nf 2) % (s.wide * s.high))), (8, .slice p5 n6 c7), (13, .slice p_ (n + k) cc_), (14, iv (k : Int)), (104, .slice p_ (n + k) cc_), (107, .agg #[iv ((nf 1) % s.hours), iv ((nf 2) % (s.wide * s.high)), iv 0, .bool true])]) (rs := [.raw (Instr.build 52 #[(0, iv ((nf 1) % s.hours)), (1, iv ((nf 2) % (s.wide * s.high))), (3, .bool true)]) (.agg #[iv ((nf 1) % s.hours), iv ((nf 2) % (s.wide * s.high)), iv 0, .bool true])]) [0, 1, 2, 3] [4, 5, 6] [2, 4, 5, 6, 7, 8, 13, 14, 104, 107] (.cons (fun w _ => by kernel_rfl) <| .nil) (by kernel_rfl) fun a w hF hE => ?_
          replace hO := hO.ext hE; clear hE
          refine op_bsl (i := 4) (t := 26) (e := 52) (len := 1) (ps := [(0, .agg #[iv ((nf 1) % s.hours), iv ((nf 2) % (s.wide * s.high)), iv 0, .bool true])]) (d := 108) (sz := 4) (cs := #[iv ((nf 1) % s.hours), iv ((nf 2) % (s.wide * s.high)), iv 0, .bool true]) (z := .agg #[iv 0, iv 0, iv 0, .bool false]) hF hO (by kernel_rfl) (by kernel_rfl) (by kernel_rfl) (by kernel_rfl) (by kernel_rfl) fun a w b19 hF hO _ => ?_
          refine op_appR (i := 5) (t := 26) (ty := 26) (e := 52) (d := 109) rowT26 hF hO (by kernel_rfl) 4 rfl 5 rfl (by kernel_rfl) (by omega) fun a w p20 c21 hF hO hx => ?_
          clear hx
          refine seq_quiet {} TBok hF (F' := [(2, pv b1), (4, .bool false), (5, iv ((nf 0) % 6)), (6, iv ((nf 1) % s.hours)), (7, iv ((nf 2) % (s.wide * s.high))), (8, .slice p5 n6 c7), (13, .slice p20 ((n + k) + 1) c21), (14, iv (k : Int))]) (rs := []) [6] [] [2, 4, 5, 6, 7, 8, 13, 14] .nil (by kernel_rfl) fun a w hF hE => ?_
          replace hO := hO.ext hE; clear hE
          refine (region_q {} TBok hF (F' := [(2, pv b1), (4, .bool false), (5, iv ((nf 0) % 6)), (6, iv ((nf 1) % s.hours)), (7, iv ((nf 2) % (s.wide * s.high))), (8, .slice p5 n6 c7), (13, .slice p20 ((n + k) + 1) c21), (14, iv ((k : Int) + 1))]) (rs := [.rng ((k : Int) + 1)]) [2, 4, 5, 6, 7, 8, 13, 14] (.cons (rg (by unfold nC at hv1; omega)) <| .nil) (by kernel_rfl) fun a w hF hE => ?_)
          replace hO := hO.ext hE; clear hE
          replace hO := hO.drop1 5
          replace hO : Own w0 none_ [cel b1 #[iv s.wide, iv s.high, .slice v.la v.ln v.lc, iv s.hours, .slice v.da v.dn v.dc, iv s.speed, .slice p n c] 28, cel b2 (arrL 3 nf).toArray 55, rdR encI 1 p5 n6 (canR s rs ((nf 0) % 6) ((nf 1) % s.hours)).1, rdR encI 1 p9 n10 (leastR s rs).2.1, rowR 52 4 (.slice p20 ((n + k) + 1) c21) ((n + k) + 1) (((rs ++ List.replicate k (⟨((nf 1) % s.hours), ((nf 2) % (s.wide * s.high)), 0, true⟩ : Rp)).flatMap encRp) ++ (#[iv ((nf 1) % s.hours), iv ((nf 2) % (s.wide * s.high)), iv 0, .bool true] : Array Value).toList)] w := hO
          replace hO : Own w0 none_ [cel b1 #[iv s.wide, iv s.high, .slice v.la v.ln v.lc, iv s.hours, .slice v.da v.dn v.dc, iv s.speed, .slice p n c] 28, cel b2 (arrL 3 nf).toArray 55, rdR encI 1 p5 n6 (canR s rs ((nf 0) % 6) ((nf 1) % s.hours)).1, rdR encI 1 p9 n10 (leastR s rs).2.1, rowR 52 4 (.slice p20 (n + (k + 1)) c21) (n + (k + 1)) ((rs ++ List.replicate (k + 1) (⟨((nf 1) % s.hours), ((nf 2) % (s.wide * s.high)), 0, true⟩ : Rp)).flatMap encRp)] w := hO.cast (by rw [rep_app] <;> rfl)
          exact ⟨_, by omega, k + 1, p20, c21, rfl, by omega, hF, hO⟩
        · refine (W_false ((evOp hF (by kernel_rfl)).trans (congrArg Value.bool hc18)) ?_)
          have hkl := of_decide_eq_false (by assumption : (decide ((k : Int) ≤ ((nf 0) % 6))) = false)
          refine (W_exit ?_)
          refine W_seq (region_seq ?_)
          refine seq_quiet {} TBok hF (F' := [(4, .bool false), (5, iv ((nf 0) % 6)), (7, iv ((nf 2) % (s.wide * s.high))), (8, .slice p5 n6 c7), (112, .agg (sS6 s v)), (113, .slice p_ (n + k) cc_)]) (rs := [.lds ⟨b1, 0, none⟩ (sL6 s v)]) [0, 1, 2] [3, 4, 5, 6, 7, 8, 9, 10] [4, 5, 7, 8, 112, 113] (.cons (ldso hO.st 0 rfl 0 rfl) <| .nil) (by kernel_rfl) fun a w hF hE => ?_
          replace hO := hO.ext hE; clear hE
          refine op_call (i := 3) (f := 20) (args := #[.agg (sS6 s v), .slice p_ (n + k) cc_]) (d := some 114) TBok (by kernel_rfl) hF (by kernel_rfl) (Least_calls s v (rs ++ List.replicate k (⟨((nf 1) % s.hours), ((nf 2) % (s.wide * s.high)), 0, true⟩ : Rp)) p_ (n + k) cc_ _ (hs.upM hO.kp nom (Nat.le_refl _)) (rd_row (fun _ => rfl) (by decide) hO 4 rfl (by omega))) fun e w hR => ?_
          obtain ⟨p22, n23, c24, hn25, he, hO2⟩ := hR
          refine ⟨_, he, fun a hF => ?_⟩
          replace hO := hO.joinE hO2; clear hO2 he
          refine seq_quiet {} TBok hF (F' := [(4, .bool false), (5, iv ((nf 0) % 6)), (7, iv ((nf 2) % (s.wide * s.high))), (8, .slice p5 n6 c7), (15, iv ((leastR s (rs ++ List.replicate k (⟨((nf 1) % s.hours), ((nf 2) % (s.wide * s.high)), 0, true⟩ : Rp))).1)), (17, iv ((leastR s (rs ++ List.replicate k (⟨((nf 1) % s.hours), ((nf 2) % (s.wide * s.high)), 0, true⟩ : Rp))).2.2))]) (rs := []) [4, 5, 6, 7, 8, 9, 10] [] [4, 5, 7, 8, 15, 17] .nil (by kernel_rfl) fun a w hF hE => ?_
          replace hO := hO.ext hE; clear hE
          refine W_seq (region_q { sy := [6, 12], md := [(11, 3)] } TBok hF (F' := [(4, .bool (cond ((decide ((placeI (canR s rs ((nf 0) % 6) ((nf 1) % s.hours)).1 ((nf 2) % (s.wide * s.high))) ≥ 0)) == (cond ((leastR s (rs ++ List.replicate k (⟨((nf 1) % s.hours), ((nf 2) % (s.wide * s.high)), 0, true⟩ : Rp))).2.2 == 0) (decide ((leastR s (rs ++ List.replicate k (⟨((nf 1) % s.hours), ((nf 2) % (s.wide * s.high)), 0, true⟩ : Rp))).1 ≤ ((nf 0) % 6))) false)) true false))]) (rs := [.call 35 #[.slice p5 n6 c7, iv ((nf 2) % (s.wide * s.high))] (iv (placeI (canR s rs ((nf 0) % 6) ((nf 1) % s.hours)).1 ((nf 2) % (s.wide * s.high)))), .raw (rb .eql 4 (.tmp 121) (.tmp 128) (.bool (decide ((placeI (canR s rs ((nf 0) % 6) ((nf 1) % s.hours)).1 ((nf 2) % (s.wide * s.high))) ≥ 0))) (.bool (cond ((leastR s (rs ++ List.replicate k (⟨((nf 1) % s.hours), ((nf 2) % (s.wide * s.high)), 0, true⟩ : Rp))).2.2 == 0) (decide ((leastR s (rs ++ List.replicate k (⟨((nf 1) % s.hours), ((nf 2) % (s.wide * s.high)), 0, true⟩ : Rp))).1 ≤ ((nf 0) % 6))) false))) (.bool ((decide ((placeI (canR s rs ((nf 0) % 6) ((nf 1) % s.hours)).1 ((nf 2) % (s.wide * s.high))) ≥ 0)) == (cond ((leastR s (rs ++ List.replicate k (⟨((nf 1) % s.hours), ((nf 2) % (s.wide * s.high)), 0, true⟩ : Rp))).2.2 == 0) (decide ((leastR s (rs ++ List.replicate k (⟨((nf 1) % s.hours), ((nf 2) % (s.wide * s.high)), 0, true⟩ : Rp))).1 ≤ ((nf 0) % 6))) false))), .und ((decide ((placeI (canR s rs ((nf 0) % 6) ((nf 1) % s.hours)).1 ((nf 2) % (s.wide * s.high))) ≥ 0)) == (cond ((leastR s (rs ++ List.replicate k (⟨((nf 1) % s.hours), ((nf 2) % (s.wide * s.high)), 0, true⟩ : Rp))).2.2 == 0) (decide ((leastR s (rs ++ List.replicate k (⟨((nf 1) % s.hours), ((nf 2) % (s.wide * s.high)), 0, true⟩ : Rp))).1 ≤ ((nf 0) % 6))) false)) (.call 23 #[] (.bool true))]) [4] (.cons (fun w hE => Place_calls (canR s rs ((nf 0) % 6) ((nf 1) % s.hours)).1 p5 n6 c7 ((nf 2) % (s.wide * s.high)) w ((hO.st w hE).get 2 rfl)) <| .cons (raw_eqB boolT4 _ _) <| .cons (fun hg => (fun w _ => works_calls w)) <| .nil) (by kernel_rfl) fun a w hF hE => ?_)
          replace hO := hO.ext hE; clear hE
          refine W_ret ?_
          show bodyPostM (FW none) 0 _ _ _ Exit.ret a w
          have hX : (cond ((decide ((placeI (canR s rs ((nf 0) % 6) ((nf 1) % s.hours)).1 ((nf 2) % (s.wide * s.high))) ≥ 0)) == (cond ((leastR s (rs ++ List.replicate k (⟨((nf 1) % s.hours), ((nf 2) % (s.wide * s.high)), 0, true⟩ : Rp))).2.2 == 0) (decide ((leastR s (rs ++ List.replicate k (⟨((nf 1) % s.hours), ((nf 2) % (s.wide * s.high)), 0, true⟩ : Rp))).1 ≤ ((nf 0) % 6))) false)) true false) = true := by rw [show ((decide ((placeI (canR s rs ((nf 0) % 6) ((nf 1) % s.hours)).1 ((nf 2) % (s.wide * s.high))) ≥ 0)) == (cond ((leastR s (rs ++ List.replicate k (⟨((nf 1) % s.hours), ((nf 2) % (s.wide * s.high)), 0, true⟩ : Rp))).2.2 == 0) (decide ((leastR s (rs ++ List.replicate k (⟨((nf 1) % s.hours), ((nf 2) % (s.wide * s.high)), 0, true⟩ : Rp))).1 ≤ ((nf 0) % 6))) false)) = true from reach_law her hask (c := ((nf 2) % (s.wide * s.high))) ⟨by omega, by unfold nC; omega⟩ (m := k) (by omega) (by omega)]; rfl
          exact leave_r TBok hF (.nil _) (vs := [.bool (cond ((decide ((placeI (canR s rs ((nf 0) % 6) ((nf 1) % s.hours)).1 ((nf 2) % (s.wide * s.high))) ≥ 0)) == (cond ((leastR s (rs ++ List.replicate k (⟨((nf 1) % s.hours), ((nf 2) % (s.wide * s.high)), 0, true⟩ : Rp))).2.2 == 0) (decide ((leastR s (rs ++ List.replicate k (⟨((nf 1) % s.hours), ((nf 2) % (s.wide * s.high)), 0, true⟩ : Rp))).1 ≤ ((nf 0) % 6))) false)) true false)]) (rs := []) .nil (by kernel_rfl) ⟨by rw [hX]; rfl, hO.kp⟩

end Go.Proofs.Ytgihgcclabodbaa.DK
