/- The law ShoalAccused, walked. Printed by my gen.py out of shoal/ff.py. -/
import Derived.Test.YtgihgcclabodbaaT5
import Derived.Test.YtgihgcclabodbaaSLaw4
namespace Go.Proofs.Ytgihgcclabodbaa.DK
open Go Go.Proofs
set_option linter.unusedVariables false
set_option linter.unusedSimpArgs false

theorem rep_zero {rs : List Rp} {x : Rp} : (rs ++ List.replicate 0 x).flatMap encRp = rs.flatMap encRp := by rw [List.replicate_zero, List.append_nil]
theorem rep_app {rs : List Rp} {x : Rp} {k : Nat} : (rs ++ List.replicate (k + 1) x).flatMap encRp = (rs ++ List.replicate k x).flatMap encRp ++ encRp x := by
  rw [List.replicate_succ', ← List.append_assoc, List.flatMap_append]; simp
theorem acc_nl {s : Sea} {rs : List Rp} (her : err s rs = 0) (hm : minT s rs < 1048576) {a : Nat} (ha : (liarR s rs).1.length = a) : (a : Int) ≤ (leastR s rs).1 := by
  obtain ⟨e1, e2⟩ := liar_val her hm
  have hl := liar_len her hm
  rw [e1] at ha
  have ha : (liarK s rs rs.length).length = a := ha
  rw [e2]
  show (a : Int) ≤ minT s rs
  omega
theorem acc_size {n : Nat} {L : Int} (h : cond ((n : Int) == 0) true (decide ((n : Int) + L + 1 > 24)) = false) : 0 < n ∧ (n : Int) + L + 1 ≤ 24 := by
  cases h1 : ((n : Int) == 0) with
  | true => rw [h1] at h; cases h
  | false => rw [h1, cond_false] at h; have := of_decide_eq_false h; simp at h1; omega
set_option maxHeartbeats 4000000 in
set_option maxRecDepth 100000 in
theorem ShoalAccused_calls (s : Sea) (v : SV) (rs : List Rp) (p : Option Addr) (n c : Nat) (bits : List Int) (bp : Option Addr) (bn bc : Nat) (k_ : Int) (w0 : World) (hs : SeaR w0.heap.size w0 v s) (hx : Rd encRp 4 w0.heap.size w0 p n rs) (hbi : Rd encI 1 w0.heap.size w0 bp bn bits) :
    Calls Try.prog 11 #[.agg #[iv s.wide, iv s.high, .slice v.la v.ln v.lc, iv s.hours, .slice v.da v.dn v.dc, iv s.speed, .slice p n c], .slice bp bn bc, iv k_] w0 (fun e w' => e = .returned (.bool true) ∧ Ext w0 w') := by
  have hl1 := hs.land.len; have hl2 := hs.drift.len; have hs1 := hs.land.size; have hs2 := hs.drift.size; have hr_ := hs.rg; unfold i64 at hr_; have hl3 := hx.len; have hs3 := hx.size; have hbl := hbi.len; have hbs := hbi.size
  refine calls_of_W Try.func11 rfl (by kernel_rfl) (args := [.agg #[iv s.wide, iv s.high, .slice v.la v.ln v.lc, iv s.hours, .slice v.da v.dn v.dc, iv s.speed, .slice p n c], .slice bp bn bc, iv k_]) fun a hF => ?_
  replace hF : Fr 204 [] [(0, .agg #[iv s.wide, iv s.high, .slice v.la v.ln v.lc, iv s.hours, .slice v.da v.dn v.dc, iv s.speed, .slice p n c]), (1, .slice bp bn bc), (2, iv k_)] a := hF
  have hO : Own w0 none_ [] w0 := Own.start w0 _
  refine W_seq (region_seq ?_)
  refine op_box (i := 0) (t := 28) (v := .agg #[iv s.wide, iv s.high, .slice v.la v.ln v.lc, iv s.hours, .slice v.da v.dn v.dc, iv s.speed, .slice p n c]) (d := 3) hF hO (by kernel_rfl) fun a w b1 hF hO _ => ?_
  refine seq_quiet {} TBok hF (F' := [(1, .slice bp bn bc), (2, iv k_), (3, pv b1), (6, .bool false)]) (rs := []) [1] [] [1, 2, 3, 6] .nil (by kernel_rfl) fun a w hF hE => ?_
  replace hO := hO.ext hE; clear hE
  refine W_seq (region_seq ?_)
  refine seq_quiet {} TBok hF (F' := [(1, .slice bp bn bc), (2, iv k_), (3, pv b1), (6, .bool false), (24, .agg (sS6 s v)), (26, .slice p n c)]) (rs := [.lds ⟨b1, 0, none⟩ (sL6 s v), .ld ⟨b1, 6, none⟩ (.slice p n c)]) [0, 1, 2, 3] [4, 5, 6, 7, 8, 9] [1, 2, 3, 6, 24, 26] (.cons (ldso hO.st 0 rfl 0 rfl) <| .cons (ldo hO.st 0 rfl 6 rfl) <| .nil) (by kernel_rfl) fun a w hF hE => ?_
  replace hO := hO.ext hE; clear hE
  refine op_call (i := 4) (f := 26) (args := #[.agg (sS6 s v), .slice p n c]) (d := some 27) TBok (by kernel_rfl) hF (by kernel_rfl) (Liars_calls s v rs p n c  _ (hs.upM hO.kp nom (Nat.le_refl _)) (hx.upM hO.kp nom (Nat.le_refl _))) fun e w hR => ?_
  obtain ⟨p2, n3, c4, hn5, he, hO2⟩ := hR
  refine ⟨_, he, fun a hF => ?_⟩
  replace hO := hO.joinE hO2; clear hO2 he
  refine seq_quiet {} TBok hF (F' := [(1, .slice bp bn bc), (2, iv k_), (3, pv b1), (6, .bool false), (7, .slice p2 n3 c4), (8, iv ((liarR s rs).2))]) (rs := []) [5, 6, 7, 8, 9] [] [1, 2, 3, 6, 7, 8] .nil (by kernel_rfl) fun a w hF hE => ?_
  replace hO := hO.ext hE; clear hE
  refine W_seq (region_seq ?_)
  refine seq_quiet {} TBok hF (F' := [(1, .slice bp bn bc), (2, iv k_), (3, pv b1), (6, .bool false), (7, .slice p2 n3 c4), (8, iv ((liarR s rs).2)), (32, .agg (sS6 s v)), (34, .slice p n c)]) (rs := [.lds ⟨b1, 0, none⟩ (sL6 s v), .ld ⟨b1, 6, none⟩ (.slice p n c)]) [0, 1, 2, 3] [4, 5, 6, 7, 8, 9, 10, 11] [1, 2, 3, 6, 7, 8, 32, 34] (.cons (ldso hO.st 0 rfl 0 rfl) <| .cons (ldo hO.st 0 rfl 6 rfl) <| .nil) (by kernel_rfl) fun a w hF hE => ?_
  replace hO := hO.ext hE; clear hE
  refine op_call (i := 4) (f := 20) (args := #[.agg (sS6 s v), .slice p n c]) (d := some 35) TBok (by kernel_rfl) hF (by kernel_rfl) (Least_calls s v rs p n c _ (hs.upM hO.kp nom (Nat.le_refl _)) (hx.upM hO.kp nom (Nat.le_refl _))) fun e w hR => ?_
  obtain ⟨p6, n7, c8, hn9, he, hO2⟩ := hR
  refine ⟨_, he, fun a hF => ?_⟩
  replace hO := hO.joinE hO2; clear hO2 he
  refine seq_quiet {} TBok hF (F' := [(1, .slice bp bn bc), (2, iv k_), (3, pv b1), (6, .bool false), (7, .slice p2 n3 c4), (8, iv ((liarR s rs).2)), (9, iv ((leastR s rs).1)), (10, .slice p6 n7 c8), (11, iv ((leastR s rs).2.2))]) (rs := []) [5, 6, 7, 8, 9, 10, 11] [] [1, 2, 3, 6, 7, 8, 9, 10, 11] .nil (by kernel_rfl) fun a w hF hE => ?_
  replace hO := hO.ext hE; clear hE
  refine W_seq ?_
  refine W_seq (region_q { sy := [2] } TBok hF (F' := [(1, .slice bp bn bc), (2, iv k_), (3, pv b1), (6, .bool false), (7, .slice p2 n3 c4), (8, iv ((liarR s rs).2)), (9, iv ((leastR s rs).1)), (10, .slice p6 n7 c8), (11, iv ((leastR s rs).2.2)), (45, .bool (cond ((liarR s rs).2 != 0) true (!(err s rs == 0))))]) (rs := [.und (!((liarR s rs).2 != 0)) (.lds ⟨b1, 0, none⟩ [iv s.wide, iv s.high, .slice v.la v.ln v.lc, iv s.hours, .slice v.da v.dn v.dc, iv s.speed, .slice p n c]), .und (!((liarR s rs).2 != 0)) (.call 32 #[.agg #[iv s.wide, iv s.high, .slice v.la v.ln v.lc, iv s.hours, .slice v.da v.dn v.dc, iv s.speed, .slice p n c]] (.bool (err s rs == 0)))]) [1, 2, 3, 6, 7, 8, 9, 10, 11, 45] (.cons (fun hg => (ldso hO.st 0 rfl 0 rfl)) <| .cons (fun hg => (fun w hE => sound_calls s v rs p n c w (hs.upM (hO.st w hE).kp nom (Nat.le_refl _)) (hx.upM (hO.st w hE).kp nom (Nat.le_refl _)))) <| .nil) (by kernel_rfl) fun a w hF hE => ?_)
  replace hO := hO.ext hE; clear hE
  rcases Bool.eq_false_or_eq_true (cond ((liarR s rs).2 != 0) true (!(err s rs == 0))) with hc10 | hc10
  · refine (W_true ((evOp hF (by kernel_rfl)).trans (congrArg Value.bool hc10)) ?_)
    have hlw := liar_err (by assumption) (by assumption : (cond ((liarR s rs).2 != 0) true (!(err s rs == 0))) = true)
    refine W_seq (region_q { sy := [3, 7, 13] } TBok hF (F' := [(1, .slice bp bn bc), (2, iv k_), (3, pv b1), (6, .bool (cond (cond ((n3 : Int) == 0) (cond ((liarR s rs).2 == (leastR s rs).2.2) true (!(err s rs == 0))) false) true false)), (7, .slice p2 n3 c4), (8, iv ((liarR s rs).2)), (9, iv ((leastR s rs).1)), (10, .slice p6 n7 c8), (11, iv ((leastR s rs).2.2))]) (rs := [.und (((n3 : Int) == 0) && (!((liarR s rs).2 == (leastR s rs).2.2))) (.lds ⟨b1, 0, none⟩ [iv s.wide, iv s.high, .slice v.la v.ln v.lc, iv s.hours, .slice v.da v.dn v.dc, iv s.speed, .slice p n c]), .und (((n3 : Int) == 0) && (!((liarR s rs).2 == (leastR s rs).2.2))) (.call 32 #[.agg #[iv s.wide, iv s.high, .slice v.la v.ln v.lc, iv s.hours, .slice v.da v.dn v.dc, iv s.speed, .slice p n c]] (.bool (err s rs == 0))), .und (cond ((n3 : Int) == 0) (cond ((liarR s rs).2 == (leastR s rs).2.2) true (!(err s rs == 0))) false) (.call 23 #[] (.bool true))]) [1, 2, 3, 6, 7, 8, 9, 10, 11] (.cons (fun hg => (ldso hO.st 0 rfl 0 rfl)) <| .cons (fun hg => (fun w hE => sound_calls s v rs p n c w (hs.upM (hO.st w hE).kp nom (Nat.le_refl _)) (hx.upM (hO.st w hE).kp nom (Nat.le_refl _)))) <| .cons (fun hg => (fun w _ => works_calls w)) <| .nil) (by kernel_rfl) fun a w hF hE => ?_)
    replace hO := hO.ext hE; clear hE
    refine W_ret ?_
    show bodyPostM (FW none) 0 _ _ _ Exit.ret a w
    have hX : (cond (cond ((n3 : Int) == 0) (cond ((liarR s rs).2 == (leastR s rs).2.2) true (!(err s rs == 0))) false) true false) = true := hlw
    exact leave_r TBok hF (.nil _) (vs := [.bool (cond (cond ((n3 : Int) == 0) (cond ((liarR s rs).2 == (leastR s rs).2.2) true (!(err s rs == 0))) false) true false)]) (rs := []) .nil (by kernel_rfl) ⟨by rw [hX]; rfl, hO.kp⟩
  · refine (W_false ((evOp hF (by kernel_rfl)).trans (congrArg Value.bool hc10)) ?_)
    obtain ⟨her, hm⟩ := liar_good (by assumption : (cond ((liarR s rs).2 != 0) true (!(err s rs == 0))) = false)
    have hnl := acc_nl her hm hn5
    obtain ⟨hv, hr⟩ := err_hd her
    have hv1 := sea_ok hv; have hrp := rp_ok hr
    obtain ⟨hle0, hle1, hle2⟩ := acc_least her hm
    refine (W_skip ?_)
    refine W_seq ?_
    refine W_seq (region_q { sy := [2, 10] } TBok hF (F' := [(1, .slice bp bn bc), (2, iv k_), (3, pv b1), (6, .bool false), (7, .slice p2 n3 c4), (8, iv ((liarR s rs).2)), (9, iv ((leastR s rs).1)), (10, .slice p6 n7 c8), (77, .bool (cond (cond ((leastR s rs).2.2 != 0) true (!(risF (n : Int) (-1) (liarR s rs).1))) true (decide ((n3 : Int) > (leastR s rs).1))))]) (rs := [.und (!((leastR s rs).2.2 != 0)) (.ld ⟨b1, 6, none⟩ (.slice p n c)), .und (!((leastR s rs).2.2 != 0)) (.call 36 #[.slice p2 n3 c4, iv (n : Int)] (.bool (risF (n : Int) (-1) (liarR s rs).1)))]) [1, 2, 3, 6, 7, 8, 9, 10, 77] (.cons (fun hg => (ldo hO.st 0 rfl 6 rfl)) <| .cons (fun hg => (fun w hE => Rising_calls (liarR s rs).1 p2 n3 c4 (n : Int) w ((hO.st w hE).get 1 rfl) (by omega))) <| .nil) (by kernel_rfl) fun a w hF hE => ?_)
    replace hO := hO.ext hE; clear hE
    rcases Bool.eq_false_or_eq_true (cond (cond ((leastR s rs).2.2 != 0) true (!(risF (n : Int) (-1) (liarR s rs).1))) true (decide ((n3 : Int) > (leastR s rs).1))) with hc11 | hc11
    · refine (W_true ((evOp hF (by kernel_rfl)).trans (congrArg Value.bool hc11)) ?_)
      exact absurd ((acc_dead her hm hl3 (by assumption)).symm.trans hc11) (by decide)
    · refine (W_false ((evOp hF (by kernel_rfl)).trans (congrArg Value.bool hc11)) ?_)
      refine (W_skip ?_)
      refine W_seq (region_seq ?_)
      refine seq_quiet {} TBok hF (F' := [(2, iv k_), (3, pv b1), (6, .bool false), (7, .slice p2 n3 c4), (8, iv ((liarR s rs).2)), (9, iv ((leastR s rs).1)), (78, .slice p6 n7 c8), (80, .agg (sS6 s v)), (81, .slice bp bn bc)]) (rs := [.lds ⟨b1, 0, none⟩ (sL6 s v)]) [0, 1, 2, 3] [4, 5, 6] [2, 3, 6, 7, 8, 9, 78, 80, 81] (.cons (ldso hO.st 0 rfl 0 rfl) <| .nil) (by kernel_rfl) fun a w hF hE => ?_
      replace hO := hO.ext hE; clear hE
      refine op_call (i := 4) (f := 33) (args := #[.agg (sS6 s v), .slice bp bn bc]) (d := some 82) TBok (by kernel_rfl) hF (by kernel_rfl) (swum_calls s v bits bp bn bc _ (hs.upM hO.kp nom (Nat.le_refl _)) hv (hbi.upM hO.kp nom (Nat.le_refl _))) fun e w hR => ?_
      obtain ⟨p12, n13, c14, hn15, he, hO2⟩ := hR
      refine ⟨_, he, fun a hF => ?_⟩
      replace hO := hO.joinE hO2; clear hO2 he
      replace hO : Own w0 none_ [cel b1 #[iv s.wide, iv s.high, .slice v.la v.ln v.lc, iv s.hours, .slice v.da v.dn v.dc, iv s.speed, .slice p n c] 28, rdR encI 1 p2 n3 (liarR s rs).1, rdR encI 1 p6 n7 (leastR s rs).2.1, rdR encI 1 p12 n13 (swL s bits s.hours.toNat)] w := hO
      refine op_bsl (i := 5) (t := 59) (e := 22) (len := 2) (ps := [(0, .slice p6 n7 c8), (1, .slice p12 n13 c14)]) (d := 83) (sz := 1) (cs := #[.slice p6 n7 c8, .slice p12 n13 c14]) (z := .slice none 0 0) hF hO (by kernel_rfl) (by kernel_rfl) (by kernel_rfl) (by kernel_rfl) (by kernel_rfl) fun a w b16 hF hO _ => ?_
      refine seq_quiet {} TBok hF (F' := [(2, iv k_), (3, pv b1), (6, .bool false), (7, .slice p2 n3 c4), (8, iv ((liarR s rs).2)), (9, iv ((leastR s rs).1)), (12, .slice (some ⟨b16, 0, none⟩) 2 2)]) (rs := []) [6] [] [2, 3, 6, 7, 8, 9, 12] .nil (by kernel_rfl) fun a w hF hE => ?_
      replace hO := hO.ext hE; clear hE
      refine W_seq ?_
      refine W_seq (region_q {} TBok hF (F' := [(2, iv k_), (3, pv b1), (6, .bool false), (7, .slice p2 n3 c4), (8, iv ((liarR s rs).2)), (9, iv ((leastR s rs).1)), (12, .slice (some ⟨b16, 0, none⟩) 2 2), (13, iv 0)]) (rs := []) [2, 3, 6, 7, 8, 9, 12, 13] .nil (by kernel_rfl) fun a w hF hE => ?_)
      replace hO := hO.ext hE; clear hE
      refine (W_block ?_)
      replace hF := hF.sel [2, 3, 7, 8, 9, 12, 13]
      refine (W_loop (fun m a w => ∃ (i : Nat), m = 2 - i ∧ i ≤ 2 ∧ Fr 204 [] [(2, iv k_), (3, pv b1), (7, .slice p2 n3 c4), (8, iv ((liarR s rs).2)), (9, iv ((leastR s rs).1)), (12, .slice (some ⟨b16, 0, none⟩) 2 2), (13, iv (i : Int))] a ∧ Own w0 none_ [cel b1 #[iv s.wide, iv s.high, .slice v.la v.ln v.lc, iv s.hours, .slice v.da v.dn v.dc, iv s.speed, .slice p n c] 28, rdR encI 1 p2 n3 (liarR s rs).1, rdR encI 1 p6 n7 (leastR s rs).2.1, rdR encI 1 p12 n13 (swL s bits s.hours.toNat), cel b16 #[.slice p6 n7 c8, .slice p12 n13 c14] 22] w) _ ⟨0, rfl, by omega, hF, hO⟩ ?_)
      clear hF hO
      rintro _ a w ⟨i, rfl, hi, hF, hO⟩
      obtain rfl | rfl | rfl : i = 0 ∨ i = 1 ∨ i = 2 := by omega
      · replace hF : Fr 204 [] [(2, iv k_), (3, pv b1), (7, .slice p2 n3 c4), (8, iv ((liarR s rs).2)), (9, iv ((leastR s rs).1)), (12, .slice (some ⟨b16, 0, none⟩) 2 2), (13, iv 0)] a := hF
        refine W_seq ?_
        refine W_seq (region_q {} TBok hF (F' := [(2, iv k_), (3, pv b1), (7, .slice p2 n3 c4), (8, iv ((liarR s rs).2)), (9, iv ((leastR s rs).1)), (12, .slice (some ⟨b16, 0, none⟩) 2 2), (13, iv 0), (87, .bool true)]) (rs := []) [2, 3, 7, 8, 9, 12, 13, 87] .nil (by kernel_rfl) fun a w hF hE => ?_)
        replace hO := hO.ext hE; clear hE
        refine (W_true (evOp hF (by kernel_rfl)) ?_)
        refine (W_skip ?_)
        refine W_seq (W_block ?_)
        refine W_seq (region_d {} mixed TBok hF (F' := [(2, iv k_), (3, pv b1), (7, .slice p2 n3 c4), (8, iv ((liarR s rs).2)), (9, iv ((leastR s rs).1)), (12, .slice (some ⟨b16, 0, none⟩) 2 2), (13, iv 0), (14, iv ((trackR s rs (leastR s rs).2.1).1)), (15, .bool ((trackR s rs (leastR s rs).2.1).2.1)), (16, iv ((trackR s rs (leastR s rs).2.1).2.2))]) (rs := [.lds ⟨b1, 0, none⟩ (sL6 s v), .ld ⟨b1, 6, none⟩ (.slice p n c), .idx (some ⟨b16, 0, none⟩) 2 0 1 ⟨b16, 0, none⟩, .ld ⟨b16, 0, none⟩ (.slice p6 n7 c8), .call 16 #[.agg (sS6 s v), .slice p n c, .slice p6 n7 c8] (.tuple #[iv ((trackR s rs (leastR s rs).2.1).1), .bool ((trackR s rs (leastR s rs).2.1).2.1), iv ((trackR s rs (leastR s rs).2.1).2.2)])]) [2, 3, 7, 8, 9, 12, 13, 14, 15, 16] (.cons (ldso hO.st 0 rfl 0 rfl) <| .cons (ldo hO.st 0 rfl 6 rfl) <| .cons (ixa (by decide) (by decide)) <| .cons (ldo hO.st 4 rfl 0 rfl) <| .cons (fun w hE => IsTrack_calls s v rs p n c (leastR s rs).2.1 p6 n7 c8 w (hs.upM (hO.st w hE).kp nom (Nat.le_refl _)) (hx.upM (hO.st w hE).kp nom (Nat.le_refl _)) ((hO.st w hE).get 2 rfl)) <| .nil) (by kernel_rfl) (by kernel_rfl) fun a w hF hE => ?_)
        replace hO := hO.ext hE; clear hE
        refine W_seq ?_
        refine W_seq (region_q {} TBok hF (F' := [(2, iv k_), (3, pv b1), (7, .slice p2 n3 c4), (8, iv ((liarR s rs).2)), (9, iv ((leastR s rs).1)), (12, .slice (some ⟨b16, 0, none⟩) 2 2), (13, iv 0), (14, iv ((trackR s rs (leastR s rs).2.1).1)), (15, .bool ((trackR s rs (leastR s rs).2.1).2.1)), (104, .bool ((trackR s rs (leastR s rs).2.1).2.2 != 0))]) (rs := []) [2, 3, 7, 8, 9, 12, 13, 14, 15, 104] .nil (by kernel_rfl) fun a w hF hE => ?_)
        replace hO := hO.ext hE; clear hE
        rcases Bool.eq_false_or_eq_true ((trackR s rs (leastR s rs).2.1).2.2 != 0) with hc17 | hc17
        · refine (W_true ((evOp hF (by kernel_rfl)).trans (congrArg Value.bool hc17)) ?_)
          rw [track_err her] at hc17; cases hc17
        · refine (W_false ((evOp hF (by kernel_rfl)).trans (congrArg Value.bool hc17)) ?_)
          refine (W_skip ?_)
          refine W_seq (region_q {} TBok hF (F' := [(2, iv k_), (3, pv b1), (7, .slice p2 n3 c4), (8, iv ((liarR s rs).2)), (9, iv ((leastR s rs).1)), (12, .slice (some ⟨b16, 0, none⟩) 2 2), (13, iv 0), (14, iv ((trackR s rs (leastR s rs).2.1).1)), (15, .bool ((trackR s rs (leastR s rs).2.1).2.1)), (17, iv 0)]) (rs := []) [2, 3, 7, 8, 9, 12, 13, 14, 15, 17] .nil (by kernel_rfl) fun a w hF hE => ?_)
          replace hO := hO.ext hE; clear hE
          refine (W_block ?_)
          refine (W_loop (fun m a w => ∃ (m_ : Nat), m = n3 - m_ ∧ m_ ≤ n3 ∧ Fr 204 [] [(2, iv k_), (3, pv b1), (7, .slice p2 n3 c4), (8, iv ((liarR s rs).2)), (9, iv ((leastR s rs).1)), (12, .slice (some ⟨b16, 0, none⟩) 2 2), (13, iv 0), (14, iv ((trackR s rs (leastR s rs).2.1).1)), (15, .bool ((trackR s rs (leastR s rs).2.1).2.1)), (17, iv (m_ : Int))] a ∧ Own w0 none_ [cel b1 #[iv s.wide, iv s.high, .slice v.la v.ln v.lc, iv s.hours, .slice v.da v.dn v.dc, iv s.speed, .slice p n c] 28, rdR encI 1 p2 n3 (liarR s rs).1, rdR encI 1 p6 n7 (leastR s rs).2.1, rdR encI 1 p12 n13 (swL s bits s.hours.toNat), cel b16 #[.slice p6 n7 c8, .slice p12 n13 c14] 22] w) _ ⟨0, rfl, Nat.zero_le _, hF, hO⟩ ?_)
          clear hF hO
          rintro _ a w ⟨m_, rfl, hm_, hF, hO⟩
          refine W_seq ?_
          refine W_seq (region_q { sy := [4, 7] } TBok hF (F' := [(2, iv k_), (3, pv b1), (7, .slice p2 n3 c4), (8, iv ((liarR s rs).2)), (9, iv ((leastR s rs).1)), (12, .slice (some ⟨b16, 0, none⟩) 2 2), (13, iv 0), (14, iv ((trackR s rs (leastR s rs).2.1).1)), (15, .bool ((trackR s rs (leastR s rs).2.1).2.1)), (17, iv (m_ : Int)), (116, .bool (cond (cond (decide ((m_ : Int) < (n3 : Int))) ((trackR s rs (leastR s rs).2.1).2.1) false) ((trackR s rs (leastR s rs).2.1).1 == (leastR s rs).1) false))]) (rs := []) [2, 3, 7, 8, 9, 12, 13, 14, 15, 17, 116] .nil (by kernel_rfl) fun a w hF hE => ?_)
          replace hO := hO.ext hE; clear hE
          rcases Bool.eq_false_or_eq_true (cond (cond (decide ((m_ : Int) < (n3 : Int))) ((trackR s rs (leastR s rs).2.1).2.1) false) ((trackR s rs (leastR s rs).2.1).1 == (leastR s rs).1) false) with hc18 | hc18
          · refine (W_true ((evOp hF (by kernel_rfl)).trans (congrArg Value.bool hc18)) ?_)
            obtain ⟨hma, htl, hnm, htd, hok⟩ := acc_step her hm (by assumption) (by assumption : (cond (cond (decide ((m_ : Int) < (n3 : Int))) ((trackR s rs (leastR s rs).2.1).2.1) false) ((trackR s rs (leastR s rs).2.1).1 == (leastR s rs).1) false) = true)
            have hrk := hrp.2 ((liarR s rs).1.getD m_ default).toNat (by omega)
            have htk := mem_cellsA (hok.1 (rs.getD ((liarR s rs).1.getD m_ default).toNat default).hr.toNat (by omega) (by omega))
            unfold tkF at htk
            refine (W_skip ?_)
            refine W_seq (W_block ?_)
            refine W_seq (region_d { sy := [9] } mixed TBok hF (F' := [(2, iv k_), (3, pv b1), (7, .slice p2 n3 c4), (8, iv ((liarR s rs).2)), (9, iv ((leastR s rs).1)), (12, .slice (some ⟨b16, 0, none⟩) 2 2), (13, iv 0), (14, iv ((trackR s rs (leastR s rs).2.1).1)), (15, .bool ((trackR s rs (leastR s rs).2.1).2.1)), (17, iv (m_ : Int)), (144, .bool (cond ((n7 : Int) != s.hours) true (toldB s (rs.getD ((liarR s rs).1.getD m_ default).toNat default) (leastR s rs).2.1)))]) (rs := [.idx (some ⟨b16, 0, none⟩) 2 0 1 ⟨b16, 0, none⟩, .ld ⟨b16, 0, none⟩ (.slice p6 n7 c8), .ld ⟨b1, 3, none⟩ (iv s.hours), .und (!((n7 : Int) != s.hours)) (.lds ⟨b1, 0, none⟩ (sL6 s v)), .und (!((n7 : Int) != s.hours)) (.ld ⟨b1, 6, none⟩ (.slice p n c)), .und (!((n7 : Int) != s.hours)) (.idx p2 n3 (m_ : Int) 1 (adr p2 1 (m_ : Int))), .und (!((n7 : Int) != s.hours)) (.ld (adr p2 1 (m_ : Int)) (iv ((liarR s rs).1.getD m_ default))), .und (!((n7 : Int) != s.hours)) (.idx p n ((liarR s rs).1.getD m_ default) 4 (adr p 4 ((liarR s rs).1.getD m_ default))), .und (!((n7 : Int) != s.hours)) (.lds (adr p 4 ((liarR s rs).1.getD m_ default)) [iv ((rs.getD ((liarR s rs).1.getD m_ default).toNat default).hr), iv ((rs.getD ((liarR s rs).1.getD m_ default).toNat default).cell), iv ((rs.getD ((liarR s rs).1.getD m_ default).toNat default).far), .bool ((rs.getD ((liarR s rs).1.getD m_ default).toNat default).th)]), .und (!((n7 : Int) != s.hours)) (.idx (some ⟨b16, 0, none⟩) 2 0 1 ⟨b16, 0, none⟩), .und (!((n7 : Int) != s.hours)) (.ld ⟨b16, 0, none⟩ (.slice p6 n7 c8)), .und (!((n7 : Int) != s.hours)) (.call 34 #[.agg (sS6 s v), .agg #[iv ((rs.getD ((liarR s rs).1.getD m_ default).toNat default).hr), iv ((rs.getD ((liarR s rs).1.getD m_ default).toNat default).cell), iv ((rs.getD ((liarR s rs).1.getD m_ default).toNat default).far), .bool ((rs.getD ((liarR s rs).1.getD m_ default).toNat default).th)], .slice p6 n7 c8] (.bool (toldB s (rs.getD ((liarR s rs).1.getD m_ default).toNat default) (leastR s rs).2.1)))]) [2, 3, 7, 8, 9, 12, 13, 14, 15, 17, 144] (.cons (ixa (by decide) (by decide)) <| .cons (ldo hO.st 4 rfl 0 rfl) <| .cons (ldo hO.st 0 rfl 3 rfl) <| .cons (fun hg => (ldso hO.st 0 rfl 0 rfl)) <| .cons (fun hg => (ldo hO.st 0 rfl 6 rfl)) <| .cons (fun hg => (ix (enc := encI) (xs := (liarR s rs).1) ((hO.get 1 rfl)) (by omega) (by omega))) <| .cons (fun hg => (ldR (enc := encI) (xs := (liarR s rs).1) (a := p2) (i := (m_ : Int)) (fun x_ hx_ => ((hO.st x_ hx_).get 1 rfl)) (by omega) (by omega) 0 rfl)) <| .cons (fun hg => (ix hx (by omega) (by omega))) <| .cons (fun hg => (ldsx hO.st nom hx (by omega) (by omega) rfl)) <| .cons (fun hg => (ixa (by decide) (by decide))) <| .cons (fun hg => (ldo hO.st 4 rfl 0 rfl)) <| .cons (fun hg => (fun w hE => told_calls s v (rs.getD ((liarR s rs).1.getD m_ default).toNat default) (leastR s rs).2.1 p6 n7 c8 w hv (by omega) ((hO.st w hE).get 2 rfl) (by omega) (by omega))) <| .nil) (by kernel_rfl) (by kernel_rfl) fun a w hF hE => ?_)
            replace hO := hO.ext hE; clear hE
            rcases Bool.eq_false_or_eq_true (cond ((n7 : Int) != s.hours) true (toldB s (rs.getD ((liarR s rs).1.getD m_ default).toNat default) (leastR s rs).2.1)) with hc19 | hc19
            · refine (W_true ((evOp hF (by kernel_rfl)).trans (congrArg Value.bool hc19)) ?_)
              rw [htd] at hc19; simp at hc19; omega
            · refine (W_false ((evOp hF (by kernel_rfl)).trans (congrArg Value.bool hc19)) ?_)
              refine (W_skip ?_)
              refine (region_q {} TBok hF (F' := [(2, iv k_), (3, pv b1), (7, .slice p2 n3 c4), (8, iv ((liarR s rs).2)), (9, iv ((leastR s rs).1)), (12, .slice (some ⟨b16, 0, none⟩) 2 2), (13, iv 0), (14, iv ((trackR s rs (leastR s rs).2.1).1)), (15, .bool ((trackR s rs (leastR s rs).2.1).2.1)), (17, iv ((m_ : Int) + 1))]) (rs := [.rng ((m_ : Int) + 1)]) [2, 3, 7, 8, 9, 12, 13, 14, 15, 17] (.cons (rg (by omega)) <| .nil) (by kernel_rfl) fun a w hF hE => ?_)
              replace hO := hO.ext hE; clear hE
              exact ⟨_, by omega, m_ + 1, rfl, by omega, hF, hO⟩
          · refine (W_false ((evOp hF (by kernel_rfl)).trans (congrArg Value.bool hc18)) ?_)
            refine (W_exit ?_)
            refine (region_q {} TBok hF (F' := [(2, iv k_), (3, pv b1), (7, .slice p2 n3 c4), (8, iv ((liarR s rs).2)), (9, iv ((leastR s rs).1)), (12, .slice (some ⟨b16, 0, none⟩) 2 2), (13, iv 1)]) (rs := [.rng 1]) [2, 3, 7, 8, 9, 12, 13] (.cons (rg (by omega)) <| .nil) (by kernel_rfl) fun a w hF hE => ?_)
            replace hO := hO.ext hE; clear hE
            exact ⟨_, by omega, 1, rfl, by omega, hF, hO⟩
      · replace hF : Fr 204 [] [(2, iv k_), (3, pv b1), (7, .slice p2 n3 c4), (8, iv ((liarR s rs).2)), (9, iv ((leastR s rs).1)), (12, .slice (some ⟨b16, 0, none⟩) 2 2), (13, iv 1)] a := hF
        refine W_seq ?_
        refine W_seq (region_q {} TBok hF (F' := [(2, iv k_), (3, pv b1), (7, .slice p2 n3 c4), (8, iv ((liarR s rs).2)), (9, iv ((leastR s rs).1)), (12, .slice (some ⟨b16, 0, none⟩) 2 2), (13, iv 1), (87, .bool true)]) (rs := []) [2, 3, 7, 8, 9, 12, 13, 87] .nil (by kernel_rfl) fun a w hF hE => ?_)
        replace hO := hO.ext hE; clear hE
        refine (W_true (evOp hF (by kernel_rfl)) ?_)
        refine (W_skip ?_)
        refine W_seq (W_block ?_)
        refine W_seq (region_d {} mixed TBok hF (F' := [(2, iv k_), (3, pv b1), (7, .slice p2 n3 c4), (8, iv ((liarR s rs).2)), (9, iv ((leastR s rs).1)), (12, .slice (some ⟨b16, 0, none⟩) 2 2), (13, iv 1), (14, iv ((trackR s rs (swL s bits s.hours.toNat)).1)), (15, .bool ((trackR s rs (swL s bits s.hours.toNat)).2.1)), (16, iv ((trackR s rs (swL s bits s.hours.toNat)).2.2))]) (rs := [.lds ⟨b1, 0, none⟩ (sL6 s v), .ld ⟨b1, 6, none⟩ (.slice p n c), .idx (some ⟨b16, 0, none⟩) 2 1 1 ⟨b16, 1, none⟩, .ld ⟨b16, 1, none⟩ (.slice p12 n13 c14), .call 16 #[.agg (sS6 s v), .slice p n c, .slice p12 n13 c14] (.tuple #[iv ((trackR s rs (swL s bits s.hours.toNat)).1), .bool ((trackR s rs (swL s bits s.hours.toNat)).2.1), iv ((trackR s rs (swL s bits s.hours.toNat)).2.2)])]) [2, 3, 7, 8, 9, 12, 13, 14, 15, 16] (.cons (ldso hO.st 0 rfl 0 rfl) <| .cons (ldo hO.st 0 rfl 6 rfl) <| .cons (ixa (by decide) (by decide)) <| .cons (ldo hO.st 4 rfl 1 rfl) <| .cons (fun w hE => IsTrack_calls s v rs p n c (swL s bits s.hours.toNat) p12 n13 c14 w (hs.upM (hO.st w hE).kp nom (Nat.le_refl _)) (hx.upM (hO.st w hE).kp nom (Nat.le_refl _)) ((hO.st w hE).get 3 rfl)) <| .nil) (by kernel_rfl) (by kernel_rfl) fun a w hF hE => ?_)
        replace hO := hO.ext hE; clear hE
        refine W_seq ?_
        refine W_seq (region_q {} TBok hF (F' := [(2, iv k_), (3, pv b1), (7, .slice p2 n3 c4), (8, iv ((liarR s rs).2)), (9, iv ((leastR s rs).1)), (12, .slice (some ⟨b16, 0, none⟩) 2 2), (13, iv 1), (14, iv ((trackR s rs (swL s bits s.hours.toNat)).1)), (15, .bool ((trackR s rs (swL s bits s.hours.toNat)).2.1)), (104, .bool ((trackR s rs (swL s bits s.hours.toNat)).2.2 != 0))]) (rs := []) [2, 3, 7, 8, 9, 12, 13, 14, 15, 104] .nil (by kernel_rfl) fun a w hF hE => ?_)
        replace hO := hO.ext hE; clear hE
        rcases Bool.eq_false_or_eq_true ((trackR s rs (swL s bits s.hours.toNat)).2.2 != 0) with hc20 | hc20
        · refine (W_true ((evOp hF (by kernel_rfl)).trans (congrArg Value.bool hc20)) ?_)
          rw [track_err her] at hc20; cases hc20
        · refine (W_false ((evOp hF (by kernel_rfl)).trans (congrArg Value.bool hc20)) ?_)
          refine (W_skip ?_)
          refine W_seq (region_q {} TBok hF (F' := [(2, iv k_), (3, pv b1), (7, .slice p2 n3 c4), (8, iv ((liarR s rs).2)), (9, iv ((leastR s rs).1)), (12, .slice (some ⟨b16, 0, none⟩) 2 2), (13, iv 1), (14, iv ((trackR s rs (swL s bits s.hours.toNat)).1)), (15, .bool ((trackR s rs (swL s bits s.hours.toNat)).2.1)), (17, iv 0)]) (rs := []) [2, 3, 7, 8, 9, 12, 13, 14, 15, 17] .nil (by kernel_rfl) fun a w hF hE => ?_)
          replace hO := hO.ext hE; clear hE
          refine (W_block ?_)
          refine (W_loop (fun m a w => ∃ (m_ : Nat), m = n3 - m_ ∧ m_ ≤ n3 ∧ Fr 204 [] [(2, iv k_), (3, pv b1), (7, .slice p2 n3 c4), (8, iv ((liarR s rs).2)), (9, iv ((leastR s rs).1)), (12, .slice (some ⟨b16, 0, none⟩) 2 2), (13, iv 1), (14, iv ((trackR s rs (swL s bits s.hours.toNat)).1)), (15, .bool ((trackR s rs (swL s bits s.hours.toNat)).2.1)), (17, iv (m_ : Int))] a ∧ Own w0 none_ [cel b1 #[iv s.wide, iv s.high, .slice v.la v.ln v.lc, iv s.hours, .slice v.da v.dn v.dc, iv s.speed, .slice p n c] 28, rdR encI 1 p2 n3 (liarR s rs).1, rdR encI 1 p6 n7 (leastR s rs).2.1, rdR encI 1 p12 n13 (swL s bits s.hours.toNat), cel b16 #[.slice p6 n7 c8, .slice p12 n13 c14] 22] w) _ ⟨0, rfl, Nat.zero_le _, hF, hO⟩ ?_)
          clear hF hO
          rintro _ a w ⟨m_, rfl, hm_, hF, hO⟩
          refine W_seq ?_
          refine W_seq (region_q { sy := [4, 7] } TBok hF (F' := [(2, iv k_), (3, pv b1), (7, .slice p2 n3 c4), (8, iv ((liarR s rs).2)), (9, iv ((leastR s rs).1)), (12, .slice (some ⟨b16, 0, none⟩) 2 2), (13, iv 1), (14, iv ((trackR s rs (swL s bits s.hours.toNat)).1)), (15, .bool ((trackR s rs (swL s bits s.hours.toNat)).2.1)), (17, iv (m_ : Int)), (116, .bool (cond (cond (decide ((m_ : Int) < (n3 : Int))) ((trackR s rs (swL s bits s.hours.toNat)).2.1) false) ((trackR s rs (swL s bits s.hours.toNat)).1 == (leastR s rs).1) false))]) (rs := []) [2, 3, 7, 8, 9, 12, 13, 14, 15, 17, 116] .nil (by kernel_rfl) fun a w hF hE => ?_)
          replace hO := hO.ext hE; clear hE
          rcases Bool.eq_false_or_eq_true (cond (cond (decide ((m_ : Int) < (n3 : Int))) ((trackR s rs (swL s bits s.hours.toNat)).2.1) false) ((trackR s rs (swL s bits s.hours.toNat)).1 == (leastR s rs).1) false) with hc21 | hc21
          · refine (W_true ((evOp hF (by kernel_rfl)).trans (congrArg Value.bool hc21)) ?_)
            obtain ⟨hma, htl, hnm, htd, hok⟩ := acc_step her hm (by assumption) (by assumption : (cond (cond (decide ((m_ : Int) < (n3 : Int))) ((trackR s rs (swL s bits s.hours.toNat)).2.1) false) ((trackR s rs (swL s bits s.hours.toNat)).1 == (leastR s rs).1) false) = true)
            have hrk := hrp.2 ((liarR s rs).1.getD m_ default).toNat (by omega)
            have htk := mem_cellsA (hok.1 (rs.getD ((liarR s rs).1.getD m_ default).toNat default).hr.toNat (by omega) (by omega))
            unfold tkF at htk
            refine (W_skip ?_)
            refine W_seq (W_block ?_)
            refine W_seq (region_d { sy := [9] } mixed TBok hF (F' := [(2, iv k_), (3, pv b1), (7, .slice p2 n3 c4), (8, iv ((liarR s rs).2)), (9, iv ((leastR s rs).1)), (12, .slice (some ⟨b16, 0, none⟩) 2 2), (13, iv 1), (14, iv ((trackR s rs (swL s bits s.hours.toNat)).1)), (15, .bool ((trackR s rs (swL s bits s.hours.toNat)).2.1)), (17, iv (m_ : Int)), (144, .bool (cond ((n13 : Int) != s.hours) true (toldB s (rs.getD ((liarR s rs).1.getD m_ default).toNat default) (swL s bits s.hours.toNat))))]) (rs := [.idx (some ⟨b16, 0, none⟩) 2 1 1 ⟨b16, 1, none⟩, .ld ⟨b16, 1, none⟩ (.slice p12 n13 c14), .ld ⟨b1, 3, none⟩ (iv s.hours), .und (!((n13 : Int) != s.hours)) (.lds ⟨b1, 0, none⟩ (sL6 s v)), .und (!((n13 : Int) != s.hours)) (.ld ⟨b1, 6, none⟩ (.slice p n c)), .und (!((n13 : Int) != s.hours)) (.idx p2 n3 (m_ : Int) 1 (adr p2 1 (m_ : Int))), .und (!((n13 : Int) != s.hours)) (.ld (adr p2 1 (m_ : Int)) (iv ((liarR s rs).1.getD m_ default))), .und (!((n13 : Int) != s.hours)) (.idx p n ((liarR s rs).1.getD m_ default) 4 (adr p 4 ((liarR s rs).1.getD m_ default))), .und (!((n13 : Int) != s.hours)) (.lds (adr p 4 ((liarR s rs).1.getD m_ default)) [iv ((rs.getD ((liarR s rs).1.getD m_ default).toNat default).hr), iv ((rs.getD ((liarR s rs).1.getD m_ default).toNat default).cell), iv ((rs.getD ((liarR s rs).1.getD m_ default).toNat default).far), .bool ((rs.getD ((liarR s rs).1.getD m_ default).toNat default).th)]), .und (!((n13 : Int) != s.hours)) (.idx (some ⟨b16, 0, none⟩) 2 1 1 ⟨b16, 1, none⟩), .und (!((n13 : Int) != s.hours)) (.ld ⟨b16, 1, none⟩ (.slice p12 n13 c14)), .und (!((n13 : Int) != s.hours)) (.call 34 #[.agg (sS6 s v), .agg #[iv ((rs.getD ((liarR s rs).1.getD m_ default).toNat default).hr), iv ((rs.getD ((liarR s rs).1.getD m_ default).toNat default).cell), iv ((rs.getD ((liarR s rs).1.getD m_ default).toNat default).far), .bool ((rs.getD ((liarR s rs).1.getD m_ default).toNat default).th)], .slice p12 n13 c14] (.bool (toldB s (rs.getD ((liarR s rs).1.getD m_ default).toNat default) (swL s bits s.hours.toNat))))]) [2, 3, 7, 8, 9, 12, 13, 14, 15, 17, 144] (.cons (ixa (by decide) (by decide)) <| .cons (ldo hO.st 4 rfl 1 rfl) <| .cons (ldo hO.st 0 rfl 3 rfl) <| .cons (fun hg => (ldso hO.st 0 rfl 0 rfl)) <| .cons (fun hg => (ldo hO.st 0 rfl 6 rfl)) <| .cons (fun hg => (ix (enc := encI) (xs := (liarR s rs).1) ((hO.get 1 rfl)) (by omega) (by omega))) <| .cons (fun hg => (ldR (enc := encI) (xs := (liarR s rs).1) (a := p2) (i := (m_ : Int)) (fun x_ hx_ => ((hO.st x_ hx_).get 1 rfl)) (by omega) (by omega) 0 rfl)) <| .cons (fun hg => (ix hx (by omega) (by omega))) <| .cons (fun hg => (ldsx hO.st nom hx (by omega) (by omega) rfl)) <| .cons (fun hg => (ixa (by decide) (by decide))) <| .cons (fun hg => (ldo hO.st 4 rfl 1 rfl)) <| .cons (fun hg => (fun w hE => told_calls s v (rs.getD ((liarR s rs).1.getD m_ default).toNat default) (swL s bits s.hours.toNat) p12 n13 c14 w hv (by omega) ((hO.st w hE).get 3 rfl) (by omega) (by omega))) <| .nil) (by kernel_rfl) (by kernel_rfl) fun a w hF hE => ?_)
            replace hO := hO.ext hE; clear hE
            rcases Bool.eq_false_or_eq_true (cond ((n13 : Int) != s.hours) true (toldB s (rs.getD ((liarR s rs).1.getD m_ default).toNat default) (swL s bits s.hours.toNat))) with hc22 | hc22
            · refine (W_true ((evOp hF (by kernel_rfl)).trans (congrArg Value.bool hc22)) ?_)
              rw [htd] at hc22; simp at hc22; omega
            · refine (W_false ((evOp hF (by kernel_rfl)).trans (congrArg Value.bool hc22)) ?_)
              refine (W_skip ?_)
              refine (region_q {} TBok hF (F' := [(2, iv k_), (3, pv b1), (7, .slice p2 n3 c4), (8, iv ((liarR s rs).2)), (9, iv ((leastR s rs).1)), (12, .slice (some ⟨b16, 0, none⟩) 2 2), (13, iv 1), (14, iv ((trackR s rs (swL s bits s.hours.toNat)).1)), (15, .bool ((trackR s rs (swL s bits s.hours.toNat)).2.1)), (17, iv ((m_ : Int) + 1))]) (rs := [.rng ((m_ : Int) + 1)]) [2, 3, 7, 8, 9, 12, 13, 14, 15, 17] (.cons (rg (by omega)) <| .nil) (by kernel_rfl) fun a w hF hE => ?_)
              replace hO := hO.ext hE; clear hE
              exact ⟨_, by omega, m_ + 1, rfl, by omega, hF, hO⟩
          · refine (W_false ((evOp hF (by kernel_rfl)).trans (congrArg Value.bool hc21)) ?_)
            refine (W_exit ?_)
            refine (region_q {} TBok hF (F' := [(2, iv k_), (3, pv b1), (7, .slice p2 n3 c4), (8, iv ((liarR s rs).2)), (9, iv ((leastR s rs).1)), (12, .slice (some ⟨b16, 0, none⟩) 2 2), (13, iv 2)]) (rs := [.rng 2]) [2, 3, 7, 8, 9, 12, 13] (.cons (rg (by omega)) <| .nil) (by kernel_rfl) fun a w hF hE => ?_)
            replace hO := hO.ext hE; clear hE
            exact ⟨_, by omega, 2, rfl, by omega, hF, hO⟩
      · replace hF : Fr 204 [] [(2, iv k_), (3, pv b1), (7, .slice p2 n3 c4), (8, iv ((liarR s rs).2)), (9, iv ((leastR s rs).1)), (12, .slice (some ⟨b16, 0, none⟩) 2 2), (13, iv 2)] a := hF
        refine W_seq ?_
        refine W_seq (region_q {} TBok hF (F' := [(2, iv k_), (3, pv b1), (7, .slice p2 n3 c4), (8, iv ((liarR s rs).2)), (9, iv ((leastR s rs).1)), (12, .slice (some ⟨b16, 0, none⟩) 2 2), (13, iv 2), (87, .bool false)]) (rs := []) [2, 3, 7, 8, 9, 12, 13, 87] .nil (by kernel_rfl) fun a w hF hE => ?_)
        replace hO := hO.ext hE; clear hE
        refine (W_false (evOp hF (by kernel_rfl)) ?_)
        refine (W_exit ?_)
        refine W_seq ?_
        refine W_seq (region_q { sy := [4] } TBok hF (F' := [(2, iv k_), (3, pv b1), (7, .slice p2 n3 c4), (8, iv ((liarR s rs).2)), (9, iv ((leastR s rs).1)), (157, .bool (cond ((n : Int) == 0) true (decide ((((n : Int) + (leastR s rs).1) + 1) > 24))))]) (rs := [.ld ⟨b1, 6, none⟩ (.slice p n c), .und (!((n : Int) == 0)) (.ld ⟨b1, 6, none⟩ (.slice p n c)), .und (!((n : Int) == 0)) (.rng ((n : Int) + (leastR s rs).1)), .und (!((n : Int) == 0)) (.rng (((n : Int) + (leastR s rs).1) + 1))]) [2, 3, 7, 8, 9, 157] (.cons (ldo hO.st 0 rfl 6 rfl) <| .cons (fun hg => (ldo hO.st 0 rfl 6 rfl)) <| .cons (fun hg => (rg (by omega))) <| .cons (fun hg => (rg (by omega))) <| .nil) (by kernel_rfl) fun a w hF hE => ?_)
        replace hO := hO.ext hE; clear hE
        rcases Bool.eq_false_or_eq_true (cond ((n : Int) == 0) true (decide ((((n : Int) + (leastR s rs).1) + 1) > 24))) with hc23 | hc23
        · refine (W_true ((evOp hF (by kernel_rfl)).trans (congrArg Value.bool hc23)) ?_)
          refine W_seq (region_q {} TBok hF (F' := [(2, iv k_), (3, pv b1), (6, .bool true), (7, .slice p2 n3 c4), (8, iv ((liarR s rs).2)), (9, iv ((leastR s rs).1))]) (rs := [.call 23 #[] (.bool true)]) [2, 3, 6, 7, 8, 9] (.cons (fun w _ => works_calls w) <| .nil) (by kernel_rfl) fun a w hF hE => ?_)
          replace hO := hO.ext hE; clear hE
          refine W_ret ?_
          show bodyPostM (FW none) 0 _ _ _ Exit.ret a w
          exact leave_r TBok hF (.nil _) (vs := [.bool true]) (rs := []) .nil (by kernel_rfl) ⟨rfl, hO.kp⟩
        · refine (W_false ((evOp hF (by kernel_rfl)).trans (congrArg Value.bool hc23)) ?_)
          have hnk := acc_size (by assumption : (cond ((n : Int) == 0) true (decide ((((n : Int) + (leastR s rs).1) + 1) > 24))) = false)
          have hkm0 := Int.emod_nonneg k_ (show (n : Int) ≠ 0 by omega); have hkm1 := Int.emod_lt_of_pos k_ (show (0 : Int) < n by omega)
          have hki : (((k_ % (n : Int)).toNat : Nat) : Int) = (k_ % (n : Int)) := by omega
          refine (W_skip ?_)
          refine W_seq (region_q {} TBok hF (F' := [(2, iv (k_ % (n : Int))), (3, pv b1), (7, .slice p2 n3 c4), (8, iv ((liarR s rs).2)), (9, iv ((leastR s rs).1))]) (rs := [.ld ⟨b1, 6, none⟩ (.slice p n c), .call 38 #[iv k_, iv (n : Int)] (iv (k_ % (n : Int)))]) [2, 3, 7, 8, 9] (.cons (ldo hO.st 0 rfl 6 rfl) <| .cons (fun w hE => Mod_calls k_ (n : Int) w (by omega) (by omega)) <| .nil) (by kernel_rfl) fun a w hF hE => ?_)
          replace hO := hO.ext hE; clear hE
          refine W_seq (region_seq ?_)
          refine op_bsl (i := 0) (t := 26) (e := 52) (len := 0) (ps := []) (d := 164) (sz := 4) (cs := #[]) (z := .agg #[iv 0, iv 0, iv 0, .bool false]) hF hO (by kernel_rfl) (by kernel_rfl) (by kernel_rfl) (by kernel_rfl) (by kernel_rfl) fun a w b24 hF hO _ => ?_
          refine seq_quiet {} TBok hF (F' := [(2, iv (k_ % (n : Int))), (3, pv b1), (7, .slice p2 n3 c4), (8, iv ((liarR s rs).2)), (9, iv ((leastR s rs).1)), (164, .slice (some ⟨b24, 0, none⟩) 0 0), (166, .slice p n c)]) (rs := [.ld ⟨b1, 6, none⟩ (.slice p n c)]) [1, 2] [3, 4] [2, 3, 7, 8, 9, 164, 166] (.cons (ldo hO.st 0 rfl 6 rfl) <| .nil) (by kernel_rfl) fun a w hF hE => ?_
          replace hO := hO.ext hE; clear hE
          replace hO := hO.emptyRow 5 rfl 4
          refine op_appX (i := 3) (t := 26) (ty := 26) (e := 52) (d := 167) (c2 := c) (enc := encRp) (ys := rs) rowT26 (fun _ => rfl) (fun _ => rfl) hF hO (by kernel_rfl) ((hx.upM hO.kp nom (Nat.le_refl _))) 5 rfl (by omega) fun a w p25 c26 hF hO hx => ?_
          clear hx
          replace hO : Own w0 none_ [cel b1 #[iv s.wide, iv s.high, .slice v.la v.ln v.lc, iv s.hours, .slice v.da v.dn v.dc, iv s.speed, .slice p n c] 28, rdR encI 1 p2 n3 (liarR s rs).1, rdR encI 1 p6 n7 (leastR s rs).2.1, rdR encI 1 p12 n13 (swL s bits s.hours.toNat), cel b16 #[.slice p6 n7 c8, .slice p12 n13 c14] 22, rowR 52 4 (.slice p25 (0 + n) c26) (0 + n) ([] ++ (rs).flatMap encRp)] w := hO
          have hn27 : 0 + n = n := Nat.zero_add _
          rw [hn27] at hO hF
          clear hn27
          refine seq_quiet {} TBok hF (F' := [(2, iv (k_ % (n : Int))), (3, pv b1), (7, .slice p2 n3 c4), (8, iv ((liarR s rs).2)), (9, iv ((leastR s rs).1)), (18, .slice p25 n c26)]) (rs := []) [4] [] [2, 3, 7, 8, 9, 18] .nil (by kernel_rfl) fun a w hF hE => ?_
          replace hO := hO.ext hE; clear hE
          refine W_seq ?_
          refine W_seq (region_q {} TBok hF (F' := [(2, iv (k_ % (n : Int))), (3, pv b1), (7, .slice p2 n3 c4), (8, iv ((liarR s rs).2)), (9, iv ((leastR s rs).1)), (18, .slice p25 n c26), (19, iv 0)]) (rs := []) [2, 3, 7, 8, 9, 18, 19] .nil (by kernel_rfl) fun a w hF hE => ?_)
          replace hO := hO.ext hE; clear hE
          refine (W_block ?_)
          replace hO : Own w0 none_ [cel b1 #[iv s.wide, iv s.high, .slice v.la v.ln v.lc, iv s.hours, .slice v.da v.dn v.dc, iv s.speed, .slice p n c] 28, rdR encI 1 p2 n3 (liarR s rs).1, rdR encI 1 p6 n7 (leastR s rs).2.1, rdR encI 1 p12 n13 (swL s bits s.hours.toNat), cel b16 #[.slice p6 n7 c8, .slice p12 n13 c14] 22, rowR 52 4 (.slice p25 n c26) n (rs.flatMap encRp)] w := hO
          replace hO : Own w0 none_ [cel b1 #[iv s.wide, iv s.high, .slice v.la v.ln v.lc, iv s.hours, .slice v.da v.dn v.dc, iv s.speed, .slice p n c] 28, rdR encI 1 p2 n3 (liarR s rs).1, rdR encI 1 p6 n7 (leastR s rs).2.1, rdR encI 1 p12 n13 (swL s bits s.hours.toNat), cel b16 #[.slice p6 n7 c8, .slice p12 n13 c14] 22, rowR 52 4 (.slice p25 (n + 0) c26) (n + 0) ((rs ++ List.replicate 0 (rs.getD (k_ % (n : Int)).toNat default)).flatMap encRp)] w := hO.cast (by rw [rep_zero] <;> rfl)
          refine (W_loop (fun m a w => ∃ (k : Nat), ∃ (p_ : Option Addr), ∃ (cc_ : Nat), m = ((leastR s rs).1 + 1).toNat - k ∧ (k : Int) ≤ ((leastR s rs).1 + 1) ∧ Fr 204 [] [(2, iv (k_ % (n : Int))), (3, pv b1), (7, .slice p2 n3 c4), (8, iv ((liarR s rs).2)), (9, iv ((leastR s rs).1)), (18, .slice p_ (n + k) cc_), (19, iv (k : Int))] a ∧ Own w0 none_ [cel b1 #[iv s.wide, iv s.high, .slice v.la v.ln v.lc, iv s.hours, .slice v.da v.dn v.dc, iv s.speed, .slice p n c] 28, rdR encI 1 p2 n3 (liarR s rs).1, rdR encI 1 p6 n7 (leastR s rs).2.1, rdR encI 1 p12 n13 (swL s bits s.hours.toNat), cel b16 #[.slice p6 n7 c8, .slice p12 n13 c14] 22, rowR 52 4 (.slice p_ (n + k) cc_) (n + k) ((rs ++ List.replicate k (rs.getD (k_ % (n : Int)).toNat default)).flatMap encRp)] w) _ ⟨0, p25, c26, rfl, (by omega), hF, hO⟩ ?_)
          clear hF hO
          rintro _ a w ⟨k, p_, cc_, rfl, hk, hF, hO⟩
          refine W_seq ?_
          refine W_seq (region_q {} TBok hF (F' := [(2, iv (k_ % (n : Int))), (3, pv b1), (7, .slice p2 n3 c4), (8, iv ((liarR s rs).2)), (9, iv ((leastR s rs).1)), (18, .slice p_ (n + k) cc_), (19, iv (k : Int)), (170, .bool (decide ((k : Int) ≤ (leastR s rs).1)))]) (rs := []) [2, 3, 7, 8, 9, 18, 19, 170] .nil (by kernel_rfl) fun a w hF hE => ?_)
          replace hO := hO.ext hE; clear hE
          rcases Bool.eq_false_or_eq_true (decide ((k : Int) ≤ (leastR s rs).1)) with hc28 | hc28
          · refine (W_true ((evOp hF (by kernel_rfl)).trans (congrArg Value.bool hc28)) ?_)
            have hkl := of_decide_eq_true (by assumption : (decide ((k : Int) ≤ (leastR s rs).1)) = true)
            refine (W_skip ?_)
            refine W_seq (W_block ?_)
            refine (region_seq ?_)
            refine seq_quiet {} TBok hF (F' := [(2, iv (k_ % (n : Int))), (3, pv b1), (7, .slice p2 n3 c4), (8, iv ((liarR s rs).2)), (9, iv ((leastR s rs).1)), (18, .slice p_ (n + k) cc_), (19, iv (k : Int)), (173, .slice p_ (n + k) cc_), (178, .agg #[iv ((rs.getD (k_ % (n : Int)).toNat default).hr), iv ((rs.getD (k_ % (n : Int)).toNat default).cell), iv ((rs.getD (k_ % (n : Int)).toNat default).far), .bool ((rs.getD (k_ % (n : Int)).toNat default).th)])]) (rs := [.ld ⟨b1, 6, none⟩ (.slice p n c), .idx p n (k_ % (n : Int)) 4 (adr p 4 (k_ % (n : Int))), .lds (adr p 4 (k_ % (n : Int))) [iv ((rs.getD (k_ % (n : Int)).toNat default).hr), iv ((rs.getD (k_ % (n : Int)).toNat default).cell), iv ((rs.getD (k_ % (n : Int)).toNat default).far), .bool ((rs.getD (k_ % (n : Int)).toNat default).th)]]) [0, 1, 2, 3, 4, 5] [6, 7, 8] [2, 3, 7, 8, 9, 18, 19, 173, 178] (.cons (ldo hO.st 0 rfl 6 rfl) <| .cons (ix hx (by omega) (by omega)) <| .cons (ldsx hO.st nom hx (by omega) (by omega) rfl) <| .nil) (by kernel_rfl) fun a w hF hE => ?_
            replace hO := hO.ext hE; clear hE
            refine op_bsl (i := 6) (t := 26) (e := 52) (len := 1) (ps := [(0, .agg #[iv ((rs.getD (k_ % (n : Int)).toNat default).hr), iv ((rs.getD (k_ % (n : Int)).toNat default).cell), iv ((rs.getD (k_ % (n : Int)).toNat default).far), .bool ((rs.getD (k_ % (n : Int)).toNat default).th)])]) (d := 179) (sz := 4) (cs := #[iv ((rs.getD (k_ % (n : Int)).toNat default).hr), iv ((rs.getD (k_ % (n : Int)).toNat default).cell), iv ((rs.getD (k_ % (n : Int)).toNat default).far), .bool ((rs.getD (k_ % (n : Int)).toNat default).th)]) (z := .agg #[iv 0, iv 0, iv 0, .bool false]) hF hO (by kernel_rfl) (by kernel_rfl) (by kernel_rfl) (by kernel_rfl) (by kernel_rfl) fun a w b29 hF hO _ => ?_
            refine op_appR (i := 7) (t := 26) (ty := 26) (e := 52) (d := 180) rowT26 hF hO (by kernel_rfl) 5 rfl 6 rfl (by kernel_rfl) (by omega) fun a w p30 c31 hF hO hx => ?_
            clear hx
            refine seq_quiet {} TBok hF (F' := [(2, iv (k_ % (n : Int))), (3, pv b1), (7, .slice p2 n3 c4), (8, iv ((liarR s rs).2)), (9, iv ((leastR s rs).1)), (18, .slice p30 ((n + k) + 1) c31), (19, iv (k : Int))]) (rs := []) [8] [] [2, 3, 7, 8, 9, 18, 19] .nil (by kernel_rfl) fun a w hF hE => ?_
            replace hO := hO.ext hE; clear hE
            refine (region_q {} TBok hF (F' := [(2, iv (k_ % (n : Int))), (3, pv b1), (7, .slice p2 n3 c4), (8, iv ((liarR s rs).2)), (9, iv ((leastR s rs).1)), (18, .slice p30 ((n + k) + 1) c31), (19, iv ((k : Int) + 1))]) (rs := [.rng ((k : Int) + 1)]) [2, 3, 7, 8, 9, 18, 19] (.cons (rg (by omega)) <| .nil) (by kernel_rfl) fun a w hF hE => ?_)
            replace hO := hO.ext hE; clear hE
            replace hO := hO.drop1 6
            replace hO : Own w0 none_ [cel b1 #[iv s.wide, iv s.high, .slice v.la v.ln v.lc, iv s.hours, .slice v.da v.dn v.dc, iv s.speed, .slice p n c] 28, rdR encI 1 p2 n3 (liarR s rs).1, rdR encI 1 p6 n7 (leastR s rs).2.1, rdR encI 1 p12 n13 (swL s bits s.hours.toNat), cel b16 #[.slice p6 n7 c8, .slice p12 n13 c14] 22, rowR 52 4 (.slice p30 ((n + k) + 1) c31) ((n + k) + 1) (((rs ++ List.replicate k (rs.getD (k_ % (n : Int)).toNat default)).flatMap encRp) ++ (#[iv ((rs.getD (k_ % (n : Int)).toNat default).hr), iv ((rs.getD (k_ % (n : Int)).toNat default).cell), iv ((rs.getD (k_ % (n : Int)).toNat default).far), .bool ((rs.getD (k_ % (n : Int)).toNat default).th)] : Array Value).toList)] w := hO
            replace hO : Own w0 none_ [cel b1 #[iv s.wide, iv s.high, .slice v.la v.ln v.lc, iv s.hours, .slice v.da v.dn v.dc, iv s.speed, .slice p n c] 28, rdR encI 1 p2 n3 (liarR s rs).1, rdR encI 1 p6 n7 (leastR s rs).2.1, rdR encI 1 p12 n13 (swL s bits s.hours.toNat), cel b16 #[.slice p6 n7 c8, .slice p12 n13 c14] 22, rowR 52 4 (.slice p30 (n + (k + 1)) c31) (n + (k + 1)) ((rs ++ List.replicate (k + 1) (rs.getD (k_ % (n : Int)).toNat default)).flatMap encRp)] w := hO.cast (by rw [rep_app] <;> rfl)
            exact ⟨_, by omega, k + 1, p30, c31, rfl, by omega, hF, hO⟩
          · refine (W_false ((evOp hF (by kernel_rfl)).trans (congrArg Value.bool hc28)) ?_)
            have hkl := of_decide_eq_false (by assumption : (decide ((k : Int) ≤ (leastR s rs).1)) = false)
            refine (W_exit ?_)
            refine W_seq (region_seq ?_)
            refine seq_quiet {} TBok hF (F' := [(2, iv (k_ % (n : Int))), (7, .slice p2 n3 c4), (8, iv ((liarR s rs).2)), (9, iv ((leastR s rs).1)), (183, .agg (sS6 s v)), (184, .slice p_ (n + k) cc_)]) (rs := [.lds ⟨b1, 0, none⟩ (sL6 s v)]) [0, 1, 2] [3, 4, 5, 6, 7, 8, 9, 10] [2, 7, 8, 9, 183, 184] (.cons (ldso hO.st 0 rfl 0 rfl) <| .nil) (by kernel_rfl) fun a w hF hE => ?_
            replace hO := hO.ext hE; clear hE
            refine op_call (i := 3) (f := 20) (args := #[.agg (sS6 s v), .slice p_ (n + k) cc_]) (d := some 185) TBok (by kernel_rfl) hF (by kernel_rfl) (Least_calls s v (rs ++ List.replicate k (rs.getD (k_ % (n : Int)).toNat default)) p_ (n + k) cc_ _ (hs.upM hO.kp nom (Nat.le_refl _)) (rd_row (fun _ => rfl) (by decide) hO 5 rfl (by omega))) fun e w hR => ?_
            obtain ⟨p32, n33, c34, hn35, he, hO2⟩ := hR
            refine ⟨_, he, fun a hF => ?_⟩
            replace hO := hO.joinE hO2; clear hO2 he
            refine seq_quiet {} TBok hF (F' := [(2, iv (k_ % (n : Int))), (7, .slice p2 n3 c4), (8, iv ((leastR s (rs ++ List.replicate k (rs.getD (k_ % (n : Int)).toNat default))).2.2)), (9, iv ((leastR s rs).1)), (20, iv ((leastR s (rs ++ List.replicate k (rs.getD (k_ % (n : Int)).toNat default))).1))]) (rs := []) [4, 5, 6, 7, 8, 9, 10] [] [2, 7, 8, 9, 20] .nil (by kernel_rfl) fun a w hF hE => ?_
            replace hO := hO.ext hE; clear hE
            refine W_seq (region_q { sy := [2, 12], md := [(10, 3)] } TBok hF (F' := [(6, .bool (cond (cond ((leastR s (rs ++ List.replicate k (rs.getD (k_ % (n : Int)).toNat default))).2.2 == 0) (((leastR s (rs ++ List.replicate k (rs.getD (k_ % (n : Int)).toNat default))).1 == (leastR s rs).1) == (decide ((placeI (liarR s rs).1 (k_ % (n : Int))) < 0))) false) true false))]) (rs := [.und ((leastR s (rs ++ List.replicate k (rs.getD (k_ % (n : Int)).toNat default))).2.2 == 0) (.call 35 #[.slice p2 n3 c4, iv (k_ % (n : Int))] (iv (placeI (liarR s rs).1 (k_ % (n : Int))))), .und ((leastR s (rs ++ List.replicate k (rs.getD (k_ % (n : Int)).toNat default))).2.2 == 0) (.raw (rb .eql 4 (.tmp 194) (.tmp 198) (.bool ((leastR s (rs ++ List.replicate k (rs.getD (k_ % (n : Int)).toNat default))).1 == (leastR s rs).1)) (.bool (decide ((placeI (liarR s rs).1 (k_ % (n : Int))) < 0)))) (.bool (((leastR s (rs ++ List.replicate k (rs.getD (k_ % (n : Int)).toNat default))).1 == (leastR s rs).1) == (decide ((placeI (liarR s rs).1 (k_ % (n : Int))) < 0))))), .und (cond ((leastR s (rs ++ List.replicate k (rs.getD (k_ % (n : Int)).toNat default))).2.2 == 0) (((leastR s (rs ++ List.replicate k (rs.getD (k_ % (n : Int)).toNat default))).1 == (leastR s rs).1) == (decide ((placeI (liarR s rs).1 (k_ % (n : Int))) < 0))) false) (.call 23 #[] (.bool true))]) [6] (.cons (fun hg => (fun w hE => Place_calls (liarR s rs).1 p2 n3 c4 (k_ % (n : Int)) w ((hO.st w hE).get 1 rfl))) <| .cons (fun hg => (raw_eqB boolT4 _ _)) <| .cons (fun hg => (fun w _ => works_calls w)) <| .nil) (by kernel_rfl) fun a w hF hE => ?_)
            replace hO := hO.ext hE; clear hE
            refine W_ret ?_
            show bodyPostM (FW none) 0 _ _ _ Exit.ret a w
            have hlw := accused_law her hm (i := (k_ % (n : Int)).toNat) (m := k) (by omega) (by omega) (by omega)
            rw [hki] at hlw
            have hX : (cond (cond ((leastR s (rs ++ List.replicate k (rs.getD (k_ % (n : Int)).toNat default))).2.2 == 0) (((leastR s (rs ++ List.replicate k (rs.getD (k_ % (n : Int)).toNat default))).1 == (leastR s rs).1) == (decide ((placeI (liarR s rs).1 (k_ % (n : Int))) < 0))) false) true false) = true := by rw [show (cond ((leastR s (rs ++ List.replicate k (rs.getD (k_ % (n : Int)).toNat default))).2.2 == 0) (((leastR s (rs ++ List.replicate k (rs.getD (k_ % (n : Int)).toNat default))).1 == (leastR s rs).1) == (decide ((placeI (liarR s rs).1 (k_ % (n : Int))) < 0))) false) = true from hlw]; rfl
            exact leave_r TBok hF (.nil _) (vs := [.bool (cond (cond ((leastR s (rs ++ List.replicate k (rs.getD (k_ % (n : Int)).toNat default))).2.2 == 0) (((leastR s (rs ++ List.replicate k (rs.getD (k_ % (n : Int)).toNat default))).1 == (leastR s rs).1) == (decide ((placeI (liarR s rs).1 (k_ % (n : Int))) < 0))) false) true false)]) (rs := []) .nil (by kernel_rfl) ⟨by rw [hX]; rfl, hO.kp⟩

end Go.Proofs.Ytgihgcclabodbaa.DK
