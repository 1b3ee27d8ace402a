/- The laws ShoalHolds, ShoalFirst, walked. Printed by my gen.py out of shoal/bb.py. -/
import Derived.Test.YtgihgcclabodbaaT5
import Derived.Test.YtgihgcclabodbaaSLaw
namespace Go.Proofs.Ytgihgcclabodbaa.DK
open Go Go.Proofs
set_option linter.unusedVariables false
set_option linter.unusedSimpArgs false

theorem least_bad {s : Sea} {rs : List Rp} (h : cond ((leastR s rs).2.2 != 0) true (!(err s rs == 0)) = true) : (leastR s rs).1 = 0 ∧ (leastR s rs).2.1.length = 0 := by
  by_cases h0 : (leastR s rs).2.2 = 0
  · obtain ⟨her, _⟩ := least_0 h0
    rw [h0, her] at h; cases h
  · unfold leastR at h0 ⊢
    split
    · exact ⟨rfl, rfl⟩
    · split
      · exact ⟨rfl, rfl⟩
      · rename_i h1 h2; rw [if_neg h1, if_neg h2] at h0; exact absurd rfl h0
theorem least_good {s : Sea} {rs : List Rp} (h : cond ((leastR s rs).2.2 != 0) true (!(err s rs == 0)) = false) : (leastR s rs).2.2 = 0 ∧ err s rs = 0 := by
  cases h1 : ((leastR s rs).2.2 != 0) with
  | true => rw [h1] at h; cases h
  | false => rw [h1, cond_false] at h; exact ⟨by simpa using h1, by simpa using h⟩
set_option maxHeartbeats 4000000 in
set_option maxRecDepth 100000 in
theorem ShoalHolds_calls (s : Sea) (v : SV) (rs : List Rp) (p : Option Addr) (n c : Nat) (bits : List Int) (bp : Option Addr) (bn bc : Nat) (w0 : World) (hs : SeaR w0.heap.size w0 v s) (hx : Rd encRp 4 w0.heap.size w0 p n rs) (hbi : Rd encI 1 w0.heap.size w0 bp bn bits) :
    Calls Try.prog 7 #[.agg #[iv s.wide, iv s.high, .slice v.la v.ln v.lc, iv s.hours, .slice v.da v.dn v.dc, iv s.speed, .slice p n c], .slice bp bn bc] w0 (fun e w' => e = .returned (.bool true) ∧ Ext w0 w') := by
  have hl1 := hs.land.len; have hl2 := hs.drift.len; have hs1 := hs.land.size; have hs2 := hs.drift.size; have hr_ := hs.rg; unfold i64 at hr_; have hl3 := hx.len; have hs3 := hx.size; have hbl := hbi.len; have hbs := hbi.size
  refine calls_of_W Try.func7 rfl (by kernel_rfl) (args := [.agg #[iv s.wide, iv s.high, .slice v.la v.ln v.lc, iv s.hours, .slice v.da v.dn v.dc, iv s.speed, .slice p n c], .slice bp bn bc]) fun a hF => ?_
  replace hF : Fr 151 [] [(0, .agg #[iv s.wide, iv s.high, .slice v.la v.ln v.lc, iv s.hours, .slice v.da v.dn v.dc, iv s.speed, .slice p n c]), (1, .slice bp bn bc)] a := hF
  have hO : Own w0 none_ [] w0 := Own.start w0 _
  refine W_seq (region_seq ?_)
  refine op_box (i := 0) (t := 28) (v := .agg #[iv s.wide, iv s.high, .slice v.la v.ln v.lc, iv s.hours, .slice v.da v.dn v.dc, iv s.speed, .slice p n c]) (d := 2) hF hO (by kernel_rfl) fun a w b1 hF hO _ => ?_
  refine seq_quiet {} TBok hF (F' := [(1, .slice bp bn bc), (2, pv b1), (4, .bool false)]) (rs := []) [1] [] [1, 2, 4] .nil (by kernel_rfl) fun a w hF hE => ?_
  replace hO := hO.ext hE; clear hE
  refine W_seq ?_
  refine W_seq (region_q {} TBok hF (F' := [(1, .slice bp bn bc), (2, pv b1), (4, .bool false), (22, .bool (!(err s rs == 0)))]) (rs := [.lds ⟨b1, 0, none⟩ [iv s.wide, iv s.high, .slice v.la v.ln v.lc, iv s.hours, .slice v.da v.dn v.dc, iv s.speed, .slice p n c], .call 32 #[.agg #[iv s.wide, iv s.high, .slice v.la v.ln v.lc, iv s.hours, .slice v.da v.dn v.dc, iv s.speed, .slice p n c]] (.bool (err s rs == 0))]) [1, 2, 4, 22] (.cons (ldso hO.st 0 rfl 0 rfl) <| .cons (fun w hE => sound_calls s v rs p n c w (hs.upM (hO.st w hE).kp nom (Nat.le_refl _)) (hx.upM (hO.st w hE).kp nom (Nat.le_refl _))) <| .nil) (by kernel_rfl) fun a w hF hE => ?_)
  replace hO := hO.ext hE; clear hE
  rcases Bool.eq_false_or_eq_true (!(err s rs == 0)) with hc2 | hc2
  · refine (W_true ((evOp hF (by kernel_rfl)).trans (congrArg Value.bool hc2)) ?_)
    refine W_seq (region_q {} TBok hF (F' := [(1, .slice bp bn bc), (2, pv b1), (4, .bool true)]) (rs := [.call 23 #[] (.bool true)]) [1, 2, 4] (.cons (fun w _ => works_calls w) <| .nil) (by kernel_rfl) fun a w hF hE => ?_)
    replace hO := hO.ext hE; clear hE
    refine W_ret ?_
    show bodyPostM (FW none) 0 _ _ _ Exit.ret a w
    exact leave_r TBok hF (.nil _) (vs := [.bool true]) (rs := []) .nil (by kernel_rfl) ⟨rfl, hO.kp⟩
  · refine (W_false ((evOp hF (by kernel_rfl)).trans (congrArg Value.bool hc2)) ?_)
    have her : err s rs = 0 := by have h_ := (by assumption : (!(err s rs == 0)) = false); simpa using h_
    obtain ⟨hv, hr⟩ := err_hd her
    have hv1 := sea_ok hv; have hrp := rp_ok hr
    refine (W_skip ?_)
    refine W_seq (region_seq ?_)
    refine seq_quiet {} TBok hF (F' := [(2, pv b1), (4, .bool false), (25, .agg (sS6 s v)), (26, .slice bp bn bc)]) (rs := [.lds ⟨b1, 0, none⟩ (sL6 s v)]) [0, 1, 2] [3, 4] [2, 4, 25, 26] (.cons (ldso hO.st 0 rfl 0 rfl) <| .nil) (by kernel_rfl) fun a w hF hE => ?_
    replace hO := hO.ext hE; clear hE
    refine op_call (i := 3) (f := 33) (args := #[.agg (sS6 s v), .slice bp bn bc]) (d := some 27) TBok (by kernel_rfl) hF (by kernel_rfl) (swum_calls s v bits bp bn bc _ (hs.upM hO.kp nom (Nat.le_refl _)) hv (hbi.upM hO.kp nom (Nat.le_refl _))) fun e w hR => ?_
    obtain ⟨p3, n4, c5, hn6, he, hO2⟩ := hR
    refine ⟨_, he, fun a hF => ?_⟩
    replace hO := hO.joinE hO2; clear hO2 he
    refine seq_quiet {} TBok hF (F' := [(2, pv b1), (4, .bool false), (5, .slice p3 n4 c5)]) (rs := []) [4] [] [2, 4, 5] .nil (by kernel_rfl) fun a w hF hE => ?_
    replace hO := hO.ext hE; clear hE
    refine W_seq ?_
    refine W_seq (region_q {} TBok hF (F' := [(2, pv b1), (4, .bool false), (5, .slice p3 n4 c5), (33, .bool (decide ((n4 : Int) < s.hours)))]) (rs := [.ld ⟨b1, 3, none⟩ (iv s.hours)]) [2, 4, 5, 33] (.cons (ldo hO.st 0 rfl 3 rfl) <| .nil) (by kernel_rfl) fun a w hF hE => ?_)
    replace hO := hO.ext hE; clear hE
    rcases Bool.eq_false_or_eq_true (decide ((n4 : Int) < s.hours)) with hc7 | hc7
    · refine (W_true ((evOp hF (by kernel_rfl)).trans (congrArg Value.bool hc7)) ?_)
      have hlt := of_decide_eq_true (by assumption : (decide ((n4 : Int) < s.hours)) = true)
      have htr := track_short her (T := (swL s bits s.hours.toNat)) (by rw [hn6]; omega)
      refine W_seq (region_q {} TBok hF (F' := [(2, pv b1), (4, .bool false), (5, .slice p3 n4 c5), (7, .bool false), (8, iv 0)]) (rs := [.lds ⟨b1, 0, none⟩ (sL6 s v), .ld ⟨b1, 6, none⟩ (.slice p n c), .call 16 #[.agg (sS6 s v), .slice p n c, .slice p3 n4 c5] (.tuple #[iv 0, .bool false, iv 0])]) [2, 4, 5, 7, 8] (.cons (ldso hO.st 0 rfl 0 rfl) <| .cons (ldo hO.st 0 rfl 6 rfl) <| .cons (fun w hE => calls_cast (v := .tuple #[iv ((trackR s rs (swL s bits s.hours.toNat)).1), .bool ((trackR s rs (swL s bits s.hours.toNat)).2.1), iv ((trackR s rs (swL s bits s.hours.toNat)).2.2)]) (v' := .tuple #[iv 0, .bool false, iv 0]) (IsTrack_calls s v rs p n c (swL s bits s.hours.toNat) p3 n4 c5 w (hs.upM (hO.st w hE).kp nom (Nat.le_refl _)) (hx.upM (hO.st w hE).kp nom (Nat.le_refl _)) ((hO.st w hE).get 1 rfl)) (by rw [htr])) <| .nil) (by kernel_rfl) fun a w hF hE => ?_)
      replace hO := hO.ext hE; clear hE
      refine W_seq (region_q {} TBok hF (F' := [(2, pv b1), (4, .bool true), (5, .slice p3 n4 c5)]) (rs := [.call 23 #[] (.bool true)]) [2, 4, 5] (.cons (fun w _ => works_calls w) <| .nil) (by kernel_rfl) fun a w hF hE => ?_)
      replace hO := hO.ext hE; clear hE
      refine W_ret ?_
      show bodyPostM (FW none) 0 _ _ _ Exit.ret a w
      exact leave_r TBok hF (.nil _) (vs := [.bool true]) (rs := []) .nil (by kernel_rfl) ⟨rfl, hO.kp⟩
    · refine (W_false ((evOp hF (by kernel_rfl)).trans (congrArg Value.bool hc7)) ?_)
      have hlt := of_decide_eq_false (by assumption : (decide ((n4 : Int) < s.hours)) = false)
      have hsl := swL_len s bits s.hours.toNat
      have hle : (swL s bits s.hours.toNat).length = s.hours.toNat := by omega
      have hok := swL_ok hle
      have htr := track_full her (T := (swL s bits s.hours.toNat)) (by rw [hle]; omega) (by rw [hle]; exact hok)
      rw [hle] at htr
      obtain ⟨hm, hlr, hml⟩ := least_ok her hok
      have htc := told_count her (T := (swL s bits s.hours.toNat)) (H := s.hours.toNat) (by omega)
      have hcb := costT_bd (s := s) (rs := rs) (t := tkF (swL s bits s.hours.toNat)) (a := 0) (n := s.hours.toNat)
      have hcl := costT_len (s := s) (rs := rs) (t := tkF (swL s bits s.hours.toNat)) (a := 0) (n := s.hours.toNat)
      refine (W_skip ?_)
      refine W_seq (region_q {} TBok hF (F' := [(2, pv b1), (4, .bool false), (5, .slice p3 n4 c5), (9, iv 0)]) (rs := []) [2, 4, 5, 9] .nil (by kernel_rfl) fun a w hF hE => ?_)
      replace hO := hO.ext hE; clear hE
      refine W_seq ?_
      refine W_seq (region_q {} TBok hF (F' := [(2, pv b1), (4, .bool false), (5, .slice p3 n4 c5), (9, iv 0), (10, iv 0)]) (rs := []) [2, 4, 5, 9, 10] .nil (by kernel_rfl) fun a w hF hE => ?_)
      replace hO := hO.ext hE; clear hE
      refine (W_block ?_)
      refine (W_loop (fun m a w => ∃ (k : Nat), ∃ (q : Int), m = n - k ∧ k ≤ n ∧ q = (((rs.take k).filter (fun x => !(toldB s x (swL s bits s.hours.toNat)))).length : Int) ∧ 0 ≤ q ∧ q ≤ (k : Int) ∧ Fr 151 [] [(2, pv b1), (4, .bool false), (5, .slice p3 n4 c5), (9, iv q), (10, iv (k : Int))] a ∧ Own w0 none_ [cel b1 #[iv s.wide, iv s.high, .slice v.la v.ln v.lc, iv s.hours, .slice v.da v.dn v.dc, iv s.speed, .slice p n c] 28, rdR encI 1 p3 n4 (swL s bits s.hours.toNat)] w) _ ⟨0, 0, rfl, Nat.zero_le _, rfl, by omega, by omega, hF, hO⟩ ?_)
      clear hF hO
      rintro _ a w ⟨k, q, rfl, hk, hq, hq0, hqk, hF, hO⟩
      refine W_seq ?_
      refine W_seq (region_q {} TBok hF (F' := [(2, pv b1), (4, .bool false), (5, .slice p3 n4 c5), (9, iv q), (10, iv (k : Int)), (57, .bool (decide ((k : Int) < (n : Int))))]) (rs := [.ld ⟨b1, 6, none⟩ (.slice p n c)]) [2, 4, 5, 9, 10, 57] (.cons (ldo hO.st 0 rfl 6 rfl) <| .nil) (by kernel_rfl) fun a w hF hE => ?_)
      replace hO := hO.ext hE; clear hE
      rcases Bool.eq_false_or_eq_true (decide ((k : Int) < (n : Int))) with hc8 | hc8
      · refine (W_true ((evOp hF (by kernel_rfl)).trans (congrArg Value.bool hc8)) ?_)
        have hkn := of_decide_eq_true (by assumption : (decide ((k : Int) < (n : Int))) = true)
        have hrk := hrp.2 k (by omega)
        have htk := mem_cellsA (hok.1 (rs.getD k default).hr.toNat (by omega) (by omega))
        unfold tkF at htk
        refine (W_skip ?_)
        refine W_seq (W_block ?_)
        refine W_seq (region_d {} mixed TBok hF (F' := [(2, pv b1), (4, .bool false), (5, .slice p3 n4 c5), (9, iv q), (10, iv (k : Int)), (69, .bool (!(toldB s (rs.getD k default) (swL s bits s.hours.toNat))))]) (rs := [.lds ⟨b1, 0, none⟩ (sL6 s v), .ld ⟨b1, 6, none⟩ (.slice p n c), .idx p n (k : Int) 4 (adr p 4 (k : Int)), .lds (adr p 4 (k : Int)) [iv ((rs.getD k default).hr), iv ((rs.getD k default).cell), iv ((rs.getD k default).far), .bool ((rs.getD k default).th)], .call 34 #[.agg (sS6 s v), .agg #[iv ((rs.getD k default).hr), iv ((rs.getD k default).cell), iv ((rs.getD k default).far), .bool ((rs.getD k default).th)], .slice p3 n4 c5] (.bool (toldB s (rs.getD k default) (swL s bits s.hours.toNat)))]) [2, 4, 5, 9, 10, 69] (.cons (ldso hO.st 0 rfl 0 rfl) <| .cons (ldo hO.st 0 rfl 6 rfl) <| .cons (ix hx (by omega) (by omega)) <| .cons (ldsx hO.st nom hx (by omega) (by omega) rfl) <| .cons (fun w hE => told_calls s v (rs.getD k default) (swL s bits s.hours.toNat) p3 n4 c5 w hv (by omega) ((hO.st w hE).get 1 rfl) (by omega) (by omega)) <| .nil) (by kernel_rfl) (by kernel_rfl) fun a w hF hE => ?_)
        replace hO := hO.ext hE; clear hE
        rcases Bool.eq_false_or_eq_true (!(toldB s (rs.getD k default) (swL s bits s.hours.toNat))) with hc9 | hc9
        · refine (W_true ((evOp hF (by kernel_rfl)).trans (congrArg Value.bool hc9)) ?_)
          refine (region_q {} TBok hF (F' := [(2, pv b1), (4, .bool false), (5, .slice p3 n4 c5), (9, iv (q + 1)), (10, iv (k : Int))]) (rs := [.rng (q + 1)]) [2, 4, 5, 9, 10] (.cons (rg (by omega)) <| .nil) (by kernel_rfl) fun a w hF hE => ?_)
          replace hO := hO.ext hE; clear hE
          refine (region_q {} TBok hF (F' := [(2, pv b1), (4, .bool false), (5, .slice p3 n4 c5), (9, iv (q + 1)), (10, iv ((k : Int) + 1))]) (rs := [.rng ((k : Int) + 1)]) [2, 4, 5, 9, 10] (.cons (rg (by omega)) <| .nil) (by kernel_rfl) fun a w hF hE => ?_)
          replace hO := hO.ext hE; clear hE
          have hst_ := filt_take (xs := rs) (fun x => !(toldB s x (swL s bits s.hours.toNat))) (k := k) (by omega)
          rw [show (!(toldB s (rs.getD k default) (swL s bits s.hours.toNat))) = true from hc9] at hst_; simp only [cond_true, cond_false] at hst_
          exact ⟨_, by omega, k + 1, _, rfl, by omega, by rw [hst_, ← hq], by omega, by omega, hF, hO⟩
        · refine (W_false ((evOp hF (by kernel_rfl)).trans (congrArg Value.bool hc9)) ?_)
          refine (W_skip ?_)
          refine (region_q {} TBok hF (F' := [(2, pv b1), (4, .bool false), (5, .slice p3 n4 c5), (9, iv q), (10, iv ((k : Int) + 1))]) (rs := [.rng ((k : Int) + 1)]) [2, 4, 5, 9, 10] (.cons (rg (by omega)) <| .nil) (by kernel_rfl) fun a w hF hE => ?_)
          replace hO := hO.ext hE; clear hE
          have hst_ := filt_take (xs := rs) (fun x => !(toldB s x (swL s bits s.hours.toNat))) (k := k) (by omega)
          rw [show (!(toldB s (rs.getD k default) (swL s bits s.hours.toNat))) = false from hc9] at hst_; simp only [cond_true, cond_false] at hst_
          exact ⟨_, by omega, k + 1, _, rfl, by omega, by rw [hst_, ← hq]; omega, by omega, by omega, hF, hO⟩
      · refine (W_false ((evOp hF (by kernel_rfl)).trans (congrArg Value.bool hc8)) ?_)
        have hkn := of_decide_eq_false (by assumption : (decide ((k : Int) < (n : Int))) = false)
        have hqc : q = (costT s rs (tkF (swL s bits s.hours.toNat)) 0 s.hours.toNat) := by rw [hq, List.take_of_length_le (by omega)]; exact htc
        refine (W_exit ?_)
        refine W_seq (region_q {} TBok hF (F' := [(2, pv b1), (4, .bool false), (5, .slice p3 n4 c5), (9, iv q), (11, iv (costT s rs (tkF (swL s bits s.hours.toNat)) 0 s.hours.toNat)), (12, .bool true), (13, iv 0)]) (rs := [.lds ⟨b1, 0, none⟩ (sL6 s v), .ld ⟨b1, 6, none⟩ (.slice p n c), .call 16 #[.agg (sS6 s v), .slice p n c, .slice p3 n4 c5] (.tuple #[iv (costT s rs (tkF (swL s bits s.hours.toNat)) 0 s.hours.toNat), .bool true, iv 0])]) [2, 4, 5, 9, 11, 12, 13] (.cons (ldso hO.st 0 rfl 0 rfl) <| .cons (ldo hO.st 0 rfl 6 rfl) <| .cons (fun w hE => calls_cast (v := .tuple #[iv ((trackR s rs (swL s bits s.hours.toNat)).1), .bool ((trackR s rs (swL s bits s.hours.toNat)).2.1), iv ((trackR s rs (swL s bits s.hours.toNat)).2.2)]) (v' := .tuple #[iv (costT s rs (tkF (swL s bits s.hours.toNat)) 0 s.hours.toNat), .bool true, iv 0]) (IsTrack_calls s v rs p n c (swL s bits s.hours.toNat) p3 n4 c5 w (hs.upM (hO.st w hE).kp nom (Nat.le_refl _)) (hx.upM (hO.st w hE).kp nom (Nat.le_refl _)) ((hO.st w hE).get 1 rfl)) (by rw [htr])) <| .nil) (by kernel_rfl) fun a w hF hE => ?_)
        replace hO := hO.ext hE; clear hE
        refine W_seq (region_seq ?_)
        refine seq_quiet {} TBok hF (F' := [(2, pv b1), (4, .bool false), (5, .slice p3 n4 c5), (9, iv q), (11, iv (costT s rs (tkF (swL s bits s.hours.toNat)) 0 s.hours.toNat)), (12, .bool true), (13, iv 0), (84, .agg (sS6 s v)), (86, .slice p n c)]) (rs := [.lds ⟨b1, 0, none⟩ (sL6 s v), .ld ⟨b1, 6, none⟩ (.slice p n c)]) [0, 1, 2, 3] [4, 5, 6, 7, 8, 9, 10, 11] [2, 4, 5, 9, 11, 12, 13, 84, 86] (.cons (ldso hO.st 0 rfl 0 rfl) <| .cons (ldo hO.st 0 rfl 6 rfl) <| .nil) (by kernel_rfl) fun a w hF hE => ?_
        replace hO := hO.ext hE; clear hE
        refine op_call (i := 4) (f := 20) (args := #[.agg (sS6 s v), .slice p n c]) (d := some 87) TBok (by kernel_rfl) hF (by kernel_rfl) (Least_calls s v rs p n c _ (hs.upM hO.kp nom (Nat.le_refl _)) (hx.upM hO.kp nom (Nat.le_refl _))) fun e w hR => ?_
        obtain ⟨p10, n11, c12, hn13, he, hO2⟩ := hR
        refine ⟨_, he, fun a hF => ?_⟩
        replace hO := hO.joinE hO2; clear hO2 he
        refine seq_quiet {} TBok hF (F' := [(2, pv b1), (4, .bool false), (5, .slice p3 n4 c5), (9, iv q), (11, iv (costT s rs (tkF (swL s bits s.hours.toNat)) 0 s.hours.toNat)), (12, .bool true), (13, iv 0), (14, iv ((leastR s rs).1)), (16, iv ((leastR s rs).2.2))]) (rs := []) [5, 6, 7, 8, 9, 10, 11] [] [2, 4, 5, 9, 11, 12, 13, 14, 16] .nil (by kernel_rfl) fun a w hF hE => ?_
        replace hO := hO.ext hE; clear hE
        refine W_seq ?_
        refine W_seq (region_q { md := [(4, 1), (13, 1), (18, 1)] } TBok hF (F' := [(2, pv b1), (4, .bool false), (5, .slice p3 n4 c5), (9, iv q), (110, .bool false)]) (rs := [.dec ((leastR s rs).2.2 != 0) false, .dec ((costT s rs (tkF (swL s bits s.hours.toNat)) 0 s.hours.toNat) != q) false, .dec (decide ((leastR s rs).1 > q)) false]) [2, 4, 5, 9, 110] (.cons (by rw [hlr]; rfl) <| .cons (by rw [hqc]; exact bne_self_eq_false _) <| .cons (by rw [hlr]; exact decide_eq_false (by omega)) <| .nil) (by kernel_rfl) fun a w hF hE => ?_)
        replace hO := hO.ext hE; clear hE
        refine (W_false (evOp hF (by kernel_rfl)) ?_)
        refine (W_skip ?_)
        refine W_seq ?_
        refine W_seq (region_q {} TBok hF (F' := [(2, pv b1), (4, .bool false), (5, .slice p3 n4 c5), (9, iv q), (17, iv 0)]) (rs := []) [2, 4, 5, 9, 17] .nil (by kernel_rfl) fun a w hF hE => ?_)
        replace hO := hO.ext hE; clear hE
        refine (W_block ?_)
        replace hF := hF.sel [2, 5, 9, 17]
        refine (W_loop (fun m a w => ∃ (h : Nat), m = n4 - h ∧ h ≤ n4 ∧ Fr 151 [] [(2, pv b1), (5, .slice p3 n4 c5), (9, iv q), (17, iv (h : Int))] a ∧ Own w0 none_ [cel b1 #[iv s.wide, iv s.high, .slice v.la v.ln v.lc, iv s.hours, .slice v.da v.dn v.dc, iv s.speed, .slice p n c] 28, rdR encI 1 p3 n4 (swL s bits s.hours.toNat), rdR encI 1 p10 n11 (leastR s rs).2.1] w) _ ⟨0, rfl, Nat.zero_le _, hF, hO⟩ ?_)
        clear hF hO
        rintro _ a w ⟨h, rfl, hh, hF, hO⟩
        refine W_seq ?_
        refine W_seq (region_q {} TBok hF (F' := [(2, pv b1), (5, .slice p3 n4 c5), (9, iv q), (17, iv (h : Int)), (114, .bool (decide ((h : Int) < (n4 : Int))))]) (rs := []) [2, 5, 9, 17, 114] .nil (by kernel_rfl) fun a w hF hE => ?_)
        replace hO := hO.ext hE; clear hE
        rcases Bool.eq_false_or_eq_true (decide ((h : Int) < (n4 : Int))) with hc14 | hc14
        · refine (W_true ((evOp hF (by kernel_rfl)).trans (congrArg Value.bool hc14)) ?_)
          have hhn := of_decide_eq_true (by assumption : (decide ((h : Int) < (n4 : Int))) = true)
          have hcn := can_ok her hok (wr := q) (h := (h : Int)) (by omega) (by omega) (by omega) (by omega)
          refine (W_skip ?_)
          refine W_seq (W_block ?_)
          refine W_seq (region_seq ?_)
          refine seq_quiet {} TBok hF (F' := [(2, pv b1), (5, .slice p3 n4 c5), (9, iv q), (17, iv (h : Int)), (119, .agg (sS6 s v)), (121, .slice p n c), (122, iv q), (123, iv (h : Int))]) (rs := [.lds ⟨b1, 0, none⟩ (sL6 s v), .ld ⟨b1, 6, none⟩ (.slice p n c)]) [0, 1, 2, 3, 4, 5] [6, 7, 8, 9, 10, 11] [2, 5, 9, 17, 119, 121, 122, 123] (.cons (ldso hO.st 0 rfl 0 rfl) <| .cons (ldo hO.st 0 rfl 6 rfl) <| .nil) (by kernel_rfl) fun a w hF hE => ?_
          replace hO := hO.ext hE; clear hE
          refine op_call (i := 6) (f := 24) (args := #[.agg (sS6 s v), .slice p n c, iv q, iv (h : Int)]) (d := some 124) TBok (by kernel_rfl) hF (by kernel_rfl) (Can_calls s v rs p n c q (h : Int) _ (hs.upM hO.kp nom (Nat.le_refl _)) (hx.upM hO.kp nom (Nat.le_refl _))) fun e w hR => ?_
          obtain ⟨p15, n16, c17, hn18, he, hO2⟩ := hR
          refine ⟨_, he, fun a hF => ?_⟩
          replace hO := hO.joinE hO2; clear hO2 he
          replace hO : Own w0 none_ [cel b1 #[iv s.wide, iv s.high, .slice v.la v.ln v.lc, iv s.hours, .slice v.da v.dn v.dc, iv s.speed, .slice p n c] 28, rdR encI 1 p3 n4 (swL s bits s.hours.toNat), rdR encI 1 p10 n11 (leastR s rs).2.1, rdR encI 1 p15 n16 (canR s rs q (h : Int)).1] w := hO
          refine seq_quiet {} TBok hF (F' := [(2, pv b1), (5, .slice p3 n4 c5), (9, iv q), (17, iv (h : Int)), (18, .slice p15 n16 c17), (19, iv ((canR s rs q (h : Int)).2))]) (rs := []) [7, 8, 9, 10, 11] [] [2, 5, 9, 17, 18, 19] .nil (by kernel_rfl) fun a w hF hE => ?_
          replace hO := hO.ext hE; clear hE
          refine W_seq (region_q { md := [(1, 1), (9, 1)] } TBok hF (F' := [(2, pv b1), (5, .slice p3 n4 c5), (9, iv q), (17, iv (h : Int)), (149, .bool false)]) (rs := [.dec ((canR s rs q (h : Int)).2 != 0) false, .idx p3 n4 (h : Int) 1 (adr p3 1 (h : Int)), .ld (adr p3 1 (h : Int)) (iv ((swL s bits s.hours.toNat).getD h default)), .call 35 #[.slice p15 n16 c17, iv ((swL s bits s.hours.toNat).getD h default)] (iv (placeI (canR s rs q (h : Int)).1 ((swL s bits s.hours.toNat).getD h default))), .dec (decide ((placeI (canR s rs q (h : Int)).1 ((swL s bits s.hours.toNat).getD h default)) < 0)) false, .ld ⟨b1, 0, none⟩ (iv s.wide), .ld ⟨b1, 1, none⟩ (iv s.high), .rng (s.wide * s.high), .call 36 #[.slice p15 n16 c17, iv (s.wide * s.high)] (.bool true)]) [2, 5, 9, 17, 149] (.cons (by rw [hcn.1]; rfl) <| .cons (ix (enc := encI) (xs := (swL s bits s.hours.toNat)) ((hO.get 1 rfl)) (by omega) (by omega)) <| .cons (ldR (enc := encI) (xs := (swL s bits s.hours.toNat)) (a := p3) (i := (h : Int)) (fun x_ hx_ => ((hO.st x_ hx_).get 1 rfl)) (by omega) (by omega) 0 rfl) <| .cons (fun w hE => Place_calls (canR s rs q (h : Int)).1 p15 n16 c17 ((swL s bits s.hours.toNat).getD h default) w ((hO.st w hE).get 3 rfl)) <| .cons (decide_eq_false (place_in (by rw [hcn.1]; exact hcn.2))) <| .cons (ldo hO.st 0 rfl 0 rfl) <| .cons (ldo hO.st 0 rfl 1 rfl) <| .cons (rg (by unfold nC at hv1; omega)) <| .cons (fun w hE => calls_cast (v := .bool (risF (s.wide * s.high) (-1) (canR s rs q (h : Int)).1)) (v' := .bool true) (Rising_calls (canR s rs q (h : Int)).1 p15 n16 c17 (s.wide * s.high) w ((hO.st w hE).get 3 rfl) (by unfold nC at hv1; omega)) (by rw [hcn.1]; exact congrArg Value.bool (canL_ris s rs q (h : Int)))) <| .nil) (by kernel_rfl) fun a w hF hE => ?_)
          replace hO := hO.ext hE; clear hE
          refine (W_false (evOp hF (by kernel_rfl)) ?_)
          refine (W_skip ?_)
          refine (region_q {} TBok hF (F' := [(2, pv b1), (5, .slice p3 n4 c5), (9, iv q), (17, iv ((h : Int) + 1))]) (rs := [.rng ((h : Int) + 1)]) [2, 5, 9, 17] (.cons (rg (by omega)) <| .nil) (by kernel_rfl) fun a w hF hE => ?_)
          replace hO := hO.ext hE; clear hE
          replace hO := hO.drop1 3
          exact ⟨_, by omega, h + 1, rfl, by omega, hF, hO⟩
        · refine (W_false ((evOp hF (by kernel_rfl)).trans (congrArg Value.bool hc14)) ?_)
          have hc14_ := of_decide_eq_false hc14
          refine (W_exit ?_)
          refine W_seq (region_q {} TBok hF (F' := [(4, .bool true)]) (rs := [.call 23 #[] (.bool true)]) [4] (.cons (fun w _ => works_calls w) <| .nil) (by kernel_rfl) fun a w hF hE => ?_)
          replace hO := hO.ext hE; clear hE
          refine W_ret ?_
          show bodyPostM (FW none) 0 _ _ _ Exit.ret a w
          exact leave_r TBok hF (.nil _) (vs := [.bool true]) (rs := []) .nil (by kernel_rfl) ⟨rfl, hO.kp⟩

set_option maxHeartbeats 4000000 in
set_option maxRecDepth 100000 in
theorem ShoalFirst_calls (s : Sea) (v : SV) (rs : List Rp) (p : Option Addr) (n c : Nat) (bits : List Int) (bp : Option Addr) (bn bc : Nat) (w0 : World) (hs : SeaR w0.heap.size w0 v s) (hx : Rd encRp 4 w0.heap.size w0 p n rs) (hbi : Rd encI 1 w0.heap.size w0 bp bn bits) :
    Calls Try.prog 8 #[.agg #[iv s.wide, iv s.high, .slice v.la v.ln v.lc, iv s.hours, .slice v.da v.dn v.dc, iv s.speed, .slice p n c], .slice bp bn bc] w0 (fun e w' => e = .returned (.bool true) ∧ Ext w0 w') := by
  have hl1 := hs.land.len; have hl2 := hs.drift.len; have hs1 := hs.land.size; have hs2 := hs.drift.size; have hr_ := hs.rg; unfold i64 at hr_; have hl3 := hx.len; have hs3 := hx.size; have hbl := hbi.len; have hbs := hbi.size
  refine calls_of_W Try.func8 rfl (by kernel_rfl) (args := [.agg #[iv s.wide, iv s.high, .slice v.la v.ln v.lc, iv s.hours, .slice v.da v.dn v.dc, iv s.speed, .slice p n c], .slice bp bn bc]) fun a hF => ?_
  replace hF : Fr 116 [] [(0, .agg #[iv s.wide, iv s.high, .slice v.la v.ln v.lc, iv s.hours, .slice v.da v.dn v.dc, iv s.speed, .slice p n c]), (1, .slice bp bn bc)] a := hF
  have hO : Own w0 none_ [] w0 := Own.start w0 _
  refine W_seq (region_seq ?_)
  refine op_box (i := 0) (t := 28) (v := .agg #[iv s.wide, iv s.high, .slice v.la v.ln v.lc, iv s.hours, .slice v.da v.dn v.dc, iv s.speed, .slice p n c]) (d := 2) hF hO (by kernel_rfl) fun a w b1 hF hO _ => ?_
  refine seq_quiet {} TBok hF (F' := [(1, .slice bp bn bc), (2, pv b1), (4, .bool false)]) (rs := []) [1] [] [1, 2, 4] .nil (by kernel_rfl) fun a w hF hE => ?_
  replace hO := hO.ext hE; clear hE
  refine W_seq (region_seq ?_)
  refine seq_quiet {} TBok hF (F' := [(1, .slice bp bn bc), (2, pv b1), (4, .bool false), (14, .agg (sS6 s v)), (16, .slice p n c)]) (rs := [.lds ⟨b1, 0, none⟩ (sL6 s v), .ld ⟨b1, 6, none⟩ (.slice p n c)]) [0, 1, 2, 3] [4, 5, 6, 7, 8, 9, 10, 11] [1, 2, 4, 14, 16] (.cons (ldso hO.st 0 rfl 0 rfl) <| .cons (ldo hO.st 0 rfl 6 rfl) <| .nil) (by kernel_rfl) fun a w hF hE => ?_
  replace hO := hO.ext hE; clear hE
  refine op_call (i := 4) (f := 20) (args := #[.agg (sS6 s v), .slice p n c]) (d := some 17) TBok (by kernel_rfl) hF (by kernel_rfl) (Least_calls s v rs p n c _ (hs.upM hO.kp nom (Nat.le_refl _)) (hx.upM hO.kp nom (Nat.le_refl _))) fun e w hR => ?_
  obtain ⟨p2, n3, c4, hn5, he, hO2⟩ := hR
  refine ⟨_, he, fun a hF => ?_⟩
  replace hO := hO.joinE hO2; clear hO2 he
  refine seq_quiet {} TBok hF (F' := [(1, .slice bp bn bc), (2, pv b1), (4, .bool false), (5, iv ((leastR s rs).1)), (6, .slice p2 n3 c4), (7, iv ((leastR s rs).2.2))]) (rs := []) [5, 6, 7, 8, 9, 10, 11] [] [1, 2, 4, 5, 6, 7] .nil (by kernel_rfl) fun a w hF hE => ?_
  replace hO := hO.ext hE; clear hE
  refine W_seq ?_
  refine W_seq (region_q { sy := [2] } TBok hF (F' := [(1, .slice bp bn bc), (2, pv b1), (4, .bool false), (5, iv ((leastR s rs).1)), (6, .slice p2 n3 c4), (7, iv ((leastR s rs).2.2)), (27, .bool (cond ((leastR s rs).2.2 != 0) true (!(err s rs == 0))))]) (rs := [.und (!((leastR s rs).2.2 != 0)) (.lds ⟨b1, 0, none⟩ [iv s.wide, iv s.high, .slice v.la v.ln v.lc, iv s.hours, .slice v.da v.dn v.dc, iv s.speed, .slice p n c]), .und (!((leastR s rs).2.2 != 0)) (.call 32 #[.agg #[iv s.wide, iv s.high, .slice v.la v.ln v.lc, iv s.hours, .slice v.da v.dn v.dc, iv s.speed, .slice p n c]] (.bool (err s rs == 0)))]) [1, 2, 4, 5, 6, 7, 27] (.cons (fun hg => (ldso hO.st 0 rfl 0 rfl)) <| .cons (fun hg => (fun w hE => sound_calls s v rs p n c w (hs.upM (hO.st w hE).kp nom (Nat.le_refl _)) (hx.upM (hO.st w hE).kp nom (Nat.le_refl _)))) <| .nil) (by kernel_rfl) fun a w hF hE => ?_)
  replace hO := hO.ext hE; clear hE
  rcases Bool.eq_false_or_eq_true (cond ((leastR s rs).2.2 != 0) true (!(err s rs == 0))) with hc6 | hc6
  · refine (W_true ((evOp hF (by kernel_rfl)).trans (congrArg Value.bool hc6)) ?_)
    have hlb := least_bad (by assumption : (cond ((leastR s rs).2.2 != 0) true (!(err s rs == 0))) = true)
    refine W_seq (region_q { sy := [2, 7] } TBok hF (F' := [(1, .slice bp bn bc), (2, pv b1), (4, .bool (cond (cond ((leastR s rs).1 == 0) ((n3 : Int) == 0) false) true false)), (5, iv ((leastR s rs).1)), (6, .slice p2 n3 c4), (7, iv ((leastR s rs).2.2))]) (rs := [.und (cond ((leastR s rs).1 == 0) ((n3 : Int) == 0) false) (.call 23 #[] (.bool true))]) [1, 2, 4, 5, 6, 7] (.cons (fun hg => (fun w _ => works_calls w)) <| .nil) (by kernel_rfl) fun a w hF hE => ?_)
    replace hO := hO.ext hE; clear hE
    refine W_ret ?_
    show bodyPostM (FW none) 0 _ _ _ Exit.ret a w
    have hX : (cond (cond ((leastR s rs).1 == 0) ((n3 : Int) == 0) false) true false) = true := by rw [hlb.1, ← hn5, hlb.2]; rfl
    exact leave_r TBok hF (.nil _) (vs := [.bool (cond (cond ((leastR s rs).1 == 0) ((n3 : Int) == 0) false) true false)]) (rs := []) .nil (by kernel_rfl) ⟨by rw [hX]; rfl, hO.kp⟩
  · refine (W_false ((evOp hF (by kernel_rfl)).trans (congrArg Value.bool hc6)) ?_)
    obtain ⟨hz, her⟩ := least_good (by assumption : (cond ((leastR s rs).2.2 != 0) true (!(err s rs == 0))) = false)
    obtain ⟨hv, hr⟩ := err_hd her
    have hv1 := sea_ok hv; have hrp := rp_ok hr
    obtain ⟨_, hm, hlr⟩ := least_0 hz
    have hfo := firstT_ok hv hr hm
    have hfl := firstT_len s rs
    have htr : trackR s rs (leastR s rs).2.1 = ((leastR s rs).1, true, 0) := by rw [hlr]; have h_ := track_full her (T := firstT s rs) (by omega) (by rw [hfl]; exact hfo.1); rw [hfl, hfo.2] at h_; exact h_
    have hlh : ((leastR s rs).2.1).length = s.hours.toNat := by rw [hlr]; exact hfl
    refine (W_skip ?_)
    refine W_seq (region_q {} TBok hF (F' := [(1, .slice bp bn bc), (2, pv b1), (4, .bool false), (5, iv ((leastR s rs).1)), (6, .slice p2 n3 c4), (7, iv 0), (8, iv ((leastR s rs).1)), (9, .bool true)]) (rs := [.lds ⟨b1, 0, none⟩ (sL6 s v), .ld ⟨b1, 6, none⟩ (.slice p n c), .call 16 #[.agg (sS6 s v), .slice p n c, .slice p2 n3 c4] (.tuple #[iv ((leastR s rs).1), .bool true, iv 0])]) [1, 2, 4, 5, 6, 7, 8, 9] (.cons (ldso hO.st 0 rfl 0 rfl) <| .cons (ldo hO.st 0 rfl 6 rfl) <| .cons (fun w hE => calls_cast (v := .tuple #[iv ((trackR s rs (leastR s rs).2.1).1), .bool ((trackR s rs (leastR s rs).2.1).2.1), iv ((trackR s rs (leastR s rs).2.1).2.2)]) (v' := .tuple #[iv ((leastR s rs).1), .bool true, iv 0]) (IsTrack_calls s v rs p n c (leastR s rs).2.1 p2 n3 c4 w (hs.upM (hO.st w hE).kp nom (Nat.le_refl _)) (hx.upM (hO.st w hE).kp nom (Nat.le_refl _)) ((hO.st w hE).get 1 rfl)) (by rw [htr])) <| .nil) (by kernel_rfl) fun a w hF hE => ?_)
    replace hO := hO.ext hE; clear hE
    refine W_seq ?_
    refine W_seq (region_q { md := [(9, 1), (17, 1)] } TBok hF (F' := [(1, .slice bp bn bc), (2, pv b1), (4, .bool false), (5, iv ((leastR s rs).1)), (6, .slice p2 n3 c4), (7, iv 0), (9, .bool true), (66, .bool false)]) (rs := [.dec ((leastR s rs).1 != (leastR s rs).1) false, .ld ⟨b1, 3, none⟩ (iv s.hours), .dec ((n3 : Int) != s.hours) false]) [1, 2, 4, 5, 6, 7, 9, 66] (.cons (bne_self_eq_false _) <| .cons (ldo hO.st 0 rfl 3 rfl) <| .cons (bne_eq_false_iff_eq.2 (by omega)) <| .nil) (by kernel_rfl) fun a w hF hE => ?_)
    replace hO := hO.ext hE; clear hE
    refine (W_false (evOp hF (by kernel_rfl)) ?_)
    refine (W_skip ?_)
    refine W_seq (region_seq ?_)
    refine seq_quiet {} TBok hF (F' := [(2, pv b1), (4, .bool false), (5, iv ((leastR s rs).1)), (6, .slice p2 n3 c4), (7, iv 0), (9, .bool true), (68, .agg (sS6 s v)), (69, .slice bp bn bc)]) (rs := [.lds ⟨b1, 0, none⟩ (sL6 s v)]) [0, 1, 2] [3, 4] [2, 4, 5, 6, 7, 9, 68, 69] (.cons (ldso hO.st 0 rfl 0 rfl) <| .nil) (by kernel_rfl) fun a w hF hE => ?_
    replace hO := hO.ext hE; clear hE
    refine op_call (i := 3) (f := 33) (args := #[.agg (sS6 s v), .slice bp bn bc]) (d := some 70) TBok (by kernel_rfl) hF (by kernel_rfl) (swum_calls s v bits bp bn bc _ (hs.upM hO.kp nom (Nat.le_refl _)) hv (hbi.upM hO.kp nom (Nat.le_refl _))) fun e w hR => ?_
    obtain ⟨p7, n8, c9, hn10, he, hO2⟩ := hR
    refine ⟨_, he, fun a hF => ?_⟩
    replace hO := hO.joinE hO2; clear hO2 he
    refine seq_quiet {} TBok hF (F' := [(2, pv b1), (4, .bool false), (5, iv ((leastR s rs).1)), (6, .slice p2 n3 c4), (7, iv 0), (9, .bool true), (10, .slice p7 n8 c9)]) (rs := []) [4] [] [2, 4, 5, 6, 7, 9, 10] .nil (by kernel_rfl) fun a w hF hE => ?_
    replace hO := hO.ext hE; clear hE
    refine W_seq (region_q {} TBok hF (F' := [(2, pv b1), (4, .bool false), (5, iv ((leastR s rs).1)), (6, .slice p2 n3 c4), (7, iv ((trackR s rs (swL s bits s.hours.toNat)).2.2)), (9, .bool ((trackR s rs (swL s bits s.hours.toNat)).2.1)), (10, .slice p7 n8 c9), (11, iv ((trackR s rs (swL s bits s.hours.toNat)).1))]) (rs := [.lds ⟨b1, 0, none⟩ (sL6 s v), .ld ⟨b1, 6, none⟩ (.slice p n c), .call 16 #[.agg (sS6 s v), .slice p n c, .slice p7 n8 c9] (.tuple #[iv ((trackR s rs (swL s bits s.hours.toNat)).1), .bool ((trackR s rs (swL s bits s.hours.toNat)).2.1), iv ((trackR s rs (swL s bits s.hours.toNat)).2.2)])]) [2, 4, 5, 6, 7, 9, 10, 11] (.cons (ldso hO.st 0 rfl 0 rfl) <| .cons (ldo hO.st 0 rfl 6 rfl) <| .cons (fun w hE => IsTrack_calls s v rs p n c (swL s bits s.hours.toNat) p7 n8 c9 w (hs.upM (hO.st w hE).kp nom (Nat.le_refl _)) (hx.upM (hO.st w hE).kp nom (Nat.le_refl _)) ((hO.st w hE).get 2 rfl)) <| .nil) (by kernel_rfl) fun a w hF hE => ?_)
    replace hO := hO.ext hE; clear hE
    refine W_seq (region_q { sy := [2, 12, 15, 20, 24, 32], md := [(10, 3)] } TBok hF (F' := [(4, .bool (cond (cond (cond ((trackR s rs (swL s bits s.hours.toNat)).2.2 == 0) ((trackR s rs (swL s bits s.hours.toNat)).2.1 == ((n8 : Int) == s.hours)) false) (cond (cond (!((trackR s rs (swL s bits s.hours.toNat)).2.1)) true (decide ((trackR s rs (swL s bits s.hours.toNat)).1 > (leastR s rs).1))) true (cond ((trackR s rs (swL s bits s.hours.toNat)).1 == (leastR s rs).1) (!(befL (swL s bits s.hours.toNat) (leastR s rs).2.1)) false)) false) true false))]) (rs := [.und ((trackR s rs (swL s bits s.hours.toNat)).2.2 == 0) (.ld ⟨b1, 3, none⟩ (iv s.hours)), .und ((trackR s rs (swL s bits s.hours.toNat)).2.2 == 0) (.raw (rb .eql 4 (.tmp 84) (.tmp 90) (.bool ((trackR s rs (swL s bits s.hours.toNat)).2.1)) (.bool ((n8 : Int) == s.hours))) (.bool ((trackR s rs (swL s bits s.hours.toNat)).2.1 == ((n8 : Int) == s.hours)))), .und ((cond ((trackR s rs (swL s bits s.hours.toNat)).2.2 == 0) ((trackR s rs (swL s bits s.hours.toNat)).2.1 == ((n8 : Int) == s.hours)) false) && ((!(cond (!((trackR s rs (swL s bits s.hours.toNat)).2.1)) true (decide ((trackR s rs (swL s bits s.hours.toNat)).1 > (leastR s rs).1)))) && ((trackR s rs (swL s bits s.hours.toNat)).1 == (leastR s rs).1))) (.call 37 #[.slice p7 n8 c9, .slice p2 n3 c4] (.bool (befL (swL s bits s.hours.toNat) (leastR s rs).2.1))), .und (cond (cond ((trackR s rs (swL s bits s.hours.toNat)).2.2 == 0) ((trackR s rs (swL s bits s.hours.toNat)).2.1 == ((n8 : Int) == s.hours)) false) (cond (cond (!((trackR s rs (swL s bits s.hours.toNat)).2.1)) true (decide ((trackR s rs (swL s bits s.hours.toNat)).1 > (leastR s rs).1))) true (cond ((trackR s rs (swL s bits s.hours.toNat)).1 == (leastR s rs).1) (!(befL (swL s bits s.hours.toNat) (leastR s rs).2.1)) false)) false) (.call 23 #[] (.bool true))]) [4] (.cons (fun hg => (ldo hO.st 0 rfl 3 rfl)) <| .cons (fun hg => (raw_eqB boolT4 _ _)) <| .cons (fun hg => (fun w hE => Before_calls (swL s bits s.hours.toNat) (leastR s rs).2.1 p7 p2 n8 n3 c9 c4 w ((hO.st w hE).get 2 rfl) ((hO.st w hE).get 1 rfl))) <| .cons (fun hg => (fun w _ => works_calls w)) <| .nil) (by kernel_rfl) fun a w hF hE => ?_)
    replace hO := hO.ext hE; clear hE
    refine W_ret ?_
    show bodyPostM (FW none) 0 _ _ _ Exit.ret a w
    have hX : (cond (cond ((trackR s rs (swL s bits s.hours.toNat)).2.2 == 0) ((trackR s rs (swL s bits s.hours.toNat)).2.1 == ((n8 : Int) == s.hours)) false) (cond (cond (!((trackR s rs (swL s bits s.hours.toNat)).2.1)) true (decide ((trackR s rs (swL s bits s.hours.toNat)).1 > (leastR s rs).1))) true (cond ((trackR s rs (swL s bits s.hours.toNat)).1 == (leastR s rs).1) (!(befL (swL s bits s.hours.toNat) (leastR s rs).2.1)) false)) false) = true := by have h_ := first_law hz (T := (swL s bits s.hours.toNat)) (swL_len s bits _) (fun h_ => swL_ok h_); rw [hn10] at h_; exact h_
    exact leave_r TBok hF (.nil _) (vs := [.bool (cond (cond (cond ((trackR s rs (swL s bits s.hours.toNat)).2.2 == 0) ((trackR s rs (swL s bits s.hours.toNat)).2.1 == ((n8 : Int) == s.hours)) false) (cond (cond (!((trackR s rs (swL s bits s.hours.toNat)).2.1)) true (decide ((trackR s rs (swL s bits s.hours.toNat)).1 > (leastR s rs).1))) true (cond ((trackR s rs (swL s bits s.hours.toNat)).1 == (leastR s rs).1) (!(befL (swL s bits s.hours.toNat) (leastR s rs).2.1)) false)) false) true false)]) (rs := []) .nil (by kernel_rfl) ⟨by rw [hX]; rfl, hO.kp⟩

end Go.Proofs.Ytgihgcclabodbaa.DK
