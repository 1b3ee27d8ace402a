/- The laws ShoalLeft, ShoalFound, walked. Printed by my gen.py out of shoal/ee.py. -/
import Derived.Test.YtgihgcclabodbaaT5
import Derived.Test.YtgihgcclabodbaaSLaw3
namespace Go.Proofs.Ytgihgcclabodbaa.DK
open Go Go.Proofs
set_option linter.unusedVariables false
set_option linter.unusedSimpArgs false

theorem can_mem {s : Sea} {rs : List Rp} (her : err s rs = 0) {wr h : Int} (ha : askB s wr h = true) {c : Int} (hc : c ∈ (canR s rs wr h).1) : 0 ≤ c ∧ c < nC s := by
  rw [canR_one her ha] at hc
  have := mem_cellsA (canR1_mem hc); omega
theorem can_len {s : Sea} {rs : List Rp} (her : err s rs = 0) {wr h : Int} (ha : askB s wr h = true) : (canR s rs wr h).1.length ≤ 80 := by
  rw [canR_one her ha, canR1_eq]
  exact Nat.le_trans (List.length_filter_le _ _) (cellsA_len (err_hd her).1)
theorem pow8 {n : Nat} (h : n ≤ 8) : 1 ≤ (2 : Int) ^ n ∧ (2 : Int) ^ n ≤ 256 := by
  have h1 : 1 ≤ 2 ^ n := Nat.one_le_two_pow
  have h2 : 2 ^ n ≤ 256 := Nat.le_trans (Nat.pow_le_pow_right (by omega) h) (by decide)
  have h3 : ((2 ^ n : Nat) : Int) = (2 : Int) ^ n := by simp
  omega
set_option maxHeartbeats 4000000 in
set_option maxRecDepth 100000 in
theorem ShoalLeft_calls (s : Sea) (v : SV) (rs : List Rp) (p : Option Addr) (n c : Nat) (nf : Nat → Int) (cs : List Cs) (cp : Option Addr) (cn cc : Nat) (w0 : World) (hs : SeaR w0.heap.size w0 v s) (hx : Rd encRp 4 w0.heap.size w0 p n rs) (hcs : Rd encCs 2 w0.heap.size w0 cp cn cs) (hci : ∀ i, i < cs.length → i64 (cs.getD i default).cell) (hcn : cn ≤ 8796093022207) :
    Calls Try.prog 12 #[.agg #[iv s.wide, iv s.high, .slice v.la v.ln v.lc, iv s.hours, .slice v.da v.dn v.dc, iv s.speed, .slice p n c], .agg (arrL 2 nf).toArray, .slice cp cn cc] w0 (fun e w' => e = .returned (.bool true) ∧ Ext w0 w') := by
  have hl1 := hs.land.len; have hl2 := hs.drift.len; have hs1 := hs.land.size; have hs2 := hs.drift.size; have hr_ := hs.rg; unfold i64 at hr_; have hl3 := hx.len; have hs3 := hx.size; have hl4 := hcs.len; have hs4 := hcs.size
  refine calls_of_W Try.func12 rfl (by kernel_rfl) (args := [.agg #[iv s.wide, iv s.high, .slice v.la v.ln v.lc, iv s.hours, .slice v.da v.dn v.dc, iv s.speed, .slice p n c], .agg (arrL 2 nf).toArray, .slice cp cn cc]) fun a hF => ?_
  replace hF : Fr 150 [] [(0, .agg #[iv s.wide, iv s.high, .slice v.la v.ln v.lc, iv s.hours, .slice v.da v.dn v.dc, iv s.speed, .slice p n c]), (1, .agg (arrL 2 nf).toArray), (2, .slice cp cn cc)] a := hF
  have hO : Own w0 none_ [] w0 := Own.start w0 _
  refine W_seq (region_seq ?_)
  refine op_box (i := 0) (t := 28) (v := .agg #[iv s.wide, iv s.high, .slice v.la v.ln v.lc, iv s.hours, .slice v.da v.dn v.dc, iv s.speed, .slice p n c]) (d := 3) hF hO (by kernel_rfl) fun a w b1 hF hO _ => ?_
  refine op_box (i := 1) (t := 38) (v := .agg (arrL 2 nf).toArray) (d := 4) hF hO (by kernel_rfl) fun a w b2 hF hO _ => ?_
  refine seq_quiet {} TBok hF (F' := [(2, .slice cp cn cc), (3, pv b1), (4, pv b2), (6, .bool false)]) (rs := []) [2] [] [2, 3, 4, 6] .nil (by kernel_rfl) fun a w hF hE => ?_
  replace hO := hO.ext hE; clear hE
  refine W_seq ?_
  refine W_seq (region_q {} TBok hF (F' := [(2, .slice cp cn cc), (3, pv b1), (4, pv b2), (6, .bool false), (20, .bool (!(err s rs == 0)))]) (rs := [.lds ⟨b1, 0, none⟩ [iv s.wide, iv s.high, .slice v.la v.ln v.lc, iv s.hours, .slice v.da v.dn v.dc, iv s.speed, .slice p n c], .call 32 #[.agg #[iv s.wide, iv s.high, .slice v.la v.ln v.lc, iv s.hours, .slice v.da v.dn v.dc, iv s.speed, .slice p n c]] (.bool (err s rs == 0))]) [2, 3, 4, 6, 20] (.cons (ldso hO.st 0 rfl 0 rfl) <| .cons (fun w hE => sound_calls s v rs p n c w (hs.upM (hO.st w hE).kp nom (Nat.le_refl _)) (hx.upM (hO.st w hE).kp nom (Nat.le_refl _))) <| .nil) (by kernel_rfl) fun a w hF hE => ?_)
  replace hO := hO.ext hE; clear hE
  rcases Bool.eq_false_or_eq_true (!(err s rs == 0)) with hc3 | hc3
  · refine (W_true ((evOp hF (by kernel_rfl)).trans (congrArg Value.bool hc3)) ?_)
    refine W_seq (region_q {} TBok hF (F' := [(2, .slice cp cn cc), (3, pv b1), (4, pv b2), (6, .bool true)]) (rs := [.call 23 #[] (.bool true)]) [2, 3, 4, 6] (.cons (fun w _ => works_calls w) <| .nil) (by kernel_rfl) fun a w hF hE => ?_)
    replace hO := hO.ext hE; clear hE
    refine W_ret ?_
    show bodyPostM (FW none) 0 _ _ _ Exit.ret a w
    exact leave_r TBok hF (.nil _) (vs := [.bool true]) (rs := []) .nil (by kernel_rfl) ⟨rfl, hO.kp⟩
  · refine (W_false ((evOp hF (by kernel_rfl)).trans (congrArg Value.bool hc3)) ?_)
    have her : err s rs = 0 := by have h_ := (by assumption : (!(err s rs == 0)) = false); simpa using h_
    obtain ⟨hv, hr⟩ := err_hd her
    have hv1 := sea_ok hv; have hrp := rp_ok hr
    have hnc : 0 < s.wide * s.high := by unfold nC at hv1; omega
    have hm1 := Int.emod_nonneg (nf 1) (show s.hours ≠ 0 by omega); have hm2 := Int.emod_lt_of_pos (nf 1) (show 0 < s.hours by omega)
    have hask : askB s ((nf 0) % 25) ((nf 1) % s.hours) = true := askB_iff.2 ⟨by omega, by omega, by omega, by omega⟩
    refine (W_skip ?_)
    refine W_seq (region_d {} mixed TBok hF (F' := [(2, .slice cp cn cc), (3, pv b1), (6, .bool false), (7, iv ((nf 0) % 25)), (8, iv ((nf 1) % s.hours))]) (rs := [.idx (some ⟨b2, 0, none⟩) 2 0 1 ((⟨b2, 0, none⟩ : Addr).add ((0 : Int).toNat * 1)), .ld ((⟨b2, 0, none⟩ : Addr).add ((0 : Int).toNat * 1)) (iv (nf 0)), .call 38 #[iv (nf 0), iv 25] (iv ((nf 0) % 25)), .idx (some ⟨b2, 0, none⟩) 2 1 1 ((⟨b2, 0, none⟩ : Addr).add ((1 : Int).toNat * 1)), .ld ((⟨b2, 0, none⟩ : Addr).add ((1 : Int).toNat * 1)) (iv (nf 1)), .ld ⟨b1, 3, none⟩ (iv s.hours), .call 38 #[iv (nf 1), iv s.hours] (iv ((nf 1) % s.hours))]) [2, 3, 6, 7, 8] (.cons (ixa (by omega) (by omega)) <| .cons (ldf (pre := []) (n := 2) (f := nf) (post := []) hO.st 1 rfl rfl (by omega) (by omega)) <| .cons (fun w hE => Mod_calls (nf 0) 25 w (by unfold nC at hv1; omega) (by unfold nC at hv1; omega)) <| .cons (ixa (by omega) (by omega)) <| .cons (ldf (pre := []) (n := 2) (f := nf) (post := []) hO.st 1 rfl rfl (by omega) (by omega)) <| .cons (ldo hO.st 0 rfl 3 rfl) <| .cons (fun w hE => Mod_calls (nf 1) s.hours w (by unfold nC at hv1; omega) (by unfold nC at hv1; omega)) <| .nil) (by kernel_rfl) (by kernel_rfl) fun a w hF hE => ?_)
    replace hO := hO.ext hE; clear hE
    refine W_seq (region_q {} TBok hF (F' := [(2, .slice cp cn cc), (3, pv b1), (6, .bool false), (7, iv ((nf 0) % 25)), (8, iv ((nf 1) % s.hours)), (9, iv ((nextR s rs ((nf 0) % 25) ((nf 1) % s.hours) cs).1)), (10, iv ((nextR s rs ((nf 0) % 25) ((nf 1) % s.hours) cs).2.1)), (11, iv ((nextR s rs ((nf 0) % 25) ((nf 1) % s.hours) cs).2.2))]) (rs := [.lds ⟨b1, 0, none⟩ (sL6 s v), .ld ⟨b1, 6, none⟩ (.slice p n c), .call 28 #[.agg (sS6 s v), .slice p n c, iv ((nf 0) % 25), iv ((nf 1) % s.hours), .slice cp cn cc] (.tuple #[iv ((nextR s rs ((nf 0) % 25) ((nf 1) % s.hours) cs).1), iv ((nextR s rs ((nf 0) % 25) ((nf 1) % s.hours) cs).2.1), iv ((nextR s rs ((nf 0) % 25) ((nf 1) % s.hours) cs).2.2)])]) [2, 3, 6, 7, 8, 9, 10, 11] (.cons (ldso hO.st 0 rfl 0 rfl) <| .cons (ldo hO.st 0 rfl 6 rfl) <| .cons (fun w hE => Next_calls s v rs p n c ((nf 0) % 25) ((nf 1) % s.hours) cs cp cn cc w (hs.upM (hO.st w hE).kp nom (Nat.le_refl _)) (hx.upM (hO.st w hE).kp nom (Nat.le_refl _)) (hcs.upM (hO.st w hE).kp nom (Nat.le_refl _)) hci hcn) <| .nil) (by kernel_rfl) fun a w hF hE => ?_)
    replace hO := hO.ext hE; clear hE
    refine W_seq (region_seq ?_)
    refine seq_quiet {} TBok hF (F' := [(2, .slice cp cn cc), (3, pv b1), (6, .bool false), (9, iv ((nextR s rs ((nf 0) % 25) ((nf 1) % s.hours) cs).1)), (10, iv ((nextR s rs ((nf 0) % 25) ((nf 1) % s.hours) cs).2.1)), (11, iv ((nextR s rs ((nf 0) % 25) ((nf 1) % s.hours) cs).2.2)), (45, .agg (sS6 s v)), (47, .slice p n c), (48, iv ((nf 0) % 25)), (49, iv ((nf 1) % s.hours))]) (rs := [.lds ⟨b1, 0, none⟩ (sL6 s v), .ld ⟨b1, 6, none⟩ (.slice p n c)]) [0, 1, 2, 3, 4, 5] [6, 7, 8, 9, 10, 11] [2, 3, 6, 9, 10, 11, 45, 47, 48, 49] (.cons (ldso hO.st 0 rfl 0 rfl) <| .cons (ldo hO.st 0 rfl 6 rfl) <| .nil) (by kernel_rfl) fun a w hF hE => ?_
    replace hO := hO.ext hE; clear hE
    refine op_call (i := 6) (f := 24) (args := #[.agg (sS6 s v), .slice p n c, iv ((nf 0) % 25), iv ((nf 1) % s.hours)]) (d := some 50) TBok (by kernel_rfl) hF (by kernel_rfl) (Can_calls s v rs p n c ((nf 0) % 25) ((nf 1) % s.hours) _ (hs.upM hO.kp nom (Nat.le_refl _)) (hx.upM hO.kp nom (Nat.le_refl _))) fun e w hR => ?_
    obtain ⟨p4, n5, c6, hn7, he, hO2⟩ := hR
    refine ⟨_, he, fun a hF => ?_⟩
    replace hO := hO.joinE hO2; clear hO2 he
    refine seq_quiet {} TBok hF (F' := [(2, .slice cp cn cc), (3, pv b1), (6, .bool false), (9, iv ((nextR s rs ((nf 0) % 25) ((nf 1) % s.hours) cs).1)), (10, iv ((nextR s rs ((nf 0) % 25) ((nf 1) % s.hours) cs).2.1)), (11, iv ((nextR s rs ((nf 0) % 25) ((nf 1) % s.hours) cs).2.2)), (12, .slice p4 n5 c6), (13, iv ((canR s rs ((nf 0) % 25) ((nf 1) % s.hours)).2))]) (rs := []) [7, 8, 9, 10, 11] [] [2, 3, 6, 9, 10, 11, 12, 13] .nil (by kernel_rfl) fun a w hF hE => ?_
    replace hO := hO.ext hE; clear hE
    refine W_seq ?_
    refine W_seq (region_q { sy := [2] } TBok hF (F' := [(2, .slice cp cn cc), (3, pv b1), (6, .bool false), (9, iv ((nextR s rs ((nf 0) % 25) ((nf 1) % s.hours) cs).1)), (10, iv ((nextR s rs ((nf 0) % 25) ((nf 1) % s.hours) cs).2.1)), (11, iv ((nextR s rs ((nf 0) % 25) ((nf 1) % s.hours) cs).2.2)), (12, .slice p4 n5 c6), (13, iv ((canR s rs ((nf 0) % 25) ((nf 1) % s.hours)).2)), (59, .bool (cond ((nextR s rs ((nf 0) % 25) ((nf 1) % s.hours) cs).2.2 != 0) true (decide ((cn : Int) > 8))))]) (rs := []) [2, 3, 6, 9, 10, 11, 12, 13, 59] .nil (by kernel_rfl) fun a w hF hE => ?_)
    replace hO := hO.ext hE; clear hE
    rcases Bool.eq_false_or_eq_true (cond ((nextR s rs ((nf 0) % 25) ((nf 1) % s.hours) cs).2.2 != 0) true (decide ((cn : Int) > 8))) with hc8 | hc8
    · refine (W_true ((evOp hF (by kernel_rfl)).trans (congrArg Value.bool hc8)) ?_)
      have hlw := next_law her hask hl4 (by assumption : (cond ((nextR s rs ((nf 0) % 25) ((nf 1) % s.hours) cs).2.2 != 0) true (decide ((cn : Int) > 8))) = true)
      refine W_seq (region_q { sy := [2, 6, 9, 15] } TBok hF (F' := [(2, .slice cp cn cc), (3, pv b1), (6, .bool (cond (cond (cond ((nextR s rs ((nf 0) % 25) ((nf 1) % s.hours) cs).1 == 0) ((nextR s rs ((nf 0) % 25) ((nf 1) % s.hours) cs).2.1 == 0) false) (cond ((nextR s rs ((nf 0) % 25) ((nf 1) % s.hours) cs).2.2 == 13) true ((nextR s rs ((nf 0) % 25) ((nf 1) % s.hours) cs).2.2 == (canR s rs ((nf 0) % 25) ((nf 1) % s.hours)).2)) false) true false)), (9, iv ((nextR s rs ((nf 0) % 25) ((nf 1) % s.hours) cs).1)), (10, iv ((nextR s rs ((nf 0) % 25) ((nf 1) % s.hours) cs).2.1)), (12, .slice p4 n5 c6), (13, iv ((canR s rs ((nf 0) % 25) ((nf 1) % s.hours)).2))]) (rs := [.und (cond (cond ((nextR s rs ((nf 0) % 25) ((nf 1) % s.hours) cs).1 == 0) ((nextR s rs ((nf 0) % 25) ((nf 1) % s.hours) cs).2.1 == 0) false) (cond ((nextR s rs ((nf 0) % 25) ((nf 1) % s.hours) cs).2.2 == 13) true ((nextR s rs ((nf 0) % 25) ((nf 1) % s.hours) cs).2.2 == (canR s rs ((nf 0) % 25) ((nf 1) % s.hours)).2)) false) (.call 23 #[] (.bool true))]) [2, 3, 6, 9, 10, 12, 13] (.cons (fun hg => (fun w _ => works_calls w)) <| .nil) (by kernel_rfl) fun a w hF hE => ?_)
      replace hO := hO.ext hE; clear hE
      refine W_ret ?_
      show bodyPostM (FW none) 0 _ _ _ Exit.ret a w
      have hX : (cond (cond (cond ((nextR s rs ((nf 0) % 25) ((nf 1) % s.hours) cs).1 == 0) ((nextR s rs ((nf 0) % 25) ((nf 1) % s.hours) cs).2.1 == 0) false) (cond ((nextR s rs ((nf 0) % 25) ((nf 1) % s.hours) cs).2.2 == 13) true ((nextR s rs ((nf 0) % 25) ((nf 1) % s.hours) cs).2.2 == (canR s rs ((nf 0) % 25) ((nf 1) % s.hours)).2)) false) true false) = true := hlw
      exact leave_r TBok hF (.nil _) (vs := [.bool (cond (cond (cond ((nextR s rs ((nf 0) % 25) ((nf 1) % s.hours) cs).1 == 0) ((nextR s rs ((nf 0) % 25) ((nf 1) % s.hours) cs).2.1 == 0) false) (cond ((nextR s rs ((nf 0) % 25) ((nf 1) % s.hours) cs).2.2 == 13) true ((nextR s rs ((nf 0) % 25) ((nf 1) % s.hours) cs).2.2 == (canR s rs ((nf 0) % 25) ((nf 1) % s.hours)).2)) false) true false)]) (rs := []) .nil (by kernel_rfl) ⟨by rw [hX]; rfl, hO.kp⟩
    · refine (W_false ((evOp hF (by kernel_rfl)).trans (congrArg Value.bool hc8)) ?_)
      have hz := next_go her hask (by assumption : (cond ((nextR s rs ((nf 0) % 25) ((nf 1) % s.hours) cs).2.2 != 0) true (decide ((cn : Int) > 8))) = false)
      obtain ⟨hin, hc1, hc0⟩ := next_in her hask hz
      have hl80 := can_len her hask
      have hcs8 := csB_ok (next_good her hask hz).1
      have hrb := fun x => rcovN_bd s (canR s rs ((nf 0) % 25) ((nf 1) % s.hours)).1 x
      have hmc : ∀ i, i < (canR s rs ((nf 0) % 25) ((nf 1) % s.hours)).1.length → 0 ≤ (canR s rs ((nf 0) % 25) ((nf 1) % s.hours)).1.getD i default ∧ (canR s rs ((nf 0) % 25) ((nf 1) % s.hours)).1.getD i default < nC s := fun i hi => can_mem her hask (getD_mem hi)
      refine (W_skip ?_)
      refine W_seq ?_
      refine W_seq (region_q { sy := [2] } TBok hF (F' := [(2, .slice cp cn cc), (3, pv b1), (6, .bool false), (9, iv ((nextR s rs ((nf 0) % 25) ((nf 1) % s.hours) cs).1)), (10, iv ((nextR s rs ((nf 0) % 25) ((nf 1) % s.hours) cs).2.1)), (12, .slice p4 n5 c6), (87, .bool (cond ((canR s rs ((nf 0) % 25) ((nf 1) % s.hours)).2 != 0) true (!(inB ((nextR s rs ((nf 0) % 25) ((nf 1) % s.hours) cs).1) 0 ((cn : Int) - 1)))))]) (rs := [.und (!((canR s rs ((nf 0) % 25) ((nf 1) % s.hours)).2 != 0)) (.rng ((cn : Int) - 1)), .und (!((canR s rs ((nf 0) % 25) ((nf 1) % s.hours)).2 != 0)) (.call 40 #[iv ((nextR s rs ((nf 0) % 25) ((nf 1) % s.hours) cs).1), iv 0, iv ((cn : Int) - 1)] (.bool (inB ((nextR s rs ((nf 0) % 25) ((nf 1) % s.hours) cs).1) 0 ((cn : Int) - 1))))]) [2, 3, 6, 9, 10, 12, 87] (.cons (fun hg => (rg (by unfold nC at hv1; omega))) <| .cons (fun hg => (fun w _ => In_calls _ _ _ w)) <| .nil) (by kernel_rfl) fun a w hF hE => ?_)
      replace hO := hO.ext hE; clear hE
      rcases Bool.eq_false_or_eq_true (cond ((canR s rs ((nf 0) % 25) ((nf 1) % s.hours)).2 != 0) true (!(inB ((nextR s rs ((nf 0) % 25) ((nf 1) % s.hours) cs).1) 0 ((cn : Int) - 1)))) with hc9 | hc9
      · refine (W_true ((evOp hF (by kernel_rfl)).trans (congrArg Value.bool hc9)) ?_)
        rw [hc0, ← hl4, hin] at hc9; cases hc9
      · refine (W_false ((evOp hF (by kernel_rfl)).trans (congrArg Value.bool hc9)) ?_)
        refine (W_skip ?_)
        refine W_seq ?_
        refine W_seq (region_q {} TBok hF (F' := [(2, .slice cp cn cc), (3, pv b1), (6, .bool false), (9, iv ((nextR s rs ((nf 0) % 25) ((nf 1) % s.hours) cs).1)), (10, iv ((nextR s rs ((nf 0) % 25) ((nf 1) % s.hours) cs).2.1)), (12, .slice p4 n5 c6), (14, iv 0)]) (rs := []) [2, 3, 6, 9, 10, 12, 14] .nil (by kernel_rfl) fun a w hF hE => ?_)
        replace hO := hO.ext hE; clear hE
        refine (W_block ?_)
        replace hF := hF.sel [2, 3, 9, 10, 12, 14]
        refine (W_loop (fun m a w => ∃ (i : Nat), m = cn - i ∧ i ≤ cn ∧ Fr 150 [] [(2, .slice cp cn cc), (3, pv b1), (9, iv ((nextR s rs ((nf 0) % 25) ((nf 1) % s.hours) cs).1)), (10, iv ((nextR s rs ((nf 0) % 25) ((nf 1) % s.hours) cs).2.1)), (12, .slice p4 n5 c6), (14, iv (i : Int))] a ∧ Own w0 none_ [cel b1 #[iv s.wide, iv s.high, .slice v.la v.ln v.lc, iv s.hours, .slice v.da v.dn v.dc, iv s.speed, .slice p n c] 28, cel b2 (arrL 2 nf).toArray 38, rdR encI 1 p4 n5 (canR s rs ((nf 0) % 25) ((nf 1) % s.hours)).1] w) _ ⟨0, rfl, Nat.zero_le _, hF, hO⟩ ?_)
        clear hF hO
        rintro _ a w ⟨i, rfl, hi, hF, hO⟩
        refine W_seq ?_
        refine W_seq (region_q {} TBok hF (F' := [(2, .slice cp cn cc), (3, pv b1), (9, iv ((nextR s rs ((nf 0) % 25) ((nf 1) % s.hours) cs).1)), (10, iv ((nextR s rs ((nf 0) % 25) ((nf 1) % s.hours) cs).2.1)), (12, .slice p4 n5 c6), (14, iv (i : Int)), (91, .bool (decide ((i : Int) < (cn : Int))))]) (rs := []) [2, 3, 9, 10, 12, 14, 91] .nil (by kernel_rfl) fun a w hF hE => ?_)
        replace hO := hO.ext hE; clear hE
        rcases Bool.eq_false_or_eq_true (decide ((i : Int) < (cn : Int))) with hc10 | hc10
        · refine (W_true ((evOp hF (by kernel_rfl)).trans (congrArg Value.bool hc10)) ?_)
          have hilt := of_decide_eq_true (by assumption : (decide ((i : Int) < (cn : Int))) = true)
          have hcb := hcs8.2.2 _ (getD_mem (show i < cs.length by omega))
          refine (W_skip ?_)
          refine W_seq (W_block ?_)
          refine W_seq (region_q {} TBok hF (F' := [(2, .slice cp cn cc), (3, pv b1), (9, iv ((nextR s rs ((nf 0) % 25) ((nf 1) % s.hours) cs).1)), (10, iv ((nextR s rs ((nf 0) % 25) ((nf 1) % s.hours) cs).2.1)), (12, .slice p4 n5 c6), (14, iv (i : Int)), (15, iv 0)]) (rs := []) [2, 3, 9, 10, 12, 14, 15] .nil (by kernel_rfl) fun a w hF hE => ?_)
          replace hO := hO.ext hE; clear hE
          refine W_seq ?_
          refine W_seq (region_q {} TBok hF (F' := [(2, .slice cp cn cc), (3, pv b1), (9, iv ((nextR s rs ((nf 0) % 25) ((nf 1) % s.hours) cs).1)), (10, iv ((nextR s rs ((nf 0) % 25) ((nf 1) % s.hours) cs).2.1)), (12, .slice p4 n5 c6), (14, iv (i : Int)), (15, iv 0), (16, iv 0)]) (rs := []) [2, 3, 9, 10, 12, 14, 15, 16] .nil (by kernel_rfl) fun a w hF hE => ?_)
          replace hO := hO.ext hE; clear hE
          refine (W_block ?_)
          refine (W_loop (fun m a w => ∃ (k : Nat), ∃ (q : Int), m = n5 - k ∧ k ≤ n5 ∧ q = ((((canR s rs ((nf 0) % 25) ((nf 1) % s.hours)).1.take k).filter (rcov s (cs.getD i default))).length : Int) ∧ (0 ≤ q ∧ q ≤ (k : Int)) ∧ Fr 150 [] [(2, .slice cp cn cc), (3, pv b1), (9, iv ((nextR s rs ((nf 0) % 25) ((nf 1) % s.hours) cs).1)), (10, iv ((nextR s rs ((nf 0) % 25) ((nf 1) % s.hours) cs).2.1)), (12, .slice p4 n5 c6), (14, iv (i : Int)), (15, iv q), (16, iv (k : Int))] a ∧ Own w0 none_ [cel b1 #[iv s.wide, iv s.high, .slice v.la v.ln v.lc, iv s.hours, .slice v.da v.dn v.dc, iv s.speed, .slice p n c] 28, cel b2 (arrL 2 nf).toArray 38, rdR encI 1 p4 n5 (canR s rs ((nf 0) % 25) ((nf 1) % s.hours)).1] w) _ ⟨0, 0, rfl, Nat.zero_le _, rfl, (by omega), hF, hO⟩ ?_)
          clear hF hO
          rintro _ a w ⟨k, q, rfl, hk, hq, hqk, hF, hO⟩
          refine W_seq ?_
          refine W_seq (region_q {} TBok hF (F' := [(2, .slice cp cn cc), (3, pv b1), (9, iv ((nextR s rs ((nf 0) % 25) ((nf 1) % s.hours) cs).1)), (10, iv ((nextR s rs ((nf 0) % 25) ((nf 1) % s.hours) cs).2.1)), (12, .slice p4 n5 c6), (14, iv (i : Int)), (15, iv q), (16, iv (k : Int)), (97, .bool (decide ((k : Int) < (n5 : Int))))]) (rs := []) [2, 3, 9, 10, 12, 14, 15, 16, 97] .nil (by kernel_rfl) fun a w hF hE => ?_)
          replace hO := hO.ext hE; clear hE
          rcases Bool.eq_false_or_eq_true (decide ((k : Int) < (n5 : Int))) with hc11 | hc11
          · refine (W_true ((evOp hF (by kernel_rfl)).trans (congrArg Value.bool hc11)) ?_)
            have hklt := of_decide_eq_true (by assumption : (decide ((k : Int) < (n5 : Int))) = true)
            have hcm := hmc k (by omega)
            refine (W_skip ?_)
            refine W_seq (W_block ?_)
            refine W_seq (region_d {} mixed TBok hF (F' := [(2, .slice cp cn cc), (3, pv b1), (9, iv ((nextR s rs ((nf 0) % 25) ((nf 1) % s.hours) cs).1)), (10, iv ((nextR s rs ((nf 0) % 25) ((nf 1) % s.hours) cs).2.1)), (12, .slice p4 n5 c6), (14, iv (i : Int)), (15, iv q), (16, iv (k : Int)), (117, .bool (decide ((farP (pl s ((cs.getD i default).cell)) (pl s ((canR s rs ((nf 0) % 25) ((nf 1) % s.hours)).1.getD k default))) ≤ (cs.getD i default).far)))]) (rs := [.lds ⟨b1, 0, none⟩ (sL6 s v), .idx cp cn (i : Int) 2 (adr cp 2 (i : Int)), .ld (adr cp 2 (i : Int)) (iv ((cs.getD i default).cell)), .idx p4 n5 (k : Int) 1 (adr p4 1 (k : Int)), .ld (adr p4 1 (k : Int)) (iv ((canR s rs ((nf 0) % 25) ((nf 1) % s.hours)).1.getD k default)), .call 41 #[.agg (sS6 s v), iv ((cs.getD i default).cell), iv ((canR s rs ((nf 0) % 25) ((nf 1) % s.hours)).1.getD k default)] (iv (farP (pl s ((cs.getD i default).cell)) (pl s ((canR s rs ((nf 0) % 25) ((nf 1) % s.hours)).1.getD k default)))), .idx cp cn (i : Int) 2 (adr cp 2 (i : Int)), .ld ((adr cp 2 (i : Int)).add 1) (iv ((cs.getD i default).far))]) [2, 3, 9, 10, 12, 14, 15, 16, 117] (.cons (ldso hO.st 0 rfl 0 rfl) <| .cons (ix hcs (by omega) (by omega)) <| .cons (ldx hO.st nom hcs (by omega) (by omega) 0 rfl) <| .cons (ix (enc := encI) (xs := (canR s rs ((nf 0) % 25) ((nf 1) % s.hours)).1) ((hO.get 2 rfl)) (by omega) (by omega)) <| .cons (ldR (enc := encI) (xs := (canR s rs ((nf 0) % 25) ((nf 1) % s.hours)).1) (a := p4) (i := (k : Int)) (fun x_ hx_ => ((hO.st x_ hx_).get 2 rfl)) (by omega) (by omega) 0 rfl) <| .cons (fun w hE => apart_calls s v ((cs.getD i default).cell) ((canR s rs ((nf 0) % 25) ((nf 1) % s.hours)).1.getD k default) w hv (by omega) (by omega)) <| .cons (ix hcs (by omega) (by omega)) <| .cons (ldx hO.st nom hcs (by omega) (by omega) 1 rfl) <| .nil) (by kernel_rfl) (by kernel_rfl) fun a w hF hE => ?_)
            replace hO := hO.ext hE; clear hE
            rcases Bool.eq_false_or_eq_true (decide ((farP (pl s ((cs.getD i default).cell)) (pl s ((canR s rs ((nf 0) % 25) ((nf 1) % s.hours)).1.getD k default))) ≤ (cs.getD i default).far)) with hc12 | hc12
            · refine (W_true ((evOp hF (by kernel_rfl)).trans (congrArg Value.bool hc12)) ?_)
              have hc12_ := of_decide_eq_true hc12
              refine (region_q {} TBok hF (F' := [(2, .slice cp cn cc), (3, pv b1), (9, iv ((nextR s rs ((nf 0) % 25) ((nf 1) % s.hours) cs).1)), (10, iv ((nextR s rs ((nf 0) % 25) ((nf 1) % s.hours) cs).2.1)), (12, .slice p4 n5 c6), (14, iv (i : Int)), (15, iv (q + 1)), (16, iv (k : Int))]) (rs := [.rng (q + 1)]) [2, 3, 9, 10, 12, 14, 15, 16] (.cons (rg (by unfold nC at hv1; omega)) <| .nil) (by kernel_rfl) fun a w hF hE => ?_)
              replace hO := hO.ext hE; clear hE
              refine (region_q {} TBok hF (F' := [(2, .slice cp cn cc), (3, pv b1), (9, iv ((nextR s rs ((nf 0) % 25) ((nf 1) % s.hours) cs).1)), (10, iv ((nextR s rs ((nf 0) % 25) ((nf 1) % s.hours) cs).2.1)), (12, .slice p4 n5 c6), (14, iv (i : Int)), (15, iv (q + 1)), (16, iv ((k : Int) + 1))]) (rs := [.rng ((k : Int) + 1)]) [2, 3, 9, 10, 12, 14, 15, 16] (.cons (rg (by unfold nC at hv1; omega)) <| .nil) (by kernel_rfl) fun a w hF hE => ?_)
              replace hO := hO.ext hE; clear hE
              have hst_ := filt_take (xs := (canR s rs ((nf 0) % 25) ((nf 1) % s.hours)).1) (rcov s (cs.getD i default)) (k := k) (by omega)
              rw [show rcov s (cs.getD i default) ((canR s rs ((nf 0) % 25) ((nf 1) % s.hours)).1.getD k default) = true from hc12] at hst_; simp only [cond_true, cond_false] at hst_
              exact ⟨_, by omega, k + 1, _, rfl, by omega, by rw [hst_, ← hq], by omega, hF, hO⟩
            · refine (W_false ((evOp hF (by kernel_rfl)).trans (congrArg Value.bool hc12)) ?_)
              have hc12_ := of_decide_eq_false hc12
              refine (W_skip ?_)
              refine (region_q {} TBok hF (F' := [(2, .slice cp cn cc), (3, pv b1), (9, iv ((nextR s rs ((nf 0) % 25) ((nf 1) % s.hours) cs).1)), (10, iv ((nextR s rs ((nf 0) % 25) ((nf 1) % s.hours) cs).2.1)), (12, .slice p4 n5 c6), (14, iv (i : Int)), (15, iv q), (16, iv ((k : Int) + 1))]) (rs := [.rng ((k : Int) + 1)]) [2, 3, 9, 10, 12, 14, 15, 16] (.cons (rg (by unfold nC at hv1; omega)) <| .nil) (by kernel_rfl) fun a w hF hE => ?_)
              replace hO := hO.ext hE; clear hE
              have hst_ := filt_take (xs := (canR s rs ((nf 0) % 25) ((nf 1) % s.hours)).1) (rcov s (cs.getD i default)) (k := k) (by omega)
              rw [show rcov s (cs.getD i default) ((canR s rs ((nf 0) % 25) ((nf 1) % s.hours)).1.getD k default) = false from hc12] at hst_; simp only [cond_true, cond_false] at hst_
              exact ⟨_, by omega, k + 1, _, rfl, by omega, by rw [hst_, ← hq]; omega, by omega, hF, hO⟩
          · refine (W_false ((evOp hF (by kernel_rfl)).trans (congrArg Value.bool hc11)) ?_)
            have hklt := of_decide_eq_false (by assumption : (decide ((k : Int) < (n5 : Int))) = false)
            have hqf : q = rcovN s (canR s rs ((nf 0) % 25) ((nf 1) % s.hours)).1 (cs.getD i default) := by rw [hq, List.take_of_length_le (by omega)]; rfl
            have hwor : mx q ((n5 : Int) - q) = rworN s (canR s rs ((nf 0) % 25) ((nf 1) % s.hours)).1 (cs.getD i default) := by rw [rworN, ← hqf, hn7]
            refine (W_exit ?_)
            refine W_seq (region_q { md := [(5, 3)] } TBok hF (F' := [(2, .slice cp cn cc), (3, pv b1), (9, iv ((nextR s rs ((nf 0) % 25) ((nf 1) % s.hours) cs).1)), (10, iv ((nextR s rs ((nf 0) % 25) ((nf 1) % s.hours) cs).2.1)), (12, .slice p4 n5 c6), (14, iv (i : Int)), (17, iv (mx q ((n5 : Int) - q)))]) (rs := [.rng ((n5 : Int) - q), .raw (Builtin.max_ #[3, 3] 3 #[iv q, iv ((n5 : Int) - q)]) (iv (mx q ((n5 : Int) - q)))]) [2, 3, 9, 10, 12, 14, 17] (.cons (rg (by unfold nC at hv1; omega)) <| .cons raw_max2 <| .nil) (by kernel_rfl) fun a w hF hE => ?_)
            replace hO := hO.ext hE; clear hE
            refine W_seq (region_q { sy := [3, 7, 13, 17] } TBok hF (F' := [(2, .slice cp cn cc), (3, pv b1), (9, iv ((nextR s rs ((nf 0) % 25) ((nf 1) % s.hours) cs).1)), (10, iv ((nextR s rs ((nf 0) % 25) ((nf 1) % s.hours) cs).2.1)), (12, .slice p4 n5 c6), (14, iv (i : Int)), (148, .bool (cond (cond (decide ((mx q ((n5 : Int) - q)) < (nextR s rs ((nf 0) % 25) ((nf 1) % s.hours) cs).2.1)) true (cond ((i : Int) == (nextR s rs ((nf 0) % 25) ((nf 1) % s.hours) cs).1) ((mx q ((n5 : Int) - q)) != (nextR s rs ((nf 0) % 25) ((nf 1) % s.hours) cs).2.1) false)) true (cond (decide ((i : Int) < (nextR s rs ((nf 0) % 25) ((nf 1) % s.hours) cs).1)) ((mx q ((n5 : Int) - q)) == (nextR s rs ((nf 0) % 25) ((nf 1) % s.hours) cs).2.1) false)))]) (rs := []) [2, 3, 9, 10, 12, 14, 148] .nil (by kernel_rfl) fun a w hF hE => ?_)
            replace hO := hO.ext hE; clear hE
            rcases Bool.eq_false_or_eq_true (cond (cond (decide ((mx q ((n5 : Int) - q)) < (nextR s rs ((nf 0) % 25) ((nf 1) % s.hours) cs).2.1)) true (cond ((i : Int) == (nextR s rs ((nf 0) % 25) ((nf 1) % s.hours) cs).1) ((mx q ((n5 : Int) - q)) != (nextR s rs ((nf 0) % 25) ((nf 1) % s.hours) cs).2.1) false)) true (cond (decide ((i : Int) < (nextR s rs ((nf 0) % 25) ((nf 1) % s.hours) cs).1)) ((mx q ((n5 : Int) - q)) == (nextR s rs ((nf 0) % 25) ((nf 1) % s.hours) cs).2.1) false)) with hc13 | hc13
            · refine (W_true ((evOp hF (by kernel_rfl)).trans (congrArg Value.bool hc13)) ?_)
              exact absurd ((next_dead her hask hz (show i < cs.length by omega) hwor).symm.trans hc13) (by decide)
            · refine (W_false ((evOp hF (by kernel_rfl)).trans (congrArg Value.bool hc13)) ?_)
              refine (W_skip ?_)
              refine (region_q {} TBok hF (F' := [(2, .slice cp cn cc), (3, pv b1), (9, iv ((nextR s rs ((nf 0) % 25) ((nf 1) % s.hours) cs).1)), (10, iv ((nextR s rs ((nf 0) % 25) ((nf 1) % s.hours) cs).2.1)), (12, .slice p4 n5 c6), (14, iv ((i : Int) + 1))]) (rs := [.rng ((i : Int) + 1)]) [2, 3, 9, 10, 12, 14] (.cons (rg (by unfold nC at hv1; omega)) <| .nil) (by kernel_rfl) fun a w hF hE => ?_)
              replace hO := hO.ext hE; clear hE
              exact ⟨_, by omega, i + 1, rfl, by omega, hF, hO⟩
        · refine (W_false ((evOp hF (by kernel_rfl)).trans (congrArg Value.bool hc10)) ?_)
          have hilt := of_decide_eq_false (by assumption : (decide ((i : Int) < (cn : Int))) = false)
          refine (W_exit ?_)
          refine W_seq (region_q {} TBok hF (F' := [(6, .bool true)]) (rs := [.call 23 #[] (.bool true)]) [6] (.cons (fun w _ => works_calls w) <| .nil) (by kernel_rfl) fun a w hF hE => ?_)
          replace hO := hO.ext hE; clear hE
          refine W_ret ?_
          show bodyPostM (FW none) 0 _ _ _ Exit.ret a w
          exact leave_r TBok hF (.nil _) (vs := [.bool true]) (rs := []) .nil (by kernel_rfl) ⟨rfl, hO.kp⟩

set_option maxHeartbeats 4000000 in
set_option maxRecDepth 100000 in
theorem ShoalFound_calls (s : Sea) (v : SV) (rs : List Rp) (p : Option Addr) (n c : Nat) (nf : Nat → Int) (cs : List Cs) (cp : Option Addr) (cn cc : Nat) (w0 : World) (hs : SeaR w0.heap.size w0 v s) (hx : Rd encRp 4 w0.heap.size w0 p n rs) (hcs : Rd encCs 2 w0.heap.size w0 cp cn cs) (hci : ∀ i, i < cs.length → i64 (cs.getD i default).cell) (hcn : cn ≤ 8796093022207) :
    Calls Try.prog 13 #[.agg #[iv s.wide, iv s.high, .slice v.la v.ln v.lc, iv s.hours, .slice v.da v.dn v.dc, iv s.speed, .slice p n c], .agg (arrL 3 nf).toArray, .slice cp cn cc] w0 (fun e w' => e = .returned (.bool true) ∧ Ext w0 w') := by
  have hl1 := hs.land.len; have hl2 := hs.drift.len; have hs1 := hs.land.size; have hs2 := hs.drift.size; have hr_ := hs.rg; unfold i64 at hr_; have hl3 := hx.len; have hs3 := hx.size; have hl4 := hcs.len; have hs4 := hcs.size
  refine calls_of_W Try.func13 rfl (by kernel_rfl) (args := [.agg #[iv s.wide, iv s.high, .slice v.la v.ln v.lc, iv s.hours, .slice v.da v.dn v.dc, iv s.speed, .slice p n c], .agg (arrL 3 nf).toArray, .slice cp cn cc]) fun a hF => ?_
  replace hF : Fr 155 [] [(0, .agg #[iv s.wide, iv s.high, .slice v.la v.ln v.lc, iv s.hours, .slice v.da v.dn v.dc, iv s.speed, .slice p n c]), (1, .agg (arrL 3 nf).toArray), (2, .slice cp cn cc)] a := hF
  have hO : Own w0 none_ [] w0 := Own.start w0 _
  refine W_seq (region_seq ?_)
  refine op_box (i := 0) (t := 28) (v := .agg #[iv s.wide, iv s.high, .slice v.la v.ln v.lc, iv s.hours, .slice v.da v.dn v.dc, iv s.speed, .slice p n c]) (d := 3) hF hO (by kernel_rfl) fun a w b1 hF hO _ => ?_
  refine op_box (i := 1) (t := 55) (v := .agg (arrL 3 nf).toArray) (d := 4) hF hO (by kernel_rfl) fun a w b2 hF hO _ => ?_
  refine seq_quiet {} TBok hF (F' := [(2, .slice cp cn cc), (3, pv b1), (4, pv b2), (6, .bool false)]) (rs := []) [2] [] [2, 3, 4, 6] .nil (by kernel_rfl) fun a w hF hE => ?_
  replace hO := hO.ext hE; clear hE
  refine W_seq ?_
  refine W_seq (region_q {} TBok hF (F' := [(2, .slice cp cn cc), (3, pv b1), (4, pv b2), (6, .bool false), (17, .bool (!(err s rs == 0)))]) (rs := [.lds ⟨b1, 0, none⟩ [iv s.wide, iv s.high, .slice v.la v.ln v.lc, iv s.hours, .slice v.da v.dn v.dc, iv s.speed, .slice p n c], .call 32 #[.agg #[iv s.wide, iv s.high, .slice v.la v.ln v.lc, iv s.hours, .slice v.da v.dn v.dc, iv s.speed, .slice p n c]] (.bool (err s rs == 0))]) [2, 3, 4, 6, 17] (.cons (ldso hO.st 0 rfl 0 rfl) <| .cons (fun w hE => sound_calls s v rs p n c w (hs.upM (hO.st w hE).kp nom (Nat.le_refl _)) (hx.upM (hO.st w hE).kp nom (Nat.le_refl _))) <| .nil) (by kernel_rfl) fun a w hF hE => ?_)
  replace hO := hO.ext hE; clear hE
  rcases Bool.eq_false_or_eq_true (!(err s rs == 0)) with hc3 | hc3
  · refine (W_true ((evOp hF (by kernel_rfl)).trans (congrArg Value.bool hc3)) ?_)
    refine W_seq (region_q {} TBok hF (F' := [(2, .slice cp cn cc), (3, pv b1), (4, pv b2), (6, .bool true)]) (rs := [.call 23 #[] (.bool true)]) [2, 3, 4, 6] (.cons (fun w _ => works_calls w) <| .nil) (by kernel_rfl) fun a w hF hE => ?_)
    replace hO := hO.ext hE; clear hE
    refine W_ret ?_
    show bodyPostM (FW none) 0 _ _ _ Exit.ret a w
    exact leave_r TBok hF (.nil _) (vs := [.bool true]) (rs := []) .nil (by kernel_rfl) ⟨rfl, hO.kp⟩
  · refine (W_false ((evOp hF (by kernel_rfl)).trans (congrArg Value.bool hc3)) ?_)
    have her : err s rs = 0 := by have h_ := (by assumption : (!(err s rs == 0)) = false); simpa using h_
    obtain ⟨hv, hr⟩ := err_hd her
    have hv1 := sea_ok hv; have hrp := rp_ok hr
    have hnc : 0 < s.wide * s.high := by unfold nC at hv1; omega
    have hm1 := Int.emod_nonneg (nf 1) (show s.hours ≠ 0 by omega); have hm2 := Int.emod_lt_of_pos (nf 1) (show 0 < s.hours by omega)
    have hask : askB s ((nf 0) % 25) ((nf 1) % s.hours) = true := askB_iff.2 ⟨by omega, by omega, by omega, by omega⟩
    refine (W_skip ?_)
    refine W_seq (region_d {} mixed TBok hF (F' := [(2, .slice cp cn cc), (3, pv b1), (4, pv b2), (6, .bool false), (7, iv ((nf 0) % 25)), (8, iv ((nf 1) % s.hours))]) (rs := [.idx (some ⟨b2, 0, none⟩) 3 0 1 ((⟨b2, 0, none⟩ : Addr).add ((0 : Int).toNat * 1)), .ld ((⟨b2, 0, none⟩ : Addr).add ((0 : Int).toNat * 1)) (iv (nf 0)), .call 38 #[iv (nf 0), iv 25] (iv ((nf 0) % 25)), .idx (some ⟨b2, 0, none⟩) 3 1 1 ((⟨b2, 0, none⟩ : Addr).add ((1 : Int).toNat * 1)), .ld ((⟨b2, 0, none⟩ : Addr).add ((1 : Int).toNat * 1)) (iv (nf 1)), .ld ⟨b1, 3, none⟩ (iv s.hours), .call 38 #[iv (nf 1), iv s.hours] (iv ((nf 1) % s.hours))]) [2, 3, 4, 6, 7, 8] (.cons (ixa (by omega) (by omega)) <| .cons (ldf (pre := []) (n := 3) (f := nf) (post := []) hO.st 1 rfl rfl (by omega) (by omega)) <| .cons (fun w hE => Mod_calls (nf 0) 25 w (by unfold nC at hv1; omega) (by unfold nC at hv1; omega)) <| .cons (ixa (by omega) (by omega)) <| .cons (ldf (pre := []) (n := 3) (f := nf) (post := []) hO.st 1 rfl rfl (by omega) (by omega)) <| .cons (ldo hO.st 0 rfl 3 rfl) <| .cons (fun w hE => Mod_calls (nf 1) s.hours w (by unfold nC at hv1; omega) (by unfold nC at hv1; omega)) <| .nil) (by kernel_rfl) (by kernel_rfl) fun a w hF hE => ?_)
    replace hO := hO.ext hE; clear hE
    refine W_seq (region_seq ?_)
    refine seq_quiet {} TBok hF (F' := [(2, .slice cp cn cc), (3, pv b1), (4, pv b2), (6, .bool false), (7, iv ((nf 0) % 25)), (8, iv ((nf 1) % s.hours)), (30, .agg (sS6 s v)), (32, .slice p n c), (33, iv ((nf 0) % 25)), (34, iv ((nf 1) % s.hours)), (35, .slice cp cn cc)]) (rs := [.lds ⟨b1, 0, none⟩ (sL6 s v), .ld ⟨b1, 6, none⟩ (.slice p n c)]) [0, 1, 2, 3, 4, 5, 6] [7, 8, 9, 10, 11, 12] [2, 3, 4, 6, 7, 8, 30, 32, 33, 34, 35] (.cons (ldso hO.st 0 rfl 0 rfl) <| .cons (ldo hO.st 0 rfl 6 rfl) <| .nil) (by kernel_rfl) fun a w hF hE => ?_
    replace hO := hO.ext hE; clear hE
    refine op_call (i := 7) (f := 30) (args := #[.agg (sS6 s v), .slice p n c, iv ((nf 0) % 25), iv ((nf 1) % s.hours), .slice cp cn cc]) (d := some 36) TBok (by kernel_rfl) hF (by kernel_rfl) (Sure_calls s v rs p n c ((nf 0) % 25) ((nf 1) % s.hours) cs cp cn cc _ (hs.upM hO.kp nom (Nat.le_refl _)) (hx.upM hO.kp nom (Nat.le_refl _)) (hcs.upM hO.kp nom (Nat.le_refl _)) hci hcn) fun e w hR => ?_
    obtain ⟨p4, n5, c6, hn7, he, hO2⟩ := hR
    refine ⟨_, he, fun a hF => ?_⟩
    replace hO := hO.joinE hO2; clear hO2 he
    refine seq_quiet {} TBok hF (F' := [(2, .slice cp cn cc), (3, pv b1), (4, pv b2), (6, .bool false), (7, iv ((nf 0) % 25)), (8, iv ((nf 1) % s.hours)), (9, .slice p4 n5 c6), (10, iv ((sureR s rs ((nf 0) % 25) ((nf 1) % s.hours) cs).2))]) (rs := []) [8, 9, 10, 11, 12] [] [2, 3, 4, 6, 7, 8, 9, 10] .nil (by kernel_rfl) fun a w hF hE => ?_
    replace hO := hO.ext hE; clear hE
    refine W_seq (region_seq ?_)
    refine seq_quiet {} TBok hF (F' := [(2, .slice cp cn cc), (3, pv b1), (4, pv b2), (6, .bool false), (9, .slice p4 n5 c6), (10, iv ((sureR s rs ((nf 0) % 25) ((nf 1) % s.hours) cs).2)), (41, .agg (sS6 s v)), (43, .slice p n c), (44, iv ((nf 0) % 25)), (45, iv ((nf 1) % s.hours))]) (rs := [.lds ⟨b1, 0, none⟩ (sL6 s v), .ld ⟨b1, 6, none⟩ (.slice p n c)]) [0, 1, 2, 3, 4, 5] [6, 7, 8, 9, 10, 11] [2, 3, 4, 6, 9, 10, 41, 43, 44, 45] (.cons (ldso hO.st 0 rfl 0 rfl) <| .cons (ldo hO.st 0 rfl 6 rfl) <| .nil) (by kernel_rfl) fun a w hF hE => ?_
    replace hO := hO.ext hE; clear hE
    refine op_call (i := 6) (f := 24) (args := #[.agg (sS6 s v), .slice p n c, iv ((nf 0) % 25), iv ((nf 1) % s.hours)]) (d := some 46) TBok (by kernel_rfl) hF (by kernel_rfl) (Can_calls s v rs p n c ((nf 0) % 25) ((nf 1) % s.hours) _ (hs.upM hO.kp nom (Nat.le_refl _)) (hx.upM hO.kp nom (Nat.le_refl _))) fun e w hR => ?_
    obtain ⟨p8, n9, c10, hn11, he, hO2⟩ := hR
    refine ⟨_, he, fun a hF => ?_⟩
    replace hO := hO.joinE hO2; clear hO2 he
    replace hO : Own w0 none_ [cel b1 #[iv s.wide, iv s.high, .slice v.la v.ln v.lc, iv s.hours, .slice v.da v.dn v.dc, iv s.speed, .slice p n c] 28, cel b2 (arrL 3 nf).toArray 55, rdR encI 1 p4 n5 (sureR s rs ((nf 0) % 25) ((nf 1) % s.hours) cs).1, rdR encI 1 p8 n9 (canR s rs ((nf 0) % 25) ((nf 1) % s.hours)).1] w := hO
    refine seq_quiet {} TBok hF (F' := [(2, .slice cp cn cc), (3, pv b1), (4, pv b2), (6, .bool false), (9, .slice p4 n5 c6), (10, iv ((sureR s rs ((nf 0) % 25) ((nf 1) % s.hours) cs).2)), (11, .slice p8 n9 c10), (12, iv ((canR s rs ((nf 0) % 25) ((nf 1) % s.hours)).2))]) (rs := []) [7, 8, 9, 10, 11] [] [2, 3, 4, 6, 9, 10, 11, 12] .nil (by kernel_rfl) fun a w hF hE => ?_
    replace hO := hO.ext hE; clear hE
    refine W_seq ?_
    refine W_seq (region_q { sy := [2, 6] } TBok hF (F' := [(2, .slice cp cn cc), (3, pv b1), (4, pv b2), (6, .bool false), (9, .slice p4 n5 c6), (10, iv ((sureR s rs ((nf 0) % 25) ((nf 1) % s.hours) cs).2)), (11, .slice p8 n9 c10), (12, iv ((canR s rs ((nf 0) % 25) ((nf 1) % s.hours)).2)), (60, .bool (cond (cond ((sureR s rs ((nf 0) % 25) ((nf 1) % s.hours) cs).2 != 0) ((sureR s rs ((nf 0) % 25) ((nf 1) % s.hours) cs).2 != 4) false) true (!(inB (cn : Int) 1 8))))]) (rs := [.und (!(cond ((sureR s rs ((nf 0) % 25) ((nf 1) % s.hours) cs).2 != 0) ((sureR s rs ((nf 0) % 25) ((nf 1) % s.hours) cs).2 != 4) false)) (.call 40 #[iv (cn : Int), iv 1, iv 8] (.bool (inB (cn : Int) 1 8)))]) [2, 3, 4, 6, 9, 10, 11, 12, 60] (.cons (fun hg => (fun w _ => In_calls _ _ _ w)) <| .nil) (by kernel_rfl) fun a w hF hE => ?_)
    replace hO := hO.ext hE; clear hE
    rcases Bool.eq_false_or_eq_true (cond (cond ((sureR s rs ((nf 0) % 25) ((nf 1) % s.hours) cs).2 != 0) ((sureR s rs ((nf 0) % 25) ((nf 1) % s.hours) cs).2 != 4) false) true (!(inB (cn : Int) 1 8))) with hc12 | hc12
    · refine (W_true ((evOp hF (by kernel_rfl)).trans (congrArg Value.bool hc12)) ?_)
      have hlw := found_bad her hask hl4 (by assumption) (by assumption : (cond (cond ((sureR s rs ((nf 0) % 25) ((nf 1) % s.hours) cs).2 != 0) ((sureR s rs ((nf 0) % 25) ((nf 1) % s.hours) cs).2 != 4) false) true (!(inB (cn : Int) 1 8))) = true)
      refine W_seq (region_q { sy := [3, 6, 12] } TBok hF (F' := [(2, .slice cp cn cc), (3, pv b1), (4, pv b2), (6, .bool (cond (cond ((n5 : Int) == 0) (cond ((sureR s rs ((nf 0) % 25) ((nf 1) % s.hours) cs).2 == 13) true ((sureR s rs ((nf 0) % 25) ((nf 1) % s.hours) cs).2 == (canR s rs ((nf 0) % 25) ((nf 1) % s.hours)).2)) false) true false)), (9, .slice p4 n5 c6), (10, iv ((sureR s rs ((nf 0) % 25) ((nf 1) % s.hours) cs).2)), (11, .slice p8 n9 c10), (12, iv ((canR s rs ((nf 0) % 25) ((nf 1) % s.hours)).2))]) (rs := [.und (cond ((n5 : Int) == 0) (cond ((sureR s rs ((nf 0) % 25) ((nf 1) % s.hours) cs).2 == 13) true ((sureR s rs ((nf 0) % 25) ((nf 1) % s.hours) cs).2 == (canR s rs ((nf 0) % 25) ((nf 1) % s.hours)).2)) false) (.call 23 #[] (.bool true))]) [2, 3, 4, 6, 9, 10, 11, 12] (.cons (fun hg => (fun w _ => works_calls w)) <| .nil) (by kernel_rfl) fun a w hF hE => ?_)
      replace hO := hO.ext hE; clear hE
      refine W_ret ?_
      show bodyPostM (FW none) 0 _ _ _ Exit.ret a w
      have hX : (cond (cond ((n5 : Int) == 0) (cond ((sureR s rs ((nf 0) % 25) ((nf 1) % s.hours) cs).2 == 13) true ((sureR s rs ((nf 0) % 25) ((nf 1) % s.hours) cs).2 == (canR s rs ((nf 0) % 25) ((nf 1) % s.hours)).2)) false) true false) = true := hlw
      exact leave_r TBok hF (.nil _) (vs := [.bool (cond (cond ((n5 : Int) == 0) (cond ((sureR s rs ((nf 0) % 25) ((nf 1) % s.hours) cs).2 == 13) true ((sureR s rs ((nf 0) % 25) ((nf 1) % s.hours) cs).2 == (canR s rs ((nf 0) % 25) ((nf 1) % s.hours)).2)) false) true false)]) (rs := []) .nil (by kernel_rfl) ⟨by rw [hX]; rfl, hO.kp⟩
    · refine (W_false ((evOp hF (by kernel_rfl)).trans (congrArg Value.bool hc12)) ?_)
      have hz := found_good her hask (by assumption : (cond (cond ((sureR s rs ((nf 0) % 25) ((nf 1) % s.hours) cs).2 != 0) ((sureR s rs ((nf 0) % 25) ((nf 1) % s.hours) cs).2 != 4) false) true (!(inB (cn : Int) 1 8))) = false)
      obtain ⟨hcsB, hne, hce, _, _⟩ := asked_good her hask hz
      have hc0 : (canR s rs ((nf 0) % 25) ((nf 1) % s.hours)).2 = 0 := by rw [hce]
      have hcs8 := csB_ok hcsB
      have hp8 := pow8 (show cn ≤ 8 by omega)
      refine (W_skip ?_)
      refine W_seq ?_
      refine W_seq (region_q {} TBok hF (F' := [(2, .slice cp cn cc), (3, pv b1), (4, pv b2), (6, .bool false), (9, .slice p4 n5 c6), (10, iv ((sureR s rs ((nf 0) % 25) ((nf 1) % s.hours) cs).2)), (11, .slice p8 n9 c10), (77, .bool ((canR s rs ((nf 0) % 25) ((nf 1) % s.hours)).2 != 0))]) (rs := []) [2, 3, 4, 6, 9, 10, 11, 77] .nil (by kernel_rfl) fun a w hF hE => ?_)
      replace hO := hO.ext hE; clear hE
      rcases Bool.eq_false_or_eq_true ((canR s rs ((nf 0) % 25) ((nf 1) % s.hours)).2 != 0) with hc13 | hc13
      · refine (W_true ((evOp hF (by kernel_rfl)).trans (congrArg Value.bool hc13)) ?_)
        rw [hc0] at hc13; cases hc13
      · refine (W_false ((evOp hF (by kernel_rfl)).trans (congrArg Value.bool hc13)) ?_)
        refine (W_skip ?_)
        refine W_seq (region_seq ?_)
        refine seq_quiet { md := [(2, 3)] } TBok hF (F' := [(2, .slice cp cn cc), (3, pv b1), (4, pv b2), (6, .bool false), (9, .slice p4 n5 c6), (10, iv ((sureR s rs ((nf 0) % 25) ((nf 1) % s.hours) cs).2)), (11, .slice p8 n9 c10), (81, iv ((2 ^ cn) - 1)), (83, iv (cn : Int))]) (rs := [.raw (rb .shl 3 (.const (iv 1)) (.tmp 79) (iv 1) (iv (cn : Int))) (iv (2 ^ cn)), .rng ((2 ^ cn) - 1)]) [0, 1, 2, 3, 4, 5] [6, 7] [2, 3, 4, 6, 9, 10, 11, 81, 83] (.cons (raw_shl ⟨by omega, by omega⟩) <| .cons (rg (by unfold nC at hv1; omega)) <| .nil) (by kernel_rfl) fun a w hF hE => ?_
        replace hO := hO.ext hE; clear hE
        refine op_call (i := 6) (f := 42) (args := #[iv ((2 ^ cn) - 1), iv (cn : Int)]) (d := some 84) TBok (by kernel_rfl) hF (by kernel_rfl) (Members_calls ((2 ^ cn) - 1) cn _ (by omega)) fun e w hR => ?_
        obtain ⟨p14, q15, c16, hq17, he, hO2⟩ := hR
        refine ⟨_, he, fun a hF => ?_⟩
        replace hO := hO.joinE hO2; clear hO2 he
        refine seq_quiet {} TBok hF (F' := [(2, .slice cp cn cc), (3, pv b1), (4, pv b2), (6, .bool false), (9, .slice p4 n5 c6), (10, iv ((sureR s rs ((nf 0) % 25) ((nf 1) % s.hours) cs).2)), (11, .slice p8 n9 c10), (13, .slice p14 q15 c16)]) (rs := []) [7] [] [2, 3, 4, 6, 9, 10, 11, 13] .nil (by kernel_rfl) fun a w hF hE => ?_
        replace hO := hO.ext hE; clear hE
        refine W_seq ?_
        refine W_seq (region_q {} TBok hF (F' := [(2, .slice cp cn cc), (3, pv b1), (4, pv b2), (6, .bool false), (9, .slice p4 n5 c6), (11, .slice p8 n9 c10), (13, .slice p14 q15 c16), (86, .bool ((sureR s rs ((nf 0) % 25) ((nf 1) % s.hours) cs).2 == 4))]) (rs := []) [2, 3, 4, 6, 9, 11, 13, 86] .nil (by kernel_rfl) fun a w hF hE => ?_)
        replace hO := hO.ext hE; clear hE
        rcases Bool.eq_false_or_eq_true ((sureR s rs ((nf 0) % 25) ((nf 1) % s.hours) cs).2 == 4) with hc18 | hc18
        · refine (W_true ((evOp hF (by kernel_rfl)).trans (congrArg Value.bool hc18)) ?_)
          have hlw := found_none her hask hz (by assumption : ((sureR s rs ((nf 0) % 25) ((nf 1) % s.hours) cs).2 == 4) = true) hl4 (by assumption)
          refine W_seq (region_q { sy := [3, 12] } TBok hF (F' := [(2, .slice cp cn cc), (3, pv b1), (4, pv b2), (6, .bool (cond (cond ((n5 : Int) == 0) (!(rallB s cs (memL cn ((2 ^ cn) - 1)) (canR s rs ((nf 0) % 25) ((nf 1) % s.hours)).1)) false) true false)), (9, .slice p4 n5 c6), (11, .slice p8 n9 c10)]) (rs := [.und ((n5 : Int) == 0) (.lds ⟨b1, 0, none⟩ (sL6 s v)), .und ((n5 : Int) == 0) (.call 43 #[.agg (sS6 s v), .slice cp cn cc, .slice p14 q15 c16, .slice p8 n9 c10] (.bool (rallB s cs (memL cn ((2 ^ cn) - 1)) (canR s rs ((nf 0) % 25) ((nf 1) % s.hours)).1))), .und (cond ((n5 : Int) == 0) (!(rallB s cs (memL cn ((2 ^ cn) - 1)) (canR s rs ((nf 0) % 25) ((nf 1) % s.hours)).1)) false) (.call 23 #[] (.bool true))]) [2, 3, 4, 6, 9, 11] (.cons (fun hg => (ldso hO.st 0 rfl 0 rfl)) <| .cons (fun hg => (fun w hE => meets_calls s v cs cp cn cc (memL cn ((2 ^ cn) - 1)) p14 q15 c16 (canR s rs ((nf 0) % 25) ((nf 1) % s.hours)).1 p8 n9 c10 w hv (hcs.upM (hO.st w hE).kp nom (Nat.le_refl _)) (rd_row (fun _ => rfl) (by decide) (hO.st w hE) 4 rfl (by have h1_ := memL_len cn ((2 ^ cn) - 1); have h2_ := memL_len cn ((nf 2) % (2 ^ cn)); omega)) ((hO.st w hE).get 3 rfl) (fun i hi => by have h_ := ris_in (n := cn) (by first | exact memL_ris _ _ | exact hris) _ (getD_mem hi); omega) (fun i hi => by have h_ := hcs8.2.2 _ (getD_mem hi); omega) (fun i hi => can_mem her hask (getD_mem hi)))) <| .cons (fun hg => (fun w _ => works_calls w)) <| .nil) (by kernel_rfl) fun a w hF hE => ?_)
          replace hO := hO.ext hE; clear hE
          refine W_ret ?_
          show bodyPostM (FW none) 0 _ _ _ Exit.ret a w
          have hX : (cond (cond ((n5 : Int) == 0) (!(rallB s cs (memL cn ((2 ^ cn) - 1)) (canR s rs ((nf 0) % 25) ((nf 1) % s.hours)).1)) false) true false) = true := hlw
          exact leave_r TBok hF (.nil _) (vs := [.bool (cond (cond ((n5 : Int) == 0) (!(rallB s cs (memL cn ((2 ^ cn) - 1)) (canR s rs ((nf 0) % 25) ((nf 1) % s.hours)).1)) false) true false)]) (rs := []) .nil (by kernel_rfl) ⟨by rw [hX]; rfl, hO.kp⟩
        · refine (W_false ((evOp hF (by kernel_rfl)).trans (congrArg Value.bool hc18)) ?_)
          obtain ⟨hs0, hris, hral⟩ := found_some her hask hz (by assumption : ((sureR s rs ((nf 0) % 25) ((nf 1) % s.hours) cs).2 == 4) = false) hl4
          have he1 := Int.emod_nonneg (nf 2) (show (2 : Int) ^ cn ≠ 0 by omega); have he2 := Int.emod_lt_of_pos (nf 2) (show (0 : Int) < 2 ^ cn by omega)
          refine (W_skip ?_)
          refine W_seq (draw_start (R := none_) mixed [] 10 (by kernel_rfl) fun w hS => ?_)
          replace hO := hO.ext hS
          refine draw_q { md := [(4, 3)] } TBok hF hS (F' := [(2, .slice cp cn cc), (3, pv b1), (6, .bool false), (9, .slice p4 n5 c6), (11, .slice p8 n9 c10), (107, iv ((nf 2) % (2 ^ cn))), (109, iv (cn : Int))]) (rs := [.idx (some ⟨b2, 0, none⟩) 3 2 1 ((⟨b2, 0, none⟩ : Addr).add ((2 : Int).toNat * 1)), .ld ((⟨b2, 0, none⟩ : Addr).add ((2 : Int).toNat * 1)) (iv (nf 2)), .raw (rb .shl 3 (.const (iv 1)) (.tmp 105) (iv 1) (iv (cn : Int))) (iv (2 ^ cn)), .call 38 #[iv (nf 2), iv (2 ^ cn)] (iv ((nf 2) % (2 ^ cn)))]) [0, 1, 2, 3, 4, 5, 6, 7] 10 2 (by kernel_rfl) #[true, true, true, true, true, true, true, true, false, false] [2, 3, 6, 9, 11, 107, 109] (.cons (ixa (by omega) (by omega)) <| .cons (ldf (pre := []) (n := 3) (f := nf) (post := []) hO.st 1 rfl rfl (by omega) (by omega)) <| .cons (raw_shl ⟨by omega, by omega⟩) <| .cons (fun w hE => Mod_calls (nf 2) (2 ^ cn) w (by unfold nC at hv1; omega) (by unfold nC at hv1; omega)) <| .nil) (by kernel_rfl) (by kernel_rfl) fun a hF => ?_
          replace hS := Kp.refl none_ w
          refine any_pick (rs := [8]) (by kernel_rfl) (by simp) fun w hE => all1 ?_
          replace hO := hO.ext hE; replace hS := hS.trans (Ext.kp hE)
          refine op_call (i := 8) (f := 42) (args := #[iv ((nf 2) % (2 ^ cn)), iv (cn : Int)]) (d := some 110) TBok (by kernel_rfl) hF (by kernel_rfl) (Members_calls ((nf 2) % (2 ^ cn)) cn _ (by omega)) fun e w hR => ?_
          obtain ⟨p19, q20, c21, hq22, he, hO2⟩ := hR
          refine ⟨_, he, fun a hF => ⟨.inr (hS.trans (Ext.kp hO2.kp)), ?_⟩⟩
          replace hS := hS.trans (Ext.kp hO2.kp)
          replace hO := hO.joinE hO2; clear hO2 he
          refine draw_q0 {} TBok hF hS (F' := [(2, .slice cp cn cc), (3, pv b1), (6, .bool false), (9, .slice p4 n5 c6), (11, .slice p8 n9 c10), (14, .slice p19 q20 c21)]) [9] 1 0 (by kernel_rfl) #[true, true, true, true, true, true, true, true, true, true] [2, 3, 6, 9, 11, 14] (by kernel_rfl) (by kernel_rfl) fun a hF => ?_
          refine any_done (by kernel_rfl) (fun w hE => ?_) _
          replace hO := hO.ext hE
          replace hF := hF.sel [2, 3, 6, 9, 11, 14]
          replace hF : Fr 155 [] [(2, .slice cp cn cc), (3, pv b1), (6, .bool false), (9, .slice p4 n5 c6), (11, .slice p8 n9 c10), (14, .slice p19 q20 c21)] a := hF
          refine W_seq ?_
          refine W_seq (region_q { sy := [5] } TBok hF (F' := [(2, .slice cp cn cc), (3, pv b1), (6, .bool false), (9, .slice p4 n5 c6), (11, .slice p8 n9 c10), (14, .slice p19 q20 c21), (124, .bool (cond (!(risF (cn : Int) (-1) (sureR s rs ((nf 0) % 25) ((nf 1) % s.hours) cs).1)) true (!(rallB s cs (sureR s rs ((nf 0) % 25) ((nf 1) % s.hours) cs).1 (canR s rs ((nf 0) % 25) ((nf 1) % s.hours)).1))))]) (rs := [.call 36 #[.slice p4 n5 c6, iv (cn : Int)] (.bool (risF (cn : Int) (-1) (sureR s rs ((nf 0) % 25) ((nf 1) % s.hours) cs).1)), .und (!(!(risF (cn : Int) (-1) (sureR s rs ((nf 0) % 25) ((nf 1) % s.hours) cs).1))) (.lds ⟨b1, 0, none⟩ (sL6 s v)), .und (!(!(risF (cn : Int) (-1) (sureR s rs ((nf 0) % 25) ((nf 1) % s.hours) cs).1))) (.call 43 #[.agg (sS6 s v), .slice cp cn cc, .slice p4 n5 c6, .slice p8 n9 c10] (.bool (rallB s cs (sureR s rs ((nf 0) % 25) ((nf 1) % s.hours) cs).1 (canR s rs ((nf 0) % 25) ((nf 1) % s.hours)).1)))]) [2, 3, 6, 9, 11, 14, 124] (.cons (fun w hE => Rising_calls (sureR s rs ((nf 0) % 25) ((nf 1) % s.hours) cs).1 p4 n5 c6 (cn : Int) w ((hO.st w hE).get 2 rfl) (by omega)) <| .cons (fun hg => (ldso hO.st 0 rfl 0 rfl)) <| .cons (fun hg => (fun w hE => meets_calls s v cs cp cn cc (sureR s rs ((nf 0) % 25) ((nf 1) % s.hours) cs).1 p4 n5 c6 (canR s rs ((nf 0) % 25) ((nf 1) % s.hours)).1 p8 n9 c10 w hv (hcs.upM (hO.st w hE).kp nom (Nat.le_refl _)) ((hO.st w hE).get 2 rfl) ((hO.st w hE).get 3 rfl) (fun i hi => by have h_ := ris_in (n := cn) (by first | exact memL_ris _ _ | exact hris) _ (getD_mem hi); omega) (fun i hi => by have h_ := hcs8.2.2 _ (getD_mem hi); omega) (fun i hi => can_mem her hask (getD_mem hi)))) <| .nil) (by kernel_rfl) fun a w hF hE => ?_)
          replace hO := hO.ext hE; clear hE
          rcases Bool.eq_false_or_eq_true (cond (!(risF (cn : Int) (-1) (sureR s rs ((nf 0) % 25) ((nf 1) % s.hours) cs).1)) true (!(rallB s cs (sureR s rs ((nf 0) % 25) ((nf 1) % s.hours) cs).1 (canR s rs ((nf 0) % 25) ((nf 1) % s.hours)).1))) with hc23 | hc23
          · refine (W_true ((evOp hF (by kernel_rfl)).trans (congrArg Value.bool hc23)) ?_)
            rw [hris, hral] at hc23; cases hc23
          · refine (W_false ((evOp hF (by kernel_rfl)).trans (congrArg Value.bool hc23)) ?_)
            refine (W_skip ?_)
            refine W_seq (region_q { sy := [7, 14, 20, 27] } TBok hF (F' := [(6, .bool (cond (cond (cond (!(rallB s cs (memL cn ((nf 2) % (2 ^ cn))) (canR s rs ((nf 0) % 25) ((nf 1) % s.hours)).1)) true (decide ((q20 : Int) > (n5 : Int)))) true (cond ((q20 : Int) == (n5 : Int)) (!(befL (memL cn ((nf 2) % (2 ^ cn))) (sureR s rs ((nf 0) % 25) ((nf 1) % s.hours) cs).1)) false)) true false))]) (rs := [.lds ⟨b1, 0, none⟩ (sL6 s v), .call 43 #[.agg (sS6 s v), .slice cp cn cc, .slice p19 q20 c21, .slice p8 n9 c10] (.bool (rallB s cs (memL cn ((nf 2) % (2 ^ cn))) (canR s rs ((nf 0) % 25) ((nf 1) % s.hours)).1)), .und ((!(cond (!(rallB s cs (memL cn ((nf 2) % (2 ^ cn))) (canR s rs ((nf 0) % 25) ((nf 1) % s.hours)).1)) true (decide ((q20 : Int) > (n5 : Int))))) && ((q20 : Int) == (n5 : Int))) (.call 37 #[.slice p19 q20 c21, .slice p4 n5 c6] (.bool (befL (memL cn ((nf 2) % (2 ^ cn))) (sureR s rs ((nf 0) % 25) ((nf 1) % s.hours) cs).1))), .und (cond (cond (!(rallB s cs (memL cn ((nf 2) % (2 ^ cn))) (canR s rs ((nf 0) % 25) ((nf 1) % s.hours)).1)) true (decide ((q20 : Int) > (n5 : Int)))) true (cond ((q20 : Int) == (n5 : Int)) (!(befL (memL cn ((nf 2) % (2 ^ cn))) (sureR s rs ((nf 0) % 25) ((nf 1) % s.hours) cs).1)) false)) (.call 23 #[] (.bool true))]) [6] (.cons (ldso hO.st 0 rfl 0 rfl) <| .cons (fun w hE => meets_calls s v cs cp cn cc (memL cn ((nf 2) % (2 ^ cn))) p19 q20 c21 (canR s rs ((nf 0) % 25) ((nf 1) % s.hours)).1 p8 n9 c10 w hv (hcs.upM (hO.st w hE).kp nom (Nat.le_refl _)) (rd_row (fun _ => rfl) (by decide) (hO.st w hE) 5 rfl (by have h1_ := memL_len cn ((2 ^ cn) - 1); have h2_ := memL_len cn ((nf 2) % (2 ^ cn)); omega)) ((hO.st w hE).get 3 rfl) (fun i hi => by have h_ := ris_in (n := cn) (by first | exact memL_ris _ _ | exact hris) _ (getD_mem hi); omega) (fun i hi => by have h_ := hcs8.2.2 _ (getD_mem hi); omega) (fun i hi => can_mem her hask (getD_mem hi))) <| .cons (fun hg => (fun w hE => Before_calls (memL cn ((nf 2) % (2 ^ cn))) (sureR s rs ((nf 0) % 25) ((nf 1) % s.hours) cs).1 p19 p4 q20 n5 c21 c6 w (rd_row (fun _ => rfl) (by decide) (hO.st w hE) 5 rfl (by have h1_ := memL_len cn ((2 ^ cn) - 1); have h2_ := memL_len cn ((nf 2) % (2 ^ cn)); omega)) ((hO.st w hE).get 2 rfl))) <| .cons (fun hg => (fun w _ => works_calls w)) <| .nil) (by kernel_rfl) fun a w hF hE => ?_)
            replace hO := hO.ext hE; clear hE
            refine W_ret ?_
            show bodyPostM (FW none) 0 _ _ _ Exit.ret a w
            have hX : (cond (cond (cond (!(rallB s cs (memL cn ((nf 2) % (2 ^ cn))) (canR s rs ((nf 0) % 25) ((nf 1) % s.hours)).1)) true (decide ((q20 : Int) > (n5 : Int)))) true (cond ((q20 : Int) == (n5 : Int)) (!(befL (memL cn ((nf 2) % (2 ^ cn))) (sureR s rs ((nf 0) % 25) ((nf 1) % s.hours) cs).1)) false)) true false) = true := found_law her hask hz (by assumption) hl4 (memL_ris _ _) (by assumption) (by assumption)
            exact leave_r TBok hF (.nil _) (vs := [.bool (cond (cond (cond (!(rallB s cs (memL cn ((nf 2) % (2 ^ cn))) (canR s rs ((nf 0) % 25) ((nf 1) % s.hours)).1)) true (decide ((q20 : Int) > (n5 : Int)))) true (cond ((q20 : Int) == (n5 : Int)) (!(befL (memL cn ((nf 2) % (2 ^ cn))) (sureR s rs ((nf 0) % 25) ((nf 1) % s.hours) cs).1)) false)) true false)]) (rs := []) .nil (by kernel_rfl) ⟨by rw [hX]; rfl, hO.kp⟩

end Go.Proofs.Ytgihgcclabodbaa.DK
