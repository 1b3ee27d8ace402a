/- The law GutHired, walked. Printed by my gen.py out of gut/aa.py. -/
import Derived.Test.YtioimdegbdkppaaLC
import Derived.Test.YtioimdegbdkppaaH15
import Derived.Test.YtioimdegbdkppaaKG
namespace Go.Proofs.Ytioimdegbdkppaa.DK
open Go Go.Proofs
set_option linter.unusedVariables false

theorem hired_early {e : Int} {n : Nat} (h : (cond (cond (e != 0) true false) true (decide ((n : Int) > 6))) = true) (h2 : e = 0 → n ≤ 6) : e ≠ 0 := by
  intro h0
  have h3 := h2 h0
  subst h0
  have h4 : decide ((n : Int) > 6) = true := h
  have := of_decide_eq_true h4
  omega
theorem hired_go {e : Int} {n : Nat} (h : (cond (cond (e != 0) true false) true (decide ((n : Int) > 6))) = false) : e = 0 ∧ n ≤ 6 := by
  by_cases he : e = 0
  · subst he
    have h4 : decide ((n : Int) > 6) = false := h
    have := of_decide_eq_false h4
    exact ⟨rfl, by omega⟩
  · have : (e != 0) = true := by simpa using he
    rw [this] at h; cases h
theorem cond_and {a b : Bool} (h : (cond a b false) = true) : a = true ∧ b = true := by cases a <;> simp_all
theorem hired_dead {k w n lost : Int} (h : (cond (cond (decide (k < w)) (n == lost) false) true (cond (k == w) (n != lost) false)) = true) (h1 : k < w → n ≠ lost) (h2 : k = w → n = lost) : False := by
  by_cases a : k < w
  · have b := h1 a
    have c : (n == lost) = false := by simpa using b
    have e : (k == w) = false := by rw [beq_eq_false_iff_ne]; omega
    rw [decide_eq_true a, c, e] at h; cases h
  · rw [decide_eq_false a] at h
    by_cases e : k = w
    · have b := h2 e
      have c : (n != lost) = false := by simpa using b
      rw [c] at h; cases hx : (k == w) <;> rw [hx] at h <;> cases h
    · have e : (k == w) = false := by simpa using e
      rw [e] at h; cases h
set_option maxHeartbeats 4000000 in
set_option maxRecDepth 100000 in
theorem GutHired_calls (d : Day) (v : DV) (l : List Wk) (lp : Option Addr) (ln lc : Nat) (w0 : World) (hd : DayR w0.heap.size w0 v d) (hls : Rd encWk 4 w0.heap.size w0 lp ln l) :
    Calls Try.prog 14 #[.agg #[.int .i64 d.hours, .slice v.ha v.hn v.hc, .slice v.la v.ln v.lc, .slice v.wa v.wn v.wc], .slice lp ln lc] w0 (fun e w' => e = .returned (.bool true) ∧ Ext w0 w') := by
  have hl1 := hd.heat.len; have hl2 := hd.lots.len; have hl3 := hd.wks.len; have hs1 := hd.heat.size; have hs2 := hd.lots.size; have hs3 := hd.wks.size; have hx1 := hls.len; have hx2 := hls.size
  refine calls_of_W Try.func14 rfl (by kernel_rfl) (args := [.agg #[.int .i64 d.hours, .slice v.ha v.hn v.hc, .slice v.la v.ln v.lc, .slice v.wa v.wn v.wc], .slice lp ln lc]) fun a hF => ?_
  replace hF : Fr 130 [] [(0, .agg #[.int .i64 d.hours, .slice v.ha v.hn v.hc, .slice v.la v.ln v.lc, .slice v.wa v.wn v.wc]), (1, .slice lp ln lc)] a := hF
  have hO : Own w0 none_ [] w0 := Own.start w0 _
  refine W_seq (region_seq ?_)
  refine op_box (i := 0) (t := 26) (v := .agg #[.int .i64 d.hours, .slice v.ha v.hn v.hc, .slice v.la v.ln v.lc, .slice v.wa v.wn v.wc]) (d := 2) hF hO (by kernel_rfl) fun a w b1 hF hO _ => ?_
  replace hO : Own w0 none_ [cel b1 #[.int .i64 d.hours, .slice v.ha v.hn v.hc, .slice v.la v.ln v.lc, .slice v.wa v.wn v.wc] 26] w := hO
  refine seq_quiet {} TBok hF (F' := [(1, .slice lp ln lc), (2, .pointer (some ⟨b1, 0, none⟩)), (4, .bool false)]) (rs := []) [1] [] [1, 2, 4] .nil (by kernel_rfl) fun a w hF hE => ?_
  replace hO := hO.ext hE; clear hE
  refine W_seq (region_q {} TBok hF (F' := [(1, .slice lp ln lc), (2, .pointer (some ⟨b1, 0, none⟩)), (4, .bool false), (5, .int .i64 ((gutHelp d l).1)), (6, .int .i64 ((gutHelp d l).2.1)), (7, .int .i64 ((gutHelp d l).2.2))]) (rs := [.lds ⟨b1, 0, none⟩ [.int .i64 d.hours, .slice v.ha v.hn v.hc, .slice v.la v.ln v.lc, .slice v.wa v.wn v.wc], .call 32 #[.agg #[.int .i64 d.hours, .slice v.ha v.hn v.hc, .slice v.la v.ln v.lc, .slice v.wa v.wn v.wc], .slice lp ln lc] (.tuple #[.int .i64 ((gutHelp d l).1), .int .i64 ((gutHelp d l).2.1), .int .i64 ((gutHelp d l).2.2)])]) [1, 2, 4, 5, 6, 7] (.cons (ldso hO.st 0 rfl 0 rfl) <| .cons (fun w hE => Help_calls d v l lp ln lc w (hd.upM (hO.st w hE).kp nom (Nat.le_refl _)) (hls.upM (hO.st w hE).kp nom (Nat.le_refl _))) <| .nil) (by kernel_rfl) fun a w hF hE => ?_)
  replace hO := hO.ext hE; clear hE
  refine W_seq ?_
  refine W_seq (region_q { sy := [2, 7] } TBok hF (F' := [(1, .slice lp ln lc), (2, .pointer (some ⟨b1, 0, none⟩)), (4, .bool false), (5, .int .i64 ((gutHelp d l).1)), (6, .int .i64 ((gutHelp d l).2.1)), (7, .int .i64 ((gutHelp d l).2.2)), (33, .bool (cond (cond ((gutHelp d l).2.2 != 0) true false) true (decide ((ln : Int) > 6))))]) (rs := [.und (!((gutHelp d l).2.2 != 0)) (.lds ⟨b1, 0, none⟩ [.int .i64 d.hours, .slice v.ha v.hn v.hc, .slice v.la v.ln v.lc, .slice v.wa v.wn v.wc]), .und (!((gutHelp d l).2.2 != 0)) (.call 34 #[.agg #[.int .i64 d.hours, .slice v.ha v.hn v.hc, .slice v.la v.ln v.lc, .slice v.wa v.wn v.wc]] (.bool true))]) [1, 2, 4, 5, 6, 7, 33] (.cons (fun hg => (ldso hO.st 0 rfl 0 rfl)) <| .cons (fun hg => (fun w hE => sound_calls d v w (hd.upM (hO.st w hE).kp nom (Nat.le_refl _)) (help_ok (d := d) (l := l) (by simpa using hg)).1)) <| .nil) (by kernel_rfl) fun a w hF hE => ?_)
  replace hO := hO.ext hE; clear hE
  rcases Bool.eq_false_or_eq_true (cond (cond ((gutHelp d l).2.2 != 0) true false) true (decide ((ln : Int) > 6))) with hc2 | hc2
  · refine (W_true ((evOp hF (by kernel_rfl)).trans (congrArg Value.bool hc2)) ?_)
    have hE := hired_early (by assumption : (cond (cond ((gutHelp d l).2.2 != 0) true false) true (decide ((ln : Int) > 6))) = true) (fun h0 => by have := helpOk_len (help_ok h0).2; omega)
    have hE1 : ((gutHelp d l).2.2 != 0) = true := by simpa using hE
    have hE2 : ((gutHelp d l).1 == 0) = true := by rw [(help_bad hE).1]; rfl
    have hE3 : ((gutHelp d l).2.1 == 0) = true := by rw [(help_bad hE).2]; rfl
    refine W_seq (region_q { md := [(1, 1), (4, 1), (8, 1)] } TBok hF (F' := [(1, .slice lp ln lc), (2, .pointer (some ⟨b1, 0, none⟩)), (4, .bool true), (5, .int .i64 ((gutHelp d l).1)), (6, .int .i64 ((gutHelp d l).2.1)), (7, .int .i64 ((gutHelp d l).2.2))]) (rs := [.dec ((gutHelp d l).2.2 != 0) true, .dec ((gutHelp d l).1 == 0) true, .dec ((gutHelp d l).2.1 == 0) true, .call 20 #[] (.bool true)]) [1, 2, 4, 5, 6, 7] (.cons hE1 <| .cons hE2 <| .cons hE3 <| .cons (fun w _ => works_calls w) <| .nil) (by kernel_rfl) fun a w hF hE => ?_)
    replace hO := hO.ext hE; clear hE
    refine W_ret ?_
    show bodyPostM (FW none) 0 _ _ _ Exit.ret a w
    exact leave_r TBok hF (.nil _) (vs := [.bool true]) (rs := []) .nil (by kernel_rfl) ⟨rfl, hO.kp⟩
  · refine (W_false ((evOp hF (by kernel_rfl)).trans (congrArg Value.bool hc2)) ?_)
    obtain ⟨hE0, hln6⟩ := hired_go (by assumption : (cond (cond ((gutHelp d l).2.2 != 0) true false) true (decide ((ln : Int) > 6))) = false)
    obtain ⟨hc0, ho⟩ := help_ok hE0
    have hvB := chk_okB (d := d) (by simp [hc0])
    have hv := dayB_V hvB
    have hv1 := day_ok hv
    have hhe := help_eq hc0 ho
    have hlo := helpOk_len ho
    have hks := helpK_spec (d := d) (l := l) l.length hlo.1 (Nat.le_refl _)
    rw [← hhe.1, ← hhe.2] at hks
    have hwl := helpOk_wk ho
    have hwle := helpN_le hvB (hwl (gutHelp d l).1.toNat (by omega)); have hwnn := helpN_nn hvB (hwl (gutHelp d l).1.toNat (by omega))
    rw [← hks.2.1] at hwle hwnn
    refine (W_skip ?_)
    refine W_seq ?_
    refine W_seq (region_q {} TBok hF (F' := [(1, .slice lp ln lc), (2, .pointer (some ⟨b1, 0, none⟩)), (4, .bool false), (5, .int .i64 ((gutHelp d l).1)), (6, .int .i64 ((gutHelp d l).2.1)), (7, .int .i64 ((gutHelp d l).2.2)), (52, .bool false)]) (rs := [.rng ((ln : Int) - 1), .call 36 #[.int .i64 ((gutHelp d l).1), .int .i64 0, .int .i64 ((ln : Int) - 1)] (.bool true)]) [1, 2, 4, 5, 6, 7, 52] (.cons (rg (by omega)) <| .cons (fun w hE => calls_castB (In_calls _ _ _ w) (inB_iff.2 (by omega))) <| .nil) (by kernel_rfl) fun a w hF hE => ?_)
    replace hO := hO.ext hE; clear hE
    refine (W_false (evOp hF (by kernel_rfl)) ?_)
    refine (W_skip ?_)
    refine W_seq ?_
    refine W_seq (region_q {} TBok hF (F' := [(1, .slice lp ln lc), (2, .pointer (some ⟨b1, 0, none⟩)), (4, .bool false), (5, .int .i64 ((gutHelp d l).1)), (6, .int .i64 ((gutHelp d l).2.1)), (7, .int .i64 ((gutHelp d l).2.2)), (8, .int .i64 0)]) (rs := []) [1, 2, 4, 5, 6, 7, 8] .nil (by kernel_rfl) fun a w hF hE => ?_)
    replace hO := hO.ext hE; clear hE
    refine (W_block ?_)
    replace hF := hF.sel [1, 2, 5, 6, 7, 8]
    refine (W_loop (fun m a w => ∃ (k : Nat), m = ln - k ∧ k ≤ ln ∧ Fr 130 [] [(1, .slice lp ln lc), (2, .pointer (some ⟨b1, 0, none⟩)), (5, .int .i64 ((gutHelp d l).1)), (6, .int .i64 ((gutHelp d l).2.1)), (7, .int .i64 ((gutHelp d l).2.2)), (8, .int .i64 (k : Int))] a ∧ Own w0 none_ [cel b1 #[.int .i64 d.hours, .slice v.ha v.hn v.hc, .slice v.la v.ln v.lc, .slice v.wa v.wn v.wc] 26] w) _ ⟨0, rfl, Nat.zero_le _, hF, hO⟩ ?_)
    clear hF hO
    rintro _ a w ⟨k, rfl, hk, hF, hO⟩
    refine W_seq ?_
    refine W_seq (region_q { sy := [4] } TBok hF (F' := [(1, .slice lp ln lc), (2, .pointer (some ⟨b1, 0, none⟩)), (5, .int .i64 ((gutHelp d l).1)), (6, .int .i64 ((gutHelp d l).2.1)), (7, .int .i64 ((gutHelp d l).2.2)), (8, .int .i64 (k : Int)), (62, .bool (cond (decide ((k : Int) < (ln : Int))) (decide ((v.wn : Int) < 6)) false))]) (rs := [.und (decide ((k : Int) < (ln : Int))) (.ld ⟨b1, 3, none⟩ (.slice v.wa v.wn v.wc))]) [1, 2, 5, 6, 7, 8, 62] (.cons (fun hg => (ldo hO.st 0 rfl 3 rfl)) <| .nil) (by kernel_rfl) fun a w hF hE => ?_)
    replace hO := hO.ext hE; clear hE
    rcases Bool.eq_false_or_eq_true (cond (decide ((k : Int) < (ln : Int))) (decide ((v.wn : Int) < 6)) false) with hc3 | hc3
    · refine (W_true ((evOp hF (by kernel_rfl)).trans (congrArg Value.bool hc3)) ?_)
      have hkc := cond_and (by assumption : (cond (decide ((k : Int) < (ln : Int))) (decide ((v.wn : Int) < 6)) false) = true)
      have hkn := of_decide_eq_true hkc.1; have hk6 := of_decide_eq_true hkc.2
      have hD := dayX_B hvB (hwl k (by omega)) (by omega)
      have hDc := chk_of hD
      have hbn := helpN_eq hDc
      have hge := hks.2.2.1 k (by omega)
      refine (W_skip ?_)
      refine W_seq (W_block ?_)
      refine W_seq (region_seq ?_)
      refine seq_quiet {} TBok hF (F' := [(1, .slice lp ln lc), (2, .pointer (some ⟨b1, 0, none⟩)), (5, .int .i64 ((gutHelp d l).1)), (6, .int .i64 ((gutHelp d l).2.1)), (7, .int .i64 ((gutHelp d l).2.2)), (8, .int .i64 (k : Int)), (65, .agg #[.int .i64 d.hours, .slice v.ha v.hn v.hc, .slice v.la v.ln v.lc, .slice v.wa v.wn v.wc])]) (rs := [.lds ⟨b1, 0, none⟩ [.int .i64 d.hours, .slice v.ha v.hn v.hc, .slice v.la v.ln v.lc, .slice v.wa v.wn v.wc]]) [0] [1, 2] [1, 2, 5, 6, 7, 8, 65] (.cons (ldso hO.st 0 rfl 0 rfl) <| .nil) (by kernel_rfl) fun a w hF hE => ?_
      replace hO := hO.ext hE; clear hE
      refine op_alloc (i := 1) (t := 26) (d := 9) (z := .agg #[.int .i64 0, .slice none 0 0, .slice none 0 0, .slice none 0 0]) hF hO (by kernel_rfl) (by kernel_rfl) fun a w b4 hF hO _ => ?_
      replace hO : Own w0 none_ [cel b1 #[.int .i64 d.hours, .slice v.ha v.hn v.hc, .slice v.la v.ln v.lc, .slice v.wa v.wn v.wc] 26, cel b4 #[.int .i64 0, .slice none 0 0, .slice none 0 0, .slice none 0 0] 26] w := hO
      refine op_store (i := 2) (t := 26) (p := ⟨b4, 0, none⟩) (v := .agg #[.int .i64 d.hours, .slice v.ha v.hn v.hc, .slice v.la v.ln v.lc, .slice v.wa v.wn v.wc]) (off := 0) (sz := 4) (cs' := #[.int .i64 d.hours, .slice v.ha v.hn v.hc, .slice v.la v.ln v.lc, .slice v.wa v.wn v.wc]) hF hO (by kernel_rfl) 1 rfl rfl (by kernel_rfl) (by kernel_rfl) (by kernel_rfl) fun a w hF hO _ => ?_
      replace hO : Own w0 none_ [cel b1 #[.int .i64 d.hours, .slice v.ha v.hn v.hc, .slice v.la v.ln v.lc, .slice v.wa v.wn v.wc] 26, cel b4 #[.int .i64 d.hours, .slice v.ha v.hn v.hc, .slice v.la v.ln v.lc, .slice v.wa v.wn v.wc] 26] w := hO
      replace hF := hF.sel [1, 2, 5, 6, 7, 8, 9]
      replace hF : Fr 130 [] [(1, .slice lp ln lc), (2, .pointer (some ⟨b1, 0, none⟩)), (5, .int .i64 ((gutHelp d l).1)), (6, .int .i64 ((gutHelp d l).2.1)), (7, .int .i64 ((gutHelp d l).2.2)), (8, .int .i64 (k : Int)), (9, .pointer (some ⟨b4, 0, none⟩))] a := hF
      refine W_seq (W_cut (fun a w => ∃ b5x : Nat, ∃ p6x : Option Addr, ∃ c7x : Nat, ∃ b9x : Nat, ∃ p10x : Option Addr, ∃ c11x : Nat, Fr 130 [] [(1, .slice lp ln lc), (2, .pointer (some ⟨b1, 0, none⟩)), (5, .int .i64 ((gutHelp d l).1)), (6, .int .i64 ((gutHelp d l).2.1)), (7, .int .i64 ((gutHelp d l).2.2)), (8, .int .i64 (k : Int)), (9, .pointer (some ⟨b4, 0, none⟩))] a ∧ Own w0 none_ [cel b1 #[.int .i64 d.hours, .slice v.ha v.hn v.hc, .slice v.la v.ln v.lc, .slice v.wa v.wn v.wc] 26, cel b4 #[.int .i64 d.hours, .slice v.ha v.hn v.hc, .slice v.la v.ln v.lc, .slice p10x (v.wn + 1) c11x] 26, rowR 61 4 (.slice p10x (v.wn + 1) c11x) (v.wn + 1) ((d.wks.flatMap encWk) ++ (#[.int .i64 ((l.getD k default).kd), .int .i64 ((l.getD k default).fr), .int .i64 ((l.getD k default).to), .int .i64 ((l.getD k default).rt)] : Array Value).toList), cel b9x #[.int .i64 ((l.getD k default).kd), .int .i64 ((l.getD k default).fr), .int .i64 ((l.getD k default).to), .int .i64 ((l.getD k default).rt)] 61] w) (draw_start (R := none_) mixed [11] 12 (by kernel_rfl) fun w hS => ?_) ?_)
      · replace hO := hO.ext hS
        refine draw_q {} TBok hF hS (F' := [(1, .slice lp ln lc), (2, .pointer (some ⟨b1, 0, none⟩)), (5, .int .i64 ((gutHelp d l).1)), (6, .int .i64 ((gutHelp d l).2.1)), (7, .int .i64 ((gutHelp d l).2.2)), (8, .int .i64 (k : Int)), (9, .pointer (some ⟨b4, 0, none⟩)), (68, .slice v.wa v.wn v.wc), (73, .agg #[.int .i64 ((l.getD k default).kd), .int .i64 ((l.getD k default).fr), .int .i64 ((l.getD k default).to), .int .i64 ((l.getD k default).rt)])]) (rs := [.ld ⟨b1, 3, none⟩ (.slice v.wa v.wn v.wc), .idx lp ln (k : Int) 4 (adr lp 4 (k : Int)), .lds (adr lp 4 (k : Int)) [.int .i64 ((l.getD k default).kd), .int .i64 ((l.getD k default).fr), .int .i64 ((l.getD k default).to), .int .i64 ((l.getD k default).rt)]]) [1, 2, 4, 5, 6, 7] 12 6 (by kernel_rfl) #[false, true, true, false, true, true, true, true, false, false, false, false] [1, 2, 5, 6, 7, 8, 9, 68, 73] (.cons (ldo hO.st 0 rfl 3 rfl) <| .cons (ix hls (by omega) (by omega)) <| .cons (ldsx hO.st nom hls (by omega) (by omega) rfl) <| .nil) (by kernel_rfl) (by kernel_rfl) fun a hF => ?_
        replace hS := Kp.refl none_ w
        refine any_pick (rs := [0, 8]) (by kernel_rfl) (by simp) fun w hE => all2 ?_ ?_
        · replace hO := hO.ext hE; replace hS := hS.trans (Ext.kp hE)
          refine op_bsl (i := 0) (t := 24) (e := 61) (len := 0) (ps := []) (d := 66) (sz := 4) (cs := #[]) (z := .agg #[.int .i64 0, .int .i64 0, .int .i64 0, .int .i64 0]) hF hO (by kernel_rfl) (by kernel_rfl) (by kernel_rfl) (by kernel_rfl) (by kernel_rfl) fun a w b105 hF hO hx => ⟨.inr (hS.trans (Ext.kp hx.1)), ?_⟩
          have hf_b105 := Nat.le_trans hS.size hx.2; replace hS := hS.trans (Ext.kp hx.1); clear hx
          replace hO : Own w0 none_ [cel b1 #[.int .i64 d.hours, .slice v.ha v.hn v.hc, .slice v.la v.ln v.lc, .slice v.wa v.wn v.wc] 26, cel b4 #[.int .i64 d.hours, .slice v.ha v.hn v.hc, .slice v.la v.ln v.lc, .slice v.wa v.wn v.wc] 26, cel b105 #[] 61] w := hO
          refine any_pick (rs := [3, 8]) (by kernel_rfl) (by simp) fun w hE => all2 ?_ ?_
          · replace hO := hO.ext hE; replace hS := hS.trans (Ext.kp hE)
            replace hO := hO.emptyRow 2 rfl 4
            replace hO : Own w0 none_ [cel b1 #[.int .i64 d.hours, .slice v.ha v.hn v.hc, .slice v.la v.ln v.lc, .slice v.wa v.wn v.wc] 26, cel b4 #[.int .i64 d.hours, .slice v.ha v.hn v.hc, .slice v.la v.ln v.lc, .slice v.wa v.wn v.wc] 26, rowR 61 4 (.slice (some ⟨b105, 0, none⟩) 0 0) 0 ([])] w := hO
            refine op_appX (i := 3) (t := 24) (ty := 24) (e := 61) (d := 69) (c2 := v.wc) (enc := encWk) (ys := d.wks) rowT24 (fun _ => rfl) (fun _ => rfl) hF hO (by kernel_rfl) ((hd.wks.upM hO.kp nom (Nat.le_refl _))) 2 rfl (by omega) fun a w p106 c107 hF hO hx => ⟨.inr (hS.freshR hx.1 (fun k hk => by simp only [rowR, Value.ownBlock, Option.some.injEq] at hk; subst hk; exact hf_b105)), ?_⟩
            have hfr_p106 := fun q hq => (hx.2 q hq).elim ((fun hk => by simp only [rowR, Value.ownBlock, Option.some.injEq] at hk; subst hk; exact hf_b105)) (Nat.le_trans hS.size)
            replace hS := hS.freshR hx.1 (fun k hk => by simp only [rowR, Value.ownBlock, Option.some.injEq] at hk; subst hk; exact hf_b105)
            clear hx
            replace hO : Own w0 none_ [cel b1 #[.int .i64 d.hours, .slice v.ha v.hn v.hc, .slice v.la v.ln v.lc, .slice v.wa v.wn v.wc] 26, cel b4 #[.int .i64 d.hours, .slice v.ha v.hn v.hc, .slice v.la v.ln v.lc, .slice v.wa v.wn v.wc] 26, rowR 61 4 (.slice p106 (0 + v.wn) c107) (0 + v.wn) ([] ++ (d.wks).flatMap encWk)] w := hO
            have hn108 : 0 + v.wn = v.wn := Nat.zero_add _
            rw [hn108] at hO hF
            rw [hn108] at hfr_p106
            clear hn108
            replace hO : Own w0 none_ [cel b1 #[.int .i64 d.hours, .slice v.ha v.hn v.hc, .slice v.la v.ln v.lc, .slice v.wa v.wn v.wc] 26, cel b4 #[.int .i64 d.hours, .slice v.ha v.hn v.hc, .slice v.la v.ln v.lc, .slice v.wa v.wn v.wc] 26, rowR 61 4 (.slice p106 v.wn c107) v.wn (d.wks.flatMap encWk)] w := hO
            refine any_pick (rs := [8]) (by kernel_rfl) (by simp) fun w hE => all1 ?_
            replace hO := hO.ext hE; replace hS := hS.trans (Ext.kp hE)
            refine op_bsl (i := 8) (t := 24) (e := 61) (len := 1) (ps := [(0, .agg #[.int .i64 ((l.getD k default).kd), .int .i64 ((l.getD k default).fr), .int .i64 ((l.getD k default).to), .int .i64 ((l.getD k default).rt)])]) (d := 74) (sz := 4) (cs := #[.int .i64 ((l.getD k default).kd), .int .i64 ((l.getD k default).fr), .int .i64 ((l.getD k default).to), .int .i64 ((l.getD k default).rt)]) (z := .agg #[.int .i64 0, .int .i64 0, .int .i64 0, .int .i64 0]) hF hO (by kernel_rfl) (by kernel_rfl) (by kernel_rfl) (by kernel_rfl) (by kernel_rfl) fun a w b109 hF hO hx => ⟨.inr (hS.trans (Ext.kp hx.1)), ?_⟩
            have hf_b109 := Nat.le_trans hS.size hx.2; replace hS := hS.trans (Ext.kp hx.1); clear hx
            replace hO : Own w0 none_ [cel b1 #[.int .i64 d.hours, .slice v.ha v.hn v.hc, .slice v.la v.ln v.lc, .slice v.wa v.wn v.wc] 26, cel b4 #[.int .i64 d.hours, .slice v.ha v.hn v.hc, .slice v.la v.ln v.lc, .slice v.wa v.wn v.wc] 26, rowR 61 4 (.slice p106 v.wn c107) v.wn (d.wks.flatMap encWk), cel b109 #[.int .i64 ((l.getD k default).kd), .int .i64 ((l.getD k default).fr), .int .i64 ((l.getD k default).to), .int .i64 ((l.getD k default).rt)] 61] w := hO
            refine any_pick (rs := [9]) (by kernel_rfl) (by simp) fun w hE => all1 ?_
            replace hO := hO.ext hE; replace hS := hS.trans (Ext.kp hE)
            refine op_appR (i := 9) (t := 24) (ty := 24) (e := 61) (d := 75) rowT24 hF hO (by kernel_rfl) 2 rfl 3 rfl (by kernel_rfl) (by omega) fun a w p110 c111 hF hO hx => ⟨.inr (hS.freshR hx hfr_p106), ?_⟩
            replace hS := hS.freshR hx hfr_p106
            clear hx
            replace hO : Own w0 none_ [cel b1 #[.int .i64 d.hours, .slice v.ha v.hn v.hc, .slice v.la v.ln v.lc, .slice v.wa v.wn v.wc] 26, cel b4 #[.int .i64 d.hours, .slice v.ha v.hn v.hc, .slice v.la v.ln v.lc, .slice v.wa v.wn v.wc] 26, rowR 61 4 (.slice p110 (v.wn + 1) c111) (v.wn + 1) ((d.wks.flatMap encWk) ++ (#[.int .i64 ((l.getD k default).kd), .int .i64 ((l.getD k default).fr), .int .i64 ((l.getD k default).to), .int .i64 ((l.getD k default).rt)] : Array Value).toList), cel b109 #[.int .i64 ((l.getD k default).kd), .int .i64 ((l.getD k default).fr), .int .i64 ((l.getD k default).to), .int .i64 ((l.getD k default).rt)] 61] w := hO
            refine draw_q0 {} TBok hF hS (F' := [(1, .slice lp ln lc), (2, .pointer (some ⟨b1, 0, none⟩)), (5, .int .i64 ((gutHelp d l).1)), (6, .int .i64 ((gutHelp d l).2.1)), (7, .int .i64 ((gutHelp d l).2.2)), (8, .int .i64 (k : Int)), (9, .pointer (some ⟨b4, 0, none⟩)), (75, .slice p110 (v.wn + 1) c111), (76, .pointer (some ⟨b4, 3, none⟩))]) [10] 2 1 (by kernel_rfl) #[true, true, true, true, true, true, true, true, true, true, true, false] [1, 2, 5, 6, 7, 8, 9, 75, 76] (by kernel_rfl) (by kernel_rfl) fun a hF => ?_
            refine any_pick (rs := [11]) (by kernel_rfl) (by simp) fun w hE => all1 ?_
            replace hO := hO.ext hE; replace hS := hS.trans (Ext.kp hE)
            refine op_store (i := 11) (t := 24) (p := ⟨b4, 3, none⟩) (v := .slice p110 (v.wn + 1) c111) (off := 3) (sz := 1) (cs' := #[.int .i64 d.hours, .slice v.ha v.hn v.hc, .slice v.la v.ln v.lc, .slice p110 (v.wn + 1) c111]) hF hO (by kernel_rfl) 1 rfl rfl (by kernel_rfl) (by kernel_rfl) (by kernel_rfl) fun a w hF hO _ => ⟨.inl rfl, ?_⟩
            replace hO : Own w0 none_ [cel b1 #[.int .i64 d.hours, .slice v.ha v.hn v.hc, .slice v.la v.ln v.lc, .slice v.wa v.wn v.wc] 26, cel b4 #[.int .i64 d.hours, .slice v.ha v.hn v.hc, .slice v.la v.ln v.lc, .slice p110 (v.wn + 1) c111] 26, rowR 61 4 (.slice p110 (v.wn + 1) c111) (v.wn + 1) ((d.wks.flatMap encWk) ++ (#[.int .i64 ((l.getD k default).kd), .int .i64 ((l.getD k default).fr), .int .i64 ((l.getD k default).to), .int .i64 ((l.getD k default).rt)] : Array Value).toList), cel b109 #[.int .i64 ((l.getD k default).kd), .int .i64 ((l.getD k default).fr), .int .i64 ((l.getD k default).to), .int .i64 ((l.getD k default).rt)] 61] w := hO
            refine any_done (by kernel_rfl) (fun w hE => ?_) _
            replace hO := hO.ext hE
            replace hF := hF.sel [1, 2, 5, 6, 7, 8, 9]
            replace hF : Fr 130 [] [(1, .slice lp ln lc), (2, .pointer (some ⟨b1, 0, none⟩)), (5, .int .i64 ((gutHelp d l).1)), (6, .int .i64 ((gutHelp d l).2.1)), (7, .int .i64 ((gutHelp d l).2.2)), (8, .int .i64 (k : Int)), (9, .pointer (some ⟨b4, 0, none⟩))] a := hF
            exact ⟨rfl, b105, p106, c107, b109, p110, c111, hF, hO.sel [0, 1, 2, 3] (by decide)⟩
          · replace hO := hO.ext hE; replace hS := hS.trans (Ext.kp hE)
            refine op_bsl (i := 8) (t := 24) (e := 61) (len := 1) (ps := [(0, .agg #[.int .i64 ((l.getD k default).kd), .int .i64 ((l.getD k default).fr), .int .i64 ((l.getD k default).to), .int .i64 ((l.getD k default).rt)])]) (d := 74) (sz := 4) (cs := #[.int .i64 ((l.getD k default).kd), .int .i64 ((l.getD k default).fr), .int .i64 ((l.getD k default).to), .int .i64 ((l.getD k default).rt)]) (z := .agg #[.int .i64 0, .int .i64 0, .int .i64 0, .int .i64 0]) hF hO (by kernel_rfl) (by kernel_rfl) (by kernel_rfl) (by kernel_rfl) (by kernel_rfl) fun a w b112 hF hO hx => ⟨.inr (hS.trans (Ext.kp hx.1)), ?_⟩
            have hf_b112 := Nat.le_trans hS.size hx.2; replace hS := hS.trans (Ext.kp hx.1); clear hx
            replace hO : Own w0 none_ [cel b1 #[.int .i64 d.hours, .slice v.ha v.hn v.hc, .slice v.la v.ln v.lc, .slice v.wa v.wn v.wc] 26, cel b4 #[.int .i64 d.hours, .slice v.ha v.hn v.hc, .slice v.la v.ln v.lc, .slice v.wa v.wn v.wc] 26, cel b105 #[] 61, cel b112 #[.int .i64 ((l.getD k default).kd), .int .i64 ((l.getD k default).fr), .int .i64 ((l.getD k default).to), .int .i64 ((l.getD k default).rt)] 61] w := hO
            refine any_pick (rs := [3]) (by kernel_rfl) (by simp) fun w hE => all1 ?_
            replace hO := hO.ext hE; replace hS := hS.trans (Ext.kp hE)
            replace hO := hO.emptyRow 2 rfl 4
            replace hO : Own w0 none_ [cel b1 #[.int .i64 d.hours, .slice v.ha v.hn v.hc, .slice v.la v.ln v.lc, .slice v.wa v.wn v.wc] 26, cel b4 #[.int .i64 d.hours, .slice v.ha v.hn v.hc, .slice v.la v.ln v.lc, .slice v.wa v.wn v.wc] 26, rowR 61 4 (.slice (some ⟨b105, 0, none⟩) 0 0) 0 ([]), cel b112 #[.int .i64 ((l.getD k default).kd), .int .i64 ((l.getD k default).fr), .int .i64 ((l.getD k default).to), .int .i64 ((l.getD k default).rt)] 61] w := hO
            refine op_appX (i := 3) (t := 24) (ty := 24) (e := 61) (d := 69) (c2 := v.wc) (enc := encWk) (ys := d.wks) rowT24 (fun _ => rfl) (fun _ => rfl) hF hO (by kernel_rfl) ((hd.wks.upM hO.kp nom (Nat.le_refl _))) 2 rfl (by omega) fun a w p113 c114 hF hO hx => ⟨.inr (hS.freshR hx.1 (fun k hk => by simp only [rowR, Value.ownBlock, Option.some.injEq] at hk; subst hk; exact hf_b105)), ?_⟩
            have hfr_p113 := fun q hq => (hx.2 q hq).elim ((fun hk => by simp only [rowR, Value.ownBlock, Option.some.injEq] at hk; subst hk; exact hf_b105)) (Nat.le_trans hS.size)
            replace hS := hS.freshR hx.1 (fun k hk => by simp only [rowR, Value.ownBlock, Option.some.injEq] at hk; subst hk; exact hf_b105)
            clear hx
            replace hO : Own w0 none_ [cel b1 #[.int .i64 d.hours, .slice v.ha v.hn v.hc, .slice v.la v.ln v.lc, .slice v.wa v.wn v.wc] 26, cel b4 #[.int .i64 d.hours, .slice v.ha v.hn v.hc, .slice v.la v.ln v.lc, .slice v.wa v.wn v.wc] 26, rowR 61 4 (.slice p113 (0 + v.wn) c114) (0 + v.wn) ([] ++ (d.wks).flatMap encWk), cel b112 #[.int .i64 ((l.getD k default).kd), .int .i64 ((l.getD k default).fr), .int .i64 ((l.getD k default).to), .int .i64 ((l.getD k default).rt)] 61] w := hO
            have hn115 : 0 + v.wn = v.wn := Nat.zero_add _
            rw [hn115] at hO hF
            rw [hn115] at hfr_p113
            clear hn115
            replace hO : Own w0 none_ [cel b1 #[.int .i64 d.hours, .slice v.ha v.hn v.hc, .slice v.la v.ln v.lc, .slice v.wa v.wn v.wc] 26, cel b4 #[.int .i64 d.hours, .slice v.ha v.hn v.hc, .slice v.la v.ln v.lc, .slice v.wa v.wn v.wc] 26, rowR 61 4 (.slice p113 v.wn c114) v.wn (d.wks.flatMap encWk), cel b112 #[.int .i64 ((l.getD k default).kd), .int .i64 ((l.getD k default).fr), .int .i64 ((l.getD k default).to), .int .i64 ((l.getD k default).rt)] 61] w := hO
            refine any_pick (rs := [9]) (by kernel_rfl) (by simp) fun w hE => all1 ?_
            replace hO := hO.ext hE; replace hS := hS.trans (Ext.kp hE)
            refine op_appR (i := 9) (t := 24) (ty := 24) (e := 61) (d := 75) rowT24 hF hO (by kernel_rfl) 2 rfl 3 rfl (by kernel_rfl) (by omega) fun a w p116 c117 hF hO hx => ⟨.inr (hS.freshR hx hfr_p113), ?_⟩
            replace hS := hS.freshR hx hfr_p113
            clear hx
            replace hO : Own w0 none_ [cel b1 #[.int .i64 d.hours, .slice v.ha v.hn v.hc, .slice v.la v.ln v.lc, .slice v.wa v.wn v.wc] 26, cel b4 #[.int .i64 d.hours, .slice v.ha v.hn v.hc, .slice v.la v.ln v.lc, .slice v.wa v.wn v.wc] 26, rowR 61 4 (.slice p116 (v.wn + 1) c117) (v.wn + 1) ((d.wks.flatMap encWk) ++ (#[.int .i64 ((l.getD k default).kd), .int .i64 ((l.getD k default).fr), .int .i64 ((l.getD k default).to), .int .i64 ((l.getD k default).rt)] : Array Value).toList), cel b112 #[.int .i64 ((l.getD k default).kd), .int .i64 ((l.getD k default).fr), .int .i64 ((l.getD k default).to), .int .i64 ((l.getD k default).rt)] 61] w := hO
            refine draw_q0 {} TBok hF hS (F' := [(1, .slice lp ln lc), (2, .pointer (some ⟨b1, 0, none⟩)), (5, .int .i64 ((gutHelp d l).1)), (6, .int .i64 ((gutHelp d l).2.1)), (7, .int .i64 ((gutHelp d l).2.2)), (8, .int .i64 (k : Int)), (9, .pointer (some ⟨b4, 0, none⟩)), (75, .slice p116 (v.wn + 1) c117), (76, .pointer (some ⟨b4, 3, none⟩))]) [10] 2 1 (by kernel_rfl) #[true, true, true, true, true, true, true, true, true, true, true, false] [1, 2, 5, 6, 7, 8, 9, 75, 76] (by kernel_rfl) (by kernel_rfl) fun a hF => ?_
            refine any_pick (rs := [11]) (by kernel_rfl) (by simp) fun w hE => all1 ?_
            replace hO := hO.ext hE; replace hS := hS.trans (Ext.kp hE)
            refine op_store (i := 11) (t := 24) (p := ⟨b4, 3, none⟩) (v := .slice p116 (v.wn + 1) c117) (off := 3) (sz := 1) (cs' := #[.int .i64 d.hours, .slice v.ha v.hn v.hc, .slice v.la v.ln v.lc, .slice p116 (v.wn + 1) c117]) hF hO (by kernel_rfl) 1 rfl rfl (by kernel_rfl) (by kernel_rfl) (by kernel_rfl) fun a w hF hO _ => ⟨.inl rfl, ?_⟩
            replace hO : Own w0 none_ [cel b1 #[.int .i64 d.hours, .slice v.ha v.hn v.hc, .slice v.la v.ln v.lc, .slice v.wa v.wn v.wc] 26, cel b4 #[.int .i64 d.hours, .slice v.ha v.hn v.hc, .slice v.la v.ln v.lc, .slice p116 (v.wn + 1) c117] 26, rowR 61 4 (.slice p116 (v.wn + 1) c117) (v.wn + 1) ((d.wks.flatMap encWk) ++ (#[.int .i64 ((l.getD k default).kd), .int .i64 ((l.getD k default).fr), .int .i64 ((l.getD k default).to), .int .i64 ((l.getD k default).rt)] : Array Value).toList), cel b112 #[.int .i64 ((l.getD k default).kd), .int .i64 ((l.getD k default).fr), .int .i64 ((l.getD k default).to), .int .i64 ((l.getD k default).rt)] 61] w := hO
            refine any_done (by kernel_rfl) (fun w hE => ?_) _
            replace hO := hO.ext hE
            replace hF := hF.sel [1, 2, 5, 6, 7, 8, 9]
            replace hF : Fr 130 [] [(1, .slice lp ln lc), (2, .pointer (some ⟨b1, 0, none⟩)), (5, .int .i64 ((gutHelp d l).1)), (6, .int .i64 ((gutHelp d l).2.1)), (7, .int .i64 ((gutHelp d l).2.2)), (8, .int .i64 (k : Int)), (9, .pointer (some ⟨b4, 0, none⟩))] a := hF
            exact ⟨rfl, b105, p113, c114, b112, p116, c117, hF, hO.sel [0, 1, 2, 3] (by decide)⟩
        · replace hO := hO.ext hE; replace hS := hS.trans (Ext.kp hE)
          refine op_bsl (i := 8) (t := 24) (e := 61) (len := 1) (ps := [(0, .agg #[.int .i64 ((l.getD k default).kd), .int .i64 ((l.getD k default).fr), .int .i64 ((l.getD k default).to), .int .i64 ((l.getD k default).rt)])]) (d := 74) (sz := 4) (cs := #[.int .i64 ((l.getD k default).kd), .int .i64 ((l.getD k default).fr), .int .i64 ((l.getD k default).to), .int .i64 ((l.getD k default).rt)]) (z := .agg #[.int .i64 0, .int .i64 0, .int .i64 0, .int .i64 0]) hF hO (by kernel_rfl) (by kernel_rfl) (by kernel_rfl) (by kernel_rfl) (by kernel_rfl) fun a w b118 hF hO hx => ⟨.inr (hS.trans (Ext.kp hx.1)), ?_⟩
          have hf_b118 := Nat.le_trans hS.size hx.2; replace hS := hS.trans (Ext.kp hx.1); clear hx
          replace hO : Own w0 none_ [cel b1 #[.int .i64 d.hours, .slice v.ha v.hn v.hc, .slice v.la v.ln v.lc, .slice v.wa v.wn v.wc] 26, cel b4 #[.int .i64 d.hours, .slice v.ha v.hn v.hc, .slice v.la v.ln v.lc, .slice v.wa v.wn v.wc] 26, cel b118 #[.int .i64 ((l.getD k default).kd), .int .i64 ((l.getD k default).fr), .int .i64 ((l.getD k default).to), .int .i64 ((l.getD k default).rt)] 61] w := hO
          refine any_pick (rs := [0]) (by kernel_rfl) (by simp) fun w hE => all1 ?_
          replace hO := hO.ext hE; replace hS := hS.trans (Ext.kp hE)
          refine op_bsl (i := 0) (t := 24) (e := 61) (len := 0) (ps := []) (d := 66) (sz := 4) (cs := #[]) (z := .agg #[.int .i64 0, .int .i64 0, .int .i64 0, .int .i64 0]) hF hO (by kernel_rfl) (by kernel_rfl) (by kernel_rfl) (by kernel_rfl) (by kernel_rfl) fun a w b119 hF hO hx => ⟨.inr (hS.trans (Ext.kp hx.1)), ?_⟩
          have hf_b119 := Nat.le_trans hS.size hx.2; replace hS := hS.trans (Ext.kp hx.1); clear hx
          replace hO : Own w0 none_ [cel b1 #[.int .i64 d.hours, .slice v.ha v.hn v.hc, .slice v.la v.ln v.lc, .slice v.wa v.wn v.wc] 26, cel b4 #[.int .i64 d.hours, .slice v.ha v.hn v.hc, .slice v.la v.ln v.lc, .slice v.wa v.wn v.wc] 26, cel b118 #[.int .i64 ((l.getD k default).kd), .int .i64 ((l.getD k default).fr), .int .i64 ((l.getD k default).to), .int .i64 ((l.getD k default).rt)] 61, cel b119 #[] 61] w := hO
          refine any_pick (rs := [3]) (by kernel_rfl) (by simp) fun w hE => all1 ?_
          replace hO := hO.ext hE; replace hS := hS.trans (Ext.kp hE)
          replace hO := hO.emptyRow 3 rfl 4
          replace hO : Own w0 none_ [cel b1 #[.int .i64 d.hours, .slice v.ha v.hn v.hc, .slice v.la v.ln v.lc, .slice v.wa v.wn v.wc] 26, cel b4 #[.int .i64 d.hours, .slice v.ha v.hn v.hc, .slice v.la v.ln v.lc, .slice v.wa v.wn v.wc] 26, cel b118 #[.int .i64 ((l.getD k default).kd), .int .i64 ((l.getD k default).fr), .int .i64 ((l.getD k default).to), .int .i64 ((l.getD k default).rt)] 61, rowR 61 4 (.slice (some ⟨b119, 0, none⟩) 0 0) 0 ([])] w := hO
          refine op_appX (i := 3) (t := 24) (ty := 24) (e := 61) (d := 69) (c2 := v.wc) (enc := encWk) (ys := d.wks) rowT24 (fun _ => rfl) (fun _ => rfl) hF hO (by kernel_rfl) ((hd.wks.upM hO.kp nom (Nat.le_refl _))) 3 rfl (by omega) fun a w p120 c121 hF hO hx => ⟨.inr (hS.freshR hx.1 (fun k hk => by simp only [rowR, Value.ownBlock, Option.some.injEq] at hk; subst hk; exact hf_b119)), ?_⟩
          have hfr_p120 := fun q hq => (hx.2 q hq).elim ((fun hk => by simp only [rowR, Value.ownBlock, Option.some.injEq] at hk; subst hk; exact hf_b119)) (Nat.le_trans hS.size)
          replace hS := hS.freshR hx.1 (fun k hk => by simp only [rowR, Value.ownBlock, Option.some.injEq] at hk; subst hk; exact hf_b119)
          clear hx
          replace hO : Own w0 none_ [cel b1 #[.int .i64 d.hours, .slice v.ha v.hn v.hc, .slice v.la v.ln v.lc, .slice v.wa v.wn v.wc] 26, cel b4 #[.int .i64 d.hours, .slice v.ha v.hn v.hc, .slice v.la v.ln v.lc, .slice v.wa v.wn v.wc] 26, cel b118 #[.int .i64 ((l.getD k default).kd), .int .i64 ((l.getD k default).fr), .int .i64 ((l.getD k default).to), .int .i64 ((l.getD k default).rt)] 61, rowR 61 4 (.slice p120 (0 + v.wn) c121) (0 + v.wn) ([] ++ (d.wks).flatMap encWk)] w := hO
          have hn122 : 0 + v.wn = v.wn := Nat.zero_add _
          rw [hn122] at hO hF
          rw [hn122] at hfr_p120
          clear hn122
          replace hO : Own w0 none_ [cel b1 #[.int .i64 d.hours, .slice v.ha v.hn v.hc, .slice v.la v.ln v.lc, .slice v.wa v.wn v.wc] 26, cel b4 #[.int .i64 d.hours, .slice v.ha v.hn v.hc, .slice v.la v.ln v.lc, .slice v.wa v.wn v.wc] 26, cel b118 #[.int .i64 ((l.getD k default).kd), .int .i64 ((l.getD k default).fr), .int .i64 ((l.getD k default).to), .int .i64 ((l.getD k default).rt)] 61, rowR 61 4 (.slice p120 v.wn c121) v.wn (d.wks.flatMap encWk)] w := hO
          refine any_pick (rs := [9]) (by kernel_rfl) (by simp) fun w hE => all1 ?_
          replace hO := hO.ext hE; replace hS := hS.trans (Ext.kp hE)
          refine op_appR (i := 9) (t := 24) (ty := 24) (e := 61) (d := 75) rowT24 hF hO (by kernel_rfl) 3 rfl 2 rfl (by kernel_rfl) (by omega) fun a w p123 c124 hF hO hx => ⟨.inr (hS.freshR hx hfr_p120), ?_⟩
          replace hS := hS.freshR hx hfr_p120
          clear hx
          replace hO : Own w0 none_ [cel b1 #[.int .i64 d.hours, .slice v.ha v.hn v.hc, .slice v.la v.ln v.lc, .slice v.wa v.wn v.wc] 26, cel b4 #[.int .i64 d.hours, .slice v.ha v.hn v.hc, .slice v.la v.ln v.lc, .slice v.wa v.wn v.wc] 26, cel b118 #[.int .i64 ((l.getD k default).kd), .int .i64 ((l.getD k default).fr), .int .i64 ((l.getD k default).to), .int .i64 ((l.getD k default).rt)] 61, rowR 61 4 (.slice p123 (v.wn + 1) c124) (v.wn + 1) ((d.wks.flatMap encWk) ++ (#[.int .i64 ((l.getD k default).kd), .int .i64 ((l.getD k default).fr), .int .i64 ((l.getD k default).to), .int .i64 ((l.getD k default).rt)] : Array Value).toList)] w := hO
          refine draw_q0 {} TBok hF hS (F' := [(1, .slice lp ln lc), (2, .pointer (some ⟨b1, 0, none⟩)), (5, .int .i64 ((gutHelp d l).1)), (6, .int .i64 ((gutHelp d l).2.1)), (7, .int .i64 ((gutHelp d l).2.2)), (8, .int .i64 (k : Int)), (9, .pointer (some ⟨b4, 0, none⟩)), (75, .slice p123 (v.wn + 1) c124), (76, .pointer (some ⟨b4, 3, none⟩))]) [10] 2 1 (by kernel_rfl) #[true, true, true, true, true, true, true, true, true, true, true, false] [1, 2, 5, 6, 7, 8, 9, 75, 76] (by kernel_rfl) (by kernel_rfl) fun a hF => ?_
          refine any_pick (rs := [11]) (by kernel_rfl) (by simp) fun w hE => all1 ?_
          replace hO := hO.ext hE; replace hS := hS.trans (Ext.kp hE)
          refine op_store (i := 11) (t := 24) (p := ⟨b4, 3, none⟩) (v := .slice p123 (v.wn + 1) c124) (off := 3) (sz := 1) (cs' := #[.int .i64 d.hours, .slice v.ha v.hn v.hc, .slice v.la v.ln v.lc, .slice p123 (v.wn + 1) c124]) hF hO (by kernel_rfl) 1 rfl rfl (by kernel_rfl) (by kernel_rfl) (by kernel_rfl) fun a w hF hO _ => ⟨.inl rfl, ?_⟩
          replace hO : Own w0 none_ [cel b1 #[.int .i64 d.hours, .slice v.ha v.hn v.hc, .slice v.la v.ln v.lc, .slice v.wa v.wn v.wc] 26, cel b4 #[.int .i64 d.hours, .slice v.ha v.hn v.hc, .slice v.la v.ln v.lc, .slice p123 (v.wn + 1) c124] 26, cel b118 #[.int .i64 ((l.getD k default).kd), .int .i64 ((l.getD k default).fr), .int .i64 ((l.getD k default).to), .int .i64 ((l.getD k default).rt)] 61, rowR 61 4 (.slice p123 (v.wn + 1) c124) (v.wn + 1) ((d.wks.flatMap encWk) ++ (#[.int .i64 ((l.getD k default).kd), .int .i64 ((l.getD k default).fr), .int .i64 ((l.getD k default).to), .int .i64 ((l.getD k default).rt)] : Array Value).toList)] w := hO
          refine any_done (by kernel_rfl) (fun w hE => ?_) _
          replace hO := hO.ext hE
          replace hF := hF.sel [1, 2, 5, 6, 7, 8, 9]
          replace hF : Fr 130 [] [(1, .slice lp ln lc), (2, .pointer (some ⟨b1, 0, none⟩)), (5, .int .i64 ((gutHelp d l).1)), (6, .int .i64 ((gutHelp d l).2.1)), (7, .int .i64 ((gutHelp d l).2.2)), (8, .int .i64 (k : Int)), (9, .pointer (some ⟨b4, 0, none⟩))] a := hF
          exact ⟨rfl, b119, p120, c121, b118, p123, c124, hF, hO.sel [0, 1, 3, 2] (by decide)⟩
      clear hF hO
      rintro a w ⟨b5x, p6x, c7x, b9x, p10x, c11x, hF, hO⟩
      replace hO : Own w0 none_ [cel b1 #[.int .i64 d.hours, .slice v.ha v.hn v.hc, .slice v.la v.ln v.lc, .slice v.wa v.wn v.wc] 26, cel b4 #[.int .i64 d.hours, .slice v.ha v.hn v.hc, .slice v.la v.ln v.lc, .slice p10x (v.wn + 1) c11x] 26, rowR 61 4 (.slice p10x (v.wn + 1) c11x) (v.wn + 1) ((d.wks ++ [(l.getD k default)]).flatMap encWk), cel b9x #[.int .i64 ((l.getD k default).kd), .int .i64 ((l.getD k default).fr), .int .i64 ((l.getD k default).to), .int .i64 ((l.getD k default).rt)] 61] w := hO.cast (by rw [List.flatMap_append]; rfl)
      replace hO : Own w0 none_ [cel b1 #[.int .i64 d.hours, .slice v.ha v.hn v.hc, .slice v.la v.ln v.lc, .slice v.wa v.wn v.wc] 26, cel b4 #[.int .i64 ((dayX d (d.wks ++ [(l.getD k default)])).hours), .slice ((dvX v p10x (v.wn + 1) c11x).ha) ((dvX v p10x (v.wn + 1) c11x).hn) ((dvX v p10x (v.wn + 1) c11x).hc), .slice ((dvX v p10x (v.wn + 1) c11x).la) ((dvX v p10x (v.wn + 1) c11x).ln) ((dvX v p10x (v.wn + 1) c11x).lc), .slice ((dvX v p10x (v.wn + 1) c11x).wa) ((dvX v p10x (v.wn + 1) c11x).wn) ((dvX v p10x (v.wn + 1) c11x).wc)] 26, rowR 61 4 (.slice p10x (v.wn + 1) c11x) (v.wn + 1) ((d.wks ++ [(l.getD k default)]).flatMap encWk), cel b9x #[.int .i64 ((l.getD k default).kd), .int .i64 ((l.getD k default).fr), .int .i64 ((l.getD k default).to), .int .i64 ((l.getD k default).rt)] 61] w := hO.cast rfl
      refine W_seq (region_seq ?_)
      refine seq_quiet {} TBok hF (F' := [(1, .slice lp ln lc), (2, .pointer (some ⟨b1, 0, none⟩)), (5, .int .i64 ((gutHelp d l).1)), (6, .int .i64 ((gutHelp d l).2.1)), (7, .int .i64 ((gutHelp d l).2.2)), (8, .int .i64 (k : Int)), (78, .agg #[.int .i64 ((dayX d (d.wks ++ [(l.getD k default)])).hours), .slice ((dvX v p10x (v.wn + 1) c11x).ha) ((dvX v p10x (v.wn + 1) c11x).hn) ((dvX v p10x (v.wn + 1) c11x).hc), .slice ((dvX v p10x (v.wn + 1) c11x).la) ((dvX v p10x (v.wn + 1) c11x).ln) ((dvX v p10x (v.wn + 1) c11x).lc), .slice ((dvX v p10x (v.wn + 1) c11x).wa) ((dvX v p10x (v.wn + 1) c11x).wn) ((dvX v p10x (v.wn + 1) c11x).wc)])]) (rs := [.lds ⟨b4, 0, none⟩ [.int .i64 ((dayX d (d.wks ++ [(l.getD k default)])).hours), .slice ((dvX v p10x (v.wn + 1) c11x).ha) ((dvX v p10x (v.wn + 1) c11x).hn) ((dvX v p10x (v.wn + 1) c11x).hc), .slice ((dvX v p10x (v.wn + 1) c11x).la) ((dvX v p10x (v.wn + 1) c11x).ln) ((dvX v p10x (v.wn + 1) c11x).lc), .slice ((dvX v p10x (v.wn + 1) c11x).wa) ((dvX v p10x (v.wn + 1) c11x).wn) ((dvX v p10x (v.wn + 1) c11x).wc)]]) [0] [1, 2, 3, 4, 5, 6, 7, 8] [1, 2, 5, 6, 7, 8, 78] (.cons (ldso hO.st 1 rfl 0 rfl) <| .nil) (by kernel_rfl) fun a w hF hE => ?_
      replace hO := hO.ext hE; clear hE
      refine op_call (i := 1) (f := 23) (args := #[.agg #[.int .i64 ((dayX d (d.wks ++ [(l.getD k default)])).hours), .slice ((dvX v p10x (v.wn + 1) c11x).ha) ((dvX v p10x (v.wn + 1) c11x).hn) ((dvX v p10x (v.wn + 1) c11x).hc), .slice ((dvX v p10x (v.wn + 1) c11x).la) ((dvX v p10x (v.wn + 1) c11x).ln) ((dvX v p10x (v.wn + 1) c11x).lc), .slice ((dvX v p10x (v.wn + 1) c11x).wa) ((dvX v p10x (v.wn + 1) c11x).wn) ((dvX v p10x (v.wn + 1) c11x).wc)]]) (d := some 79) TBok (by kernel_rfl) hF (by kernel_rfl) (Best_calls (dayX d (d.wks ++ [(l.getD k default)])) (dvX v p10x (v.wn + 1) c11x) _ (dayX_R (hd.upM hO.kp nom (Nat.le_refl _)) (rd_row (fun _ => rfl) (by decide) hO 2 rfl (by omega)) (row_cap hO 2 rfl).1)) fun e w hR => ?_
      obtain ⟨p125, c126, he, hO2⟩ := hR
      refine ⟨_, he, fun a hF => ?_⟩
      replace hO := hO.joinE hO2; clear hO2 he
      replace hO : Own w0 none_ [cel b1 #[.int .i64 d.hours, .slice v.ha v.hn v.hc, .slice v.la v.ln v.lc, .slice v.wa v.wn v.wc] 26, cel b4 #[.int .i64 ((dayX d (d.wks ++ [(l.getD k default)])).hours), .slice ((dvX v p10x (v.wn + 1) c11x).ha) ((dvX v p10x (v.wn + 1) c11x).hn) ((dvX v p10x (v.wn + 1) c11x).hc), .slice ((dvX v p10x (v.wn + 1) c11x).la) ((dvX v p10x (v.wn + 1) c11x).ln) ((dvX v p10x (v.wn + 1) c11x).lc), .slice ((dvX v p10x (v.wn + 1) c11x).wa) ((dvX v p10x (v.wn + 1) c11x).wn) ((dvX v p10x (v.wn + 1) c11x).wc)] 26, rowR 61 4 (.slice p10x (v.wn + 1) c11x) (v.wn + 1) ((d.wks ++ [(l.getD k default)]).flatMap encWk), cel b9x #[.int .i64 ((l.getD k default).kd), .int .i64 ((l.getD k default).fr), .int .i64 ((l.getD k default).to), .int .i64 ((l.getD k default).rt)] 61, rowR 56 4 (.slice p125 ((bestP (dayX d (d.wks ++ [(l.getD k default)]))).length) c126) ((bestP (dayX d (d.wks ++ [(l.getD k default)]))).length) ((bestP (dayX d (d.wks ++ [(l.getD k default)]))).flatMap encTk)] w := hO
      refine seq_quiet {} TBok hF (F' := [(1, .slice lp ln lc), (2, .pointer (some ⟨b1, 0, none⟩)), (5, .int .i64 ((gutHelp d l).1)), (6, .int .i64 ((gutHelp d l).2.1)), (7, .int .i64 ((gutHelp d l).2.2)), (8, .int .i64 (k : Int)), (11, .int .i64 (bestN (dayX d (d.wks ++ [(l.getD k default)])))), (12, .int .i64 (chk (dayX d (d.wks ++ [(l.getD k default)]))))]) (rs := []) [2, 3, 4, 5, 6, 7, 8] [] [1, 2, 5, 6, 7, 8, 11, 12] .nil (by kernel_rfl) fun a w hF hE => ?_
      replace hO := hO.ext hE; clear hE
      refine W_seq (region_q { sy := [11, 17, 21], md := [(1, 1), (5, 1)] } TBok hF (F' := [(1, .slice lp ln lc), (2, .pointer (some ⟨b1, 0, none⟩)), (5, .int .i64 ((gutHelp d l).1)), (6, .int .i64 ((gutHelp d l).2.1)), (7, .int .i64 ((gutHelp d l).2.2)), (8, .int .i64 (k : Int)), (109, .bool (cond (cond (decide ((k : Int) < (gutHelp d l).1)) ((bestN (dayX d (d.wks ++ [(l.getD k default)]))) == (gutHelp d l).2.1) false) true (cond ((k : Int) == (gutHelp d l).1) ((bestN (dayX d (d.wks ++ [(l.getD k default)]))) != (gutHelp d l).2.1) false)))]) (rs := [.dec ((chk (dayX d (d.wks ++ [(l.getD k default)]))) != 0) false, .dec (decide ((bestN (dayX d (d.wks ++ [(l.getD k default)]))) < (gutHelp d l).2.1)) false]) [1, 2, 5, 6, 7, 8, 109] (.cons (by rw [hDc]; rfl) <| .cons (decide_eq_false (by omega)) <| .nil) (by kernel_rfl) fun a w hF hE => ?_)
      replace hO := hO.ext hE; clear hE
      rcases Bool.eq_false_or_eq_true (cond (cond (decide ((k : Int) < (gutHelp d l).1)) ((bestN (dayX d (d.wks ++ [(l.getD k default)]))) == (gutHelp d l).2.1) false) true (cond ((k : Int) == (gutHelp d l).1) ((bestN (dayX d (d.wks ++ [(l.getD k default)]))) != (gutHelp d l).2.1) false)) with hc127 | hc127
      · refine (W_true ((evOp hF (by kernel_rfl)).trans (congrArg Value.bool hc127)) ?_)
        exact (hired_dead hc127 (fun h1 => by have := hks.2.2.2 k h1; omega) (fun h1 => by have h2 := hks.2.1; rw [← h1, Int.toNat_natCast] at h2; omega)).elim
      · refine (W_false ((evOp hF (by kernel_rfl)).trans (congrArg Value.bool hc127)) ?_)
        refine (W_skip ?_)
        refine (region_q {} TBok hF (F' := [(1, .slice lp ln lc), (2, .pointer (some ⟨b1, 0, none⟩)), (5, .int .i64 ((gutHelp d l).1)), (6, .int .i64 ((gutHelp d l).2.1)), (7, .int .i64 ((gutHelp d l).2.2)), (8, .int .i64 ((k : Int) + 1))]) (rs := [.rng ((k : Int) + 1)]) [1, 2, 5, 6, 7, 8] (.cons (rg (by omega)) <| .nil) (by kernel_rfl) fun a w hF hE => ?_)
        replace hO := hO.ext hE; clear hE
        replace hO := hO.drop1 4
        replace hO := hO.drop1 3
        replace hO := hO.drop1 2
        replace hO := hO.drop1 1
        replace hO : Own w0 none_ [cel b1 #[.int .i64 d.hours, .slice v.ha v.hn v.hc, .slice v.la v.ln v.lc, .slice v.wa v.wn v.wc] 26] w := hO
        exact ⟨_, by omega, k + 1, rfl, by omega, hF, hO⟩
    · refine (W_false ((evOp hF (by kernel_rfl)).trans (congrArg Value.bool hc3)) ?_)
      refine (W_exit ?_)
      refine W_seq (region_seq ?_)
      refine seq_quiet {} TBok hF (F' := [(6, .int .i64 ((gutHelp d l).2.1)), (7, .int .i64 ((gutHelp d l).2.2)), (111, .agg #[.int .i64 d.hours, .slice v.ha v.hn v.hc, .slice v.la v.ln v.lc, .slice v.wa v.wn v.wc])]) (rs := [.lds ⟨b1, 0, none⟩ [.int .i64 d.hours, .slice v.ha v.hn v.hc, .slice v.la v.ln v.lc, .slice v.wa v.wn v.wc]]) [0] [1, 2, 3, 4, 5, 6, 7, 8] [6, 7, 111] (.cons (ldso hO.st 0 rfl 0 rfl) <| .nil) (by kernel_rfl) fun a w hF hE => ?_
      replace hO := hO.ext hE; clear hE
      refine op_call (i := 1) (f := 23) (args := #[.agg #[.int .i64 d.hours, .slice v.ha v.hn v.hc, .slice v.la v.ln v.lc, .slice v.wa v.wn v.wc]]) (d := some 112) TBok (by kernel_rfl) hF (by kernel_rfl) (Best_calls d v _ (hd.upM hO.kp nom (Nat.le_refl _))) fun e w hR => ?_
      obtain ⟨p128, c129, he, hO2⟩ := hR
      refine ⟨_, he, fun a hF => ?_⟩
      replace hO := hO.joinE hO2; clear hO2 he
      replace hO : Own w0 none_ [cel b1 #[.int .i64 d.hours, .slice v.ha v.hn v.hc, .slice v.la v.ln v.lc, .slice v.wa v.wn v.wc] 26, rowR 56 4 (.slice p128 ((bestP d).length) c129) ((bestP d).length) ((bestP d).flatMap encTk)] w := hO
      refine seq_quiet {} TBok hF (F' := [(6, .int .i64 ((gutHelp d l).2.1)), (7, .int .i64 (chk d)), (14, .int .i64 (bestN d))]) (rs := []) [2, 3, 4, 5, 6, 7, 8] [] [6, 7, 14] .nil (by kernel_rfl) fun a w hF hE => ?_
      replace hO := hO.ext hE; clear hE
      refine W_seq (region_q { md := [(1, 1), (5, 1), (9, 1)] } TBok hF (F' := [(4, .bool true)]) (rs := [.dec ((chk d) == 0) true, .dec (decide ((gutHelp d l).2.1 ≤ (bestN d))) true, .dec (decide ((gutHelp d l).2.1 ≥ 0)) true, .call 20 #[] (.bool true)]) [4] (.cons (by rw [hc0]; rfl) <| .cons (decide_eq_true hwle) <| .cons (decide_eq_true hwnn) <| .cons (fun w _ => works_calls w) <| .nil) (by kernel_rfl) fun a w hF hE => ?_)
      replace hO := hO.ext hE; clear hE
      refine W_ret ?_
      show bodyPostM (FW none) 0 _ _ _ Exit.ret a w
      exact leave_r TBok hF (.nil _) (vs := [.bool true]) (rs := []) .nil (by kernel_rfl) ⟨rfl, hO.kp⟩

end Go.Proofs.Ytioimdegbdkppaa.DK
