/- Walks: how many reports are false; tracks. Printed by my gen.py out of shoal/d.py. -/
import Derived.Test.YtgihgcclabodbaaSC
import Derived.Test.YtgihgcclabodbaaSTrk
namespace Go.Proofs.Ytgihgcclabodbaa.DK
open Go Go.Proofs
set_option linter.unusedVariables false
set_option linter.unusedSimpArgs false

set_option maxHeartbeats 4000000 in
set_option maxRecDepth 100000 in
theorem untrue_calls (s : Sea) (v : SV) (mb : Nat) (qa : Option Addr) (qn qc : Nat) (rs : List Rp) (h c : Int) (w0 : World) (hg : LogR w0.heap.size w0 v mb qa qn s rs) (hv : seaB s = true) (hr : rpsB s rs = true) (hc : 0 ≤ c ∧ c < nC s) :
    Calls Try.prog 52 #[.agg (sS8 s v mb qa qn qc), iv h, iv c] w0 (fun e w' => e = .returned (iv (untr s rs h c)) ∧ Ext w0 w') := by
  have hs := hg.sea; have hq1 := hg.reps.len; have hrl := rqs_len (s := s) (rs := rs); have hrp := rp_ok hr; have hl1 := hs.land.len; have hl2 := hs.drift.len; have hs1 := hs.land.size; have hs2 := hs.drift.size; have hr_ := hs.rg; unfold i64 at hr_; have hv1 := sea_ok hv
  refine calls_of_W Try.func52 rfl (by kernel_rfl) (args := [.agg (sS8 s v mb qa qn qc), iv h, iv c]) fun a hF => ?_
  replace hF : Fr 38 [] [(0, .agg (sS8 s v mb qa qn qc)), (1, iv h), (2, iv c)] a := hF
  have hO : Own w0 none_ [] w0 := Own.start w0 _
  refine W_seq (region_seq ?_)
  refine op_box (i := 0) (t := 80) (v := .agg (sS8 s v mb qa qn qc)) (d := 3) hF hO (by kernel_rfl) fun a w b1 hF hO _ => ?_
  refine seq_quiet {} TBok hF (F' := [(1, iv h), (2, iv c), (3, pv b1), (6, iv 0)]) (rs := []) [1] [] [1, 2, 3, 6] .nil (by kernel_rfl) fun a w hF hE => ?_
  replace hO := hO.ext hE; clear hE
  refine W_seq (region_q {} TBok hF (F' := [(1, iv h), (2, iv c), (3, pv b1), (6, iv 0), (7, iv 0)]) (rs := []) [1, 2, 3, 6, 7] .nil (by kernel_rfl) fun a w hF hE => ?_)
  replace hO := hO.ext hE; clear hE
  refine W_seq ?_
  refine W_seq (region_q {} TBok hF (F' := [(1, iv h), (2, iv c), (3, pv b1), (6, iv 0), (7, iv 0), (12, .slice qa qn qc), (13, iv (qn : Int)), (14, iv 0)]) (rs := [.ld ⟨b1, 7, none⟩ (.slice qa qn qc)]) [1, 2, 3, 6, 7, 12, 13, 14] (.cons (ldo hO.st 0 rfl 7 rfl) <| .nil) (by kernel_rfl) fun a w hF hE => ?_)
  replace hO := hO.ext hE; clear hE
  refine (W_block ?_)
  refine (W_loop (fun m a w => ∃ (k : Nat), ∃ (q : Int), m = qn - k ∧ k ≤ qn ∧ (q = ((((rqs s rs).take k).filter (badB h (pl s c))).length : Int)) ∧ 0 ≤ q ∧ q ≤ (k : Int) ∧ Fr 38 [] [(1, iv h), (2, iv c), (3, pv b1), (6, iv 0), (7, iv q), (12, .slice qa qn qc), (13, iv (qn : Int)), (14, iv (k : Int))] a ∧ Own w0 none_ [cel b1 (sS8 s v mb qa qn qc) 80] w) _ ⟨0, 0, rfl, Nat.zero_le _, rfl, by omega, by omega, hF, hO⟩ ?_)
  clear hF hO
  rintro _ a w ⟨k, q, rfl, hk, hq, hq0, hqk, hF, hO⟩
  refine W_seq (region_q {} TBok hF (F' := [(1, iv h), (2, iv c), (3, pv b1), (6, iv 0), (7, iv q), (12, .slice qa qn qc), (13, iv (qn : Int)), (14, iv (k : Int)), (15, .bool (decide ((k : Int) < (qn : Int))))]) (rs := []) [1, 2, 3, 6, 7, 12, 13, 14, 15] .nil (by kernel_rfl) fun a w hF hE => ?_)
  replace hO := hO.ext hE; clear hE
  rcases Bool.eq_false_or_eq_true (decide ((k : Int) < (qn : Int))) with hc2 | hc2
  · refine W_seq (W_true ((evOp hF (by kernel_rfl)).trans (congrArg Value.bool hc2)) ?_)
    have hc2_ := of_decide_eq_true hc2
    refine (W_skip ?_)
    refine W_seq (W_block ?_)
    refine W_seq (region_seq ?_)
    refine seq_quiet {} TBok hF (F' := [(1, iv h), (2, iv c), (3, pv b1), (6, iv 0), (7, iv q), (12, .slice qa qn qc), (13, iv (qn : Int)), (14, iv (k : Int)), (17, .agg #[iv (((rqs s rs).getD k default).hr), iv (((rqs s rs).getD k default).cell), iv (((rqs s rs).getD k default).far), .bool (((rqs s rs).getD k default).th), iv (((rqs s rs).getD k default).c), iv (((rqs s rs).getD k default).r)])]) (rs := [.idx qa qn (k : Int) 6 (adr qa 6 (k : Int)), .lds (adr qa 6 (k : Int)) [iv (((rqs s rs).getD k default).hr), iv (((rqs s rs).getD k default).cell), iv (((rqs s rs).getD k default).far), .bool (((rqs s rs).getD k default).th), iv (((rqs s rs).getD k default).c), iv (((rqs s rs).getD k default).r)]]) [0, 1] [2, 3] [1, 2, 3, 6, 7, 12, 13, 14, 17] (.cons (ix hg.reps (by omega) (by omega)) <| .cons (ldsx hO.st nom hg.reps (by omega) (by omega) rfl) <| .nil) (by kernel_rfl) fun a w hF hE => ?_
    replace hO := hO.ext hE; clear hE
    refine op_alloc (i := 2) (t := 105) (d := 9) (z := .agg #[iv 0, iv 0, iv 0, .bool false, iv 0, iv 0]) hF hO (by kernel_rfl) (by kernel_rfl) fun a w b3 hF hO _ => ?_
    refine op_store (i := 3) (t := 105) (p := ⟨b3, 0, none⟩) (v := .agg #[iv (((rqs s rs).getD k default).hr), iv (((rqs s rs).getD k default).cell), iv (((rqs s rs).getD k default).far), .bool (((rqs s rs).getD k default).th), iv (((rqs s rs).getD k default).c), iv (((rqs s rs).getD k default).r)]) (off := 0) (sz := 6) (cs' := #[iv (((rqs s rs).getD k default).hr), iv (((rqs s rs).getD k default).cell), iv (((rqs s rs).getD k default).far), .bool (((rqs s rs).getD k default).th), iv (((rqs s rs).getD k default).c), iv (((rqs s rs).getD k default).r)]) hF hO (by kernel_rfl) 1 rfl rfl (by kernel_rfl) (by kernel_rfl) (by kernel_rfl) fun a w hF hO _ => ?_
    replace hF := hF.sel [1, 2, 3, 6, 7, 9, 12, 13, 14]
    replace hF : Fr 38 [] [(1, iv h), (2, iv c), (3, pv b1), (6, iv 0), (7, iv q), (9, pv b3), (12, .slice qa qn qc), (13, iv (qn : Int)), (14, iv (k : Int))] a := hF
    refine W_seq (region_q {} TBok hF (F' := [(1, iv h), (2, iv c), (3, pv b1), (6, iv 0), (7, iv q), (9, pv b3), (10, .func (.func 65) #[.agg #[iv (((rqs s rs).getD k default).hr), iv (((rqs s rs).getD k default).cell), iv (((rqs s rs).getD k default).far), .bool (((rqs s rs).getD k default).th), iv (((rqs s rs).getD k default).c), iv (((rqs s rs).getD k default).r)]] #[]), (12, .slice qa qn qc), (13, iv (qn : Int)), (14, iv (k : Int))]) (rs := [.lds ⟨b3, 0, none⟩ [iv (((rqs s rs).getD k default).hr), iv (((rqs s rs).getD k default).cell), iv (((rqs s rs).getD k default).far), .bool (((rqs s rs).getD k default).th), iv (((rqs s rs).getD k default).c), iv (((rqs s rs).getD k default).r)]]) [1, 2, 3, 6, 7, 9, 10, 12, 13, 14] (.cons (ldso hO.st 1 rfl 0 rfl) <| .nil) (by kernel_rfl) fun a w hF hE => ?_)
    replace hO := hO.ext hE; clear hE
    refine W_seq (region_q { sy := [5] } TBok hF (F' := [(1, iv h), (2, iv c), (3, pv b1), (6, iv 0), (7, iv q), (12, .slice qa qn qc), (13, iv (qn : Int)), (14, iv (k : Int)), (33, .bool (cond (((rqs s rs).getD k default).hr == h) (!(trueB ((rqs s rs).getD k default) (pl s c))) false))]) (rs := [.ld ⟨b3, 0, none⟩ (iv (((rqs s rs).getD k default).hr)), .und (((rqs s rs).getD k default).hr == h) (.lds ⟨b1, 0, none⟩ (sL7 s v mb)), .und (((rqs s rs).getD k default).hr == h) (.call 50 #[.agg (sS7 s v mb), iv c] (.agg #[iv ((pl s c).1), iv ((pl s c).2)])), .und (((rqs s rs).getD k default).hr == h) (.call 65 #[.agg #[iv (((rqs s rs).getD k default).hr), iv (((rqs s rs).getD k default).cell), iv (((rqs s rs).getD k default).far), .bool (((rqs s rs).getD k default).th), iv (((rqs s rs).getD k default).c), iv (((rqs s rs).getD k default).r)], .agg #[iv ((pl s c).1), iv ((pl s c).2)]] (.bool (trueB ((rqs s rs).getD k default) (pl s c))))]) [1, 2, 3, 6, 7, 12, 13, 14, 33] (.cons (ldo hO.st 1 rfl 0 rfl) <| .cons (fun hg => (ldso hO.st 0 rfl 0 rfl)) <| .cons (fun hg => (fun w _ => place_calls s v mb c w hv (by omega))) <| .cons (fun hg => (fun w hE => isTrue_calls ((rqs s rs).getD k default) (pl s c) w (rq_plB hv hr (by omega)) (pl_plB (by omega) (by omega) (by omega) (by omega)))) <| .nil) (by kernel_rfl) fun a w hF hE => ?_)
    replace hO := hO.ext hE; clear hE
    rcases Bool.eq_false_or_eq_true (cond (((rqs s rs).getD k default).hr == h) (!(trueB ((rqs s rs).getD k default) (pl s c))) false) with hc4 | hc4
    · refine (W_true ((evOp hF (by kernel_rfl)).trans (congrArg Value.bool hc4)) ?_)
      refine (region_q {} TBok hF (F' := [(1, iv h), (2, iv c), (3, pv b1), (6, iv 0), (7, iv (q + 1)), (12, .slice qa qn qc), (13, iv (qn : Int)), (14, iv (k : Int))]) (rs := [.rng (q + 1)]) [1, 2, 3, 6, 7, 12, 13, 14] (.cons (rg (by omega)) <| .nil) (by kernel_rfl) fun a w hF hE => ?_)
      replace hO := hO.ext hE; clear hE
      refine (region_q {} TBok hF (F' := [(1, iv h), (2, iv c), (3, pv b1), (6, iv 0), (7, iv (q + 1)), (12, .slice qa qn qc), (13, iv (qn : Int)), (14, iv ((k : Int) + 1))]) (rs := [.rng ((k : Int) + 1)]) [1, 2, 3, 6, 7, 12, 13, 14] (.cons (rg (by omega)) <| .nil) (by kernel_rfl) fun a w hF hE => ?_)
      replace hO := hO.ext hE; clear hE
      have hb_ : badB h (pl s c) ((rqs s rs).getD k default) = true := hc4
      replace hO := hO.drop1 1
      replace hO : Own w0 none_ [cel b1 (sS8 s v mb qa qn qc) 80] w := hO
      exact ⟨_, by omega, k + 1, _, rfl, by omega, by rw [filt_take _ (by omega), hb_, hq]; rfl, by omega, by omega, hF, hO⟩
    · refine (W_false ((evOp hF (by kernel_rfl)).trans (congrArg Value.bool hc4)) ?_)
      refine (W_skip ?_)
      refine (region_q {} TBok hF (F' := [(1, iv h), (2, iv c), (3, pv b1), (6, iv 0), (7, iv q), (12, .slice qa qn qc), (13, iv (qn : Int)), (14, iv ((k : Int) + 1))]) (rs := [.rng ((k : Int) + 1)]) [1, 2, 3, 6, 7, 12, 13, 14] (.cons (rg (by omega)) <| .nil) (by kernel_rfl) fun a w hF hE => ?_)
      replace hO := hO.ext hE; clear hE
      have hb_ : badB h (pl s c) ((rqs s rs).getD k default) = false := hc4
      replace hO := hO.drop1 1
      replace hO : Own w0 none_ [cel b1 (sS8 s v mb qa qn qc) 80] w := hO
      exact ⟨_, by omega, k + 1, _, rfl, by omega, by rw [filt_take _ (by omega), hb_, hq]; simp, by omega, by omega, hF, hO⟩
  · refine W_seq (W_false ((evOp hF (by kernel_rfl)).trans (congrArg Value.bool hc2)) ?_)
    have hc2_ := of_decide_eq_false hc2
    refine (W_exit ?_)
    refine W_seq (region_q {} TBok hF (F' := [(6, iv q)]) (rs := []) [6] .nil (by kernel_rfl) fun a w hF hE => ?_)
    replace hO := hO.ext hE; clear hE
    refine W_ret ?_
    show bodyPostM (FW none) 0 _ _ _ Exit.ret a w
    rw [List.take_of_length_le (by omega)] at hq
    exact leave_r TBok hF (.nil _) (vs := [iv q]) (rs := []) .nil (by kernel_rfl) ⟨by rw [hq]; rfl, hO.kp⟩

set_option maxHeartbeats 4000000 in
set_option maxRecDepth 100000 in
theorem IsTrack_calls (s : Sea) (v : SV) (rs : List Rp) (p : Option Addr) (n c : Nat) (t : List Int) (tp : Option Addr) (tn tc : Nat) (w0 : World) (hs : SeaR w0.heap.size w0 v s) (hx : Rd encRp 4 w0.heap.size w0 p n rs) (ht : Rd encI 1 w0.heap.size w0 tp tn t) :
    Calls Try.prog 16 #[.agg (sS6 s v), .slice p n c, .slice tp tn tc] w0 (fun e w' => e = .returned (.tuple #[iv (trackR s rs t).1, .bool (trackR s rs t).2.1, iv (trackR s rs t).2.2]) ∧ Ext w0 w') := by
  have hl1 := hs.land.len; have hl2 := hs.drift.len; have hs1 := hs.land.size; have hs2 := hs.drift.size; have hr_ := hs.rg; unfold i64 at hr_; have hl3 := hx.len; have hs3 := hx.size; have ht1 := ht.len; have ht2 := ht.size
  refine calls_of_W Try.func16 rfl (by kernel_rfl) (args := [.agg (sS6 s v), .slice p n c, .slice tp tn tc]) fun a hF => ?_
  replace hF : Fr 84 [] [(0, .agg (sS6 s v)), (1, .slice p n c), (2, .slice tp tn tc)] a := hF
  have hO : Own w0 none_ [] w0 := Own.start w0 _
  refine W_seq (region_seq ?_)
  refine op_box (i := 0) (t := 25) (v := .agg (sS6 s v)) (d := 3) hF hO (by kernel_rfl) fun a w b1 hF hO _ => ?_
  refine seq_quiet {} TBok hF (F' := [(1, .slice p n c), (2, .slice tp tn tc), (3, pv b1), (6, iv 0), (7, .bool false), (8, iv 0)]) (rs := []) [1, 2, 3] [] [1, 2, 3, 6, 7, 8] .nil (by kernel_rfl) fun a w hF hE => ?_
  replace hO := hO.ext hE; clear hE
  refine W_seq (region_seq ?_)
  refine seq_quiet {} TBok hF (F' := [(2, .slice tp tn tc), (6, iv 0), (7, .bool false), (8, iv 0), (13, .agg (sS6 s v)), (14, .slice p n c)]) (rs := [.lds ⟨b1, 0, none⟩ (sL6 s v)]) [0, 1] [2, 3, 4, 5, 6, 7, 8] [2, 6, 7, 8, 13, 14] (.cons (ldso hO.st 0 rfl 0 rfl) <| .nil) (by kernel_rfl) fun a w hF hE => ?_
  replace hO := hO.ext hE; clear hE
  rcases Bool.eq_false_or_eq_true (chk s != 0) with hck | hck
  · have hc0 := chk_no hck; have her := err_no (rs := rs) hc0
    refine op_call (i := 2) (f := 47) (args := #[.agg (sS6 s v), .slice p n c]) (d := some 15) TBok (by kernel_rfl) hF (by kernel_rfl) (read_no s v rs p n c _ (hs.upM hO.kp nom (Nat.le_refl _)) hc0 (hx.upM hO.kp nom (Nat.le_refl _))) fun e w hR => ?_
    obtain ⟨he, hE⟩ := hR
    refine ⟨_, he, fun a hF => ?_⟩
    replace hO := hO.ext hE; clear hE he
    refine seq_quiet {} TBok hF (F' := [(2, .slice tp tn tc), (6, iv 0), (7, .bool false), (8, iv 0), (16, .agg #[iv 0, iv 0, .slice none 0 0, iv 0, .slice none 0 0, iv 0, .map none, .slice none 0 0]), (17, iv 10)]) (rs := []) [3, 4, 5] [6, 7, 8] [2, 6, 7, 8, 16, 17] .nil (by kernel_rfl) fun a w hF hE => ?_
    replace hO := hO.ext hE; clear hE
    refine op_alloc (i := 6) (t := 80) (d := 9) (z := .agg #[iv 0, iv 0, .slice none 0 0, iv 0, .slice none 0 0, iv 0, .map none, .slice none 0 0]) hF hO (by kernel_rfl) (by kernel_rfl) fun a w b2 hF hO _ => ?_
    refine op_store (i := 7) (t := 80) (p := ⟨b2, 0, none⟩) (v := .agg #[iv 0, iv 0, .slice none 0 0, iv 0, .slice none 0 0, iv 0, .map none, .slice none 0 0]) (off := 0) (sz := 8) (cs' := #[iv 0, iv 0, .slice none 0 0, iv 0, .slice none 0 0, iv 0, .map none, .slice none 0 0]) hF hO (by kernel_rfl) 1 rfl rfl (by kernel_rfl) (by kernel_rfl) (by kernel_rfl) fun a w hF hO _ => ?_
    refine seq_quiet {} TBok hF (F' := [(2, .slice tp tn tc), (6, iv 0), (7, .bool false), (8, iv 10), (9, pv b2)]) (rs := []) [8] [] [2, 6, 7, 8, 9] .nil (by kernel_rfl) fun a w hF hE => ?_
    replace hO := hO.ext hE; clear hE
    refine W_seq ?_
    refine W_seq (region_q {} TBok hF (F' := [(2, .slice tp tn tc), (6, iv 0), (7, .bool false), (8, iv 10), (9, pv b2), (19, .bool true)]) (rs := []) [2, 6, 7, 8, 9, 19] .nil (by kernel_rfl) fun a w hF hE => ?_)
    replace hO := hO.ext hE; clear hE
    refine (W_true (evOp hF (by kernel_rfl)) ?_)
    refine W_seq (region_q {} TBok hF (F' := [(2, .slice tp tn tc), (6, iv 0), (7, .bool false), (8, iv 10), (9, pv b2)]) (rs := []) [2, 6, 7, 8, 9] .nil (by kernel_rfl) fun a w hF hE => ?_)
    replace hO := hO.ext hE; clear hE
    refine W_ret ?_
    show bodyPostM (FW none) 0 _ _ _ Exit.ret a w
    have hres : trackR s rs t = (0, false, 10) := by unfold trackR; rw [her, if_pos (by decide)]
    exact leave_r TBok hF (.nil _) (vs := [iv 0, .bool false, iv 10]) (rs := []) .nil (by kernel_rfl) ⟨by rw [hres]; rfl, hO.kp⟩
  · have hv := chk_ok hck; have hv1 := sea_ok hv
    rcases Bool.eq_false_or_eq_true (rpsB s rs) with hr | hr
    · have her := err_ok hv hr; have hrp := rp_ok hr; have hrl := rqs_len (s := s) (rs := rs)
      refine op_call (i := 2) (f := 47) (args := #[.agg (sS6 s v), .slice p n c]) (d := some 15) TBok (by kernel_rfl) hF (by kernel_rfl) (read_ok s v rs p n c _ (hs.upM hO.kp nom (Nat.le_refl _)) hv (hx.upM hO.kp nom (Nat.le_refl _)) hr) fun e w hR => ?_
      obtain ⟨b3, p4, c5, he, hO2⟩ := hR
      refine ⟨_, he, fun a hF => ?_⟩
      replace hO := hO.joinE hO2; clear hO2 he
      refine seq_quiet {} TBok hF (F' := [(2, .slice tp tn tc), (6, iv 0), (7, .bool false), (8, iv 0), (16, .agg (sS8 s v b3 p4 n c5)), (17, iv 0)]) (rs := []) [3, 4, 5] [6, 7, 8] [2, 6, 7, 8, 16, 17] .nil (by kernel_rfl) fun a w hF hE => ?_
      replace hO := hO.ext hE; clear hE
      refine op_alloc (i := 6) (t := 80) (d := 9) (z := .agg #[iv 0, iv 0, .slice none 0 0, iv 0, .slice none 0 0, iv 0, .map none, .slice none 0 0]) hF hO (by kernel_rfl) (by kernel_rfl) fun a w b6 hF hO _ => ?_
      refine op_store (i := 7) (t := 80) (p := ⟨b6, 0, none⟩) (v := .agg (sS8 s v b3 p4 n c5)) (off := 0) (sz := 8) (cs' := (sS8 s v b3 p4 n c5)) hF hO (by kernel_rfl) 3 rfl rfl (by kernel_rfl) (by kernel_rfl) (by kernel_rfl) fun a w hF hO _ => ?_
      replace hO : Own w0 none_ [cel b1 (sS6 s v) 25, mapT b3 (.bool false) Value.bool (landF s), rowR 105 6 (.slice p4 n c5) n ((rqs s rs).flatMap encRq), cel b6 (sS8 s v b3 p4 n c5) 80] w := hO
      refine seq_quiet {} TBok hF (F' := [(2, .slice tp tn tc), (6, iv 0), (7, .bool false), (8, iv 0), (9, pv b6)]) (rs := []) [8] [] [2, 6, 7, 8, 9] .nil (by kernel_rfl) fun a w hF hE => ?_
      replace hO := hO.ext hE; clear hE
      refine W_seq ?_
      refine W_seq (region_q {} TBok hF (F' := [(2, .slice tp tn tc), (6, iv 0), (7, .bool false), (8, iv 0), (9, pv b6), (19, .bool false)]) (rs := []) [2, 6, 7, 8, 9, 19] .nil (by kernel_rfl) fun a w hF hE => ?_)
      replace hO := hO.ext hE; clear hE
      refine (W_false (evOp hF (by kernel_rfl)) ?_)
      refine (W_skip ?_)
      refine W_seq ?_
      refine W_seq (region_q {} TBok hF (F' := [(2, .slice tp tn tc), (6, iv 0), (7, .bool false), (8, iv 0), (9, pv b6), (27, .bool ((tn : Int) != s.hours))]) (rs := [.ld ⟨b6, 3, none⟩ (iv s.hours)]) [2, 6, 7, 8, 9, 27] (.cons (ldo hO.st 3 rfl 3 rfl) <| .nil) (by kernel_rfl) fun a w hF hE => ?_)
      replace hO := hO.ext hE; clear hE
      rcases Bool.eq_false_or_eq_true ((tn : Int) != s.hours) with hc7 | hc7
      · refine (W_true ((evOp hF (by kernel_rfl)).trans (congrArg Value.bool hc7)) ?_)
        have hne := (by assumption : ((tn : Int) != s.hours) = true)
        have hne2 : (t.length : Int) ≠ s.hours := by rw [ht1]; simpa using hne
        refine W_seq (region_q {} TBok hF (F' := [(2, .slice tp tn tc), (6, iv 0), (7, .bool false), (8, iv 0), (9, pv b6)]) (rs := []) [2, 6, 7, 8, 9] .nil (by kernel_rfl) fun a w hF hE => ?_)
        replace hO := hO.ext hE; clear hE
        refine W_ret ?_
        show bodyPostM (FW none) 0 _ _ _ Exit.ret a w
        have hres : trackR s rs t = (0, false, 0) := by unfold trackR; rw [if_neg (by omega), if_pos hne2]
        exact leave_r TBok hF (.nil _) (vs := [iv 0, .bool false, iv 0]) (rs := []) .nil (by kernel_rfl) ⟨by rw [hres]; rfl, hO.kp⟩
      · refine (W_false ((evOp hF (by kernel_rfl)).trans (congrArg Value.bool hc7)) ?_)
        have hne := (by assumption : ((tn : Int) != s.hours) = false)
        have hne2 : (tn : Int) = s.hours := by simpa using hne
        have hne3 : ¬ (t.length : Int) ≠ s.hours := by omega
        refine (W_skip ?_)
        refine W_seq ?_
        refine W_seq (region_q {} TBok hF (F' := [(2, .slice tp tn tc), (6, iv 0), (7, .bool false), (8, iv 0), (9, pv b6), (28, .slice tp tn tc), (29, iv (tn : Int)), (30, iv 0)]) (rs := []) [2, 6, 7, 8, 9, 28, 29, 30] .nil (by kernel_rfl) fun a w hF hE => ?_)
        replace hO := hO.ext hE; clear hE
        refine (W_block ?_)
        replace hF := hF.sel [2, 6, 9, 28, 29, 30]
        refine (W_loop (fun m a w => ∃ (k : Nat), m = tn - k ∧ k ≤ tn ∧ (∀ j, j < k → badT s t j = false) ∧ Fr 84 [] [(2, .slice tp tn tc), (6, iv (lieS s rs t k)), (9, pv b6), (28, .slice tp tn tc), (29, iv (tn : Int)), (30, iv (k : Int))] a ∧ Own w0 none_ [cel b1 (sS6 s v) 25, mapT b3 (.bool false) Value.bool (landF s), rowR 105 6 (.slice p4 n c5) n ((rqs s rs).flatMap encRq), cel b6 (sS8 s v b3 p4 n c5) 80] w) _ ⟨0, rfl, Nat.zero_le _, fun j hj => absurd hj (Nat.not_lt_zero j), hF, hO⟩ ?_)
        clear hF hO
        rintro _ a w ⟨k, rfl, hk, hall, hF, hO⟩
        have hli := lieS_bd hr t k
        refine W_seq (region_q {} TBok hF (F' := [(2, .slice tp tn tc), (6, iv (lieS s rs t k)), (9, pv b6), (28, .slice tp tn tc), (29, iv (tn : Int)), (30, iv (k : Int)), (31, .bool (decide ((k : Int) < (tn : Int))))]) (rs := []) [2, 6, 9, 28, 29, 30, 31] .nil (by kernel_rfl) fun a w hF hE => ?_)
        replace hO := hO.ext hE; clear hE
        rcases Bool.eq_false_or_eq_true (decide ((k : Int) < (tn : Int))) with hc8 | hc8
        · refine W_seq (W_true ((evOp hF (by kernel_rfl)).trans (congrArg Value.bool hc8)) ?_)
          have hc8_ := of_decide_eq_true hc8
          refine (W_skip ?_)
          refine W_seq (W_block ?_)
          refine W_seq (region_q {} TBok hF (F' := [(2, .slice tp tn tc), (6, iv (lieS s rs t k)), (9, pv b6), (10, iv (k : Int)), (11, iv (t.getD k default)), (28, .slice tp tn tc), (29, iv (tn : Int)), (30, iv (k : Int))]) (rs := [.idx tp tn (k : Int) 1 (adr tp 1 (k : Int)), .ld (adr tp 1 (k : Int)) (iv (t.getD k default))]) [2, 6, 9, 10, 11, 28, 29, 30] (.cons (ix ht (by omega) (by omega)) <| .cons (ldx hO.st nom ht (by omega) (by omega) 0 rfl) <| .nil) (by kernel_rfl) fun a w hF hE => ?_)
          replace hO := hO.ext hE; clear hE
          refine W_seq ?_
          refine W_seq (region_d { sy := [7, 17, 20], md := [(15, 3)] } mixed TBok hF (F' := [(2, .slice tp tn tc), (6, iv (lieS s rs t k)), (9, pv b6), (10, iv (k : Int)), (11, iv (t.getD k default)), (28, .slice tp tn tc), (29, iv (tn : Int)), (30, iv (k : Int)), (75, .bool (cond (cond (!(inB (t.getD k default) 0 ((nC s) - 1))) true ((landF s) (pl s (t.getD k default)))) true (cond (decide ((k : Int) > 0)) (!(stepP s ((k : Int) - 1) (pl s (t.getD ((k : Int) - 1).toNat default)) (pl s (t.getD k default)))) false)))]) (rs := [.lds ⟨b6, 0, none⟩ (sL7 s v b3), .call 49 #[.agg (sS7 s v b3)] (iv (nC s)), .rng ((nC s) - 1), .call 48 #[iv (t.getD k default), iv 0, iv ((nC s) - 1)] (.bool (inB (t.getD k default) 0 ((nC s) - 1))), .und (!(!(inB (t.getD k default) 0 ((nC s) - 1)))) (.ld ⟨b6, 6, none⟩ (.map (some b3))), .und (!(!(inB (t.getD k default) 0 ((nC s) - 1)))) (.lds ⟨b6, 0, none⟩ (sL7 s v b3)), .und (!(!(inB (t.getD k default) 0 ((nC s) - 1)))) (.call 50 #[.agg (sS7 s v b3), iv (t.getD k default)] (.agg #[iv ((pl s (t.getD k default)).1), iv ((pl s (t.getD k default)).2)])), .und (!(!(inB (t.getD k default) 0 ((nC s) - 1)))) (.raw (Instr.lookup 75 (.map (some b3)) (.agg #[iv ((pl s (t.getD k default)).1), iv ((pl s (t.getD k default)).2)]) false) (.bool ((landF s) (pl s (t.getD k default))))), .und ((!(cond (!(inB (t.getD k default) 0 ((nC s) - 1))) true ((landF s) (pl s (t.getD k default))))) && (decide ((k : Int) > 0))) (.lds ⟨b6, 0, none⟩ (sL7 s v b3)), .und ((!(cond (!(inB (t.getD k default) 0 ((nC s) - 1))) true ((landF s) (pl s (t.getD k default))))) && (decide ((k : Int) > 0))) (.rng ((k : Int) - 1)), .und ((!(cond (!(inB (t.getD k default) 0 ((nC s) - 1))) true ((landF s) (pl s (t.getD k default))))) && (decide ((k : Int) > 0))) (.lds ⟨b6, 0, none⟩ (sL7 s v b3)), .und ((!(cond (!(inB (t.getD k default) 0 ((nC s) - 1))) true ((landF s) (pl s (t.getD k default))))) && (decide ((k : Int) > 0))) (.rng ((k : Int) - 1)), .und ((!(cond (!(inB (t.getD k default) 0 ((nC s) - 1))) true ((landF s) (pl s (t.getD k default))))) && (decide ((k : Int) > 0))) (.idx tp tn ((k : Int) - 1) 1 (adr tp 1 ((k : Int) - 1))), .und ((!(cond (!(inB (t.getD k default) 0 ((nC s) - 1))) true ((landF s) (pl s (t.getD k default))))) && (decide ((k : Int) > 0))) (.ld (adr tp 1 ((k : Int) - 1)) (iv (t.getD ((k : Int) - 1).toNat default))), .und ((!(cond (!(inB (t.getD k default) 0 ((nC s) - 1))) true ((landF s) (pl s (t.getD k default))))) && (decide ((k : Int) > 0))) (.call 50 #[.agg (sS7 s v b3), iv (t.getD ((k : Int) - 1).toNat default)] (.agg #[iv ((pl s (t.getD ((k : Int) - 1).toNat default)).1), iv ((pl s (t.getD ((k : Int) - 1).toNat default)).2)])), .und ((!(cond (!(inB (t.getD k default) 0 ((nC s) - 1))) true ((landF s) (pl s (t.getD k default))))) && (decide ((k : Int) > 0))) (.lds ⟨b6, 0, none⟩ (sL7 s v b3)), .und ((!(cond (!(inB (t.getD k default) 0 ((nC s) - 1))) true ((landF s) (pl s (t.getD k default))))) && (decide ((k : Int) > 0))) (.call 50 #[.agg (sS7 s v b3), iv (t.getD k default)] (.agg #[iv ((pl s (t.getD k default)).1), iv ((pl s (t.getD k default)).2)])), .und ((!(cond (!(inB (t.getD k default) 0 ((nC s) - 1))) true ((landF s) (pl s (t.getD k default))))) && (decide ((k : Int) > 0))) (.call 51 #[.agg (sS7 s v b3), iv ((k : Int) - 1), .agg #[iv ((pl s (t.getD ((k : Int) - 1).toNat default)).1), iv ((pl s (t.getD ((k : Int) - 1).toNat default)).2)], .agg #[iv ((pl s (t.getD k default)).1), iv ((pl s (t.getD k default)).2)]] (.bool (stepP s ((k : Int) - 1) (pl s (t.getD ((k : Int) - 1).toNat default)) (pl s (t.getD k default)))))]) [2, 6, 9, 10, 11, 28, 29, 30, 75] (.cons (ldso hO.st 3 rfl 0 rfl) <| .cons (fun w _ => many_calls s v b3 w hv) <| .cons (rg (by omega)) <| .cons (fun w _ => within_calls _ _ _ w) <| .cons (fun hg => (ldo hO.st 3 rfl 6 rfl)) <| .cons (fun hg => (ldso hO.st 3 rfl 0 rfl)) <| .cons (fun hg_ => have hin := inB_iff.1 (show inB (t.getD k default) 0 (nC s - 1) = true by simpa using hg_); (fun w _ => place_calls s v b3 (t.getD k default) w hv (by omega))) <| .cons (fun hg => (lkt mt75 hO.st 1 rfl (pl s (t.getD k default)))) <| .cons (fun hg => (ldso hO.st 3 rfl 0 rfl)) <| .cons (fun hg_ => have hin := trk_g2 (a := landF s (pl s (t.getD k default))) (x := (t.getD k default)) (m := nC s - 1) (k := k) hg_; have hpv := badT_in (s := s) (t := t) (hall (((k : Int) - 1).toNat) (by omega)); (rg (by omega))) <| .cons (fun hg => (ldso hO.st 3 rfl 0 rfl)) <| .cons (fun hg_ => have hin := trk_g2 (a := landF s (pl s (t.getD k default))) (x := (t.getD k default)) (m := nC s - 1) (k := k) hg_; have hpv := badT_in (s := s) (t := t) (hall (((k : Int) - 1).toNat) (by omega)); (rg (by omega))) <| .cons (fun hg_ => have hin := trk_g2 (a := landF s (pl s (t.getD k default))) (x := (t.getD k default)) (m := nC s - 1) (k := k) hg_; have hpv := badT_in (s := s) (t := t) (hall (((k : Int) - 1).toNat) (by omega)); (ix ht (by omega) (by omega))) <| .cons (fun hg_ => have hin := trk_g2 (a := landF s (pl s (t.getD k default))) (x := (t.getD k default)) (m := nC s - 1) (k := k) hg_; have hpv := badT_in (s := s) (t := t) (hall (((k : Int) - 1).toNat) (by omega)); (ldx hO.st nom ht (by omega) (by omega) 0 rfl)) <| .cons (fun hg_ => have hin := trk_g2 (a := landF s (pl s (t.getD k default))) (x := (t.getD k default)) (m := nC s - 1) (k := k) hg_; have hpv := badT_in (s := s) (t := t) (hall (((k : Int) - 1).toNat) (by omega)); (fun w _ => place_calls s v b3 (t.getD ((k : Int) - 1).toNat default) w hv (by omega))) <| .cons (fun hg => (ldso hO.st 3 rfl 0 rfl)) <| .cons (fun hg_ => have hin := trk_g2 (a := landF s (pl s (t.getD k default))) (x := (t.getD k default)) (m := nC s - 1) (k := k) hg_; have hpv := badT_in (s := s) (t := t) (hall (((k : Int) - 1).toNat) (by omega)); (fun w _ => place_calls s v b3 (t.getD k default) w hv (by omega))) <| .cons (fun hg_ => have hin := trk_g2 (a := landF s (pl s (t.getD k default))) (x := (t.getD k default)) (m := nC s - 1) (k := k) hg_; have hpv := badT_in (s := s) (t := t) (hall (((k : Int) - 1).toNat) (by omega)); (fun w hE => steps_calls s v b3 ((k : Int) - 1) (pl s (t.getD ((k : Int) - 1).toNat default)) (pl s (t.getD k default)) w (hs.upM (hO.st w hE).kp nom (Nat.le_refl _)) hv (by omega) (pl_bd (by omega) (by omega) (by omega) (by omega)) (pl_bd (by omega) (by omega) (by omega) (by omega)))) <| .nil) (by kernel_rfl) (by kernel_rfl) fun a w hF hE => ?_)
          replace hO := hO.ext hE; clear hE
          rcases Bool.eq_false_or_eq_true (cond (cond (!(inB (t.getD k default) 0 ((nC s) - 1))) true ((landF s) (pl s (t.getD k default)))) true (cond (decide ((k : Int) > 0)) (!(stepP s ((k : Int) - 1) (pl s (t.getD ((k : Int) - 1).toNat default)) (pl s (t.getD k default)))) false)) with hc9 | hc9
          · refine (W_true ((evOp hF (by kernel_rfl)).trans (congrArg Value.bool hc9)) ?_)
            have hbk : badT s t k = true := (by assumption : (cond (cond (!(inB (t.getD k default) 0 ((nC s) - 1))) true ((landF s) (pl s (t.getD k default)))) true (cond (decide ((k : Int) > 0)) (!(stepP s ((k : Int) - 1) (pl s (t.getD ((k : Int) - 1).toNat default)) (pl s (t.getD k default)))) false)) = true)
            refine W_seq (region_q {} TBok hF (F' := [(2, .slice tp tn tc), (6, iv 0), (7, .bool false), (8, iv 0), (9, pv b6), (10, iv (k : Int)), (11, iv (t.getD k default)), (28, .slice tp tn tc), (29, iv (tn : Int)), (30, iv (k : Int))]) (rs := []) [2, 6, 7, 8, 9, 10, 11, 28, 29, 30] .nil (by kernel_rfl) fun a w hF hE => ?_)
            replace hO := hO.ext hE; clear hE
            refine W_ret ?_
            show bodyPostM (FW none) 0 _ _ _ Exit.ret a w
            have hres : trackR s rs t = (0, false, 0) := by unfold trackR; rw [if_neg (by omega), if_neg hne3, if_neg (by rw [isTrB_bad (k := k) (by omega) hbk]; simp)]
            exact leave_r TBok hF (.nil _) (vs := [iv 0, .bool false, iv 0]) (rs := []) .nil (by kernel_rfl) ⟨by rw [hres]; rfl, hO.kp⟩
          · refine (W_false ((evOp hF (by kernel_rfl)).trans (congrArg Value.bool hc9)) ?_)
            have hbk : badT s t k = false := (by assumption : (cond (cond (!(inB (t.getD k default) 0 ((nC s) - 1))) true ((landF s) (pl s (t.getD k default)))) true (cond (decide ((k : Int) > 0)) (!(stepP s ((k : Int) - 1) (pl s (t.getD ((k : Int) - 1).toNat default)) (pl s (t.getD k default)))) false)) = false)
            refine (W_skip ?_)
            refine (region_q {} TBok hF (F' := [(2, .slice tp tn tc), (6, iv ((lieS s rs t k) + (untr s rs (k : Int) (t.getD k default)))), (9, pv b6), (28, .slice tp tn tc), (29, iv (tn : Int)), (30, iv (k : Int))]) (rs := [.lds ⟨b6, 0, none⟩ (sL8 s v b3 p4 n c5), .call 52 #[.agg (sS8 s v b3 p4 n c5), iv (k : Int), iv (t.getD k default)] (iv (untr s rs (k : Int) (t.getD k default))), .rng ((lieS s rs t k) + (untr s rs (k : Int) (t.getD k default)))]) [2, 6, 9, 28, 29, 30] (.cons (ldso hO.st 3 rfl 0 rfl) <| .cons (fun w hE => untrue_calls s v b3 p4 n c5 rs (k : Int) (t.getD k default) w ⟨(hs.upM (hO.st w hE).kp nom (Nat.le_refl _)), MapRo.of (hO.st w hE) 1 rfl, rd_row (fun _ => rfl) (by decide) (hO.st w hE) 2 rfl (by omega)⟩ hv hr (by have h_ := badT_in hbk; omega)) <| .cons (rg (by have hu := untr_bd (s := s) (rs := rs) (k : Int) (t.getD k default); omega)) <| .nil) (by kernel_rfl) fun a w hF hE => ?_)
            replace hO := hO.ext hE; clear hE
            refine (region_q {} TBok hF (F' := [(2, .slice tp tn tc), (6, iv ((lieS s rs t k) + (untr s rs (k : Int) (t.getD k default)))), (9, pv b6), (28, .slice tp tn tc), (29, iv (tn : Int)), (30, iv ((k : Int) + 1))]) (rs := [.rng ((k : Int) + 1)]) [2, 6, 9, 28, 29, 30] (.cons (rg (by omega)) <| .nil) (by kernel_rfl) fun a w hF hE => ?_)
            replace hO := hO.ext hE; clear hE
            exact ⟨_, by omega, k + 1, rfl, by omega, fun j hj => by rcases Nat.lt_or_ge j k with h_ | h_; exact hall j h_; rw [show j = k by omega]; exact hbk, hF, hO⟩
        · refine W_seq (W_false ((evOp hF (by kernel_rfl)).trans (congrArg Value.bool hc8)) ?_)
          have hc8_ := of_decide_eq_false hc8
          refine (W_exit ?_)
          refine W_seq (region_q {} TBok hF (F' := [(6, iv (lieS s rs t k)), (7, .bool true), (8, iv 0)]) (rs := []) [6, 7, 8] .nil (by kernel_rfl) fun a w hF hE => ?_)
          replace hO := hO.ext hE; clear hE
          refine W_ret ?_
          show bodyPostM (FW none) 0 _ _ _ Exit.ret a w
          have hkk : k = t.length := by omega
          have hres : trackR s rs t = (lieS s rs t k, true, 0) := by unfold trackR; rw [if_neg (by omega), if_neg hne3, if_pos (isTrB_all (fun j hj => hall j (by omega))), hkk]
          exact leave_r TBok hF (.nil _) (vs := [iv (lieS s rs t k), .bool true, iv 0]) (rs := []) .nil (by kernel_rfl) ⟨by rw [hres]; rfl, hO.kp⟩
    · have her := err_rep hv hr
      refine op_call (i := 2) (f := 47) (args := #[.agg (sS6 s v), .slice p n c]) (d := some 15) TBok (by kernel_rfl) hF (by kernel_rfl) (read_rep s v rs p n c _ (hs.upM hO.kp nom (Nat.le_refl _)) hv (hx.upM hO.kp nom (Nat.le_refl _)) hr) fun e w hR => ?_
      obtain ⟨he, hE⟩ := hR
      refine ⟨_, he, fun a hF => ?_⟩
      replace hO := hO.ext hE; clear hE he
      refine seq_quiet {} TBok hF (F' := [(2, .slice tp tn tc), (6, iv 0), (7, .bool false), (8, iv 0), (16, .agg #[iv 0, iv 0, .slice none 0 0, iv 0, .slice none 0 0, iv 0, .map none, .slice none 0 0]), (17, iv 11)]) (rs := []) [3, 4, 5] [6, 7, 8] [2, 6, 7, 8, 16, 17] .nil (by kernel_rfl) fun a w hF hE => ?_
      replace hO := hO.ext hE; clear hE
      refine op_alloc (i := 6) (t := 80) (d := 9) (z := .agg #[iv 0, iv 0, .slice none 0 0, iv 0, .slice none 0 0, iv 0, .map none, .slice none 0 0]) hF hO (by kernel_rfl) (by kernel_rfl) fun a w b10 hF hO _ => ?_
      refine op_store (i := 7) (t := 80) (p := ⟨b10, 0, none⟩) (v := .agg #[iv 0, iv 0, .slice none 0 0, iv 0, .slice none 0 0, iv 0, .map none, .slice none 0 0]) (off := 0) (sz := 8) (cs' := #[iv 0, iv 0, .slice none 0 0, iv 0, .slice none 0 0, iv 0, .map none, .slice none 0 0]) hF hO (by kernel_rfl) 1 rfl rfl (by kernel_rfl) (by kernel_rfl) (by kernel_rfl) fun a w hF hO _ => ?_
      refine seq_quiet {} TBok hF (F' := [(2, .slice tp tn tc), (6, iv 0), (7, .bool false), (8, iv 11), (9, pv b10)]) (rs := []) [8] [] [2, 6, 7, 8, 9] .nil (by kernel_rfl) fun a w hF hE => ?_
      replace hO := hO.ext hE; clear hE
      refine W_seq ?_
      refine W_seq (region_q {} TBok hF (F' := [(2, .slice tp tn tc), (6, iv 0), (7, .bool false), (8, iv 11), (9, pv b10), (19, .bool true)]) (rs := []) [2, 6, 7, 8, 9, 19] .nil (by kernel_rfl) fun a w hF hE => ?_)
      replace hO := hO.ext hE; clear hE
      refine (W_true (evOp hF (by kernel_rfl)) ?_)
      refine W_seq (region_q {} TBok hF (F' := [(2, .slice tp tn tc), (6, iv 0), (7, .bool false), (8, iv 11), (9, pv b10)]) (rs := []) [2, 6, 7, 8, 9] .nil (by kernel_rfl) fun a w hF hE => ?_)
      replace hO := hO.ext hE; clear hE
      refine W_ret ?_
      show bodyPostM (FW none) 0 _ _ _ Exit.ret a w
      have hres : trackR s rs t = (0, false, 11) := by unfold trackR; rw [her, if_pos (by decide)]
      exact leave_r TBok hF (.nil _) (vs := [iv 0, .bool false, iv 11]) (rs := []) .nil (by kernel_rfl) ⟨by rw [hres]; rfl, hO.kp⟩

end Go.Proofs.Ytgihgcclabodbaa.DK
