/- Walks: reports read. Printed by my gen.py out of shoal/c.py. -/
import Derived.Test.YtgihgcclabodbaaSB
namespace Go.Proofs.Ytgihgcclabodbaa.DK
open Go Go.Proofs
set_option linter.unusedVariables false
set_option linter.unusedSimpArgs false

set_option maxHeartbeats 4000000 in
set_option maxRecDepth 100000 in
theorem areReports_calls (s : Sea) (v : SV) (mb : Nat) (rs : List Rp) (p : Option Addr) (n c : Nat) (w0 : World) (hv : seaB s = true) (hx : Rd encRp 4 w0.heap.size w0 p n rs) :
    Calls Try.prog 78 #[.agg (sS7 s v mb), .slice p n c] w0 (fun e w' => e = .returned (.bool (rpsB s rs)) ∧ Ext w0 w') := by
  have hv1 := sea_ok hv; have hl3 := hx.len; have hs3 := hx.size
  refine calls_of_W Try.func78 rfl (by kernel_rfl) (args := [.agg (sS7 s v mb), .slice p n c]) fun a hF => ?_
  replace hF : Fr 42 [] [(0, .agg (sS7 s v mb)), (1, .slice p n c)] a := hF
  have hO : Own w0 none_ [] w0 := Own.start w0 _
  refine W_seq (region_seq ?_)
  refine op_box (i := 0) (t := 77) (v := .agg (sS7 s v mb)) (d := 2) hF hO (by kernel_rfl) fun a w b1 hF hO _ => ?_
  refine seq_quiet {} TBok hF (F' := [(1, .slice p n c), (2, pv b1), (4, .bool false)]) (rs := []) [1] [] [1, 2, 4] .nil (by kernel_rfl) fun a w hF hE => ?_
  replace hO := hO.ext hE; clear hE
  refine W_seq (region_q {} TBok hF (F' := [(1, .slice p n c), (2, pv b1), (4, .bool false), (5, .bool (decide ((n : Int) ≤ 24)))]) (rs := []) [1, 2, 4, 5] .nil (by kernel_rfl) fun a w hF hE => ?_)
  replace hO := hO.ext hE; clear hE
  refine W_seq ?_
  refine W_seq (region_q {} TBok hF (F' := [(2, pv b1), (4, .bool false), (5, .bool (decide ((n : Int) ≤ 24))), (11, .slice p n c), (12, iv (n : Int)), (13, iv 0)]) (rs := []) [2, 4, 5, 11, 12, 13] .nil (by kernel_rfl) fun a w hF hE => ?_)
  replace hO := hO.ext hE; clear hE
  refine (W_block ?_)
  refine (W_loop (fun m a w => ∃ (k : Nat), ∃ (ok : Bool), m = n - k ∧ k ≤ n ∧ ok = (decide ((rs.length : Int) ≤ 24) && (rs.take k).all (rpB s)) ∧ Fr 42 [] [(2, pv b1), (4, .bool false), (5, .bool ok), (11, .slice p n c), (12, iv (n : Int)), (13, iv (k : Int))] a ∧ Own w0 none_ [cel b1 (sS7 s v mb) 77] w) _ ⟨0, _, rfl, Nat.zero_le _, (by rw [hl3]; simp), hF, hO⟩ ?_)
  clear hF hO
  rintro _ a w ⟨k, ok, rfl, hk, hok, hF, hO⟩
  refine W_seq (region_q {} TBok hF (F' := [(2, pv b1), (4, .bool false), (5, .bool ok), (11, .slice p n c), (12, iv (n : Int)), (13, iv (k : Int)), (14, .bool (decide ((k : Int) < (n : Int))))]) (rs := []) [2, 4, 5, 11, 12, 13, 14] .nil (by kernel_rfl) fun a w hF hE => ?_)
  replace hO := hO.ext hE; clear hE
  rcases Bool.eq_false_or_eq_true (decide ((k : Int) < (n : Int))) with hc2 | hc2
  · refine W_seq (W_true ((evOp hF (by kernel_rfl)).trans (congrArg Value.bool hc2)) ?_)
    have hc2_ := of_decide_eq_true hc2
    refine (W_skip ?_)
    refine W_seq (W_block ?_)
    refine W_seq (region_seq ?_)
    refine seq_quiet {} TBok hF (F' := [(2, pv b1), (4, .bool false), (5, .bool ok), (11, .slice p n c), (12, iv (n : Int)), (13, iv (k : Int)), (16, .agg #[iv ((rs.getD k default).hr), iv ((rs.getD k default).cell), iv ((rs.getD k default).far), .bool ((rs.getD k default).th)])]) (rs := [.idx p n (k : Int) 4 (adr p 4 (k : Int)), .lds (adr p 4 (k : Int)) [iv ((rs.getD k default).hr), iv ((rs.getD k default).cell), iv ((rs.getD k default).far), .bool ((rs.getD k default).th)]]) [0, 1] [2, 3] [2, 4, 5, 11, 12, 13, 16] (.cons (ix hx (by omega) (by omega)) <| .cons (ldsx hO.st nom hx (by omega) (by omega) rfl) <| .nil) (by kernel_rfl) fun a w hF hE => ?_
    replace hO := hO.ext hE; clear hE
    refine op_alloc (i := 2) (t := 52) (d := 7) (z := .agg #[iv 0, iv 0, iv 0, .bool false]) hF hO (by kernel_rfl) (by kernel_rfl) fun a w b3 hF hO _ => ?_
    refine op_store (i := 3) (t := 52) (p := ⟨b3, 0, none⟩) (v := .agg #[iv ((rs.getD k default).hr), iv ((rs.getD k default).cell), iv ((rs.getD k default).far), .bool ((rs.getD k default).th)]) (off := 0) (sz := 4) (cs' := #[iv ((rs.getD k default).hr), iv ((rs.getD k default).cell), iv ((rs.getD k default).far), .bool ((rs.getD k default).th)]) hF hO (by kernel_rfl) 1 rfl rfl (by kernel_rfl) (by kernel_rfl) (by kernel_rfl) fun a w hF hO _ => ?_
    replace hF := hF.sel [2, 4, 5, 7, 11, 12, 13]
    replace hF : Fr 42 [] [(2, pv b1), (4, .bool false), (5, .bool ok), (7, pv b3), (11, .slice p n c), (12, iv (n : Int)), (13, iv (k : Int))] a := hF
    refine (region_d { sy := [1, 10, 18] } mixed TBok hF (F' := [(2, pv b1), (4, .bool false), (5, .bool (cond (cond (cond ok (inB ((rs.getD k default).hr) 0 (s.hours - 1)) false) (inB ((rs.getD k default).cell) 0 ((nC s) - 1)) false) (inB ((rs.getD k default).far) 0 9) false)), (11, .slice p n c), (12, iv (n : Int)), (13, iv (k : Int))]) (rs := [.und ok (.ld ⟨b3, 0, none⟩ (iv ((rs.getD k default).hr))), .und ok (.ld ⟨b1, 3, none⟩ (iv s.hours)), .und ok (.rng (s.hours - 1)), .und ok (.call 48 #[iv ((rs.getD k default).hr), iv 0, iv (s.hours - 1)] (.bool (inB ((rs.getD k default).hr) 0 (s.hours - 1)))), .und (cond ok (inB ((rs.getD k default).hr) 0 (s.hours - 1)) false) (.ld ⟨b3, 1, none⟩ (iv ((rs.getD k default).cell))), .und (cond ok (inB ((rs.getD k default).hr) 0 (s.hours - 1)) false) (.lds ⟨b1, 0, none⟩ (sL7 s v mb)), .und (cond ok (inB ((rs.getD k default).hr) 0 (s.hours - 1)) false) (.call 49 #[.agg (sS7 s v mb)] (iv (nC s))), .und (cond ok (inB ((rs.getD k default).hr) 0 (s.hours - 1)) false) (.rng ((nC s) - 1)), .und (cond ok (inB ((rs.getD k default).hr) 0 (s.hours - 1)) false) (.call 48 #[iv ((rs.getD k default).cell), iv 0, iv ((nC s) - 1)] (.bool (inB ((rs.getD k default).cell) 0 ((nC s) - 1)))), .und (cond (cond ok (inB ((rs.getD k default).hr) 0 (s.hours - 1)) false) (inB ((rs.getD k default).cell) 0 ((nC s) - 1)) false) (.ld ⟨b3, 2, none⟩ (iv ((rs.getD k default).far))), .und (cond (cond ok (inB ((rs.getD k default).hr) 0 (s.hours - 1)) false) (inB ((rs.getD k default).cell) 0 ((nC s) - 1)) false) (.call 48 #[iv ((rs.getD k default).far), iv 0, iv 9] (.bool (inB ((rs.getD k default).far) 0 9)))]) [2, 4, 5, 11, 12, 13] (.cons (fun hg => (ldo hO.st 1 rfl 0 rfl)) <| .cons (fun hg => (ldo hO.st 0 rfl 3 rfl)) <| .cons (fun hg => (rg (by omega))) <| .cons (fun hg => (fun w _ => within_calls _ _ _ w)) <| .cons (fun hg => (ldo hO.st 1 rfl 1 rfl)) <| .cons (fun hg => (ldso hO.st 0 rfl 0 rfl)) <| .cons (fun hg => (fun w _ => many_calls s v mb w hv)) <| .cons (fun hg => (rg (by omega))) <| .cons (fun hg => (fun w _ => within_calls _ _ _ w)) <| .cons (fun hg => (ldo hO.st 1 rfl 2 rfl)) <| .cons (fun hg => (fun w _ => within_calls _ _ _ w)) <| .nil) (by kernel_rfl) (by kernel_rfl) fun a w hF hE => ?_)
    replace hO := hO.ext hE; clear hE
    refine (region_q {} TBok hF (F' := [(2, pv b1), (4, .bool false), (5, .bool (cond (cond (cond ok (inB ((rs.getD k default).hr) 0 (s.hours - 1)) false) (inB ((rs.getD k default).cell) 0 ((nC s) - 1)) false) (inB ((rs.getD k default).far) 0 9) false)), (11, .slice p n c), (12, iv (n : Int)), (13, iv ((k : Int) + 1))]) (rs := [.rng ((k : Int) + 1)]) [2, 4, 5, 11, 12, 13] (.cons (rg (by omega)) <| .nil) (by kernel_rfl) fun a w hF hE => ?_)
    replace hO := hO.ext hE; clear hE
    replace hO := hO.drop1 1
    replace hO : Own w0 none_ [cel b1 (sS7 s v mb) 77] w := hO
    exact ⟨_, by omega, k + 1, _, rfl, by omega, by rw [take_all _ (by omega), ← Bool.and_assoc, ← hok]; cases ok <;> rfl, hF, hO⟩
  · refine W_seq (W_false ((evOp hF (by kernel_rfl)).trans (congrArg Value.bool hc2)) ?_)
    have hc2_ := of_decide_eq_false hc2
    refine (W_exit ?_)
    refine W_seq (region_q {} TBok hF (F' := [(4, .bool ok)]) (rs := []) [4] .nil (by kernel_rfl) fun a w hF hE => ?_)
    replace hO := hO.ext hE; clear hE
    refine W_ret ?_
    show bodyPostM (FW none) 0 _ _ _ Exit.ret a w
    have hok2 : rpsB s rs = ok := by rw [hok, rpsB, List.take_of_length_le (by omega)]
    exact leave_r TBok hF (.nil _) (vs := [.bool ok]) (rs := []) .nil (by kernel_rfl) ⟨by rw [hok2]; rfl, hO.kp⟩

set_option maxHeartbeats 4000000 in
set_option maxRecDepth 100000 in
theorem isTrue_calls (x : Rq) (q : Int × Int) (w0 : World) (hp : plB (x.c, x.r)) (hq : plB q) :
    Calls Try.prog 65 #[.agg #[iv x.hr, iv x.cell, iv x.far, .bool x.th, iv x.c, iv x.r], .agg #[iv q.1, iv q.2]] w0 (fun e w' => e = .returned (.bool (trueB x q)) ∧ Ext w0 w') := by
  refine calls_of_W Try.func65 rfl (by kernel_rfl) (args := [.agg #[iv x.hr, iv x.cell, iv x.far, .bool x.th, iv x.c, iv x.r], .agg #[iv q.1, iv q.2]]) fun a hF => ?_
  replace hF : Fr 17 [] [(0, .agg #[iv x.hr, iv x.cell, iv x.far, .bool x.th, iv x.c, iv x.r]), (1, .agg #[iv q.1, iv q.2])] a := hF
  have hO : Own w0 none_ [] w0 := Own.start w0 _
  refine W_seq (region_seq ?_)
  refine op_box (i := 0) (t := 105) (v := .agg #[iv x.hr, iv x.cell, iv x.far, .bool x.th, iv x.c, iv x.r]) (d := 2) hF hO (by kernel_rfl) fun a w b1 hF hO _ => ?_
  refine op_box (i := 1) (t := 85) (v := .agg #[iv q.1, iv q.2]) (d := 3) hF hO (by kernel_rfl) fun a w b2 hF hO _ => ?_
  refine seq_quiet {} TBok hF (F' := [(2, pv b1), (3, pv b2), (4, .bool false)]) (rs := []) [2] [] [2, 3, 4] .nil (by kernel_rfl) fun a w hF hE => ?_
  replace hO := hO.ext hE; clear hE
  refine W_seq (region_d { md := [(11, 3)] } mixed TBok hF (F' := [(4, .bool (x.th == (decide ((farP (x.c, x.r) q) ≤ x.far))))]) (rs := [.ld ⟨b1, 3, none⟩ (.bool x.th), .lds ⟨b1, 4, none⟩ [iv x.c, iv x.r], .lds ⟨b2, 0, none⟩ [iv q.1, iv q.2], .call 79 #[.agg #[iv x.c, iv x.r], .agg #[iv q.1, iv q.2]] (iv (farP (x.c, x.r) q)), .ld ⟨b1, 2, none⟩ (iv x.far), .raw (rb .eql 4 (.tmp 7) (.tmp 15) (.bool x.th) (.bool (decide ((farP (x.c, x.r) q) ≤ x.far)))) (.bool (x.th == (decide ((farP (x.c, x.r) q) ≤ x.far))))]) [4] (.cons (ldo hO.st 0 rfl 3 rfl) <| .cons (ldso hO.st 0 rfl 4 rfl) <| .cons (ldso hO.st 1 rfl 0 rfl) <| .cons (fun w _ => far_calls (x.c, x.r) q w hp hq) <| .cons (ldo hO.st 0 rfl 2 rfl) <| .cons (raw_eqB boolT4 _ _) <| .nil) (by kernel_rfl) (by kernel_rfl) fun a w hF hE => ?_)
  replace hO := hO.ext hE; clear hE
  refine W_ret ?_
  show bodyPostM (FW none) 0 _ _ _ Exit.ret a w
  exact leave_r TBok hF (.nil _) (vs := [.bool (x.th == (decide ((farP (x.c, x.r) q) ≤ x.far)))]) (rs := []) .nil (by kernel_rfl) ⟨rfl, hO.kp⟩

set_option maxHeartbeats 4000000 in
set_option maxRecDepth 100000 in
theorem read_no (s : Sea) (v : SV) (rs : List Rp) (p : Option Addr) (n c : Nat) (w0 : World) (hs : SeaR w0.heap.size w0 v s) (hc0 : chk s = 10) (hx : Rd encRp 4 w0.heap.size w0 p n rs) :
    Calls Try.prog 47 #[.agg (sS6 s v), .slice p n c] w0 (fun e w' => e = .returned (.tuple #[.agg #[iv 0, iv 0, .slice none 0 0, iv 0, .slice none 0 0, iv 0, .map none, .slice none 0 0], iv 10]) ∧ Ext w0 w') := by
  have hl1 := hs.land.len; have hl2 := hs.drift.len; have hs1 := hs.land.size; have hs2 := hs.drift.size; have hr_ := hs.rg; unfold i64 at hr_; have hl3 := hx.len; have hs3 := hx.size
  refine calls_of_W Try.func47 rfl (by kernel_rfl) (args := [.agg (sS6 s v), .slice p n c]) fun a hF => ?_
  replace hF : Fr 46 [] [(0, .agg (sS6 s v)), (1, .slice p n c)] a := hF
  have hO : Own w0 none_ [] w0 := Own.start w0 _
  refine W_seq (region_seq ?_)
  refine op_box (i := 0) (t := 25) (v := .agg (sS6 s v)) (d := 2) hF hO (by kernel_rfl) fun a w b1 hF hO _ => ?_
  refine op_alloc (i := 1) (t := 80) (d := 4) (z := .agg #[iv 0, iv 0, .slice none 0 0, iv 0, .slice none 0 0, iv 0, .map none, .slice none 0 0]) hF hO (by kernel_rfl) (by kernel_rfl) fun a w b2 hF hO _ => ?_
  refine seq_quiet {} TBok hF (F' := [(1, .slice p n c), (2, pv b1), (4, pv b2), (5, iv 0)]) (rs := []) [2] [] [1, 2, 4, 5] .nil (by kernel_rfl) fun a w hF hE => ?_
  replace hO := hO.ext hE; clear hE
  refine W_seq (region_seq ?_)
  refine seq_quiet {} TBok hF (F' := [(1, .slice p n c), (4, pv b2), (5, iv 0), (12, .agg (sS6 s v))]) (rs := [.lds ⟨b1, 0, none⟩ (sL6 s v)]) [0] [1, 2, 3, 4, 5, 6, 7] [1, 4, 5, 12] (.cons (ldso hO.st 0 rfl 0 rfl) <| .nil) (by kernel_rfl) fun a w hF hE => ?_
  replace hO := hO.ext hE; clear hE
  refine op_call (i := 1) (f := 77) (args := #[.agg (sS6 s v)]) (d := some 13) TBok (by kernel_rfl) hF (by kernel_rfl) (opened_no s v _ (hs.upM hO.kp nom (Nat.le_refl _)) hc0) fun e w hR => ?_
  obtain ⟨he, hE⟩ := hR
  refine ⟨_, he, fun a hF => ?_⟩
  replace hO := hO.ext hE; clear hE he
  refine seq_quiet {} TBok hF (F' := [(1, .slice p n c), (4, pv b2), (5, iv 0), (14, .agg #[iv 0, iv 0, .slice none 0 0, iv 0, .slice none 0 0, iv 0, .map none]), (15, iv 10)]) (rs := []) [2, 3, 4] [5, 6, 7] [1, 4, 5, 14, 15] .nil (by kernel_rfl) fun a w hF hE => ?_
  replace hO := hO.ext hE; clear hE
  refine op_alloc (i := 5) (t := 77) (d := 6) (z := .agg #[iv 0, iv 0, .slice none 0 0, iv 0, .slice none 0 0, iv 0, .map none]) hF hO (by kernel_rfl) (by kernel_rfl) fun a w b3 hF hO _ => ?_
  refine op_store (i := 6) (t := 77) (p := ⟨b3, 0, none⟩) (v := .agg #[iv 0, iv 0, .slice none 0 0, iv 0, .slice none 0 0, iv 0, .map none]) (off := 0) (sz := 7) (cs' := #[iv 0, iv 0, .slice none 0 0, iv 0, .slice none 0 0, iv 0, .map none]) hF hO (by kernel_rfl) 2 rfl rfl (by kernel_rfl) (by kernel_rfl) (by kernel_rfl) fun a w hF hO _ => ?_
  replace hO : Own w0 none_ [cel b1 (sS6 s v) 25, cel b2 #[iv 0, iv 0, .slice none 0 0, iv 0, .slice none 0 0, iv 0, .map none, .slice none 0 0] 80, cel b3 #[iv 0, iv 0, .slice none 0 0, iv 0, .slice none 0 0, iv 0, .map none] 77] w := hO
  refine seq_quiet {} TBok hF (F' := [(1, .slice p n c), (4, pv b2), (5, iv 0), (6, pv b3), (7, iv 10)]) (rs := []) [7] [] [1, 4, 5, 6, 7] .nil (by kernel_rfl) fun a w hF hE => ?_
  replace hO := hO.ext hE; clear hE
  refine W_seq ?_
  refine W_seq (region_q {} TBok hF (F' := [(1, .slice p n c), (4, pv b2), (5, iv 0), (6, pv b3), (7, iv 10), (17, .bool true)]) (rs := []) [1, 4, 5, 6, 7, 17] .nil (by kernel_rfl) fun a w hF hE => ?_)
  replace hO := hO.ext hE; clear hE
  refine (W_true (evOp hF (by kernel_rfl)) ?_)
  refine W_seq (region_seq ?_)
  refine seq_quiet { md := [(0, 3)] } TBok hF (F' := [(1, .slice p n c), (4, pv b2), (5, iv 0), (6, pv b3), (18, .agg #[iv 0, iv 0, .slice none 0 0, iv 0, .slice none 0 0, iv 0, .map none, .slice none 0 0]), (19, iv 10)]) (rs := [.raw (Instr.build 80 #[]) (.agg #[iv 0, iv 0, .slice none 0 0, iv 0, .slice none 0 0, iv 0, .map none, .slice none 0 0])]) [0, 1] [2, 3] [1, 4, 5, 6, 18, 19] (.cons (fun w _ => by kernel_rfl) <| .nil) (by kernel_rfl) fun a w hF hE => ?_
  replace hO := hO.ext hE; clear hE
  refine op_store (i := 2) (t := 80) (p := ⟨b2, 0, none⟩) (v := .agg #[iv 0, iv 0, .slice none 0 0, iv 0, .slice none 0 0, iv 0, .map none, .slice none 0 0]) (off := 0) (sz := 8) (cs' := #[iv 0, iv 0, .slice none 0 0, iv 0, .slice none 0 0, iv 0, .map none, .slice none 0 0]) hF hO (by kernel_rfl) 1 rfl rfl (by kernel_rfl) (by kernel_rfl) (by kernel_rfl) fun a w hF hO _ => ?_
  refine seq_quiet {} TBok hF (F' := [(1, .slice p n c), (4, pv b2), (5, iv 10), (6, pv b3)]) (rs := []) [3] [] [1, 4, 5, 6] .nil (by kernel_rfl) fun a w hF hE => ?_
  replace hO := hO.ext hE; clear hE
  refine W_ret ?_
  show bodyPostM (FW none) 0 _ _ _ Exit.ret a w
  exact leave_r TBok hF (.nil _) (vs := [.agg #[iv 0, iv 0, .slice none 0 0, iv 0, .slice none 0 0, iv 0, .map none, .slice none 0 0], iv 10]) (rs := [.lds ⟨b2, 0, none⟩ [iv 0, iv 0, .slice none 0 0, iv 0, .slice none 0 0, iv 0, .map none, .slice none 0 0]]) (.cons (rdso hO 1 rfl 0 rfl) <| .nil) (by kernel_rfl) ⟨rfl, hO.kp⟩

set_option maxHeartbeats 4000000 in
set_option maxRecDepth 100000 in
theorem read_rep (s : Sea) (v : SV) (rs : List Rp) (p : Option Addr) (n c : Nat) (w0 : World) (hs : SeaR w0.heap.size w0 v s) (hv : seaB s = true) (hx : Rd encRp 4 w0.heap.size w0 p n rs) (hc1 : rpsB s rs = false) :
    Calls Try.prog 47 #[.agg (sS6 s v), .slice p n c] w0 (fun e w' => e = .returned (.tuple #[.agg #[iv 0, iv 0, .slice none 0 0, iv 0, .slice none 0 0, iv 0, .map none, .slice none 0 0], iv 11]) ∧ Ext w0 w') := by
  have hl1 := hs.land.len; have hl2 := hs.drift.len; have hs1 := hs.land.size; have hs2 := hs.drift.size; have hr_ := hs.rg; unfold i64 at hr_; have hv1 := sea_ok hv; have hl3 := hx.len; have hs3 := hx.size
  refine calls_of_W Try.func47 rfl (by kernel_rfl) (args := [.agg (sS6 s v), .slice p n c]) fun a hF => ?_
  replace hF : Fr 46 [] [(0, .agg (sS6 s v)), (1, .slice p n c)] a := hF
  have hO : Own w0 none_ [] w0 := Own.start w0 _
  refine W_seq (region_seq ?_)
  refine op_box (i := 0) (t := 25) (v := .agg (sS6 s v)) (d := 2) hF hO (by kernel_rfl) fun a w b1 hF hO _ => ?_
  refine op_alloc (i := 1) (t := 80) (d := 4) (z := .agg #[iv 0, iv 0, .slice none 0 0, iv 0, .slice none 0 0, iv 0, .map none, .slice none 0 0]) hF hO (by kernel_rfl) (by kernel_rfl) fun a w b2 hF hO _ => ?_
  refine seq_quiet {} TBok hF (F' := [(1, .slice p n c), (2, pv b1), (4, pv b2), (5, iv 0)]) (rs := []) [2] [] [1, 2, 4, 5] .nil (by kernel_rfl) fun a w hF hE => ?_
  replace hO := hO.ext hE; clear hE
  refine W_seq (region_seq ?_)
  refine seq_quiet {} TBok hF (F' := [(1, .slice p n c), (4, pv b2), (5, iv 0), (12, .agg (sS6 s v))]) (rs := [.lds ⟨b1, 0, none⟩ (sL6 s v)]) [0] [1, 2, 3, 4, 5, 6, 7] [1, 4, 5, 12] (.cons (ldso hO.st 0 rfl 0 rfl) <| .nil) (by kernel_rfl) fun a w hF hE => ?_
  replace hO := hO.ext hE; clear hE
  refine op_call (i := 1) (f := 77) (args := #[.agg (sS6 s v)]) (d := some 13) TBok (by kernel_rfl) hF (by kernel_rfl) (opened_ok s v _ (hs.upM hO.kp nom (Nat.le_refl _)) hv) fun e w hR => ?_
  obtain ⟨b3, he, hO2⟩ := hR
  refine ⟨_, he, fun a hF => ?_⟩
  replace hO := hO.joinE hO2; clear hO2 he
  refine seq_quiet {} TBok hF (F' := [(1, .slice p n c), (4, pv b2), (5, iv 0), (14, .agg (sS7 s v b3)), (15, iv 0)]) (rs := []) [2, 3, 4] [5, 6, 7] [1, 4, 5, 14, 15] .nil (by kernel_rfl) fun a w hF hE => ?_
  replace hO := hO.ext hE; clear hE
  refine op_alloc (i := 5) (t := 77) (d := 6) (z := .agg #[iv 0, iv 0, .slice none 0 0, iv 0, .slice none 0 0, iv 0, .map none]) hF hO (by kernel_rfl) (by kernel_rfl) fun a w b4 hF hO _ => ?_
  replace hO : Own w0 none_ [cel b1 (sS6 s v) 25, cel b2 #[iv 0, iv 0, .slice none 0 0, iv 0, .slice none 0 0, iv 0, .map none, .slice none 0 0] 80, mapT b3 (.bool false) Value.bool (landF s), cel b4 #[iv 0, iv 0, .slice none 0 0, iv 0, .slice none 0 0, iv 0, .map none] 77] w := hO
  refine op_store (i := 6) (t := 77) (p := ⟨b4, 0, none⟩) (v := .agg (sS7 s v b3)) (off := 0) (sz := 7) (cs' := (sS7 s v b3)) hF hO (by kernel_rfl) 3 rfl rfl (by kernel_rfl) (by kernel_rfl) (by kernel_rfl) fun a w hF hO _ => ?_
  refine seq_quiet {} TBok hF (F' := [(1, .slice p n c), (4, pv b2), (5, iv 0), (6, pv b4), (7, iv 0)]) (rs := []) [7] [] [1, 4, 5, 6, 7] .nil (by kernel_rfl) fun a w hF hE => ?_
  replace hO := hO.ext hE; clear hE
  refine W_seq ?_
  refine W_seq (region_q {} TBok hF (F' := [(1, .slice p n c), (4, pv b2), (5, iv 0), (6, pv b4), (7, iv 0), (17, .bool false)]) (rs := []) [1, 4, 5, 6, 7, 17] .nil (by kernel_rfl) fun a w hF hE => ?_)
  replace hO := hO.ext hE; clear hE
  refine (W_false (evOp hF (by kernel_rfl)) ?_)
  refine (W_skip ?_)
  refine W_seq ?_
  refine W_seq (region_q {} TBok hF (F' := [(1, .slice p n c), (4, pv b2), (5, iv 0), (6, pv b4), (23, .bool true)]) (rs := [.lds ⟨b4, 0, none⟩ (sL7 s v b3), .call 78 #[.agg (sS7 s v b3), .slice p n c] (.bool false)]) [1, 4, 5, 6, 23] (.cons (ldso hO.st 3 rfl 0 rfl) <| .cons (fun w hE => calls_cast (v := .bool (rpsB s rs)) (v' := .bool false) (areReports_calls s v b3 rs p n c w hv (hx.upM (hO.st w hE).kp nom (Nat.le_refl _))) (by rw [hc1])) <| .nil) (by kernel_rfl) fun a w hF hE => ?_)
  replace hO := hO.ext hE; clear hE
  refine (W_true (evOp hF (by kernel_rfl)) ?_)
  refine W_seq (region_seq ?_)
  refine seq_quiet { md := [(0, 3)] } TBok hF (F' := [(1, .slice p n c), (4, pv b2), (5, iv 0), (6, pv b4), (24, .agg #[iv 0, iv 0, .slice none 0 0, iv 0, .slice none 0 0, iv 0, .map none, .slice none 0 0])]) (rs := [.raw (Instr.build 80 #[]) (.agg #[iv 0, iv 0, .slice none 0 0, iv 0, .slice none 0 0, iv 0, .map none, .slice none 0 0])]) [0] [1, 2] [1, 4, 5, 6, 24] (.cons (fun w _ => by kernel_rfl) <| .nil) (by kernel_rfl) fun a w hF hE => ?_
  replace hO := hO.ext hE; clear hE
  refine op_store (i := 1) (t := 80) (p := ⟨b2, 0, none⟩) (v := .agg #[iv 0, iv 0, .slice none 0 0, iv 0, .slice none 0 0, iv 0, .map none, .slice none 0 0]) (off := 0) (sz := 8) (cs' := #[iv 0, iv 0, .slice none 0 0, iv 0, .slice none 0 0, iv 0, .map none, .slice none 0 0]) hF hO (by kernel_rfl) 1 rfl rfl (by kernel_rfl) (by kernel_rfl) (by kernel_rfl) fun a w hF hO _ => ?_
  refine seq_quiet {} TBok hF (F' := [(1, .slice p n c), (4, pv b2), (5, iv 11), (6, pv b4)]) (rs := []) [2] [] [1, 4, 5, 6] .nil (by kernel_rfl) fun a w hF hE => ?_
  replace hO := hO.ext hE; clear hE
  refine W_ret ?_
  show bodyPostM (FW none) 0 _ _ _ Exit.ret a w
  exact leave_r TBok hF (.nil _) (vs := [.agg #[iv 0, iv 0, .slice none 0 0, iv 0, .slice none 0 0, iv 0, .map none, .slice none 0 0], iv 11]) (rs := [.lds ⟨b2, 0, none⟩ [iv 0, iv 0, .slice none 0 0, iv 0, .slice none 0 0, iv 0, .map none, .slice none 0 0]]) (.cons (rdso hO 1 rfl 0 rfl) <| .nil) (by kernel_rfl) ⟨rfl, hO.kp⟩

set_option maxHeartbeats 4000000 in
set_option maxRecDepth 100000 in
theorem read_ok (s : Sea) (v : SV) (rs : List Rp) (p : Option Addr) (n c : Nat) (w0 : World) (hs : SeaR w0.heap.size w0 v s) (hv : seaB s = true) (hx : Rd encRp 4 w0.heap.size w0 p n rs) (hc1 : rpsB s rs = true) :
    Calls Try.prog 47 #[.agg (sS6 s v), .slice p n c] w0 (fun e w' => ∃ mb qa qc, e = .returned (.tuple #[.agg (sS8 s v mb qa n qc), iv 0]) ∧ Own w0 none_ [mapT mb (.bool false) Value.bool (landF s), rowR 105 6 (.slice qa n qc) n ((rqs s rs).flatMap encRq)] w') := by
  have hl1 := hs.land.len; have hl2 := hs.drift.len; have hs1 := hs.land.size; have hs2 := hs.drift.size; have hr_ := hs.rg; unfold i64 at hr_; have hv1 := sea_ok hv; have hl3 := hx.len; have hs3 := hx.size; have hrp := rp_ok hc1
  refine calls_of_W Try.func47 rfl (by kernel_rfl) (args := [.agg (sS6 s v), .slice p n c]) fun a hF => ?_
  replace hF : Fr 46 [] [(0, .agg (sS6 s v)), (1, .slice p n c)] a := hF
  have hO : Own w0 none_ [] w0 := Own.start w0 _
  refine W_seq (region_seq ?_)
  refine op_box (i := 0) (t := 25) (v := .agg (sS6 s v)) (d := 2) hF hO (by kernel_rfl) fun a w b1 hF hO _ => ?_
  refine op_alloc (i := 1) (t := 80) (d := 4) (z := .agg #[iv 0, iv 0, .slice none 0 0, iv 0, .slice none 0 0, iv 0, .map none, .slice none 0 0]) hF hO (by kernel_rfl) (by kernel_rfl) fun a w b2 hF hO _ => ?_
  refine seq_quiet {} TBok hF (F' := [(1, .slice p n c), (2, pv b1), (4, pv b2), (5, iv 0)]) (rs := []) [2] [] [1, 2, 4, 5] .nil (by kernel_rfl) fun a w hF hE => ?_
  replace hO := hO.ext hE; clear hE
  refine W_seq (region_seq ?_)
  refine seq_quiet {} TBok hF (F' := [(1, .slice p n c), (4, pv b2), (5, iv 0), (12, .agg (sS6 s v))]) (rs := [.lds ⟨b1, 0, none⟩ (sL6 s v)]) [0] [1, 2, 3, 4, 5, 6, 7] [1, 4, 5, 12] (.cons (ldso hO.st 0 rfl 0 rfl) <| .nil) (by kernel_rfl) fun a w hF hE => ?_
  replace hO := hO.ext hE; clear hE
  refine op_call (i := 1) (f := 77) (args := #[.agg (sS6 s v)]) (d := some 13) TBok (by kernel_rfl) hF (by kernel_rfl) (opened_ok s v _ (hs.upM hO.kp nom (Nat.le_refl _)) hv) fun e w hR => ?_
  obtain ⟨b3, he, hO2⟩ := hR
  refine ⟨_, he, fun a hF => ?_⟩
  replace hO := hO.joinE hO2; clear hO2 he
  refine seq_quiet {} TBok hF (F' := [(1, .slice p n c), (4, pv b2), (5, iv 0), (14, .agg (sS7 s v b3)), (15, iv 0)]) (rs := []) [2, 3, 4] [5, 6, 7] [1, 4, 5, 14, 15] .nil (by kernel_rfl) fun a w hF hE => ?_
  replace hO := hO.ext hE; clear hE
  refine op_alloc (i := 5) (t := 77) (d := 6) (z := .agg #[iv 0, iv 0, .slice none 0 0, iv 0, .slice none 0 0, iv 0, .map none]) hF hO (by kernel_rfl) (by kernel_rfl) fun a w b4 hF hO _ => ?_
  replace hO : Own w0 none_ [cel b1 (sS6 s v) 25, cel b2 #[iv 0, iv 0, .slice none 0 0, iv 0, .slice none 0 0, iv 0, .map none, .slice none 0 0] 80, mapT b3 (.bool false) Value.bool (landF s), cel b4 #[iv 0, iv 0, .slice none 0 0, iv 0, .slice none 0 0, iv 0, .map none] 77] w := hO
  refine op_store (i := 6) (t := 77) (p := ⟨b4, 0, none⟩) (v := .agg (sS7 s v b3)) (off := 0) (sz := 7) (cs' := (sS7 s v b3)) hF hO (by kernel_rfl) 3 rfl rfl (by kernel_rfl) (by kernel_rfl) (by kernel_rfl) fun a w hF hO _ => ?_
  refine seq_quiet {} TBok hF (F' := [(1, .slice p n c), (4, pv b2), (5, iv 0), (6, pv b4), (7, iv 0)]) (rs := []) [7] [] [1, 4, 5, 6, 7] .nil (by kernel_rfl) fun a w hF hE => ?_
  replace hO := hO.ext hE; clear hE
  refine W_seq ?_
  refine W_seq (region_q {} TBok hF (F' := [(1, .slice p n c), (4, pv b2), (5, iv 0), (6, pv b4), (7, iv 0), (17, .bool false)]) (rs := []) [1, 4, 5, 6, 7, 17] .nil (by kernel_rfl) fun a w hF hE => ?_)
  replace hO := hO.ext hE; clear hE
  refine (W_false (evOp hF (by kernel_rfl)) ?_)
  refine (W_skip ?_)
  refine W_seq ?_
  refine W_seq (region_q {} TBok hF (F' := [(1, .slice p n c), (4, pv b2), (5, iv 0), (6, pv b4), (23, .bool false)]) (rs := [.lds ⟨b4, 0, none⟩ (sL7 s v b3), .call 78 #[.agg (sS7 s v b3), .slice p n c] (.bool true)]) [1, 4, 5, 6, 23] (.cons (ldso hO.st 3 rfl 0 rfl) <| .cons (fun w hE => calls_cast (v := .bool (rpsB s rs)) (v' := .bool true) (areReports_calls s v b3 rs p n c w hv (hx.upM (hO.st w hE).kp nom (Nat.le_refl _))) (by rw [hc1])) <| .nil) (by kernel_rfl) fun a w hF hE => ?_)
  replace hO := hO.ext hE; clear hE
  refine (W_false (evOp hF (by kernel_rfl)) ?_)
  refine (W_skip ?_)
  refine W_seq (region_seq ?_)
  refine seq_quiet { md := [(1, 3)] } TBok hF (F' := [(1, .slice p n c), (4, pv b2), (5, iv 0), (6, pv b4), (26, .agg (sS8 s v b3 none 0 0))]) (rs := [.lds ⟨b4, 0, none⟩ (sL7 s v b3), .raw (Instr.build 80 #[(0, .agg (sS7 s v b3))]) (.agg (sS8 s v b3 none 0 0))]) [0, 1] [2, 3] [1, 4, 5, 6, 26] (.cons (ldso hO.st 3 rfl 0 rfl) <| .cons (fun w _ => by kernel_rfl) <| .nil) (by kernel_rfl) fun a w hF hE => ?_
  replace hO := hO.ext hE; clear hE
  refine op_alloc (i := 2) (t := 80) (d := 8) (z := .agg #[iv 0, iv 0, .slice none 0 0, iv 0, .slice none 0 0, iv 0, .map none, .slice none 0 0]) hF hO (by kernel_rfl) (by kernel_rfl) fun a w b5 hF hO _ => ?_
  refine op_store (i := 3) (t := 80) (p := ⟨b5, 0, none⟩) (v := .agg (sS8 s v b3 none 0 0)) (off := 0) (sz := 8) (cs' := (sS8 s v b3 none 0 0)) hF hO (by kernel_rfl) 4 rfl rfl (by kernel_rfl) (by kernel_rfl) (by kernel_rfl) fun a w hF hO _ => ?_
  replace hF := hF.sel [1, 4, 5, 6, 8]
  replace hF : Fr 46 [] [(1, .slice p n c), (4, pv b2), (5, iv 0), (6, pv b4), (8, pv b5)] a := hF
  refine W_seq ?_
  refine W_seq (region_q {} TBok hF (F' := [(4, pv b2), (5, iv 0), (6, pv b4), (8, pv b5), (27, .slice p n c), (28, iv (n : Int)), (29, iv 0)]) (rs := []) [4, 5, 6, 8, 27, 28, 29] .nil (by kernel_rfl) fun a w hF hE => ?_)
  replace hO := hO.ext hE; clear hE
  refine (W_block ?_)
  replace hO := hO.nilRow 105 6
  replace hO : Own w0 none_ [cel b1 (sS6 s v) 25, cel b2 #[iv 0, iv 0, .slice none 0 0, iv 0, .slice none 0 0, iv 0, .map none, .slice none 0 0] 80, mapT b3 (.bool false) Value.bool (landF s), cel b4 (sS7 s v b3) 77, cel b5 (sS8 s v b3 none 0 0) 80, rowR 105 6 (.slice none 0 0) 0 ((rqs s (rs.take 0)).flatMap encRq)] w := hO
  refine (W_loop (fun m a w => ∃ (k : Nat), ∃ (q : Option Addr), ∃ (cc : Nat), m = n - k ∧ k ≤ n ∧ Fr 46 [] [(4, pv b2), (5, iv 0), (6, pv b4), (8, pv b5), (27, .slice p n c), (28, iv (n : Int)), (29, iv (k : Int))] a ∧ Own w0 none_ [cel b1 (sS6 s v) 25, cel b2 #[iv 0, iv 0, .slice none 0 0, iv 0, .slice none 0 0, iv 0, .map none, .slice none 0 0] 80, mapT b3 (.bool false) Value.bool (landF s), cel b4 (sS7 s v b3) 77, cel b5 (sS8 s v b3 q k cc) 80, rowR 105 6 (.slice q k cc) k ((rqs s (rs.take k)).flatMap encRq)] w) _ ⟨0, none, 0, rfl, Nat.zero_le _, hF, hO⟩ ?_)
  clear hF hO
  rintro _ a w ⟨k, q, cc, rfl, hk, hF, hO⟩
  refine W_seq (region_q {} TBok hF (F' := [(4, pv b2), (5, iv 0), (6, pv b4), (8, pv b5), (27, .slice p n c), (28, iv (n : Int)), (29, iv (k : Int)), (30, .bool (decide ((k : Int) < (n : Int))))]) (rs := []) [4, 5, 6, 8, 27, 28, 29, 30] .nil (by kernel_rfl) fun a w hF hE => ?_)
  replace hO := hO.ext hE; clear hE
  rcases Bool.eq_false_or_eq_true (decide ((k : Int) < (n : Int))) with hc6 | hc6
  · refine W_seq (W_true ((evOp hF (by kernel_rfl)).trans (congrArg Value.bool hc6)) ?_)
    have hc6_ := of_decide_eq_true hc6
    refine (W_skip ?_)
    refine W_seq (W_block ?_)
    refine W_seq (region_seq ?_)
    refine seq_quiet {} TBok hF (F' := [(4, pv b2), (5, iv 0), (6, pv b4), (8, pv b5), (27, .slice p n c), (28, iv (n : Int)), (29, iv (k : Int)), (32, .agg #[iv ((rs.getD k default).hr), iv ((rs.getD k default).cell), iv ((rs.getD k default).far), .bool ((rs.getD k default).th)])]) (rs := [.idx p n (k : Int) 4 (adr p 4 (k : Int)), .lds (adr p 4 (k : Int)) [iv ((rs.getD k default).hr), iv ((rs.getD k default).cell), iv ((rs.getD k default).far), .bool ((rs.getD k default).th)]]) [0, 1] [2, 3] [4, 5, 6, 8, 27, 28, 29, 32] (.cons (ix hx (by omega) (by omega)) <| .cons (ldsx hO.st nom hx (by omega) (by omega) rfl) <| .nil) (by kernel_rfl) fun a w hF hE => ?_
    replace hO := hO.ext hE; clear hE
    refine op_alloc (i := 2) (t := 52) (d := 10) (z := .agg #[iv 0, iv 0, iv 0, .bool false]) hF hO (by kernel_rfl) (by kernel_rfl) fun a w b7 hF hO _ => ?_
    refine op_store (i := 3) (t := 52) (p := ⟨b7, 0, none⟩) (v := .agg #[iv ((rs.getD k default).hr), iv ((rs.getD k default).cell), iv ((rs.getD k default).far), .bool ((rs.getD k default).th)]) (off := 0) (sz := 4) (cs' := #[iv ((rs.getD k default).hr), iv ((rs.getD k default).cell), iv ((rs.getD k default).far), .bool ((rs.getD k default).th)]) hF hO (by kernel_rfl) 6 rfl rfl (by kernel_rfl) (by kernel_rfl) (by kernel_rfl) fun a w hF hO _ => ?_
    replace hF := hF.sel [4, 5, 6, 8, 10, 27, 28, 29]
    replace hF : Fr 46 [] [(4, pv b2), (5, iv 0), (6, pv b4), (8, pv b5), (10, pv b7), (27, .slice p n c), (28, iv (n : Int)), (29, iv (k : Int))] a := hF
    refine (draw_start (R := (rowR 105 6 (.slice q k cc) k ((rqs s (rs.take k)).flatMap encRq)).fp) mixed [11] 12 (by kernel_rfl) fun w hS => ?_)
    replace hO := hO.ext hS
    have hH := hO.but 5 rfl; replace hS := Ext.kp (M := (rowR 105 6 (.slice q k cc) k ((rqs s (rs.take k)).flatMap encRq)).fp) hS
    refine draw_q { md := [(7, 3)] } TBok hF hS (F' := [(4, pv b2), (5, iv 0), (6, pv b4), (8, pv b5), (27, .slice p n c), (28, iv (n : Int)), (29, iv (k : Int)), (34, .slice q k cc), (40, .agg #[iv ((rs.getD k default).hr), iv ((rs.getD k default).cell), iv ((rs.getD k default).far), .bool ((rs.getD k default).th), iv ((pl s ((rs.getD k default).cell)).1), iv ((pl s ((rs.getD k default).cell)).2)])]) (rs := [.ld ⟨b5, 7, none⟩ (.slice q k cc), .lds ⟨b7, 0, none⟩ [iv ((rs.getD k default).hr), iv ((rs.getD k default).cell), iv ((rs.getD k default).far), .bool ((rs.getD k default).th)], .lds ⟨b4, 0, none⟩ (sL7 s v b3), .ld ⟨b7, 1, none⟩ (iv ((rs.getD k default).cell)), .call 50 #[.agg (sS7 s v b3), iv ((rs.getD k default).cell)] (.agg #[iv ((pl s ((rs.getD k default).cell)).1), iv ((pl s ((rs.getD k default).cell)).2)]), .raw (Instr.build 105 #[(0, .agg #[iv ((rs.getD k default).hr), iv ((rs.getD k default).cell), iv ((rs.getD k default).far), .bool ((rs.getD k default).th)]), (1, .agg #[iv ((pl s ((rs.getD k default).cell)).1), iv ((pl s ((rs.getD k default).cell)).2)])]) (.agg #[iv ((rs.getD k default).hr), iv ((rs.getD k default).cell), iv ((rs.getD k default).far), .bool ((rs.getD k default).th), iv ((pl s ((rs.getD k default).cell)).1), iv ((pl s ((rs.getD k default).cell)).2)])]) [0, 1, 2, 3, 4, 5, 6, 7] 12 4 (by kernel_rfl) #[true, true, true, true, true, true, true, true, false, false, false, false] [4, 5, 6, 8, 27, 28, 29, 34, 40] (.cons (ldo hH 4 rfl 7 rfl) <| .cons (ldso hH 6 rfl 0 rfl) <| .cons (ldso hH 3 rfl 0 rfl) <| .cons (ldo hH 6 rfl 1 rfl) <| .cons (fun w _ => place_calls s v b3 ((rs.getD k default).cell) w hv (by have h_ := hrp.2 k (by omega); omega)) <| .cons (fun w _ => by kernel_rfl) <| .nil) (by kernel_rfl) (by kernel_rfl) fun a hF => ?_
    replace hS := Kp.refl (rowR 105 6 (.slice q k cc) k ((rqs s (rs.take k)).flatMap encRq)).fp w
    refine any_pick (rs := [8]) (by kernel_rfl) (by simp) fun w hE => all1 ?_
    replace hO := hO.ext hE; replace hS := hS.trans (Ext.kp hE)
    refine op_bsl (i := 8) (t := 78) (e := 105) (len := 1) (ps := [(0, .agg #[iv ((rs.getD k default).hr), iv ((rs.getD k default).cell), iv ((rs.getD k default).far), .bool ((rs.getD k default).th), iv ((pl s ((rs.getD k default).cell)).1), iv ((pl s ((rs.getD k default).cell)).2)])]) (d := 41) (sz := 6) (cs := #[iv ((rs.getD k default).hr), iv ((rs.getD k default).cell), iv ((rs.getD k default).far), .bool ((rs.getD k default).th), iv ((pl s ((rs.getD k default).cell)).1), iv ((pl s ((rs.getD k default).cell)).2)]) (z := .agg #[iv 0, iv 0, iv 0, .bool false, iv 0, iv 0]) hF hO (by kernel_rfl) (by kernel_rfl) (by kernel_rfl) (by kernel_rfl) (by kernel_rfl) fun a w b8 hF hO hx => ⟨.inr (hS.trans (Ext.kp hx.1)), ?_⟩
    have hf_b8 := Nat.le_trans hS.size hx.2; replace hS := hS.trans (Ext.kp hx.1); clear hx
    refine any_pick (rs := [9]) (by kernel_rfl) (by simp) fun w hE => all1 ?_
    replace hO := hO.ext hE; replace hS := hS.trans (Ext.kp hE)
    refine op_appR (i := 9) (t := 78) (ty := 78) (e := 105) (d := 42) rowT78 hF hO (by kernel_rfl) 5 rfl 7 rfl (by kernel_rfl) (by omega) fun a w p9 c10 hF hO hx => ⟨.inr (hS.trans hx), ?_⟩
    replace hS := hS.trans hx
    clear hx
    replace hO : Own w0 none_ [cel b1 (sS6 s v) 25, cel b2 #[iv 0, iv 0, .slice none 0 0, iv 0, .slice none 0 0, iv 0, .map none, .slice none 0 0] 80, mapT b3 (.bool false) Value.bool (landF s), cel b4 (sS7 s v b3) 77, cel b5 (sS8 s v b3 q k cc) 80, rowR 105 6 (.slice p9 (k + 1) c10) (k + 1) (((rqs s (rs.take k)).flatMap encRq) ++ (#[iv ((rs.getD k default).hr), iv ((rs.getD k default).cell), iv ((rs.getD k default).far), .bool ((rs.getD k default).th), iv ((pl s ((rs.getD k default).cell)).1), iv ((pl s ((rs.getD k default).cell)).2)] : Array Value).toList), cel b7 #[iv ((rs.getD k default).hr), iv ((rs.getD k default).cell), iv ((rs.getD k default).far), .bool ((rs.getD k default).th)] 52, cel b8 #[iv ((rs.getD k default).hr), iv ((rs.getD k default).cell), iv ((rs.getD k default).far), .bool ((rs.getD k default).th), iv ((pl s ((rs.getD k default).cell)).1), iv ((pl s ((rs.getD k default).cell)).2)] 105] w := hO
    refine draw_q0 {} TBok hF hS (F' := [(4, pv b2), (5, iv 0), (6, pv b4), (8, pv b5), (27, .slice p n c), (28, iv (n : Int)), (29, iv (k : Int)), (42, .slice p9 (k + 1) c10), (43, .pointer (some ⟨b5, 7, none⟩))]) [10] 2 1 (by kernel_rfl) #[true, true, true, true, true, true, true, true, true, true, true, false] [4, 5, 6, 8, 27, 28, 29, 42, 43] (by kernel_rfl) (by kernel_rfl) fun a hF => ?_
    refine any_pick (rs := [11]) (by kernel_rfl) (by simp) fun w hE => all1 ?_
    replace hO := hO.ext hE; replace hS := hS.trans (Ext.kp hE)
    refine op_store (i := 11) (t := 78) (p := ⟨b5, 7, none⟩) (v := .slice p9 (k + 1) c10) (off := 7) (sz := 1) (cs' := (sS8 s v b3 p9 (k + 1) c10)) hF hO (by kernel_rfl) 4 rfl rfl (by kernel_rfl) (by kernel_rfl) (by kernel_rfl) fun a w hF hO _ => ⟨.inl rfl, ?_⟩
    refine any_done (by kernel_rfl) (fun w hE => ?_) _
    replace hO := hO.ext hE
    replace hF := hF.sel [4, 5, 6, 8, 27, 28, 29]
    replace hF : Fr 46 [] [(4, pv b2), (5, iv 0), (6, pv b4), (8, pv b5), (27, .slice p n c), (28, iv (n : Int)), (29, iv (k : Int))] a := hF
    refine (region_q {} TBok hF (F' := [(4, pv b2), (5, iv 0), (6, pv b4), (8, pv b5), (27, .slice p n c), (28, iv (n : Int)), (29, iv ((k : Int) + 1))]) (rs := [.rng ((k : Int) + 1)]) [4, 5, 6, 8, 27, 28, 29] (.cons (rg (by omega)) <| .nil) (by kernel_rfl) fun a w hF hE => ?_)
    replace hO := hO.ext hE; clear hE
    replace hO := hO.drop1 7
    replace hO := hO.drop1 6
    replace hO : Own w0 none_ [cel b1 (sS6 s v) 25, cel b2 #[iv 0, iv 0, .slice none 0 0, iv 0, .slice none 0 0, iv 0, .map none, .slice none 0 0] 80, mapT b3 (.bool false) Value.bool (landF s), cel b4 (sS7 s v b3) 77, cel b5 (sS8 s v b3 p9 (k + 1) c10) 80, rowR 105 6 (.slice p9 (k + 1) c10) (k + 1) (((rqs s (rs.take k)).flatMap encRq) ++ (#[iv ((rs.getD k default).hr), iv ((rs.getD k default).cell), iv ((rs.getD k default).far), .bool ((rs.getD k default).th), iv ((pl s ((rs.getD k default).cell)).1), iv ((pl s ((rs.getD k default).cell)).2)] : Array Value).toList)] w := hO
    replace hO : Own w0 none_ [cel b1 (sS6 s v) 25, cel b2 #[iv 0, iv 0, .slice none 0 0, iv 0, .slice none 0 0, iv 0, .map none, .slice none 0 0] 80, mapT b3 (.bool false) Value.bool (landF s), cel b4 (sS7 s v b3) 77, cel b5 (sS8 s v b3 p9 (k + 1) c10) 80, rowR 105 6 (.slice p9 (k + 1) c10) (k + 1) ((rqs s (rs.take (k + 1))).flatMap encRq)] w := hO.cast (by rw [rqs_take (by omega), List.flatMap_append]; rfl)
    exact ⟨_, by omega, k + 1, p9, c10, rfl, by omega, hF, hO⟩
  · refine W_seq (W_false ((evOp hF (by kernel_rfl)).trans (congrArg Value.bool hc6)) ?_)
    have hc6_ := of_decide_eq_false hc6
    refine (W_exit ?_)
    refine W_seq (region_seq ?_)
    refine seq_quiet {} TBok hF (F' := [(4, pv b2), (5, iv 0), (45, .agg (sS8 s v b3 q k cc))]) (rs := [.lds ⟨b5, 0, none⟩ (sL8 s v b3 q k cc)]) [0] [1, 2] [4, 5, 45] (.cons (ldso hO.st 4 rfl 0 rfl) <| .nil) (by kernel_rfl) fun a w hF hE => ?_
    replace hO := hO.ext hE; clear hE
    refine op_store (i := 1) (t := 80) (p := ⟨b2, 0, none⟩) (v := .agg (sS8 s v b3 q k cc)) (off := 0) (sz := 8) (cs' := (sS8 s v b3 q k cc)) hF hO (by kernel_rfl) 1 rfl rfl (by kernel_rfl) (by kernel_rfl) (by kernel_rfl) fun a w hF hO _ => ?_
    refine seq_quiet {} TBok hF (F' := [(4, pv b2), (5, iv 0)]) (rs := []) [2] [] [4, 5] .nil (by kernel_rfl) fun a w hF hE => ?_
    replace hO := hO.ext hE; clear hE
    refine W_ret ?_
    show bodyPostM (FW none) 0 _ _ _ Exit.ret a w
    have hkk : k = n := by omega
    exact leave_r TBok hF (.nil _) (vs := [.agg (sS8 s v b3 q k cc), iv 0]) (rs := [.lds ⟨b2, 0, none⟩ (sL8 s v b3 q k cc)]) (.cons (rdso hO 1 rfl 0 rfl) <| .nil) (by kernel_rfl) ⟨_, _, _, by rw [hkk]; rfl, (hO.sel [2, 5] (by decide)).cast (by rw [hkk, List.take_of_length_le (show rs.length ≤ n by omega)]; rfl)⟩

end Go.Proofs.Ytgihgcclabodbaa.DK
