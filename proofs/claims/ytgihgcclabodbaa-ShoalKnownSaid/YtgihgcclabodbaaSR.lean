/- Walks: the reference's small functions. Printed by my gen.py out of shoal/h.py. -/
import Derived.Test.YtgihgcclabodbaaSX
import Derived.Test.YtgihgcclabodbaaSRef
import Derived.Test.YtgihgcclabodbaaSE
namespace Go.Proofs.Ytgihgcclabodbaa.DK
open Go Go.Proofs
set_option linter.unusedVariables false
set_option linter.unusedSimpArgs false

set_option maxHeartbeats 4000000 in
set_option maxRecDepth 100000 in
theorem distance_calls (s : Sea) (v : SV) (x_ y_ : Int) (w0 : World) (hv : seaB s = true) (hx_ : 0 ≤ x_ ∧ x_ < nC s) (hy_ : 0 ≤ y_ ∧ y_ < nC s) :
    Calls Try.prog 85 #[.agg (sS6 s v), iv x_, iv y_] w0 (fun e w' => e = .returned (iv (farP (pl s x_) (pl s y_))) ∧ Ext w0 w') := by
  have hv1 := sea_ok hv
  refine calls_of_W Try.func85 rfl (by kernel_rfl) (args := [.agg (sS6 s v), iv x_, iv y_]) fun a hF => ?_
  replace hF : Fr 28 [] [(0, .agg (sS6 s v)), (1, iv x_), (2, iv y_)] a := hF
  have hO : Own w0 none_ [] w0 := Own.start w0 _
  refine W_seq (region_seq ?_)
  refine op_box (i := 0) (t := 25) (v := .agg (sS6 s v)) (d := 3) hF hO (by kernel_rfl) fun a w b1 hF hO _ => ?_
  refine seq_quiet {} TBok hF (F' := [(1, iv x_), (2, iv y_), (3, pv b1), (6, iv 0)]) (rs := []) [1] [] [1, 2, 3, 6] .nil (by kernel_rfl) fun a w hF hE => ?_
  replace hO := hO.ext hE; clear hE
  refine W_seq (region_d { md := [(3, 3), (7, 3), (13, 3), (17, 3), (20, 3)] } mixed TBok hF (F' := [(6, iv (mx (absI ((Int.tmod x_ s.wide) - (Int.tmod y_ s.wide))) (absI ((Int.tdiv x_ s.wide) - (Int.tdiv y_ s.wide)))))]) (rs := [.ld ⟨b1, 0, none⟩ (iv s.wide), .raw (rb .rem 3 (.tmp 7) (.tmp 9) (iv x_) (iv s.wide)) (iv (Int.tmod x_ s.wide)), .ld ⟨b1, 0, none⟩ (iv s.wide), .raw (rb .rem 3 (.tmp 11) (.tmp 13) (iv y_) (iv s.wide)) (iv (Int.tmod y_ s.wide)), .rng ((Int.tmod x_ s.wide) - (Int.tmod y_ s.wide)), .call 74 #[iv ((Int.tmod x_ s.wide) - (Int.tmod y_ s.wide))] (iv (absI ((Int.tmod x_ s.wide) - (Int.tmod y_ s.wide)))), .ld ⟨b1, 0, none⟩ (iv s.wide), .raw (rb .quo 3 (.tmp 17) (.tmp 19) (iv x_) (iv s.wide)) (iv (Int.tdiv x_ s.wide)), .ld ⟨b1, 0, none⟩ (iv s.wide), .raw (rb .quo 3 (.tmp 21) (.tmp 23) (iv y_) (iv s.wide)) (iv (Int.tdiv y_ s.wide)), .rng ((Int.tdiv x_ s.wide) - (Int.tdiv y_ s.wide)), .call 74 #[iv ((Int.tdiv x_ s.wide) - (Int.tdiv y_ s.wide))] (iv (absI ((Int.tdiv x_ s.wide) - (Int.tdiv y_ s.wide)))), .raw (Builtin.max_ #[3, 3] 3 #[iv (absI ((Int.tmod x_ s.wide) - (Int.tmod y_ s.wide))), iv (absI ((Int.tdiv x_ s.wide) - (Int.tdiv y_ s.wide)))]) (iv (mx (absI ((Int.tmod x_ s.wide) - (Int.tmod y_ s.wide))) (absI ((Int.tdiv x_ s.wide) - (Int.tdiv y_ s.wide)))))]) [6] (.cons (ldo hO.st 0 rfl 0 rfl) <| .cons (raw_tmod (by omega)) <| .cons (ldo hO.st 0 rfl 0 rfl) <| .cons (raw_tmod (by omega)) <| .cons (rg (by have ha_ := pl_bd (s := s) (c := x_) (by omega) (by omega) (by omega) (by omega); have hb_ := pl_bd (s := s) (c := y_) (by omega) (by omega) (by omega) (by omega); unfold pl at ha_ hb_; simp only [] at ha_ hb_; omega)) <| .cons (fun w _ => Abs_calls _ w (by have ha_ := pl_bd (s := s) (c := x_) (by omega) (by omega) (by omega) (by omega); have hb_ := pl_bd (s := s) (c := y_) (by omega) (by omega) (by omega) (by omega); unfold pl at ha_ hb_; simp only [] at ha_ hb_; omega)) <| .cons (ldo hO.st 0 rfl 0 rfl) <| .cons (raw_tquo (by omega)) <| .cons (ldo hO.st 0 rfl 0 rfl) <| .cons (raw_tquo (by omega)) <| .cons (rg (by have ha_ := pl_bd (s := s) (c := x_) (by omega) (by omega) (by omega) (by omega); have hb_ := pl_bd (s := s) (c := y_) (by omega) (by omega) (by omega) (by omega); unfold pl at ha_ hb_; simp only [] at ha_ hb_; omega)) <| .cons (fun w _ => Abs_calls _ w (by have ha_ := pl_bd (s := s) (c := x_) (by omega) (by omega) (by omega) (by omega); have hb_ := pl_bd (s := s) (c := y_) (by omega) (by omega) (by omega) (by omega); unfold pl at ha_ hb_; simp only [] at ha_ hb_; omega)) <| .cons raw_max2 <| .nil) (by kernel_rfl) (by kernel_rfl) fun a w hF hE => ?_)
  replace hO := hO.ext hE; clear hE
  refine W_ret ?_
  show bodyPostM (FW none) 0 _ _ _ Exit.ret a w
  exact leave_r TBok hF (.nil _) (vs := [iv (mx (absI ((Int.tmod x_ s.wide) - (Int.tmod y_ s.wide))) (absI ((Int.tdiv x_ s.wide) - (Int.tdiv y_ s.wide))))]) (rs := []) .nil (by kernel_rfl) ⟨congrArg (fun x => Ending.returned (iv x)) (far_sym (pl s x_) (pl s y_)), hO.kp⟩

set_option maxHeartbeats 4000000 in
set_option maxRecDepth 100000 in
theorem apart_calls (s : Sea) (v : SV) (x_ y_ : Int) (w0 : World) (hv : seaB s = true) (hx_ : 0 ≤ x_ ∧ x_ < nC s) (hy_ : 0 ≤ y_ ∧ y_ < nC s) :
    Calls Try.prog 41 #[.agg (sS6 s v), iv x_, iv y_] w0 (fun e w' => e = .returned (iv (farP (pl s x_) (pl s y_))) ∧ Ext w0 w') := by
  have hv1 := sea_ok hv
  refine calls_of_W Try.func41 rfl (by kernel_rfl) (args := [.agg (sS6 s v), iv x_, iv y_]) fun a hF => ?_
  replace hF : Fr 28 [] [(0, .agg (sS6 s v)), (1, iv x_), (2, iv y_)] a := hF
  have hO : Own w0 none_ [] w0 := Own.start w0 _
  refine W_seq (region_seq ?_)
  refine op_box (i := 0) (t := 25) (v := .agg (sS6 s v)) (d := 3) hF hO (by kernel_rfl) fun a w b1 hF hO _ => ?_
  refine seq_quiet {} TBok hF (F' := [(1, iv x_), (2, iv y_), (3, pv b1), (6, iv 0)]) (rs := []) [1] [] [1, 2, 3, 6] .nil (by kernel_rfl) fun a w hF hE => ?_
  replace hO := hO.ext hE; clear hE
  refine W_seq (region_d { md := [(3, 3), (7, 3), (13, 3), (17, 3), (20, 3)] } mixed TBok hF (F' := [(6, iv (mx (absI ((Int.tmod x_ s.wide) - (Int.tmod y_ s.wide))) (absI ((Int.tdiv x_ s.wide) - (Int.tdiv y_ s.wide)))))]) (rs := [.ld ⟨b1, 0, none⟩ (iv s.wide), .raw (rb .rem 3 (.tmp 7) (.tmp 9) (iv x_) (iv s.wide)) (iv (Int.tmod x_ s.wide)), .ld ⟨b1, 0, none⟩ (iv s.wide), .raw (rb .rem 3 (.tmp 11) (.tmp 13) (iv y_) (iv s.wide)) (iv (Int.tmod y_ s.wide)), .rng ((Int.tmod x_ s.wide) - (Int.tmod y_ s.wide)), .call 74 #[iv ((Int.tmod x_ s.wide) - (Int.tmod y_ s.wide))] (iv (absI ((Int.tmod x_ s.wide) - (Int.tmod y_ s.wide)))), .ld ⟨b1, 0, none⟩ (iv s.wide), .raw (rb .quo 3 (.tmp 17) (.tmp 19) (iv x_) (iv s.wide)) (iv (Int.tdiv x_ s.wide)), .ld ⟨b1, 0, none⟩ (iv s.wide), .raw (rb .quo 3 (.tmp 21) (.tmp 23) (iv y_) (iv s.wide)) (iv (Int.tdiv y_ s.wide)), .rng ((Int.tdiv x_ s.wide) - (Int.tdiv y_ s.wide)), .call 74 #[iv ((Int.tdiv x_ s.wide) - (Int.tdiv y_ s.wide))] (iv (absI ((Int.tdiv x_ s.wide) - (Int.tdiv y_ s.wide)))), .raw (Builtin.max_ #[3, 3] 3 #[iv (absI ((Int.tmod x_ s.wide) - (Int.tmod y_ s.wide))), iv (absI ((Int.tdiv x_ s.wide) - (Int.tdiv y_ s.wide)))]) (iv (mx (absI ((Int.tmod x_ s.wide) - (Int.tmod y_ s.wide))) (absI ((Int.tdiv x_ s.wide) - (Int.tdiv y_ s.wide)))))]) [6] (.cons (ldo hO.st 0 rfl 0 rfl) <| .cons (raw_tmod (by omega)) <| .cons (ldo hO.st 0 rfl 0 rfl) <| .cons (raw_tmod (by omega)) <| .cons (rg (by have ha_ := pl_bd (s := s) (c := x_) (by omega) (by omega) (by omega) (by omega); have hb_ := pl_bd (s := s) (c := y_) (by omega) (by omega) (by omega) (by omega); unfold pl at ha_ hb_; simp only [] at ha_ hb_; omega)) <| .cons (fun w _ => Abs_calls _ w (by have ha_ := pl_bd (s := s) (c := x_) (by omega) (by omega) (by omega) (by omega); have hb_ := pl_bd (s := s) (c := y_) (by omega) (by omega) (by omega) (by omega); unfold pl at ha_ hb_; simp only [] at ha_ hb_; omega)) <| .cons (ldo hO.st 0 rfl 0 rfl) <| .cons (raw_tquo (by omega)) <| .cons (ldo hO.st 0 rfl 0 rfl) <| .cons (raw_tquo (by omega)) <| .cons (rg (by have ha_ := pl_bd (s := s) (c := x_) (by omega) (by omega) (by omega) (by omega); have hb_ := pl_bd (s := s) (c := y_) (by omega) (by omega) (by omega) (by omega); unfold pl at ha_ hb_; simp only [] at ha_ hb_; omega)) <| .cons (fun w _ => Abs_calls _ w (by have ha_ := pl_bd (s := s) (c := x_) (by omega) (by omega) (by omega) (by omega); have hb_ := pl_bd (s := s) (c := y_) (by omega) (by omega) (by omega) (by omega); unfold pl at ha_ hb_; simp only [] at ha_ hb_; omega)) <| .cons raw_max2 <| .nil) (by kernel_rfl) (by kernel_rfl) fun a w hF hE => ?_)
  replace hO := hO.ext hE; clear hE
  refine W_ret ?_
  show bodyPostM (FW none) 0 _ _ _ Exit.ret a w
  exact leave_r TBok hF (.nil _) (vs := [iv (mx (absI ((Int.tmod x_ s.wide) - (Int.tmod y_ s.wide))) (absI ((Int.tdiv x_ s.wide) - (Int.tdiv y_ s.wide))))]) (rs := []) .nil (by kernel_rfl) ⟨congrArg (fun x => Ending.returned (iv x)) (far_sym (pl s x_) (pl s y_)), hO.kp⟩

set_option maxHeartbeats 4000000 in
set_option maxRecDepth 100000 in
theorem water_calls (s : Sea) (v : SV) (c : Int) (w0 : World) (hs : SeaR w0.heap.size w0 v s) (hv : seaB s = true) :
    Calls Try.prog 54 #[.agg (sS6 s v), iv c] w0 (fun e w' => e = .returned (.bool (watB s c)) ∧ Ext w0 w') := by
  have hl1 := hs.land.len; have hl2 := hs.drift.len; have hs1 := hs.land.size; have hs2 := hs.drift.size; have hr_ := hs.rg; unfold i64 at hr_; have hv1 := sea_ok hv
  refine calls_of_W Try.func54 rfl (by kernel_rfl) (args := [.agg (sS6 s v), iv c]) fun a hF => ?_
  replace hF : Fr 20 [] [(0, .agg (sS6 s v)), (1, iv c)] a := hF
  have hO : Own w0 none_ [] w0 := Own.start w0 _
  refine W_seq (region_seq ?_)
  refine op_box (i := 0) (t := 25) (v := .agg (sS6 s v)) (d := 2) hF hO (by kernel_rfl) fun a w b1 hF hO _ => ?_
  refine seq_quiet {} TBok hF (F' := [(1, iv c), (2, pv b1), (4, .bool false)]) (rs := []) [1] [] [1, 2, 4] .nil (by kernel_rfl) fun a w hF hE => ?_
  replace hO := hO.ext hE; clear hE
  refine W_seq (region_q { sy := [8] } TBok hF (F' := [(4, .bool (cond (inB c 0 ((s.wide * s.high) - 1)) (decide ((placeI s.land c) < 0)) false))]) (rs := [.ld ⟨b1, 0, none⟩ (iv s.wide), .ld ⟨b1, 1, none⟩ (iv s.high), .rng (s.wide * s.high), .rng ((s.wide * s.high) - 1), .call 40 #[iv c, iv 0, iv ((s.wide * s.high) - 1)] (.bool (inB c 0 ((s.wide * s.high) - 1))), .und (inB c 0 ((s.wide * s.high) - 1)) (.ld ⟨b1, 2, none⟩ (.slice v.la v.ln v.lc)), .und (inB c 0 ((s.wide * s.high) - 1)) (.call 35 #[.slice v.la v.ln v.lc, iv c] (iv (placeI s.land c)))]) [4] (.cons (ldo hO.st 0 rfl 0 rfl) <| .cons (ldo hO.st 0 rfl 1 rfl) <| .cons (rg (by unfold nC at hv1; omega)) <| .cons (rg (by unfold nC at hv1; omega)) <| .cons (fun w _ => In_calls _ _ _ w) <| .cons (fun hg => (ldo hO.st 0 rfl 2 rfl)) <| .cons (fun hg => (fun w hE => Place_calls s.land v.la v.ln v.lc c w (hs.land.upM (hO.st w hE).kp nom (Nat.le_refl _)))) <| .nil) (by kernel_rfl) fun a w hF hE => ?_)
  replace hO := hO.ext hE; clear hE
  refine W_ret ?_
  show bodyPostM (FW none) 0 _ _ _ Exit.ret a w
  exact leave_r TBok hF (.nil _) (vs := [.bool (cond (inB c 0 ((s.wide * s.high) - 1)) (decide ((placeI s.land c) < 0)) false)]) (rs := []) .nil (by kernel_rfl) ⟨congrArg (fun x => Ending.returned (.bool x)) (wat_eq s c), hO.kp⟩

set_option maxHeartbeats 4000000 in
set_option maxRecDepth 100000 in
theorem step_calls (s : Sea) (v : SV) (h x_ y_ : Int) (w0 : World) (hs : SeaR w0.heap.size w0 v s) (hv : seaB s = true) (hh : 0 ≤ h ∧ h < v.dn) (hx_ : 0 ≤ x_ ∧ x_ < nC s) (hy_ : 0 ≤ y_ ∧ y_ < nC s) :
    Calls Try.prog 55 #[.agg (sS6 s v), iv h, iv x_, iv y_] w0 (fun e w' => e = .returned (.bool (stepP s h (pl s x_) (pl s y_))) ∧ Ext w0 w') := by
  have hl1 := hs.land.len; have hl2 := hs.drift.len; have hs1 := hs.land.size; have hs2 := hs.drift.size; have hr_ := hs.rg; unfold i64 at hr_; have hv1 := sea_ok hv; have hst := st_ok hv (i := h.toNat) (by omega)
  refine calls_of_W Try.func55 rfl (by kernel_rfl) (args := [.agg (sS6 s v), iv h, iv x_, iv y_]) fun a hF => ?_
  replace hF : Fr 59 [] [(0, .agg (sS6 s v)), (1, iv h), (2, iv x_), (3, iv y_)] a := hF
  have hO : Own w0 none_ [] w0 := Own.start w0 _
  refine W_seq (region_seq ?_)
  refine op_box (i := 0) (t := 25) (v := .agg (sS6 s v)) (d := 4) hF hO (by kernel_rfl) fun a w b1 hF hO _ => ?_
  refine seq_quiet {} TBok hF (F' := [(1, iv h), (2, iv x_), (3, iv y_), (4, pv b1), (8, .bool false)]) (rs := []) [1] [] [1, 2, 3, 4, 8] .nil (by kernel_rfl) fun a w hF hE => ?_
  replace hO := hO.ext hE; clear hE
  refine W_seq (region_d { md := [(3, 3), (7, 3)] } mixed TBok hF (F' := [(1, iv h), (2, iv x_), (3, iv y_), (4, pv b1), (8, .bool false), (9, iv (((Int.tmod y_ s.wide) - (Int.tmod x_ s.wide)) - (s.drift.getD h.toNat default).e))]) (rs := [.ld ⟨b1, 0, none⟩ (iv s.wide), .raw (rb .rem 3 (.tmp 11) (.tmp 13) (iv y_) (iv s.wide)) (iv (Int.tmod y_ s.wide)), .ld ⟨b1, 0, none⟩ (iv s.wide), .raw (rb .rem 3 (.tmp 15) (.tmp 17) (iv x_) (iv s.wide)) (iv (Int.tmod x_ s.wide)), .rng ((Int.tmod y_ s.wide) - (Int.tmod x_ s.wide)), .ld ⟨b1, 4, none⟩ (.slice v.da v.dn v.dc), .idx v.da v.dn h 2 (adr v.da 2 h), .ld (adr v.da 2 h) (iv ((s.drift.getD h.toNat default).e)), .rng (((Int.tmod y_ s.wide) - (Int.tmod x_ s.wide)) - (s.drift.getD h.toNat default).e)]) [1, 2, 3, 4, 8, 9] (.cons (ldo hO.st 0 rfl 0 rfl) <| .cons (raw_tmod (by omega)) <| .cons (ldo hO.st 0 rfl 0 rfl) <| .cons (raw_tmod (by omega)) <| .cons (rg (by have ha_ := pl_bd (s := s) (c := x_) (by omega) (by omega) (by omega) (by omega); have hb_ := pl_bd (s := s) (c := y_) (by omega) (by omega) (by omega) (by omega); unfold pl at ha_ hb_; simp only [] at ha_ hb_; omega)) <| .cons (ldo hO.st 0 rfl 4 rfl) <| .cons (ix hs.drift (by omega) (by omega)) <| .cons (ldx hO.st nom hs.drift (by omega) (by omega) 0 rfl) <| .cons (rg (by have ha_ := pl_bd (s := s) (c := x_) (by omega) (by omega) (by omega) (by omega); have hb_ := pl_bd (s := s) (c := y_) (by omega) (by omega) (by omega) (by omega); unfold pl at ha_ hb_; simp only [] at ha_ hb_; omega)) <| .nil) (by kernel_rfl) (by kernel_rfl) fun a w hF hE => ?_)
  replace hO := hO.ext hE; clear hE
  refine W_seq (region_d { md := [(3, 3), (7, 3)] } mixed TBok hF (F' := [(4, pv b1), (8, .bool false), (9, iv (((Int.tmod y_ s.wide) - (Int.tmod x_ s.wide)) - (s.drift.getD h.toNat default).e)), (10, iv (((Int.tdiv y_ s.wide) - (Int.tdiv x_ s.wide)) - (s.drift.getD h.toNat default).n))]) (rs := [.ld ⟨b1, 0, none⟩ (iv s.wide), .raw (rb .quo 3 (.tmp 27) (.tmp 29) (iv y_) (iv s.wide)) (iv (Int.tdiv y_ s.wide)), .ld ⟨b1, 0, none⟩ (iv s.wide), .raw (rb .quo 3 (.tmp 31) (.tmp 33) (iv x_) (iv s.wide)) (iv (Int.tdiv x_ s.wide)), .rng ((Int.tdiv y_ s.wide) - (Int.tdiv x_ s.wide)), .ld ⟨b1, 4, none⟩ (.slice v.da v.dn v.dc), .idx v.da v.dn h 2 (adr v.da 2 h), .ld ((adr v.da 2 h).add 1) (iv ((s.drift.getD h.toNat default).n)), .rng (((Int.tdiv y_ s.wide) - (Int.tdiv x_ s.wide)) - (s.drift.getD h.toNat default).n)]) [4, 8, 9, 10] (.cons (ldo hO.st 0 rfl 0 rfl) <| .cons (raw_tquo (by omega)) <| .cons (ldo hO.st 0 rfl 0 rfl) <| .cons (raw_tquo (by omega)) <| .cons (rg (by have ha_ := pl_bd (s := s) (c := x_) (by omega) (by omega) (by omega) (by omega); have hb_ := pl_bd (s := s) (c := y_) (by omega) (by omega) (by omega) (by omega); unfold pl at ha_ hb_; simp only [] at ha_ hb_; omega)) <| .cons (ldo hO.st 0 rfl 4 rfl) <| .cons (ix hs.drift (by omega) (by omega)) <| .cons (ldx hO.st nom hs.drift (by omega) (by omega) 1 rfl) <| .cons (rg (by have ha_ := pl_bd (s := s) (c := x_) (by omega) (by omega) (by omega) (by omega); have hb_ := pl_bd (s := s) (c := y_) (by omega) (by omega) (by omega) (by omega); unfold pl at ha_ hb_; simp only [] at ha_ hb_; omega)) <| .nil) (by kernel_rfl) (by kernel_rfl) fun a w hF hE => ?_)
  replace hO := hO.ext hE; clear hE
  refine W_seq (region_q { sy := [7], md := [(3, 3), (11, 3)] } TBok hF (F' := [(8, .bool (cond (inB (((Int.tmod y_ s.wide) - (Int.tmod x_ s.wide)) - (s.drift.getD h.toNat default).e) (-s.speed) s.speed) (inB (((Int.tdiv y_ s.wide) - (Int.tdiv x_ s.wide)) - (s.drift.getD h.toNat default).n) (-s.speed) s.speed) false))]) (rs := [.ld ⟨b1, 5, none⟩ (iv s.speed), .raw (Op.unary .neg (iv s.speed)) (iv (-s.speed)), .ld ⟨b1, 5, none⟩ (iv s.speed), .call 40 #[iv (((Int.tmod y_ s.wide) - (Int.tmod x_ s.wide)) - (s.drift.getD h.toNat default).e), iv (-s.speed), iv s.speed] (.bool (inB (((Int.tmod y_ s.wide) - (Int.tmod x_ s.wide)) - (s.drift.getD h.toNat default).e) (-s.speed) s.speed)), .und (inB (((Int.tmod y_ s.wide) - (Int.tmod x_ s.wide)) - (s.drift.getD h.toNat default).e) (-s.speed) s.speed) (.ld ⟨b1, 5, none⟩ (iv s.speed)), .und (inB (((Int.tmod y_ s.wide) - (Int.tmod x_ s.wide)) - (s.drift.getD h.toNat default).e) (-s.speed) s.speed) (.raw (Op.unary .neg (iv s.speed)) (iv (-s.speed))), .und (inB (((Int.tmod y_ s.wide) - (Int.tmod x_ s.wide)) - (s.drift.getD h.toNat default).e) (-s.speed) s.speed) (.ld ⟨b1, 5, none⟩ (iv s.speed)), .und (inB (((Int.tmod y_ s.wide) - (Int.tmod x_ s.wide)) - (s.drift.getD h.toNat default).e) (-s.speed) s.speed) (.call 40 #[iv (((Int.tdiv y_ s.wide) - (Int.tdiv x_ s.wide)) - (s.drift.getD h.toNat default).n), iv (-s.speed), iv s.speed] (.bool (inB (((Int.tdiv y_ s.wide) - (Int.tdiv x_ s.wide)) - (s.drift.getD h.toNat default).n) (-s.speed) s.speed)))]) [8] (.cons (ldo hO.st 0 rfl 5 rfl) <| .cons (raw_neg (by have ha_ := pl_bd (s := s) (c := x_) (by omega) (by omega) (by omega) (by omega); have hb_ := pl_bd (s := s) (c := y_) (by omega) (by omega) (by omega) (by omega); unfold pl at ha_ hb_; simp only [] at ha_ hb_; omega)) <| .cons (ldo hO.st 0 rfl 5 rfl) <| .cons (fun w _ => In_calls _ _ _ w) <| .cons (fun hg => (ldo hO.st 0 rfl 5 rfl)) <| .cons (fun hg => (raw_neg (by have ha_ := pl_bd (s := s) (c := x_) (by omega) (by omega) (by omega) (by omega); have hb_ := pl_bd (s := s) (c := y_) (by omega) (by omega) (by omega) (by omega); unfold pl at ha_ hb_; simp only [] at ha_ hb_; omega))) <| .cons (fun hg => (ldo hO.st 0 rfl 5 rfl)) <| .cons (fun hg => (fun w _ => In_calls _ _ _ w)) <| .nil) (by kernel_rfl) fun a w hF hE => ?_)
  replace hO := hO.ext hE; clear hE
  refine W_ret ?_
  show bodyPostM (FW none) 0 _ _ _ Exit.ret a w
  exact leave_r TBok hF (.nil _) (vs := [.bool (cond (inB (((Int.tmod y_ s.wide) - (Int.tmod x_ s.wide)) - (s.drift.getD h.toNat default).e) (-s.speed) s.speed) (inB (((Int.tdiv y_ s.wide) - (Int.tdiv x_ s.wide)) - (s.drift.getD h.toNat default).n) (-s.speed) s.speed) false)]) (rs := []) .nil (by kernel_rfl) ⟨congrArg (fun x => Ending.returned (.bool x)) (step_eq (s := s) (h := h) (pl s x_) (pl s y_) (by omega)), hO.kp⟩

set_option maxHeartbeats 4000000 in
set_option maxRecDepth 100000 in
theorem refUntrue_calls (s : Sea) (v : SV) (x : Rp) (c : Int) (w0 : World) (hv : seaB s = true) (hx : 0 ≤ x.cell ∧ x.cell < nC s) (hc : 0 ≤ c ∧ c < nC s) :
    Calls Try.prog 66 #[.agg (sS6 s v), .agg #[iv x.hr, iv x.cell, iv x.far, .bool x.th], iv c] w0 (fun e w' => e = .returned (.bool (falB s x c)) ∧ Ext w0 w') := by
  refine calls_of_W Try.func66 rfl (by kernel_rfl) (args := [.agg (sS6 s v), .agg #[iv x.hr, iv x.cell, iv x.far, .bool x.th], iv c]) fun a hF => ?_
  replace hF : Fr 18 [] [(0, .agg (sS6 s v)), (1, .agg #[iv x.hr, iv x.cell, iv x.far, .bool x.th]), (2, iv c)] a := hF
  have hO : Own w0 none_ [] w0 := Own.start w0 _
  refine W_seq (region_seq ?_)
  refine op_box (i := 0) (t := 25) (v := .agg (sS6 s v)) (d := 3) hF hO (by kernel_rfl) fun a w b1 hF hO _ => ?_
  refine op_box (i := 1) (t := 52) (v := .agg #[iv x.hr, iv x.cell, iv x.far, .bool x.th]) (d := 4) hF hO (by kernel_rfl) fun a w b2 hF hO _ => ?_
  refine seq_quiet {} TBok hF (F' := [(2, iv c), (3, pv b1), (4, pv b2), (6, .bool false)]) (rs := []) [2] [] [2, 3, 4, 6] .nil (by kernel_rfl) fun a w hF hE => ?_
  replace hO := hO.ext hE; clear hE
  refine W_seq (region_d { md := [(10, 3)] } mixed TBok hF (F' := [(6, .bool ((decide ((farP (pl s x.cell) (pl s c)) ≤ x.far)) != x.th))]) (rs := [.lds ⟨b1, 0, none⟩ (sL6 s v), .ld ⟨b2, 1, none⟩ (iv x.cell), .call 85 #[.agg (sS6 s v), iv x.cell, iv c] (iv (farP (pl s x.cell) (pl s c))), .ld ⟨b2, 2, none⟩ (iv x.far), .ld ⟨b2, 3, none⟩ (.bool x.th), .raw (rb .neq 4 (.tmp 14) (.tmp 16) (.bool (decide ((farP (pl s x.cell) (pl s c)) ≤ x.far))) (.bool x.th)) (.bool ((decide ((farP (pl s x.cell) (pl s c)) ≤ x.far)) != x.th))]) [6] (.cons (ldso hO.st 0 rfl 0 rfl) <| .cons (ldo hO.st 1 rfl 1 rfl) <| .cons (fun w hE => distance_calls s v x.cell c w hv hx hc) <| .cons (ldo hO.st 1 rfl 2 rfl) <| .cons (ldo hO.st 1 rfl 3 rfl) <| .cons (raw_neB boolT4 _ _) <| .nil) (by kernel_rfl) (by kernel_rfl) fun a w hF hE => ?_)
  replace hO := hO.ext hE; clear hE
  refine W_ret ?_
  show bodyPostM (FW none) 0 _ _ _ Exit.ret a w
  exact leave_r TBok hF (.nil _) (vs := [.bool ((decide ((farP (pl s x.cell) (pl s c)) ≤ x.far)) != x.th)]) (rs := []) .nil (by kernel_rfl) ⟨rfl, hO.kp⟩

set_option maxHeartbeats 4000000 in
set_option maxRecDepth 100000 in
theorem refCovers_calls (s : Sea) (v : SV) (x : Cs) (c : Int) (w0 : World) (hv : seaB s = true) (hx : 0 ≤ x.cell ∧ x.cell < nC s) (hc : 0 ≤ c ∧ c < nC s) :
    Calls Try.prog 70 #[.agg (sS6 s v), .agg #[iv x.cell, iv x.far], iv c] w0 (fun e w' => e = .returned (.bool (decide (farP (pl s x.cell) (pl s c) ≤ x.far))) ∧ Ext w0 w') := by
  refine calls_of_W Try.func70 rfl (by kernel_rfl) (args := [.agg (sS6 s v), .agg #[iv x.cell, iv x.far], iv c]) fun a hF => ?_
  replace hF : Fr 15 [] [(0, .agg (sS6 s v)), (1, .agg #[iv x.cell, iv x.far]), (2, iv c)] a := hF
  have hO : Own w0 none_ [] w0 := Own.start w0 _
  refine W_seq (region_seq ?_)
  refine op_box (i := 0) (t := 25) (v := .agg (sS6 s v)) (d := 3) hF hO (by kernel_rfl) fun a w b1 hF hO _ => ?_
  refine op_box (i := 1) (t := 64) (v := .agg #[iv x.cell, iv x.far]) (d := 4) hF hO (by kernel_rfl) fun a w b2 hF hO _ => ?_
  refine seq_quiet {} TBok hF (F' := [(2, iv c), (3, pv b1), (4, pv b2), (6, .bool false)]) (rs := []) [2] [] [2, 3, 4, 6] .nil (by kernel_rfl) fun a w hF hE => ?_
  replace hO := hO.ext hE; clear hE
  refine W_seq (region_d {} mixed TBok hF (F' := [(6, .bool (decide ((farP (pl s x.cell) (pl s c)) ≤ x.far)))]) (rs := [.lds ⟨b1, 0, none⟩ (sL6 s v), .ld ⟨b2, 0, none⟩ (iv x.cell), .call 85 #[.agg (sS6 s v), iv x.cell, iv c] (iv (farP (pl s x.cell) (pl s c))), .ld ⟨b2, 1, none⟩ (iv x.far)]) [6] (.cons (ldso hO.st 0 rfl 0 rfl) <| .cons (ldo hO.st 1 rfl 0 rfl) <| .cons (fun w hE => distance_calls s v x.cell c w hv hx hc) <| .cons (ldo hO.st 1 rfl 1 rfl) <| .nil) (by kernel_rfl) (by kernel_rfl) fun a w hF hE => ?_)
  replace hO := hO.ext hE; clear hE
  refine W_ret ?_
  show bodyPostM (FW none) 0 _ _ _ Exit.ret a w
  exact leave_r TBok hF (.nil _) (vs := [.bool (decide ((farP (pl s x.cell) (pl s c)) ≤ x.far))]) (rs := []) .nil (by kernel_rfl) ⟨rfl, hO.kp⟩

set_option maxHeartbeats 4000000 in
set_option maxRecDepth 100000 in
theorem lies_calls (s : Sea) (v : SV) (rs : List Rp) (p : Option Addr) (n c : Nat) (h c_ : Int) (w0 : World) (hv : seaB s = true) (hx : Rd encRp 4 w0.heap.size w0 p n rs) (hr : rpsB s rs = true) (hc : 0 ≤ c_ ∧ c_ < nC s) :
    Calls Try.prog 56 #[.agg (sS6 s v), .slice p n c, iv h, iv c_] w0 (fun e w' => e = .returned (iv (untr s rs h c_)) ∧ Ext w0 w') := by
  have hv1 := sea_ok hv; have hrp := rp_ok hr; have hl3 := hx.len; have hs3 := hx.size
  refine calls_of_W Try.func56 rfl (by kernel_rfl) (args := [.agg (sS6 s v), .slice p n c, iv h, iv c_]) fun a hF => ?_
  replace hF : Fr 36 [] [(0, .agg (sS6 s v)), (1, .slice p n c), (2, iv h), (3, iv c_)] a := hF
  have hO : Own w0 none_ [] w0 := Own.start w0 _
  refine W_seq (region_seq ?_)
  refine op_box (i := 0) (t := 25) (v := .agg (sS6 s v)) (d := 4) hF hO (by kernel_rfl) fun a w b1 hF hO _ => ?_
  refine seq_quiet {} TBok hF (F' := [(1, .slice p n c), (2, iv h), (3, iv c_), (4, pv b1), (8, iv 0)]) (rs := []) [1] [] [1, 2, 3, 4, 8] .nil (by kernel_rfl) fun a w hF hE => ?_
  replace hO := hO.ext hE; clear hE
  refine W_seq (region_q {} TBok hF (F' := [(1, .slice p n c), (2, iv h), (3, iv c_), (4, pv b1), (8, iv 0), (9, iv 0)]) (rs := []) [1, 2, 3, 4, 8, 9] .nil (by kernel_rfl) fun a w hF hE => ?_)
  replace hO := hO.ext hE; clear hE
  refine W_seq ?_
  refine W_seq (region_q {} TBok hF (F' := [(1, .slice p n c), (2, iv h), (3, iv c_), (4, pv b1), (8, iv 0), (9, iv 0), (10, iv 0)]) (rs := []) [1, 2, 3, 4, 8, 9, 10] .nil (by kernel_rfl) fun a w hF hE => ?_)
  replace hO := hO.ext hE; clear hE
  refine (W_block ?_)
  refine (W_loop (fun m a w => ∃ (k : Nat), ∃ (q : Int), m = n - k ∧ k ≤ n ∧ (q = ((((rqs s rs).take k).filter (badB h (pl s c_))).length : Int)) ∧ 0 ≤ q ∧ q ≤ (k : Int) ∧ Fr 36 [] [(1, .slice p n c), (2, iv h), (3, iv c_), (4, pv b1), (8, iv 0), (9, iv q), (10, iv (k : Int))] a ∧ Own w0 none_ [cel b1 (sS6 s v) 25] w) _ ⟨0, 0, rfl, Nat.zero_le _, rfl, by omega, by omega, hF, hO⟩ ?_)
  clear hF hO
  rintro _ a w ⟨k, q, rfl, hk, hq, hq0, hqk, hF, hO⟩
  refine W_seq ?_
  refine W_seq (region_q {} TBok hF (F' := [(1, .slice p n c), (2, iv h), (3, iv c_), (4, pv b1), (8, iv 0), (9, iv q), (10, iv (k : Int)), (14, .bool (decide ((k : Int) < (n : Int))))]) (rs := []) [1, 2, 3, 4, 8, 9, 10, 14] .nil (by kernel_rfl) fun a w hF hE => ?_)
  replace hO := hO.ext hE; clear hE
  rcases Bool.eq_false_or_eq_true (decide ((k : Int) < (n : Int))) with hc2 | hc2
  · refine (W_true ((evOp hF (by kernel_rfl)).trans (congrArg Value.bool hc2)) ?_)
    have hkn := of_decide_eq_true (by assumption : (decide ((k : Int) < (n : Int))) = true)
    have hrk := hrp.2 k (by omega)
    refine (W_skip ?_)
    refine W_seq (W_block ?_)
    refine W_seq (region_d { sy := [7] } mixed TBok hF (F' := [(1, .slice p n c), (2, iv h), (3, iv c_), (4, pv b1), (8, iv 0), (9, iv q), (10, iv (k : Int)), (32, .bool (cond ((rs.getD k default).hr == h) (falB s (rs.getD k default) c_) false))]) (rs := [.idx p n (k : Int) 4 (adr p 4 (k : Int)), .ld (adr p 4 (k : Int)) (iv ((rs.getD k default).hr)), .und ((rs.getD k default).hr == h) (.lds ⟨b1, 0, none⟩ (sL6 s v)), .und ((rs.getD k default).hr == h) (.idx p n (k : Int) 4 (adr p 4 (k : Int))), .und ((rs.getD k default).hr == h) (.lds (adr p 4 (k : Int)) [iv ((rs.getD k default).hr), iv ((rs.getD k default).cell), iv ((rs.getD k default).far), .bool ((rs.getD k default).th)]), .und ((rs.getD k default).hr == h) (.call 66 #[.agg (sS6 s v), .agg #[iv ((rs.getD k default).hr), iv ((rs.getD k default).cell), iv ((rs.getD k default).far), .bool ((rs.getD k default).th)], iv c_] (.bool (falB s (rs.getD k default) c_)))]) [1, 2, 3, 4, 8, 9, 10, 32] (.cons (ix hx (by omega) (by omega)) <| .cons (ldx hO.st nom hx (by omega) (by omega) 0 rfl) <| .cons (fun hg => (ldso hO.st 0 rfl 0 rfl)) <| .cons (fun hg => (ix hx (by omega) (by omega))) <| .cons (fun hg => (ldsx hO.st nom hx (by omega) (by omega) rfl)) <| .cons (fun hg => (fun w hE => refUntrue_calls s v (rs.getD k default) c_ w hv (by omega) hc)) <| .nil) (by kernel_rfl) (by kernel_rfl) fun a w hF hE => ?_)
    replace hO := hO.ext hE; clear hE
    rcases Bool.eq_false_or_eq_true (cond ((rs.getD k default).hr == h) (falB s (rs.getD k default) c_) false) with hc3 | hc3
    · refine (W_true ((evOp hF (by kernel_rfl)).trans (congrArg Value.bool hc3)) ?_)
      refine (region_q {} TBok hF (F' := [(1, .slice p n c), (2, iv h), (3, iv c_), (4, pv b1), (8, iv 0), (9, iv (q + 1)), (10, iv (k : Int))]) (rs := [.rng (q + 1)]) [1, 2, 3, 4, 8, 9, 10] (.cons (rg (by omega)) <| .nil) (by kernel_rfl) fun a w hF hE => ?_)
      replace hO := hO.ext hE; clear hE
      refine (region_q {} TBok hF (F' := [(1, .slice p n c), (2, iv h), (3, iv c_), (4, pv b1), (8, iv 0), (9, iv (q + 1)), (10, iv ((k : Int) + 1))]) (rs := [.rng ((k : Int) + 1)]) [1, 2, 3, 4, 8, 9, 10] (.cons (rg (by omega)) <| .nil) (by kernel_rfl) fun a w hF hE => ?_)
      replace hO := hO.ext hE; clear hE
      have hs_ := untr_step (s := s) (rs := rs) (h := h) (c := c_) (k := k) (by omega)
      rw [show (cond ((rs.getD k default).hr == h) (falB s (rs.getD k default) c_) false) = true from hc3] at hs_
      simp only [cond_true, cond_false] at hs_
      exact ⟨_, by omega, k + 1, _, rfl, by omega, by rw [hs_, ← hq], by omega, by omega, hF, hO⟩
    · refine (W_false ((evOp hF (by kernel_rfl)).trans (congrArg Value.bool hc3)) ?_)
      refine (W_skip ?_)
      refine (region_q {} TBok hF (F' := [(1, .slice p n c), (2, iv h), (3, iv c_), (4, pv b1), (8, iv 0), (9, iv q), (10, iv ((k : Int) + 1))]) (rs := [.rng ((k : Int) + 1)]) [1, 2, 3, 4, 8, 9, 10] (.cons (rg (by omega)) <| .nil) (by kernel_rfl) fun a w hF hE => ?_)
      replace hO := hO.ext hE; clear hE
      have hs_ := untr_step (s := s) (rs := rs) (h := h) (c := c_) (k := k) (by omega)
      rw [show (cond ((rs.getD k default).hr == h) (falB s (rs.getD k default) c_) false) = false from hc3] at hs_
      simp only [cond_true, cond_false] at hs_
      exact ⟨_, by omega, k + 1, _, rfl, by omega, by rw [hs_, ← hq]; omega, by omega, by omega, hF, hO⟩
  · refine (W_false ((evOp hF (by kernel_rfl)).trans (congrArg Value.bool hc2)) ?_)
    have hkn := of_decide_eq_false (by assumption : (decide ((k : Int) < (n : Int))) = false)
    refine (W_exit ?_)
    refine W_seq (region_q {} TBok hF (F' := [(8, iv q)]) (rs := []) [8] .nil (by kernel_rfl) fun a w hF hE => ?_)
    replace hO := hO.ext hE; clear hE
    refine W_ret ?_
    show bodyPostM (FW none) 0 _ _ _ Exit.ret a w
    rw [List.take_of_length_le (by rw [rqs_len]; omega)] at hq
    exact leave_r TBok hF (.nil _) (vs := [iv q]) (rs := []) .nil (by kernel_rfl) ⟨by rw [hq]; rfl, hO.kp⟩

end Go.Proofs.Ytgihgcclabodbaa.DK
