/- Walks: a sea opened; its cells, one after the other. Printed by my gen.py out of shoal/b.py. -/
import Derived.Test.YtgihgcclabodbaaSA
import Derived.Test.YtgihgcclabodbaaSLog
import Derived.Test.YtgihgcclabodbaaKY
namespace Go.Proofs.Ytgihgcclabodbaa.DK
open Go Go.Proofs
set_option linter.unusedVariables false
set_option linter.unusedSimpArgs false

set_option maxHeartbeats 4000000 in
set_option maxRecDepth 100000 in
theorem opened_ok (s : Sea) (v : SV) (w0 : World) (hs : SeaR w0.heap.size w0 v s) (hv : seaB s = true) :
    Calls Try.prog 77 #[.agg (sS6 s v)] w0 (fun e w' => ∃ mb, e = .returned (.tuple #[.agg (sS7 s v mb), iv 0]) ∧ Own w0 none_ [mapT mb (.bool false) Value.bool (landF s)] w') := by
  have hl1 := hs.land.len; have hl2 := hs.drift.len; have hs1 := hs.land.size; have hs2 := hs.drift.size; have hr_ := hs.rg; unfold i64 at hr_; have hv1 := sea_ok hv; have hc0 : chk s = 0 := if_pos hv
  refine calls_of_W Try.func77 rfl (by kernel_rfl) (args := [.agg (sS6 s v)]) fun a hF => ?_
  replace hF : Fr 31 [] [(0, .agg (sS6 s v))] a := hF
  have hO : Own w0 none_ [] w0 := Own.start w0 _
  refine W_seq (region_seq ?_)
  refine op_box (i := 0) (t := 25) (v := .agg (sS6 s v)) (d := 1) hF hO (by kernel_rfl) fun a w b1 hF hO _ => ?_
  refine op_alloc (i := 1) (t := 77) (d := 2) (z := .agg #[iv 0, iv 0, .slice none 0 0, iv 0, .slice none 0 0, iv 0, .map none]) hF hO (by kernel_rfl) (by kernel_rfl) fun a w b2 hF hO _ => ?_
  refine seq_quiet {} TBok hF (F' := [(1, pv b1), (2, pv b2), (3, iv 0)]) (rs := []) [2] [] [1, 2, 3] .nil (by kernel_rfl) fun a w hF hE => ?_
  replace hO := hO.ext hE; clear hE
  refine W_seq ?_
  refine W_seq (region_q {} TBok hF (F' := [(1, pv b1), (2, pv b2), (3, iv 0), (4, iv 0)]) (rs := [.lds ⟨b1, 0, none⟩ (sL6 s v), .call 18 #[.agg (sS6 s v)] (iv 0)]) [1, 2, 3, 4] (.cons (ldso hO.st 0 rfl 0 rfl) <| .cons (fun w hE => calls_cast (v := iv (chk s)) (v' := iv 0) (Check_calls s v w (hs.upM (hO.st w hE).kp nom (Nat.le_refl _))) (by rw [hc0])) <| .nil) (by kernel_rfl) fun a w hF hE => ?_)
  replace hO := hO.ext hE; clear hE
  refine W_seq (region_q {} TBok hF (F' := [(1, pv b1), (2, pv b2), (3, iv 0), (4, iv 0), (11, .bool false)]) (rs := []) [1, 2, 3, 4, 11] .nil (by kernel_rfl) fun a w hF hE => ?_)
  replace hO := hO.ext hE; clear hE
  refine (W_false (evOp hF (by kernel_rfl)) ?_)
  refine (W_skip ?_)
  refine W_seq (region_seq ?_)
  refine seq_quiet {} TBok hF (F' := [(1, pv b1), (2, pv b2), (3, iv 0), (14, .agg (sS6 s v))]) (rs := [.lds ⟨b1, 0, none⟩ (sL6 s v)]) [0] [1, 2, 3, 4] [1, 2, 3, 14] (.cons (ldso hO.st 0 rfl 0 rfl) <| .nil) (by kernel_rfl) fun a w hF hE => ?_
  replace hO := hO.ext hE; clear hE
  refine op_mmapt (i := 1) (t := 75) (d := 15) (.bool false) Value.bool false (by kernel_rfl) hF hO (by kernel_rfl) fun a w b3 hF hO _ => ?_
  refine seq_quiet { md := [(2, 3)] } TBok hF (F' := [(1, pv b1), (2, pv b2), (3, iv 0), (16, .agg (sS7 s v b3))]) (rs := [.raw (Instr.build 77 #[(0, .agg (sS6 s v)), (1, .map (some b3))]) (.agg (sS7 s v b3))]) [2] [3, 4] [1, 2, 3, 16] (.cons (fun w _ => by kernel_rfl) <| .nil) (by kernel_rfl) fun a w hF hE => ?_
  replace hO := hO.ext hE; clear hE
  refine op_alloc (i := 3) (t := 77) (d := 5) (z := .agg #[iv 0, iv 0, .slice none 0 0, iv 0, .slice none 0 0, iv 0, .map none]) hF hO (by kernel_rfl) (by kernel_rfl) fun a w b4 hF hO _ => ?_
  replace hO : Own w0 none_ [cel b1 (sS6 s v) 25, cel b2 #[iv 0, iv 0, .slice none 0 0, iv 0, .slice none 0 0, iv 0, .map none] 77, mapT b3 (.bool false) Value.bool (fun _ => false), cel b4 #[iv 0, iv 0, .slice none 0 0, iv 0, .slice none 0 0, iv 0, .map none] 77] w := hO
  refine op_store (i := 4) (t := 77) (p := ⟨b4, 0, none⟩) (v := .agg (sS7 s v b3)) (off := 0) (sz := 7) (cs' := (sS7 s v b3)) hF hO (by kernel_rfl) 3 rfl rfl (by kernel_rfl) (by kernel_rfl) (by kernel_rfl) fun a w hF hO _ => ?_
  replace hF := hF.sel [1, 2, 3, 5]
  replace hF : Fr 31 [] [(1, pv b1), (2, pv b2), (3, iv 0), (5, pv b4)] a := hF
  refine W_seq ?_
  refine W_seq (region_q {} TBok hF (F' := [(2, pv b2), (3, iv 0), (5, pv b4), (18, .slice v.la v.ln v.lc), (19, iv (v.ln : Int)), (20, iv 0)]) (rs := [.ld ⟨b1, 2, none⟩ (.slice v.la v.ln v.lc)]) [2, 3, 5, 18, 19, 20] (.cons (ldo hO.st 0 rfl 2 rfl) <| .nil) (by kernel_rfl) fun a w hF hE => ?_)
  replace hO := hO.ext hE; clear hE
  refine (W_block ?_)
  refine (W_loop (fun m a w => ∃ (k : Nat), m = v.ln - k ∧ k ≤ v.ln ∧ Fr 31 [] [(2, pv b2), (3, iv 0), (5, pv b4), (18, .slice v.la v.ln v.lc), (19, iv (v.ln : Int)), (20, iv (k : Int))] a ∧ Own w0 none_ [cel b1 (sS6 s v) 25, cel b2 #[iv 0, iv 0, .slice none 0 0, iv 0, .slice none 0 0, iv 0, .map none] 77, mapT b3 (.bool false) Value.bool (landK s k), cel b4 (sS7 s v b3) 77] w) _ ⟨0, rfl, Nat.zero_le _, hF, hO⟩ ?_)
  clear hF hO
  rintro _ a w ⟨k, rfl, hk, hF, hO⟩
  refine W_seq (region_q {} TBok hF (F' := [(2, pv b2), (3, iv 0), (5, pv b4), (18, .slice v.la v.ln v.lc), (19, iv (v.ln : Int)), (20, iv (k : Int)), (21, .bool (decide ((k : Int) < (v.ln : Int))))]) (rs := []) [2, 3, 5, 18, 19, 20, 21] .nil (by kernel_rfl) fun a w hF hE => ?_)
  replace hO := hO.ext hE; clear hE
  rcases Bool.eq_false_or_eq_true (decide ((k : Int) < (v.ln : Int))) with hc5 | hc5
  · refine W_seq (W_true ((evOp hF (by kernel_rfl)).trans (congrArg Value.bool hc5)) ?_)
    have hc5_ := of_decide_eq_true hc5
    refine (W_skip ?_)
    refine W_seq (W_block ?_)
    refine W_seq (region_q {} TBok hF (F' := [(2, pv b2), (3, iv 0), (5, pv b4), (7, iv (s.land.getD k default)), (18, .slice v.la v.ln v.lc), (19, iv (v.ln : Int)), (20, iv (k : Int))]) (rs := [.idx v.la v.ln (k : Int) 1 (adr v.la 1 (k : Int)), .ld (adr v.la 1 (k : Int)) (iv (s.land.getD k default))]) [2, 3, 5, 7, 18, 19, 20] (.cons (ix hs.land (by omega) (by omega)) <| .cons (ldx hO.st nom hs.land (by omega) (by omega) 0 rfl) <| .nil) (by kernel_rfl) fun a w hF hE => ?_)
    replace hO := hO.ext hE; clear hE
    refine (draw_startI (r := mapT b3 (.bool false) Value.bool (landK s k)) mixed [5] 6 (by kernel_rfl) fun w hS => ?_)
    replace hO := hO.ext hS
    have hH := hO.butI 2 rfl; replace hS := Ext.kp (M := (mapT b3 (.bool false) Value.bool (landK s k)).fp) hS
    replace hS : KpI (mapT b3 (.bool false) Value.bool (landK s k)) _ w := ⟨hS, hO.get 2 rfl⟩
    refine draw_qI {} TBok hF hS (F' := [(2, pv b2), (3, iv 0), (5, pv b4), (18, .slice v.la v.ln v.lc), (19, iv (v.ln : Int)), (20, iv (k : Int)), (25, .map (some b3)), (28, .agg #[iv ((pl s (s.land.getD k default)).1), iv ((pl s (s.land.getD k default)).2)])]) (rs := [.ld ⟨b4, 6, none⟩ (.map (some b3)), .lds ⟨b4, 0, none⟩ (sL7 s v b3), .call 50 #[.agg (sS7 s v b3), iv (s.land.getD k default)] (.agg #[iv ((pl s (s.land.getD k default)).1), iv ((pl s (s.land.getD k default)).2)])]) [0, 1, 2, 3, 4] 6 1 (by kernel_rfl) #[true, true, true, true, true, false] [2, 3, 5, 18, 19, 20, 25, 28] (.cons (ldo hH 3 rfl 6 rfl) <| .cons (ldso hH 3 rfl 0 rfl) <| .cons (fun w _ => place_calls s v b3 (s.land.getD k default) w hv (by have h_ := land_ok hv _ (getD_mem (show k < s.land.length by omega)); omega)) <| .nil) (by kernel_rfl) (by kernel_rfl) fun a hF => ?_
    replace hS : KpI (mapT b3 (.bool false) Value.bool (landK s k)) w w := ⟨Kp.refl _ _, hS.2⟩
    refine any_pick (rs := [5]) (by kernel_rfl) (by simp) fun w hE => all1 ?_
    replace hO := hO.ext hE; replace hS := KpI.ext _ _ _ hS hE
    refine op_updt (i := 5) (t := 75) (x := (pl s (s.land.getD k default))) (v := .bool true) (enc := Value.bool) true (by kernel_rfl) mt75 hF hO (by kernel_rfl) 2 rfl fun a w hF hO _ => ⟨.inl rfl, ?_⟩
    refine any_done (by kernel_rfl) (fun w hE => ?_) _
    replace hO := hO.ext hE
    replace hF := hF.sel [2, 3, 5, 18, 19, 20]
    replace hF : Fr 31 [] [(2, pv b2), (3, iv 0), (5, pv b4), (18, .slice v.la v.ln v.lc), (19, iv (v.ln : Int)), (20, iv (k : Int))] a := hF
    refine (region_q {} TBok hF (F' := [(2, pv b2), (3, iv 0), (5, pv b4), (18, .slice v.la v.ln v.lc), (19, iv (v.ln : Int)), (20, iv ((k : Int) + 1))]) (rs := [.rng ((k : Int) + 1)]) [2, 3, 5, 18, 19, 20] (.cons (rg (by omega)) <| .nil) (by kernel_rfl) fun a w hF hE => ?_)
    replace hO := hO.ext hE; clear hE
    exact ⟨_, by omega, k + 1, rfl, by omega, hF, hO⟩
  · refine W_seq (W_false ((evOp hF (by kernel_rfl)).trans (congrArg Value.bool hc5)) ?_)
    have hc5_ := of_decide_eq_false hc5
    refine (W_exit ?_)
    refine W_seq (region_seq ?_)
    refine seq_quiet {} TBok hF (F' := [(2, pv b2), (3, iv 0), (30, .agg (sS7 s v b3))]) (rs := [.lds ⟨b4, 0, none⟩ (sL7 s v b3)]) [0] [1, 2] [2, 3, 30] (.cons (ldso hO.st 3 rfl 0 rfl) <| .nil) (by kernel_rfl) fun a w hF hE => ?_
    replace hO := hO.ext hE; clear hE
    refine op_store (i := 1) (t := 77) (p := ⟨b2, 0, none⟩) (v := .agg (sS7 s v b3)) (off := 0) (sz := 7) (cs' := (sS7 s v b3)) hF hO (by kernel_rfl) 1 rfl rfl (by kernel_rfl) (by kernel_rfl) (by kernel_rfl) fun a w hF hO _ => ?_
    refine seq_quiet {} TBok hF (F' := [(2, pv b2), (3, iv 0)]) (rs := []) [2] [] [2, 3] .nil (by kernel_rfl) fun a w hF hE => ?_
    replace hO := hO.ext hE; clear hE
    refine W_ret ?_
    show bodyPostM (FW none) 0 _ _ _ Exit.ret a w
    have hkk : k = s.land.length := by omega
    exact leave_r TBok hF (.nil _) (vs := [.agg (sS7 s v b3), iv 0]) (rs := [.lds ⟨b2, 0, none⟩ (sL7 s v b3)]) (.cons (rdso hO 1 rfl 0 rfl) <| .nil) (by kernel_rfl) ⟨_, rfl, (hO.sel [2] (by decide)).cast (by rw [hkk]; rfl)⟩

set_option maxHeartbeats 4000000 in
set_option maxRecDepth 100000 in
theorem opened_no (s : Sea) (v : SV) (w0 : World) (hs : SeaR w0.heap.size w0 v s) (hc0 : chk s = 10) :
    Calls Try.prog 77 #[.agg (sS6 s v)] w0 (fun e w' => e = .returned (.tuple #[.agg #[iv 0, iv 0, .slice none 0 0, iv 0, .slice none 0 0, iv 0, .map none], iv 10]) ∧ Ext w0 w') := by
  have hl1 := hs.land.len; have hl2 := hs.drift.len; have hs1 := hs.land.size; have hs2 := hs.drift.size; have hr_ := hs.rg; unfold i64 at hr_
  refine calls_of_W Try.func77 rfl (by kernel_rfl) (args := [.agg (sS6 s v)]) fun a hF => ?_
  replace hF : Fr 31 [] [(0, .agg (sS6 s v))] a := hF
  have hO : Own w0 none_ [] w0 := Own.start w0 _
  refine W_seq (region_seq ?_)
  refine op_box (i := 0) (t := 25) (v := .agg (sS6 s v)) (d := 1) hF hO (by kernel_rfl) fun a w b1 hF hO _ => ?_
  refine op_alloc (i := 1) (t := 77) (d := 2) (z := .agg #[iv 0, iv 0, .slice none 0 0, iv 0, .slice none 0 0, iv 0, .map none]) hF hO (by kernel_rfl) (by kernel_rfl) fun a w b2 hF hO _ => ?_
  refine seq_quiet {} TBok hF (F' := [(1, pv b1), (2, pv b2), (3, iv 0)]) (rs := []) [2] [] [1, 2, 3] .nil (by kernel_rfl) fun a w hF hE => ?_
  replace hO := hO.ext hE; clear hE
  refine W_seq ?_
  refine W_seq (region_q {} TBok hF (F' := [(1, pv b1), (2, pv b2), (3, iv 0), (4, iv 10)]) (rs := [.lds ⟨b1, 0, none⟩ (sL6 s v), .call 18 #[.agg (sS6 s v)] (iv 10)]) [1, 2, 3, 4] (.cons (ldso hO.st 0 rfl 0 rfl) <| .cons (fun w hE => calls_cast (v := iv (chk s)) (v' := iv 10) (Check_calls s v w (hs.upM (hO.st w hE).kp nom (Nat.le_refl _))) (by rw [hc0])) <| .nil) (by kernel_rfl) fun a w hF hE => ?_)
  replace hO := hO.ext hE; clear hE
  refine W_seq (region_q {} TBok hF (F' := [(1, pv b1), (2, pv b2), (3, iv 0), (4, iv 10), (11, .bool true)]) (rs := []) [1, 2, 3, 4, 11] .nil (by kernel_rfl) fun a w hF hE => ?_)
  replace hO := hO.ext hE; clear hE
  refine (W_true (evOp hF (by kernel_rfl)) ?_)
  refine W_seq (region_seq ?_)
  refine seq_quiet { md := [(0, 3)] } TBok hF (F' := [(1, pv b1), (2, pv b2), (3, iv 0), (12, .agg #[iv 0, iv 0, .slice none 0 0, iv 0, .slice none 0 0, iv 0, .map none]), (13, iv 10)]) (rs := [.raw (Instr.build 77 #[]) (.agg #[iv 0, iv 0, .slice none 0 0, iv 0, .slice none 0 0, iv 0, .map none])]) [0, 1] [2, 3] [1, 2, 3, 12, 13] (.cons (fun w _ => by kernel_rfl) <| .nil) (by kernel_rfl) fun a w hF hE => ?_
  replace hO := hO.ext hE; clear hE
  refine op_store (i := 2) (t := 77) (p := ⟨b2, 0, none⟩) (v := .agg #[iv 0, iv 0, .slice none 0 0, iv 0, .slice none 0 0, iv 0, .map none]) (off := 0) (sz := 7) (cs' := #[iv 0, iv 0, .slice none 0 0, iv 0, .slice none 0 0, iv 0, .map none]) hF hO (by kernel_rfl) 1 rfl rfl (by kernel_rfl) (by kernel_rfl) (by kernel_rfl) fun a w hF hO _ => ?_
  refine seq_quiet {} TBok hF (F' := [(1, pv b1), (2, pv b2), (3, iv 10)]) (rs := []) [3] [] [1, 2, 3] .nil (by kernel_rfl) fun a w hF hE => ?_
  replace hO := hO.ext hE; clear hE
  refine W_ret ?_
  show bodyPostM (FW none) 0 _ _ _ Exit.ret a w
  exact leave_r TBok hF (.nil _) (vs := [.agg #[iv 0, iv 0, .slice none 0 0, iv 0, .slice none 0 0, iv 0, .map none], iv 10]) (rs := [.lds ⟨b2, 0, none⟩ [iv 0, iv 0, .slice none 0 0, iv 0, .slice none 0 0, iv 0, .map none]]) (.cons (rdso hO 1 rfl 0 rfl) <| .nil) (by kernel_rfl) ⟨rfl, hO.kp⟩

set_option maxHeartbeats 4000000 in
set_option maxRecDepth 100000 in
theorem cells_calls (s : Sea) (v : SV) (mb : Nat) (w0 : World) :
    Calls Try.prog 59 #[.agg (sS7 s v mb)] w0 (fun e w' => ∃ b1, e = .returned (.func (.func 84) #[] #[pv b1]) ∧ Own w0 none_ [cel b1 (sS7 s v mb) 77] w') := by
  refine calls_of_W Try.func59 rfl (by kernel_rfl) (args := [.agg (sS7 s v mb)]) fun a hF => ?_
  replace hF : Fr 4 [] [(0, .agg (sS7 s v mb))] a := hF
  have hO : Own w0 none_ [] w0 := Own.start w0 _
  refine W_seq (region_seq ?_)
  refine op_box (i := 0) (t := 77) (v := .agg (sS7 s v mb)) (d := 1) hF hO (by kernel_rfl) fun a w b1 hF hO _ => ?_
  refine seq_quiet {} TBok hF (F' := [(1, pv b1), (2, .nilFunc)]) (rs := []) [1] [] [1, 2] .nil (by kernel_rfl) fun a w hF hE => ?_
  replace hO := hO.ext hE; clear hE
  refine W_seq (region_q {} TBok hF (F' := [(2, .func (.func 84) #[] #[pv b1])]) (rs := []) [2] .nil (by kernel_rfl) fun a w hF hE => ?_)
  replace hO := hO.ext hE; clear hE
  refine W_ret ?_
  show bodyPostM (FW none) 0 _ _ _ Exit.ret a w
  exact leave_r TBok hF (.nil _) (vs := [.func (.func 84) #[] #[pv b1]]) (rs := []) .nil (by kernel_rfl) ⟨_, rfl, hO⟩

set_option maxHeartbeats 4000000 in
set_option maxRecDepth 100000 in
theorem cells_run (s : Sea) (v : SV) (mb b1 l : Nat) (J : List Int → World → Prop) (Stop : World → Prop) (w0 : World) (hv : seaB s = true) (hJE : ∀ r w w', J r w → Ext w w' → J r w') (hSE : ∀ w w', Stop w → Ext w w' → Stop w')
    (hJR : ∀ r w, J r w → Ro b1 (sL7 s v mb) w ∧ MapRo w.heap.size mb (.bool false) Value.bool (landF s) w)
    (hy : ∀ x r w, J (x :: r) w → Yields Try.prog l (iv x) w (fun b w' => match b with | true => J r w' | false => Stop w'))
    (h0 : J (cellsA s 0) w0) :
    Calls Try.prog 84 #[.func (.yield l) #[] #[], pv b1] w0 (fun e w' => e = .returned (.tuple #[]) ∧ (J [] w' ∨ Stop w')) := by
  obtain ⟨hr1, hmr⟩ := hJR _ _ h0; have hv1 := sea_ok hv
  refine calls_of_W Try.func84 rfl (by kernel_rfl) (args := [.func (.yield l) #[] #[], pv b1]) fun a hF => ?_
  replace hF : Fr 20 [] [(0, .func (.yield l) #[] #[]), (1, pv b1)] a := hF
  have hO : Own w0 none_ [] w0 := Own.start w0 _
  refine (W_scope' ?_)
  refine W_seq (W_label ?_)
  refine W_seq (region_q {} TBok hF (F' := [(0, .func (.yield l) #[] #[]), (1, pv b1), (5, iv (nC s)), (6, iv 0)]) (rs := [.lds ⟨b1, 0, none⟩ (sL7 s v mb), .call 49 #[.agg (sS7 s v mb)] (iv (nC s))]) [0, 1, 5, 6] (.cons (ldsr hO.st hr1 (fun h => h) 0 rfl) <| .cons (fun w _ => many_calls s v mb w hv) <| .nil) (by kernel_rfl) fun a w hF hE => ?_)
  replace hO := hO.ext hE; clear hE
  refine (W_block ?_)
  refine (W_loop (fun m a w => ∃ (k : Nat), m = (nC s).toNat - k ∧ (k : Int) ≤ nC s ∧ J (cellsA s k) w ∧ Fr 20 [] [(0, .func (.yield l) #[] #[]), (1, pv b1), (5, iv (nC s)), (6, iv (k : Int))] a ∧ Own w none_ [] w) _ ⟨0, rfl, (by omega), hJE _ _ _ h0 hO.kp, hF, Own.start _ _⟩ ?_)
  clear hF hO
  rintro _ a w0 ⟨k, rfl, hk, hJ, hF, hO⟩
  obtain ⟨hr1, hmr⟩ := hJR _ _ hJ
  refine W_seq (region_q {} TBok hF (F' := [(0, .func (.yield l) #[] #[]), (1, pv b1), (5, iv (nC s)), (6, iv (k : Int)), (7, .bool (decide ((k : Int) < (nC s))))]) (rs := []) [0, 1, 5, 6, 7] .nil (by kernel_rfl) fun a w hF hE => ?_)
  replace hO := hO.ext hE; clear hE
  rcases Bool.eq_false_or_eq_true (decide ((k : Int) < (nC s))) with hc1 | hc1
  · refine W_seq (W_true ((evOp hF (by kernel_rfl)).trans (congrArg Value.bool hc1)) ?_)
    have hc1_ := of_decide_eq_true hc1
    refine (W_skip ?_)
    refine W_seq (W_block ?_)
    refine W_seq (region_q {} TBok hF (F' := [(0, .func (.yield l) #[] #[]), (1, pv b1), (3, iv (k : Int)), (5, iv (nC s)), (6, iv (k : Int))]) (rs := []) [0, 1, 3, 5, 6] .nil (by kernel_rfl) fun a w hF hE => ?_)
    replace hO := hO.ext hE; clear hE
    refine W_seq ?_
    refine W_seq (region_d { md := [(5, 3)] } mixed TBok hF (F' := [(0, .func (.yield l) #[] #[]), (1, pv b1), (3, iv (k : Int)), (5, iv (nC s)), (6, iv (k : Int)), (14, .bool ((landF s) (pl s (k : Int))))]) (rs := [.ld ⟨b1, 6, none⟩ (.map (some mb)), .lds ⟨b1, 0, none⟩ (sL7 s v mb), .call 50 #[.agg (sS7 s v mb), iv (k : Int)] (.agg #[iv ((pl s (k : Int)).1), iv ((pl s (k : Int)).2)]), .raw (Instr.lookup 75 (.map (some mb)) (.agg #[iv ((pl s (k : Int)).1), iv ((pl s (k : Int)).2)]) false) (.bool ((landF s) (pl s (k : Int))))]) [0, 1, 3, 5, 6, 14] (.cons (ldr hO.st hr1 (fun h => h) 6 rfl) <| .cons (ldsr hO.st hr1 (fun h => h) 0 rfl) <| .cons (fun w _ => place_calls s v mb (k : Int) w hv (by omega)) <| .cons (lktR mt75 hO.st hmr nom (pl s (k : Int))) <| .nil) (by kernel_rfl) (by kernel_rfl) fun a w hF hE => ?_)
    replace hO := hO.ext hE; clear hE
    rcases Bool.eq_false_or_eq_true ((landF s) (pl s (k : Int))) with hc2 | hc2
    · refine (W_true ((evOp hF (by kernel_rfl)).trans (congrArg Value.bool hc2)) ?_)
      refine (W_exit ?_)
      refine (region_q {} TBok hF (F' := [(0, .func (.yield l) #[] #[]), (1, pv b1), (5, iv (nC s)), (6, iv ((k : Int) + 1))]) (rs := [.rng ((k : Int) + 1)]) [0, 1, 5, 6] (.cons (rg (by omega)) <| .nil) (by kernel_rfl) fun a w hF hE => ?_)
      replace hO := hO.ext hE; clear hE
      rw [cellsA_land (by omega) hc2] at hJ
      exact ⟨_, by omega, k + 1, rfl, by omega, hJE _ _ _ hJ hO.kp, hF, Own.start _ _⟩
    · refine (W_false ((evOp hF (by kernel_rfl)).trans (congrArg Value.bool hc2)) ?_)
      refine (W_skip ?_)
      refine W_seq (region_seq ?_)
      refine seq_quiet {} TBok hF (F' := [(0, .func (.yield l) #[] #[]), (1, pv b1), (5, iv (nC s)), (6, iv (k : Int)), (15, .func (.yield l) #[] #[]), (16, iv (k : Int))]) (rs := []) [0, 1] [2, 3] [0, 1, 5, 6, 15, 16] .nil (by kernel_rfl) fun a w hF hE => ?_
      replace hO := hO.ext hE; clear hE
      have hJ2 : J ((k : Int) :: cellsA s (k + 1)) w := by rw [← cellsA_water (by omega) hc2]; exact hJE _ _ _ hJ hO.kp
      refine op_yield (i := 2) (l := l) (arg := iv (k : Int)) (d := some 17) hF (by kernel_rfl) (hy _ _ _ hJ2) fun b a w0 hR hF => ?_
      have hO : Own w0 none_ [] w0 := Own.start w0 _
      cases b
      · have hJ3 : Stop w0 := hR
        refine seq_quiet {} TBok hF (F' := [(0, .func (.yield l) #[] #[]), (1, pv b1), (5, iv (nC s)), (6, iv (k : Int)), (18, .bool true)]) (rs := []) [3] [] [0, 1, 5, 6, 18] .nil (by kernel_rfl) fun a w hF hE => ?_
        replace hO := hO.ext hE; clear hE
        refine (W_true (evOp hF (by kernel_rfl)) ?_)
        refine W_ret ?_
        show bodyPostM (FW none) 0 _ _ _ Exit.ret a w
        exact leave_r TBok hF (.nil _) (vs := []) (rs := []) .nil (by kernel_rfl) ⟨rfl, .inr (hSE _ _ hJ3 hO.kp)⟩
      · have hJ3 : J (cellsA s (k + 1)) w0 := hR
        refine seq_quiet {} TBok hF (F' := [(0, .func (.yield l) #[] #[]), (1, pv b1), (5, iv (nC s)), (6, iv (k : Int)), (18, .bool false)]) (rs := []) [3] [] [0, 1, 5, 6, 18] .nil (by kernel_rfl) fun a w hF hE => ?_
        replace hO := hO.ext hE; clear hE
        refine (W_false (evOp hF (by kernel_rfl)) ?_)
        refine (W_skip ?_)
        refine (region_q {} TBok hF (F' := [(0, .func (.yield l) #[] #[]), (1, pv b1), (5, iv (nC s)), (6, iv ((k : Int) + 1))]) (rs := [.rng ((k : Int) + 1)]) [0, 1, 5, 6] (.cons (rg (by omega)) <| .nil) (by kernel_rfl) fun a w hF hE => ?_)
        replace hO := hO.ext hE; clear hE
        exact ⟨_, by omega, k + 1, rfl, by omega, hJE _ _ _ hJ3 hO.kp, hF, Own.start _ _⟩
  · refine W_seq (W_false ((evOp hF (by kernel_rfl)).trans (congrArg Value.bool hc1)) ?_)
    have hc1_ := of_decide_eq_false hc1
    refine (W_exit ?_)
    show bodyPostM (FW none) 0 _ _ _ Exit.normal a w
    rw [cellsA_end (by omega)] at hJ
    exact leave_normal TBok hF (.nil _) (vs := []) (rs := []) .nil (by kernel_rfl) ⟨rfl, .inl (hJE _ _ _ hJ hO.kp)⟩

end Go.Proofs.Ytgihgcclabodbaa.DK
