/- The law GutUntils, walked. Printed by my gen.py out of gut/q.py. -/
import Derived.Test.YtioimdegbdkppaaGZ
import Derived.Test.YtioimdegbdkppaaH1
namespace Go.Proofs.Ytioimdegbdkppaa.DK
open Go Go.Proofs
set_option linter.unusedVariables false

set_option maxHeartbeats 4000000 in
set_option maxRecDepth 100000 in
theorem GutUntils_calls (d : Day) (v : DV) (lot : Int) (w0 : World) (hd : DayR w0.heap.size w0 v d) :
    Calls Try.prog 3 #[.agg #[.int .i64 d.hours, .slice v.ha v.hn v.hc, .slice v.la v.ln v.lc, .slice v.wa v.wn v.wc], .int .i64 lot] w0 (fun e w' => e = .returned (.bool true) ∧ Ext w0 w') := by
  have hl1 := hd.heat.len; have hl2 := hd.lots.len; have hl3 := hd.wks.len; have hs1 := hd.heat.size; have hs2 := hd.lots.size; have hs3 := hd.wks.size
  refine calls_of_W Try.func3 rfl (by kernel_rfl) (args := [.agg #[.int .i64 d.hours, .slice v.ha v.hn v.hc, .slice v.la v.ln v.lc, .slice v.wa v.wn v.wc], .int .i64 lot]) fun a hF => ?_
  replace hF : Fr 48 [] [(0, .agg #[.int .i64 d.hours, .slice v.ha v.hn v.hc, .slice v.la v.ln v.lc, .slice v.wa v.wn v.wc]), (1, .int .i64 lot)] a := hF
  have hO : Own w0 none_ [] w0 := Own.start w0 _
  refine W_seq (region_seq ?_)
  refine op_box (i := 0) (t := 26) (v := .agg #[.int .i64 d.hours, .slice v.ha v.hn v.hc, .slice v.la v.ln v.lc, .slice v.wa v.wn v.wc]) (d := 2) hF hO (by kernel_rfl) fun a w b1 hF hO _ => ?_
  replace hO : Own w0 none_ [cel b1 #[.int .i64 d.hours, .slice v.ha v.hn v.hc, .slice v.la v.ln v.lc, .slice v.wa v.wn v.wc] 26] w := hO
  refine seq_quiet {} TBok hF (F' := [(1, .int .i64 lot), (2, .pointer (some ⟨b1, 0, none⟩)), (4, .bool false)]) (rs := []) [1] [] [1, 2, 4] .nil (by kernel_rfl) fun a w hF hE => ?_
  replace hO := hO.ext hE; clear hE
  refine W_seq (region_q {} TBok hF (F' := [(1, .int .i64 lot), (2, .pointer (some ⟨b1, 0, none⟩)), (4, .bool false), (5, .int .i64 ((gutUntil d lot).1)), (6, .int .i64 ((gutUntil d lot).2.1)), (7, .int .i64 ((gutUntil d lot).2.2))]) (rs := [.lds ⟨b1, 0, none⟩ [.int .i64 d.hours, .slice v.ha v.hn v.hc, .slice v.la v.ln v.lc, .slice v.wa v.wn v.wc], .call 16 #[.agg #[.int .i64 d.hours, .slice v.ha v.hn v.hc, .slice v.la v.ln v.lc, .slice v.wa v.wn v.wc], .int .i64 lot] (.tuple #[.int .i64 ((gutUntil d lot).1), .int .i64 ((gutUntil d lot).2.1), .int .i64 ((gutUntil d lot).2.2)])]) [1, 2, 4, 5, 6, 7] (.cons (ldso hO.st 0 rfl 0 rfl) <| .cons (fun w hE => Until_calls d v lot w (hd.upM (hO.st w hE).kp nom (Nat.le_refl _))) <| .nil) (by kernel_rfl) fun a w hF hE => ?_)
  replace hO := hO.ext hE; clear hE
  refine W_seq (region_q {} TBok hF (F' := [(2, .pointer (some ⟨b1, 0, none⟩)), (4, .bool false), (5, .int .i64 ((gutUntil d lot).1)), (6, .int .i64 ((gutUntil d lot).2.1)), (7, .int .i64 ((gutUntil d lot).2.2)), (8, .int .i64 ((gutUntil d lot).1)), (9, .int .i64 ((gutUntil d lot).2.1)), (10, .int .i64 ((gutUntil d lot).2.2))]) (rs := [.lds ⟨b1, 0, none⟩ [.int .i64 d.hours, .slice v.ha v.hn v.hc, .slice v.la v.ln v.lc, .slice v.wa v.wn v.wc], .call 17 #[.agg #[.int .i64 d.hours, .slice v.ha v.hn v.hc, .slice v.la v.ln v.lc, .slice v.wa v.wn v.wc], .int .i64 lot] (.tuple #[.int .i64 ((gutUntil d lot).1), .int .i64 ((gutUntil d lot).2.1), .int .i64 ((gutUntil d lot).2.2)])]) [2, 4, 5, 6, 7, 8, 9, 10] (.cons (ldso hO.st 0 rfl 0 rfl) <| .cons (fun w hE => calls_cast (refUntil_calls d v lot w (hd.upM (hO.st w hE).kp nom (Nat.le_refl _))) (by rw [refUntil_eq])) <| .nil) (by kernel_rfl) fun a w hF hE => ?_)
  replace hO := hO.ext hE; clear hE
  refine W_seq (region_d { md := [(2, 1), (6, 1), (11, 1), (18, 1)] } mixed TBok hF (F' := [(4, .bool true)]) (rs := [.dec ((gutUntil d lot).1 == (gutUntil d lot).1) true, .dec ((gutUntil d lot).2.1 == (gutUntil d lot).2.1) true, .dec ((gutUntil d lot).2.2 == (gutUntil d lot).2.2) true, .lds ⟨b1, 0, none⟩ [.int .i64 d.hours, .slice v.ha v.hn v.hc, .slice v.la v.ln v.lc, .slice v.wa v.wn v.wc], .call 18 #[.agg #[.int .i64 d.hours, .slice v.ha v.hn v.hc, .slice v.la v.ln v.lc, .slice v.wa v.wn v.wc]] (.int .i64 (chk d)), .lds ⟨b1, 0, none⟩ [.int .i64 d.hours, .slice v.ha v.hn v.hc, .slice v.la v.ln v.lc, .slice v.wa v.wn v.wc], .call 19 #[.agg #[.int .i64 d.hours, .slice v.ha v.hn v.hc, .slice v.la v.ln v.lc, .slice v.wa v.wn v.wc]] (.int .i64 (chk d)), .dec ((chk d) == (chk d)) true, .call 20 #[] (.bool true)]) [4] (.cons (beq_self_eq_true _) <| .cons (beq_self_eq_true _) <| .cons (beq_self_eq_true _) <| .cons (ldso hO.st 0 rfl 0 rfl) <| .cons (fun w hE => Check_calls d v w (hd.upM (hO.st w hE).kp nom (Nat.le_refl _))) <| .cons (ldso hO.st 0 rfl 0 rfl) <| .cons (fun w hE => calls_cast (refCheck_calls d v w (hd.upM (hO.st w hE).kp nom (Nat.le_refl _))) (by rw [refChk_eq])) <| .cons (beq_self_eq_true _) <| .cons (fun w _ => works_calls w) <| .nil) (by kernel_rfl) (by kernel_rfl) fun a w hF hE => ?_)
  replace hO := hO.ext hE; clear hE
  refine W_ret ?_
  show bodyPostM (FW none) 0 _ _ _ Exit.ret a w
  exact leave_r TBok hF (.nil _) (vs := [.bool true]) (rs := []) .nil (by kernel_rfl) ⟨rfl, hO.kp⟩

end Go.Proofs.Ytioimdegbdkppaa.DK
