/- The laws ShoalLies, walked. Printed by my gen.py out of shoal/aa.py. -/
import Derived.Test.YtgihgcclabodbaaT5
import Derived.Test.YtgihgcclabodbaaT2
namespace Go.Proofs.Ytgihgcclabodbaa.DK
open Go Go.Proofs
set_option linter.unusedVariables false
set_option linter.unusedSimpArgs false

set_option maxHeartbeats 4000000 in
set_option maxRecDepth 100000 in
theorem ShoalLies_calls (s : Sea) (v : SV) (rs : List Rp) (p : Option Addr) (n c : Nat) (w0 : World) (hs : SeaR w0.heap.size w0 v s) (hx : Rd encRp 4 w0.heap.size w0 p n rs) :
    Calls Try.prog 5 #[.agg #[iv s.wide, iv s.high, .slice v.la v.ln v.lc, iv s.hours, .slice v.da v.dn v.dc, iv s.speed, .slice p n c]] w0 (fun e w' => e = .returned (.bool true) ∧ Ext w0 w') := by
  have hl1 := hs.land.len; have hl2 := hs.drift.len; have hs1 := hs.land.size; have hs2 := hs.drift.size; have hr_ := hs.rg; unfold i64 at hr_; have hl3 := hx.len; have hs3 := hx.size
  refine calls_of_W Try.func5 rfl (by kernel_rfl) (args := [.agg #[iv s.wide, iv s.high, .slice v.la v.ln v.lc, iv s.hours, .slice v.da v.dn v.dc, iv s.speed, .slice p n c]]) fun a hF => ?_
  replace hF : Fr 34 [] [(0, .agg #[iv s.wide, iv s.high, .slice v.la v.ln v.lc, iv s.hours, .slice v.da v.dn v.dc, iv s.speed, .slice p n c])] a := hF
  have hO : Own w0 none_ [] w0 := Own.start w0 _
  refine W_seq (region_seq ?_)
  refine op_box (i := 0) (t := 28) (v := .agg #[iv s.wide, iv s.high, .slice v.la v.ln v.lc, iv s.hours, .slice v.da v.dn v.dc, iv s.speed, .slice p n c]) (d := 1) hF hO (by kernel_rfl) fun a w b1 hF hO _ => ?_
  refine seq_quiet {} TBok hF (F' := [(1, pv b1), (2, .bool false)]) (rs := []) [1] [] [1, 2] .nil (by kernel_rfl) fun a w hF hE => ?_
  replace hO := hO.ext hE; clear hE
  refine W_seq (region_seq ?_)
  refine seq_quiet {} TBok hF (F' := [(1, pv b1), (2, .bool false), (9, .agg (sS6 s v)), (11, .slice p n c)]) (rs := [.lds ⟨b1, 0, none⟩ (sL6 s v), .ld ⟨b1, 6, none⟩ (.slice p n c)]) [0, 1, 2, 3] [4, 5, 6, 7, 8, 9] [1, 2, 9, 11] (.cons (ldso hO.st 0 rfl 0 rfl) <| .cons (ldo hO.st 0 rfl 6 rfl) <| .nil) (by kernel_rfl) fun a w hF hE => ?_
  replace hO := hO.ext hE; clear hE
  refine op_call (i := 4) (f := 26) (args := #[.agg (sS6 s v), .slice p n c]) (d := some 12) TBok (by kernel_rfl) hF (by kernel_rfl) (Liars_calls s v rs p n c  _ (hs.upM hO.kp nom (Nat.le_refl _)) (hx.upM hO.kp nom (Nat.le_refl _))) fun e w hR => ?_
  obtain ⟨p2, n3, c4, hn5, he, hO2⟩ := hR
  refine ⟨_, he, fun a hF => ?_⟩
  replace hO := hO.joinE hO2; clear hO2 he
  refine seq_quiet {} TBok hF (F' := [(1, pv b1), (2, .bool false), (3, .slice p2 n3 c4), (4, iv ((liarR s rs).2))]) (rs := []) [5, 6, 7, 8, 9] [] [1, 2, 3, 4] .nil (by kernel_rfl) fun a w hF hE => ?_
  replace hO := hO.ext hE; clear hE
  refine W_seq (region_seq ?_)
  refine seq_quiet {} TBok hF (F' := [(2, .bool false), (3, .slice p2 n3 c4), (4, iv ((liarR s rs).2)), (17, .agg (sS6 s v)), (19, .slice p n c)]) (rs := [.lds ⟨b1, 0, none⟩ (sL6 s v), .ld ⟨b1, 6, none⟩ (.slice p n c)]) [0, 1, 2, 3] [4, 5, 6, 7, 8, 9] [2, 3, 4, 17, 19] (.cons (ldso hO.st 0 rfl 0 rfl) <| .cons (ldo hO.st 0 rfl 6 rfl) <| .nil) (by kernel_rfl) fun a w hF hE => ?_
  replace hO := hO.ext hE; clear hE
  refine op_call (i := 4) (f := 27) (args := #[.agg (sS6 s v), .slice p n c]) (d := some 20) TBok (by kernel_rfl) hF (by kernel_rfl) (refLiars_calls s v rs p n c  _ (hs.upM hO.kp nom (Nat.le_refl _)) (hx.upM hO.kp nom (Nat.le_refl _))) fun e w hR => ?_
  obtain ⟨p6, n7, c8, hn9, he, hO2⟩ := hR
  refine ⟨_, he, fun a hF => ?_⟩
  replace hO := hO.joinE hO2; clear hO2 he
  refine seq_quiet {} TBok hF (F' := [(2, .bool false), (3, .slice p2 n3 c4), (4, iv ((liarR s rs).2)), (5, .slice p6 n7 c8), (6, iv ((liarR s rs).2))]) (rs := []) [5, 6, 7, 8, 9] [] [2, 3, 4, 5, 6] .nil (by kernel_rfl) fun a w hF hE => ?_
  replace hO := hO.ext hE; clear hE
  refine W_seq (region_q { md := [(6, 1)] } TBok hF (F' := [(2, .bool true)]) (rs := [.call 22 #[.slice p2 n3 c4, .slice p6 n7 c8] (.bool true), .dec ((liarR s rs).2 == (liarR s rs).2) true, .call 23 #[] (.bool true)]) [2] (.cons (fun w hE => calls_cast (v := .bool (decide ((liarR s rs).1 = (liarR s rs).1))) (v' := .bool true) (Same_calls (liarR s rs).1 (liarR s rs).1 p2 p6 n3 n7 c4 c8 w ((hO.st w hE).get 1 rfl) ((hO.st w hE).get 2 rfl)) (by rw [decide_eq_true rfl])) <| .cons (beq_self_eq_true _) <| .cons (fun w _ => works_calls w) <| .nil) (by kernel_rfl) fun a w hF hE => ?_)
  replace hO := hO.ext hE; clear hE
  refine W_ret ?_
  show bodyPostM (FW none) 0 _ _ _ Exit.ret a w
  exact leave_r TBok hF (.nil _) (vs := [.bool true]) (rs := []) .nil (by kernel_rfl) ⟨rfl, hO.kp⟩

end Go.Proofs.Ytgihgcclabodbaa.DK
