/- The laws ShoalTracks, ShoalCans, walked. Printed by my gen.py out of shoal/aa.py. -/
import Derived.Test.YtgihgcclabodbaaT5
import Derived.Test.YtgihgcclabodbaaT1
namespace Go.Proofs.Ytgihgcclabodbaa.DK
open Go Go.Proofs
set_option linter.unusedVariables false
set_option linter.unusedSimpArgs false

set_option maxHeartbeats 4000000 in
set_option maxRecDepth 100000 in
theorem ShoalTracks_calls (s : Sea) (v : SV) (rs : List Rp) (p : Option Addr) (n c : Nat) (t : List Int) (tp : Option Addr) (tn tc : Nat) (w0 : World) (hs : SeaR w0.heap.size w0 v s) (hx : Rd encRp 4 w0.heap.size w0 p n rs) (ht : Rd encI 1 w0.heap.size w0 tp tn t) :
    Calls Try.prog 3 #[.agg #[iv s.wide, iv s.high, .slice v.la v.ln v.lc, iv s.hours, .slice v.da v.dn v.dc, iv s.speed, .slice p n c], .slice tp tn tc] w0 (fun e w' => e = .returned (.bool true) ∧ Ext w0 w') := by
  have hl1 := hs.land.len; have hl2 := hs.drift.len; have hs1 := hs.land.size; have hs2 := hs.drift.size; have hr_ := hs.rg; unfold i64 at hr_; have hl3 := hx.len; have hs3 := hx.size; have ht1 := ht.len; have ht2 := ht.size
  refine calls_of_W Try.func3 rfl (by kernel_rfl) (args := [.agg #[iv s.wide, iv s.high, .slice v.la v.ln v.lc, iv s.hours, .slice v.da v.dn v.dc, iv s.speed, .slice p n c], .slice tp tn tc]) fun a hF => ?_
  replace hF : Fr 89 [] [(0, .agg #[iv s.wide, iv s.high, .slice v.la v.ln v.lc, iv s.hours, .slice v.da v.dn v.dc, iv s.speed, .slice p n c]), (1, .slice tp tn tc)] a := hF
  have hO : Own w0 none_ [] w0 := Own.start w0 _
  refine W_seq (region_seq ?_)
  refine op_box (i := 0) (t := 28) (v := .agg #[iv s.wide, iv s.high, .slice v.la v.ln v.lc, iv s.hours, .slice v.da v.dn v.dc, iv s.speed, .slice p n c]) (d := 2) hF hO (by kernel_rfl) fun a w b1 hF hO _ => ?_
  refine seq_quiet {} TBok hF (F' := [(1, .slice tp tn tc), (2, pv b1), (4, .bool false)]) (rs := []) [1] [] [1, 2, 4] .nil (by kernel_rfl) fun a w hF hE => ?_
  replace hO := hO.ext hE; clear hE
  refine W_seq (region_q {} TBok hF (F' := [(1, .slice tp tn tc), (2, pv b1), (4, .bool false), (5, iv ((trackR s rs t).1)), (6, .bool ((trackR s rs t).2.1)), (7, iv ((trackR s rs t).2.2))]) (rs := [.lds ⟨b1, 0, none⟩ (sL6 s v), .ld ⟨b1, 6, none⟩ (.slice p n c), .call 16 #[.agg (sS6 s v), .slice p n c, .slice tp tn tc] (.tuple #[iv ((trackR s rs t).1), .bool ((trackR s rs t).2.1), iv ((trackR s rs t).2.2)])]) [1, 2, 4, 5, 6, 7] (.cons (ldso hO.st 0 rfl 0 rfl) <| .cons (ldo hO.st 0 rfl 6 rfl) <| .cons (fun w hE => IsTrack_calls s v rs p n c t tp tn tc w (hs.upM (hO.st w hE).kp nom (Nat.le_refl _)) (hx.upM (hO.st w hE).kp nom (Nat.le_refl _)) (ht.upM (hO.st w hE).kp nom (Nat.le_refl _))) <| .nil) (by kernel_rfl) fun a w hF hE => ?_)
  replace hO := hO.ext hE; clear hE
  refine W_seq (region_q {} TBok hF (F' := [(2, pv b1), (4, .bool false), (5, iv ((trackR s rs t).1)), (6, .bool ((trackR s rs t).2.1)), (7, iv ((trackR s rs t).2.2)), (8, iv ((trackR s rs t).1)), (9, .bool ((trackR s rs t).2.1)), (10, iv ((trackR s rs t).2.2))]) (rs := [.lds ⟨b1, 0, none⟩ (sL6 s v), .ld ⟨b1, 6, none⟩ (.slice p n c), .call 17 #[.agg (sS6 s v), .slice p n c, .slice tp tn tc] (.tuple #[iv ((trackR s rs t).1), .bool ((trackR s rs t).2.1), iv ((trackR s rs t).2.2)])]) [2, 4, 5, 6, 7, 8, 9, 10] (.cons (ldso hO.st 0 rfl 0 rfl) <| .cons (ldo hO.st 0 rfl 6 rfl) <| .cons (fun w hE => refIsTrack_calls s v rs p n c t tp tn tc w (hs.upM (hO.st w hE).kp nom (Nat.le_refl _)) (hx.upM (hO.st w hE).kp nom (Nat.le_refl _)) (ht.upM (hO.st w hE).kp nom (Nat.le_refl _))) <| .nil) (by kernel_rfl) fun a w hF hE => ?_)
  replace hO := hO.ext hE; clear hE
  refine W_seq ?_
  refine W_seq (region_d { md := [(2, 1), (6, 3), (11, 1), (20, 1)] } mixed TBok hF (F' := [(2, pv b1), (4, .bool false), (5, iv ((trackR s rs t).1)), (7, iv ((trackR s rs t).2.2)), (8, iv ((trackR s rs t).1)), (10, iv ((trackR s rs t).2.2)), (54, .bool false)]) (rs := [.dec ((trackR s rs t).1 != (trackR s rs t).1) false, .raw (rb .neq 4 (.tmp 37) (.tmp 38) (.bool ((trackR s rs t).2.1)) (.bool ((trackR s rs t).2.1))) (.bool false), .dec ((trackR s rs t).2.2 != (trackR s rs t).2.2) false, .lds ⟨b1, 0, none⟩ (sL6 s v), .call 18 #[.agg (sS6 s v)] (iv (chk s)), .lds ⟨b1, 0, none⟩ (sL6 s v), .call 19 #[.agg (sS6 s v)] (iv (chk s)), .dec ((chk s) != (chk s)) false]) [2, 4, 5, 7, 8, 10, 54] (.cons (bne_self_eq_false _) <| .cons (raw_neBs boolT4 _) <| .cons (bne_self_eq_false _) <| .cons (ldso hO.st 0 rfl 0 rfl) <| .cons (fun w hE => Check_calls s v w (hs.upM (hO.st w hE).kp nom (Nat.le_refl _))) <| .cons (ldso hO.st 0 rfl 0 rfl) <| .cons (fun w hE => refCheck_calls s v w (hs.upM (hO.st w hE).kp nom (Nat.le_refl _))) <| .cons (bne_self_eq_false _) <| .nil) (by kernel_rfl) (by kernel_rfl) fun a w hF hE => ?_)
  replace hO := hO.ext hE; clear hE
  refine (W_false (evOp hF (by kernel_rfl)) ?_)
  refine (W_skip ?_)
  refine W_seq (region_seq ?_)
  refine seq_quiet {} TBok hF (F' := [(2, pv b1), (4, .bool false), (5, iv ((trackR s rs t).1)), (7, iv ((trackR s rs t).2.2)), (8, iv ((trackR s rs t).1)), (10, iv ((trackR s rs t).2.2)), (57, .agg (sS6 s v)), (59, .slice p n c)]) (rs := [.lds ⟨b1, 0, none⟩ (sL6 s v), .ld ⟨b1, 6, none⟩ (.slice p n c)]) [0, 1, 2, 3] [4, 5, 6, 7, 8, 9, 10, 11] [2, 4, 5, 7, 8, 10, 57, 59] (.cons (ldso hO.st 0 rfl 0 rfl) <| .cons (ldo hO.st 0 rfl 6 rfl) <| .nil) (by kernel_rfl) fun a w hF hE => ?_
  replace hO := hO.ext hE; clear hE
  refine op_call (i := 4) (f := 20) (args := #[.agg (sS6 s v), .slice p n c]) (d := some 60) TBok (by kernel_rfl) hF (by kernel_rfl) (Least_calls s v rs p n c _ (hs.upM hO.kp nom (Nat.le_refl _)) (hx.upM hO.kp nom (Nat.le_refl _))) fun e w hR => ?_
  obtain ⟨p2, n3, c4, hn5, he, hO2⟩ := hR
  refine ⟨_, he, fun a hF => ?_⟩
  replace hO := hO.joinE hO2; clear hO2 he
  refine seq_quiet {} TBok hF (F' := [(2, pv b1), (4, .bool false), (5, iv ((leastR s rs).1)), (7, iv ((leastR s rs).2.2)), (8, iv ((trackR s rs t).1)), (10, iv ((trackR s rs t).2.2)), (11, .slice p2 n3 c4)]) (rs := []) [5, 6, 7, 8, 9, 10, 11] [] [2, 4, 5, 7, 8, 10, 11] .nil (by kernel_rfl) fun a w hF hE => ?_
  replace hO := hO.ext hE; clear hE
  refine W_seq (region_seq ?_)
  refine seq_quiet {} TBok hF (F' := [(4, .bool false), (5, iv ((leastR s rs).1)), (7, iv ((leastR s rs).2.2)), (8, iv ((trackR s rs t).1)), (10, iv ((trackR s rs t).2.2)), (11, .slice p2 n3 c4), (66, .agg (sS6 s v)), (68, .slice p n c)]) (rs := [.lds ⟨b1, 0, none⟩ (sL6 s v), .ld ⟨b1, 6, none⟩ (.slice p n c)]) [0, 1, 2, 3] [4, 5, 6, 7, 8, 9, 10, 11] [4, 5, 7, 8, 10, 11, 66, 68] (.cons (ldso hO.st 0 rfl 0 rfl) <| .cons (ldo hO.st 0 rfl 6 rfl) <| .nil) (by kernel_rfl) fun a w hF hE => ?_
  replace hO := hO.ext hE; clear hE
  refine op_call (i := 4) (f := 21) (args := #[.agg (sS6 s v), .slice p n c]) (d := some 69) TBok (by kernel_rfl) hF (by kernel_rfl) (refLeast_calls s v rs p n c _ (hs.upM hO.kp nom (Nat.le_refl _)) (hx.upM hO.kp nom (Nat.le_refl _))) fun e w hR => ?_
  obtain ⟨p6, n7, c8, hn9, he, hO2⟩ := hR
  refine ⟨_, he, fun a hF => ?_⟩
  replace hO := hO.joinE hO2; clear hO2 he
  refine seq_quiet {} TBok hF (F' := [(4, .bool false), (5, iv ((leastR s rs).1)), (7, iv ((leastR s rs).2.2)), (8, iv ((leastR s rs).1)), (10, iv ((leastR s rs).2.2)), (11, .slice p2 n3 c4), (12, .slice p6 n7 c8)]) (rs := []) [5, 6, 7, 8, 9, 10, 11] [] [4, 5, 7, 8, 10, 11, 12] .nil (by kernel_rfl) fun a w hF hE => ?_
  replace hO := hO.ext hE; clear hE
  refine W_seq (region_q { md := [(2, 1), (11, 1)] } TBok hF (F' := [(4, .bool true)]) (rs := [.dec ((leastR s rs).1 == (leastR s rs).1) true, .call 22 #[.slice p2 n3 c4, .slice p6 n7 c8] (.bool true), .dec ((leastR s rs).2.2 == (leastR s rs).2.2) true, .call 23 #[] (.bool true)]) [4] (.cons (beq_self_eq_true _) <| .cons (fun w hE => calls_cast (v := .bool (decide ((leastR s rs).2.1 = (leastR s rs).2.1))) (v' := .bool true) (Same_calls (leastR s rs).2.1 (leastR s rs).2.1 p2 p6 n3 n7 c4 c8 w ((hO.st w hE).get 1 rfl) ((hO.st w hE).get 2 rfl)) (by rw [decide_eq_true rfl])) <| .cons (beq_self_eq_true _) <| .cons (fun w _ => works_calls w) <| .nil) (by kernel_rfl) fun a w hF hE => ?_)
  replace hO := hO.ext hE; clear hE
  refine W_ret ?_
  show bodyPostM (FW none) 0 _ _ _ Exit.ret a w
  exact leave_r TBok hF (.nil _) (vs := [.bool true]) (rs := []) .nil (by kernel_rfl) ⟨rfl, hO.kp⟩

set_option maxHeartbeats 4000000 in
set_option maxRecDepth 100000 in
theorem ShoalCans_calls (s : Sea) (v : SV) (rs : List Rp) (p : Option Addr) (n c : Nat) (nf : Nat → Int) (w0 : World) (hs : SeaR w0.heap.size w0 v s) (hx : Rd encRp 4 w0.heap.size w0 p n rs) :
    Calls Try.prog 4 #[.agg #[iv s.wide, iv s.high, .slice v.la v.ln v.lc, iv s.hours, .slice v.da v.dn v.dc, iv s.speed, .slice p n c], .agg (arrL 2 nf).toArray] w0 (fun e w' => e = .returned (.bool true) ∧ Ext w0 w') := by
  have hl1 := hs.land.len; have hl2 := hs.drift.len; have hs1 := hs.land.size; have hs2 := hs.drift.size; have hr_ := hs.rg; unfold i64 at hr_; have hl3 := hx.len; have hs3 := hx.size
  refine calls_of_W Try.func4 rfl (by kernel_rfl) (args := [.agg #[iv s.wide, iv s.high, .slice v.la v.ln v.lc, iv s.hours, .slice v.da v.dn v.dc, iv s.speed, .slice p n c], .agg (arrL 2 nf).toArray]) fun a hF => ?_
  replace hF : Fr 44 [] [(0, .agg #[iv s.wide, iv s.high, .slice v.la v.ln v.lc, iv s.hours, .slice v.da v.dn v.dc, iv s.speed, .slice p n c]), (1, .agg (arrL 2 nf).toArray)] a := hF
  have hO : Own w0 none_ [] w0 := Own.start w0 _
  refine W_seq (region_seq ?_)
  refine op_box (i := 0) (t := 28) (v := .agg #[iv s.wide, iv s.high, .slice v.la v.ln v.lc, iv s.hours, .slice v.da v.dn v.dc, iv s.speed, .slice p n c]) (d := 2) hF hO (by kernel_rfl) fun a w b1 hF hO _ => ?_
  refine op_box (i := 1) (t := 38) (v := .agg (arrL 2 nf).toArray) (d := 3) hF hO (by kernel_rfl) fun a w b2 hF hO _ => ?_
  refine seq_quiet {} TBok hF (F' := [(2, pv b1), (3, pv b2), (4, .bool false)]) (rs := []) [2] [] [2, 3, 4] .nil (by kernel_rfl) fun a w hF hE => ?_
  replace hO := hO.ext hE; clear hE
  refine W_seq (region_seq ?_)
  refine seq_quiet {} TBok hF (F' := [(2, pv b1), (3, pv b2), (4, .bool false), (11, .agg (sS6 s v)), (13, .slice p n c), (15, iv (nf 0)), (17, iv (nf 1))]) (rs := [.lds ⟨b1, 0, none⟩ (sL6 s v), .ld ⟨b1, 6, none⟩ (.slice p n c), .idx (some ⟨b2, 0, none⟩) 2 0 1 ((⟨b2, 0, none⟩ : Addr).add ((0 : Int).toNat * 1)), .ld ((⟨b2, 0, none⟩ : Addr).add ((0 : Int).toNat * 1)) (iv (nf 0)), .idx (some ⟨b2, 0, none⟩) 2 1 1 ((⟨b2, 0, none⟩ : Addr).add ((1 : Int).toNat * 1)), .ld ((⟨b2, 0, none⟩ : Addr).add ((1 : Int).toNat * 1)) (iv (nf 1))]) [0, 1, 2, 3, 4, 5, 6, 7] [8, 9, 10, 11, 12, 13] [2, 3, 4, 11, 13, 15, 17] (.cons (ldso hO.st 0 rfl 0 rfl) <| .cons (ldo hO.st 0 rfl 6 rfl) <| .cons (ixa (by omega) (by omega)) <| .cons (ldf (pre := []) (n := 2) (f := nf) (post := []) hO.st 1 rfl rfl (by omega) (by omega)) <| .cons (ixa (by omega) (by omega)) <| .cons (ldf (pre := []) (n := 2) (f := nf) (post := []) hO.st 1 rfl rfl (by omega) (by omega)) <| .nil) (by kernel_rfl) fun a w hF hE => ?_
  replace hO := hO.ext hE; clear hE
  refine op_call (i := 8) (f := 24) (args := #[.agg (sS6 s v), .slice p n c, iv (nf 0), iv (nf 1)]) (d := some 18) TBok (by kernel_rfl) hF (by kernel_rfl) (Can_calls s v rs p n c (nf 0) (nf 1) _ (hs.upM hO.kp nom (Nat.le_refl _)) (hx.upM hO.kp nom (Nat.le_refl _))) fun e w hR => ?_
  obtain ⟨p3, n4, c5, hn6, he, hO2⟩ := hR
  refine ⟨_, he, fun a hF => ?_⟩
  replace hO := hO.joinE hO2; clear hO2 he
  refine seq_quiet {} TBok hF (F' := [(2, pv b1), (3, pv b2), (4, .bool false), (5, .slice p3 n4 c5), (6, iv ((canR s rs (nf 0) (nf 1)).2))]) (rs := []) [9, 10, 11, 12, 13] [] [2, 3, 4, 5, 6] .nil (by kernel_rfl) fun a w hF hE => ?_
  replace hO := hO.ext hE; clear hE
  refine W_seq (region_seq ?_)
  refine seq_quiet {} TBok hF (F' := [(4, .bool false), (5, .slice p3 n4 c5), (6, iv ((canR s rs (nf 0) (nf 1)).2)), (23, .agg (sS6 s v)), (25, .slice p n c), (27, iv (nf 0)), (29, iv (nf 1))]) (rs := [.lds ⟨b1, 0, none⟩ (sL6 s v), .ld ⟨b1, 6, none⟩ (.slice p n c), .idx (some ⟨b2, 0, none⟩) 2 0 1 ((⟨b2, 0, none⟩ : Addr).add ((0 : Int).toNat * 1)), .ld ((⟨b2, 0, none⟩ : Addr).add ((0 : Int).toNat * 1)) (iv (nf 0)), .idx (some ⟨b2, 0, none⟩) 2 1 1 ((⟨b2, 0, none⟩ : Addr).add ((1 : Int).toNat * 1)), .ld ((⟨b2, 0, none⟩ : Addr).add ((1 : Int).toNat * 1)) (iv (nf 1))]) [0, 1, 2, 3, 4, 5, 6, 7] [8, 9, 10, 11, 12, 13] [4, 5, 6, 23, 25, 27, 29] (.cons (ldso hO.st 0 rfl 0 rfl) <| .cons (ldo hO.st 0 rfl 6 rfl) <| .cons (ixa (by omega) (by omega)) <| .cons (ldf (pre := []) (n := 2) (f := nf) (post := []) hO.st 1 rfl rfl (by omega) (by omega)) <| .cons (ixa (by omega) (by omega)) <| .cons (ldf (pre := []) (n := 2) (f := nf) (post := []) hO.st 1 rfl rfl (by omega) (by omega)) <| .nil) (by kernel_rfl) fun a w hF hE => ?_
  replace hO := hO.ext hE; clear hE
  refine op_call (i := 8) (f := 25) (args := #[.agg (sS6 s v), .slice p n c, iv (nf 0), iv (nf 1)]) (d := some 30) TBok (by kernel_rfl) hF (by kernel_rfl) (refCan_calls s v rs p n c (nf 0) (nf 1) _ (hs.upM hO.kp nom (Nat.le_refl _)) (hx.upM hO.kp nom (Nat.le_refl _))) fun e w hR => ?_
  obtain ⟨p7, n8, c9, hn10, he, hO2⟩ := hR
  refine ⟨_, he, fun a hF => ?_⟩
  replace hO := hO.joinE hO2; clear hO2 he
  replace hO : Own w0 none_ [cel b1 #[iv s.wide, iv s.high, .slice v.la v.ln v.lc, iv s.hours, .slice v.da v.dn v.dc, iv s.speed, .slice p n c] 28, cel b2 (arrL 2 nf).toArray 38, rdR encI 1 p3 n4 (canR s rs (nf 0) (nf 1)).1, rdR encI 1 p7 n8 (canR s rs (nf 0) (nf 1)).1] w := hO
  refine seq_quiet {} TBok hF (F' := [(4, .bool false), (5, .slice p3 n4 c5), (6, iv ((canR s rs (nf 0) (nf 1)).2)), (7, .slice p7 n8 c9), (8, iv ((canR s rs (nf 0) (nf 1)).2))]) (rs := []) [9, 10, 11, 12, 13] [] [4, 5, 6, 7, 8] .nil (by kernel_rfl) fun a w hF hE => ?_
  replace hO := hO.ext hE; clear hE
  refine W_seq (region_q { md := [(6, 1)] } TBok hF (F' := [(4, .bool true)]) (rs := [.call 22 #[.slice p3 n4 c5, .slice p7 n8 c9] (.bool true), .dec ((canR s rs (nf 0) (nf 1)).2 == (canR s rs (nf 0) (nf 1)).2) true, .call 23 #[] (.bool true)]) [4] (.cons (fun w hE => calls_cast (v := .bool (decide ((canR s rs (nf 0) (nf 1)).1 = (canR s rs (nf 0) (nf 1)).1))) (v' := .bool true) (Same_calls (canR s rs (nf 0) (nf 1)).1 (canR s rs (nf 0) (nf 1)).1 p3 p7 n4 n8 c5 c9 w ((hO.st w hE).get 2 rfl) ((hO.st w hE).get 3 rfl)) (by rw [decide_eq_true rfl])) <| .cons (beq_self_eq_true _) <| .cons (fun w _ => works_calls w) <| .nil) (by kernel_rfl) fun a w hF hE => ?_)
  replace hO := hO.ext hE; clear hE
  refine W_ret ?_
  show bodyPostM (FW none) 0 _ _ _ Exit.ret a w
  exact leave_r TBok hF (.nil _) (vs := [.bool true]) (rs := []) .nil (by kernel_rfl) ⟨rfl, hO.kp⟩

end Go.Proofs.Ytgihgcclabodbaa.DK
