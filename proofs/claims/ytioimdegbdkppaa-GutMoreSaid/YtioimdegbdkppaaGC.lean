/- Walks: sums; who can take what. Printed by my gen.py out of gut/c.py. -/
import Derived.Test.YtioimdegbdkppaaGB
namespace Go.Proofs.Ytioimdegbdkppaa.DK
open Go Go.Proofs
set_option linter.unusedVariables false

set_option maxHeartbeats 4000000 in
set_option maxRecDepth 100000 in
theorem sum_calls (xs : List Int) (p : Option Addr) (n c : Nat) (w0 : World) (hx : Rd encI 1 w0.heap.size w0 p n xs) (hb : bdd xs) :
    Calls Try.prog 59 #[.slice p n c] w0 (fun e w' => e = .returned (.int .i64 xs.sum) ∧ Ext w0 w') := by
  have hl1 := hx.len; have hs1 := hx.size
  refine calls_of_W Try.func59 rfl (by kernel_rfl) (args := [.slice p n c]) fun a hF => ?_
  replace hF : Fr 17 [] [(0, .slice p n c)] a := hF
  have hO : Own w0 none_ [] w0 := Own.start w0 _
  refine W_seq (region_q {} TBok hF (F' := [(0, .slice p n c), (2, .int .i64 0)]) (rs := []) [0, 2] .nil (by kernel_rfl) fun a w hF hE => ?_)
  replace hO := hO.ext hE; clear hE
  refine W_seq (region_q {} TBok hF (F' := [(0, .slice p n c), (2, .int .i64 0), (3, .int .i64 0)]) (rs := []) [0, 2, 3] .nil (by kernel_rfl) fun a w hF hE => ?_)
  replace hO := hO.ext hE; clear hE
  refine W_seq ?_
  refine W_seq (region_q {} TBok hF (F' := [(2, .int .i64 0), (3, .int .i64 0), (6, .slice p n c), (7, .int .i64 (n : Int)), (8, .int .i64 0)]) (rs := []) [2, 3, 6, 7, 8] .nil (by kernel_rfl) fun a w hF hE => ?_)
  replace hO := hO.ext hE; clear hE
  refine (W_block ?_)
  refine (W_loop (fun m a w => ∃ (k : Nat), m = n - k ∧ k ≤ n ∧ Fr 17 [] [(2, .int .i64 0), (3, .int .i64 ((xs.take k).sum)), (6, .slice p n c), (7, .int .i64 (n : Int)), (8, .int .i64 (k : Int))] a ∧ Own w0 none_ [] w) _ ⟨0, rfl, Nat.zero_le _, hF, hO⟩ ?_)
  clear hF hO
  rintro _ a w ⟨k, rfl, hk, hF, hO⟩
  refine W_seq (region_q {} TBok hF (F' := [(2, .int .i64 0), (3, .int .i64 ((xs.take k).sum)), (6, .slice p n c), (7, .int .i64 (n : Int)), (8, .int .i64 (k : Int)), (9, .bool (decide ((k : Int) < (n : Int))))]) (rs := []) [2, 3, 6, 7, 8, 9] .nil (by kernel_rfl) fun a w hF hE => ?_)
  replace hO := hO.ext hE; clear hE
  rcases Bool.eq_false_or_eq_true (decide ((k : Int) < (n : Int))) with hc1 | hc1
  · refine W_seq (W_true ((evOp hF (by kernel_rfl)).trans (congrArg Value.bool hc1)) ?_)
    have hc1_ := of_decide_eq_true hc1
    refine (W_skip ?_)
    refine W_seq (W_block ?_)
    refine W_seq (region_q {} TBok hF (F' := [(2, .int .i64 0), (3, .int .i64 ((xs.take k).sum)), (5, .int .i64 (xs.getD k default)), (6, .slice p n c), (7, .int .i64 (n : Int)), (8, .int .i64 (k : Int))]) (rs := [.idx p n (k : Int) 1 (adr p 1 (k : Int)), .ld (adr p 1 (k : Int)) (.int .i64 (xs.getD k default))]) [2, 3, 5, 6, 7, 8] (.cons (ix hx (by omega) (by omega)) <| .cons (ldx hO.st nom hx (by omega) (by omega) 0 rfl) <| .nil) (by kernel_rfl) fun a w hF hE => ?_)
    replace hO := hO.ext hE; clear hE
    refine (region_q {} TBok hF (F' := [(2, .int .i64 0), (3, .int .i64 ((xs.take k).sum + (xs.getD k default))), (6, .slice p n c), (7, .int .i64 (n : Int)), (8, .int .i64 (k : Int))]) (rs := [.rng ((xs.take k).sum + (xs.getD k default))]) [2, 3, 6, 7, 8] (.cons (rg (by have h1 := sum_bd hb (k + 1); rw [sum_take _ (by omega)] at h1; omega)) <| .nil) (by kernel_rfl) fun a w hF hE => ?_)
    replace hO := hO.ext hE; clear hE
    refine (region_q {} TBok hF (F' := [(2, .int .i64 0), (3, .int .i64 ((xs.take k).sum + (xs.getD k default))), (6, .slice p n c), (7, .int .i64 (n : Int)), (8, .int .i64 ((k : Int) + 1))]) (rs := [.rng ((k : Int) + 1)]) [2, 3, 6, 7, 8] (.cons (rg (by omega)) <| .nil) (by kernel_rfl) fun a w hF hE => ?_)
    replace hO := hO.ext hE; clear hE
    exact ⟨_, by omega, k + 1, rfl, by omega, hF.cast (by rw [sum_take _ (by omega)]; rfl), hO⟩
  · refine W_seq (W_false ((evOp hF (by kernel_rfl)).trans (congrArg Value.bool hc1)) ?_)
    have hc1_ := of_decide_eq_false hc1
    refine (W_exit ?_)
    refine W_seq (region_q {} TBok hF (F' := [(2, .int .i64 ((xs.take k).sum))]) (rs := []) [2] .nil (by kernel_rfl) fun a w hF hE => ?_)
    replace hO := hO.ext hE; clear hE
    refine W_ret ?_
    show bodyPostM (FW none) 0 _ _ _ Exit.ret a w
    have e1 : xs.take k = xs := List.take_of_length_le (by omega)
    exact leave_r TBok hF (.nil _) (vs := [.int .i64 ((xs.take k).sum)]) (rs := []) .nil (by kernel_rfl) ⟨by rw [e1]; rfl, hO.kp⟩

set_option maxHeartbeats 4000000 in
set_option maxRecDepth 100000 in
theorem can_calls (d : Day) (v : DV) (f : Nat → Int) (lot wk hr : Int) (w0 : World) (hd : DayR w0.heap.size w0 v d) (hv : dayV d = true) (hl : 0 ≤ lot ∧ lot < v.ln) (ha : 0 ≤ wk ∧ wk < v.wn) :
    Calls Try.prog 57 #[.agg (dayL v d f).toArray, .int .i64 lot, .agg #[.int .i64 wk, .int .i64 hr]] w0 (fun e w' => e = .returned (.bool (canB d f lot (wk, hr))) ∧ Ext w0 w') := by
  have hl1 := hd.heat.len; have hl2 := hd.lots.len; have hl3 := hd.wks.len; have hs1 := hd.heat.size; have hs2 := hd.lots.size; have hs3 := hd.wks.size; have hv1 := day_ok hv
  refine calls_of_W Try.func57 rfl (by kernel_rfl) (args := [.agg (dayL v d f).toArray, .int .i64 lot, .agg #[.int .i64 wk, .int .i64 hr]]) fun a hF => ?_
  replace hF : Fr 49 [] [(0, .agg (dayL v d f).toArray), (1, .int .i64 lot), (2, .agg #[.int .i64 wk, .int .i64 hr])] a := hF
  have hO : Own w0 none_ [] w0 := Own.start w0 _
  refine W_seq (region_seq ?_)
  refine op_box (i := 0) (t := 81) (v := .agg (dayL v d f).toArray) (d := 3) hF hO (by kernel_rfl) fun a w b1 hF hO _ => ?_
  replace hO : Own w0 none_ [cel b1 (dayL v d f).toArray 81] w := hO
  refine op_box (i := 1) (t := 93) (v := .agg #[.int .i64 wk, .int .i64 hr]) (d := 5) hF hO (by kernel_rfl) fun a w b2 hF hO _ => ?_
  replace hO : Own w0 none_ [cel b1 (dayL v d f).toArray 81, cel b2 #[.int .i64 wk, .int .i64 hr] 93] w := hO
  refine seq_quiet {} TBok hF (F' := [(1, .int .i64 lot), (3, .pointer (some ⟨b1, 0, none⟩)), (5, .pointer (some ⟨b2, 0, none⟩)), (6, .bool false)]) (rs := []) [2] [] [1, 3, 5, 6] .nil (by kernel_rfl) fun a w hF hE => ?_
  replace hO := hO.ext hE; clear hE
  refine W_seq (W_cut (fun a w => ∃ b3x : Nat, ∃ b4x : Nat, Fr 49 [] [(1, .int .i64 lot), (3, .pointer (some ⟨b1, 0, none⟩)), (5, .pointer (some ⟨b2, 0, none⟩)), (6, .bool false), (7, .pointer (some ⟨b3x, 0, none⟩)), (8, .pointer (some ⟨b4x, 0, none⟩))] a ∧ Own w0 none_ [cel b1 (dayL v d f).toArray 81, cel b2 #[.int .i64 wk, .int .i64 hr] 93, cel b3x #[.int .i64 ((d.lots.getD lot.toNat default).cr), .int .i64 ((d.lots.getD lot.toNat default).la), .int .i64 ((d.lots.getD lot.toNat default).ke), .int .i64 ((d.lots.getD lot.toNat default).fi)] 59, cel b4x #[.int .i64 ((d.wks.getD wk.toNat default).kd), .int .i64 ((d.wks.getD wk.toNat default).fr), .int .i64 ((d.wks.getD wk.toNat default).to), .int .i64 ((d.wks.getD wk.toNat default).rt)] 61] w) (draw_start (R := none_) mixed [16] 17 (by kernel_rfl) fun w hS => ?_) ?_)
  · replace hO := hO.ext hS
    refine draw_q {} TBok hF hS (F' := [(1, .int .i64 lot), (3, .pointer (some ⟨b1, 0, none⟩)), (5, .pointer (some ⟨b2, 0, none⟩)), (6, .bool false), (14, .agg #[.int .i64 ((d.lots.getD lot.toNat default).cr), .int .i64 ((d.lots.getD lot.toNat default).la), .int .i64 ((d.lots.getD lot.toNat default).ke), .int .i64 ((d.lots.getD lot.toNat default).fi)]), (21, .agg #[.int .i64 ((d.wks.getD wk.toNat default).kd), .int .i64 ((d.wks.getD wk.toNat default).fr), .int .i64 ((d.wks.getD wk.toNat default).to), .int .i64 ((d.wks.getD wk.toNat default).rt)])]) (rs := [.ld ⟨b1, 2, none⟩ (.slice v.la v.ln v.lc), .idx v.la v.ln lot 4 (adr v.la 4 lot), .lds (adr v.la 4 lot) [.int .i64 ((d.lots.getD lot.toNat default).cr), .int .i64 ((d.lots.getD lot.toNat default).la), .int .i64 ((d.lots.getD lot.toNat default).ke), .int .i64 ((d.lots.getD lot.toNat default).fi)], .ld ⟨b1, 3, none⟩ (.slice v.wa v.wn v.wc), .ld ⟨b2, 0, none⟩ (.int .i64 wk), .idx v.wa v.wn wk 4 (adr v.wa 4 wk), .lds (adr v.wa 4 wk) [.int .i64 ((d.wks.getD wk.toNat default).kd), .int .i64 ((d.wks.getD wk.toNat default).fr), .int .i64 ((d.wks.getD wk.toNat default).to), .int .i64 ((d.wks.getD wk.toNat default).rt)]]) [0, 1, 2, 3, 4, 5, 6, 7, 8, 9, 10, 11, 12] 17 4 (by kernel_rfl) #[true, true, true, true, true, true, true, true, true, true, true, true, true, false, false, false, false] [1, 3, 5, 6, 14, 21] (.cons (ldo hO.st 0 rfl 2 (by kernel_rfl)) <| .cons (ix hd.lots (by omega) (by omega)) <| .cons (ldsx hO.st nom hd.lots (by omega) (by omega) rfl) <| .cons (ldo hO.st 0 rfl 3 (by kernel_rfl)) <| .cons (ldo hO.st 1 rfl 0 rfl) <| .cons (ix hd.wks (by omega) (by omega)) <| .cons (ldsx hO.st nom hd.wks (by omega) (by omega) rfl) <| .nil) (by kernel_rfl) (by kernel_rfl) fun a hF => ?_
    replace hS := Kp.refl none_ w
    refine any_pick (rs := [13, 14]) (by kernel_rfl) (by simp) fun w hE => all2 ?_ ?_
    · replace hO := hO.ext hE; replace hS := hS.trans (Ext.kp hE)
      refine op_alloc (i := 13) (t := 59) (d := 7) (z := .agg #[.int .i64 0, .int .i64 0, .int .i64 0, .int .i64 0]) hF hO (by kernel_rfl) (by kernel_rfl) fun a w b103 hF hO hx => ⟨.inr (hS.trans (Ext.kp hx.1)), ?_⟩
      have hf_b103 := Nat.le_trans hS.size hx.2; replace hS := hS.trans (Ext.kp hx.1); clear hx
      replace hO : Own w0 none_ [cel b1 (dayL v d f).toArray 81, cel b2 #[.int .i64 wk, .int .i64 hr] 93, cel b103 #[.int .i64 0, .int .i64 0, .int .i64 0, .int .i64 0] 59] w := hO
      refine any_pick (rs := [14]) (by kernel_rfl) (by simp) fun w hE => all1 ?_
      replace hO := hO.ext hE; replace hS := hS.trans (Ext.kp hE)
      refine op_alloc (i := 14) (t := 61) (d := 8) (z := .agg #[.int .i64 0, .int .i64 0, .int .i64 0, .int .i64 0]) hF hO (by kernel_rfl) (by kernel_rfl) fun a w b104 hF hO hx => ⟨.inr (hS.trans (Ext.kp hx.1)), ?_⟩
      have hf_b104 := Nat.le_trans hS.size hx.2; replace hS := hS.trans (Ext.kp hx.1); clear hx
      replace hO : Own w0 none_ [cel b1 (dayL v d f).toArray 81, cel b2 #[.int .i64 wk, .int .i64 hr] 93, cel b103 #[.int .i64 0, .int .i64 0, .int .i64 0, .int .i64 0] 59, cel b104 #[.int .i64 0, .int .i64 0, .int .i64 0, .int .i64 0] 61] w := hO
      refine any_pick (rs := [15]) (by kernel_rfl) (by simp) fun w hE => all1 ?_
      replace hO := hO.ext hE; replace hS := hS.trans (Ext.kp hE)
      refine op_store (i := 15) (t := 59) (p := ⟨b103, 0, none⟩) (v := .agg #[.int .i64 ((d.lots.getD lot.toNat default).cr), .int .i64 ((d.lots.getD lot.toNat default).la), .int .i64 ((d.lots.getD lot.toNat default).ke), .int .i64 ((d.lots.getD lot.toNat default).fi)]) (off := 0) (sz := 4) (cs' := #[.int .i64 ((d.lots.getD lot.toNat default).cr), .int .i64 ((d.lots.getD lot.toNat default).la), .int .i64 ((d.lots.getD lot.toNat default).ke), .int .i64 ((d.lots.getD lot.toNat default).fi)]) hF hO (by kernel_rfl) 2 rfl rfl (by kernel_rfl) (by kernel_rfl) (by kernel_rfl) fun a w hF hO hx => ⟨.inr (hS.fresh hx hf_b103), ?_⟩
      replace hS := hS.fresh hx hf_b103; clear hx
      replace hO : Own w0 none_ [cel b1 (dayL v d f).toArray 81, cel b2 #[.int .i64 wk, .int .i64 hr] 93, cel b103 #[.int .i64 ((d.lots.getD lot.toNat default).cr), .int .i64 ((d.lots.getD lot.toNat default).la), .int .i64 ((d.lots.getD lot.toNat default).ke), .int .i64 ((d.lots.getD lot.toNat default).fi)] 59, cel b104 #[.int .i64 0, .int .i64 0, .int .i64 0, .int .i64 0] 61] w := hO
      refine any_pick (rs := [16]) (by kernel_rfl) (by simp) fun w hE => all1 ?_
      replace hO := hO.ext hE; replace hS := hS.trans (Ext.kp hE)
      refine op_store (i := 16) (t := 61) (p := ⟨b104, 0, none⟩) (v := .agg #[.int .i64 ((d.wks.getD wk.toNat default).kd), .int .i64 ((d.wks.getD wk.toNat default).fr), .int .i64 ((d.wks.getD wk.toNat default).to), .int .i64 ((d.wks.getD wk.toNat default).rt)]) (off := 0) (sz := 4) (cs' := #[.int .i64 ((d.wks.getD wk.toNat default).kd), .int .i64 ((d.wks.getD wk.toNat default).fr), .int .i64 ((d.wks.getD wk.toNat default).to), .int .i64 ((d.wks.getD wk.toNat default).rt)]) hF hO (by kernel_rfl) 3 rfl rfl (by kernel_rfl) (by kernel_rfl) (by kernel_rfl) fun a w hF hO _ => ⟨.inl rfl, ?_⟩
      replace hO : Own w0 none_ [cel b1 (dayL v d f).toArray 81, cel b2 #[.int .i64 wk, .int .i64 hr] 93, cel b103 #[.int .i64 ((d.lots.getD lot.toNat default).cr), .int .i64 ((d.lots.getD lot.toNat default).la), .int .i64 ((d.lots.getD lot.toNat default).ke), .int .i64 ((d.lots.getD lot.toNat default).fi)] 59, cel b104 #[.int .i64 ((d.wks.getD wk.toNat default).kd), .int .i64 ((d.wks.getD wk.toNat default).fr), .int .i64 ((d.wks.getD wk.toNat default).to), .int .i64 ((d.wks.getD wk.toNat default).rt)] 61] w := hO
      refine any_done (by kernel_rfl) (fun w hE => ?_) _
      replace hO := hO.ext hE
      replace hF := hF.sel [1, 3, 5, 6, 7, 8]
      replace hF : Fr 49 [] [(1, .int .i64 lot), (3, .pointer (some ⟨b1, 0, none⟩)), (5, .pointer (some ⟨b2, 0, none⟩)), (6, .bool false), (7, .pointer (some ⟨b103, 0, none⟩)), (8, .pointer (some ⟨b104, 0, none⟩))] a := hF
      exact ⟨rfl, b103, b104, hF, hO.sel [0, 1, 2, 3] (by decide)⟩
    · replace hO := hO.ext hE; replace hS := hS.trans (Ext.kp hE)
      refine op_alloc (i := 14) (t := 61) (d := 8) (z := .agg #[.int .i64 0, .int .i64 0, .int .i64 0, .int .i64 0]) hF hO (by kernel_rfl) (by kernel_rfl) fun a w b105 hF hO hx => ⟨.inr (hS.trans (Ext.kp hx.1)), ?_⟩
      have hf_b105 := Nat.le_trans hS.size hx.2; replace hS := hS.trans (Ext.kp hx.1); clear hx
      replace hO : Own w0 none_ [cel b1 (dayL v d f).toArray 81, cel b2 #[.int .i64 wk, .int .i64 hr] 93, cel b105 #[.int .i64 0, .int .i64 0, .int .i64 0, .int .i64 0] 61] w := hO
      refine any_pick (rs := [13]) (by kernel_rfl) (by simp) fun w hE => all1 ?_
      replace hO := hO.ext hE; replace hS := hS.trans (Ext.kp hE)
      refine op_alloc (i := 13) (t := 59) (d := 7) (z := .agg #[.int .i64 0, .int .i64 0, .int .i64 0, .int .i64 0]) hF hO (by kernel_rfl) (by kernel_rfl) fun a w b106 hF hO hx => ⟨.inr (hS.trans (Ext.kp hx.1)), ?_⟩
      have hf_b106 := Nat.le_trans hS.size hx.2; replace hS := hS.trans (Ext.kp hx.1); clear hx
      replace hO : Own w0 none_ [cel b1 (dayL v d f).toArray 81, cel b2 #[.int .i64 wk, .int .i64 hr] 93, cel b105 #[.int .i64 0, .int .i64 0, .int .i64 0, .int .i64 0] 61, cel b106 #[.int .i64 0, .int .i64 0, .int .i64 0, .int .i64 0] 59] w := hO
      refine any_pick (rs := [15]) (by kernel_rfl) (by simp) fun w hE => all1 ?_
      replace hO := hO.ext hE; replace hS := hS.trans (Ext.kp hE)
      refine op_store (i := 15) (t := 59) (p := ⟨b106, 0, none⟩) (v := .agg #[.int .i64 ((d.lots.getD lot.toNat default).cr), .int .i64 ((d.lots.getD lot.toNat default).la), .int .i64 ((d.lots.getD lot.toNat default).ke), .int .i64 ((d.lots.getD lot.toNat default).fi)]) (off := 0) (sz := 4) (cs' := #[.int .i64 ((d.lots.getD lot.toNat default).cr), .int .i64 ((d.lots.getD lot.toNat default).la), .int .i64 ((d.lots.getD lot.toNat default).ke), .int .i64 ((d.lots.getD lot.toNat default).fi)]) hF hO (by kernel_rfl) 3 rfl rfl (by kernel_rfl) (by kernel_rfl) (by kernel_rfl) fun a w hF hO hx => ⟨.inr (hS.fresh hx hf_b106), ?_⟩
      replace hS := hS.fresh hx hf_b106; clear hx
      replace hO : Own w0 none_ [cel b1 (dayL v d f).toArray 81, cel b2 #[.int .i64 wk, .int .i64 hr] 93, cel b105 #[.int .i64 0, .int .i64 0, .int .i64 0, .int .i64 0] 61, cel b106 #[.int .i64 ((d.lots.getD lot.toNat default).cr), .int .i64 ((d.lots.getD lot.toNat default).la), .int .i64 ((d.lots.getD lot.toNat default).ke), .int .i64 ((d.lots.getD lot.toNat default).fi)] 59] w := hO
      refine any_pick (rs := [16]) (by kernel_rfl) (by simp) fun w hE => all1 ?_
      replace hO := hO.ext hE; replace hS := hS.trans (Ext.kp hE)
      refine op_store (i := 16) (t := 61) (p := ⟨b105, 0, none⟩) (v := .agg #[.int .i64 ((d.wks.getD wk.toNat default).kd), .int .i64 ((d.wks.getD wk.toNat default).fr), .int .i64 ((d.wks.getD wk.toNat default).to), .int .i64 ((d.wks.getD wk.toNat default).rt)]) (off := 0) (sz := 4) (cs' := #[.int .i64 ((d.wks.getD wk.toNat default).kd), .int .i64 ((d.wks.getD wk.toNat default).fr), .int .i64 ((d.wks.getD wk.toNat default).to), .int .i64 ((d.wks.getD wk.toNat default).rt)]) hF hO (by kernel_rfl) 2 rfl rfl (by kernel_rfl) (by kernel_rfl) (by kernel_rfl) fun a w hF hO _ => ⟨.inl rfl, ?_⟩
      replace hO : Own w0 none_ [cel b1 (dayL v d f).toArray 81, cel b2 #[.int .i64 wk, .int .i64 hr] 93, cel b105 #[.int .i64 ((d.wks.getD wk.toNat default).kd), .int .i64 ((d.wks.getD wk.toNat default).fr), .int .i64 ((d.wks.getD wk.toNat default).to), .int .i64 ((d.wks.getD wk.toNat default).rt)] 61, cel b106 #[.int .i64 ((d.lots.getD lot.toNat default).cr), .int .i64 ((d.lots.getD lot.toNat default).la), .int .i64 ((d.lots.getD lot.toNat default).ke), .int .i64 ((d.lots.getD lot.toNat default).fi)] 59] w := hO
      refine any_done (by kernel_rfl) (fun w hE => ?_) _
      replace hO := hO.ext hE
      replace hF := hF.sel [1, 3, 5, 6, 7, 8]
      replace hF : Fr 49 [] [(1, .int .i64 lot), (3, .pointer (some ⟨b1, 0, none⟩)), (5, .pointer (some ⟨b2, 0, none⟩)), (6, .bool false), (7, .pointer (some ⟨b106, 0, none⟩)), (8, .pointer (some ⟨b105, 0, none⟩))] a := hF
      exact ⟨rfl, b106, b105, hF, hO.sel [0, 1, 3, 2] (by decide)⟩
  clear hF hO
  rintro a w ⟨b3x, b4x, hF, hO⟩
  refine W_seq (region_d { sy := [7, 16], md := [(4, 3), (5, 3)] } mixed TBok hF (F' := [(6, .bool (cond (cond ((bits .and .i64 (Int.fdiv (d.lots.getD lot.toNat default).fi (2 ^ (min ((d.wks.getD wk.toNat default).kd).toNat 64))) 1) == 1) (inB hr ((d.wks.getD wk.toNat default).fr) ((d.wks.getD wk.toNat default).to)) false) (inB hr ((d.lots.getD lot.toNat default).la) (f lot.toNat)) false))]) (rs := [.ld ⟨b3x, 3, none⟩ (.int .i64 ((d.lots.getD lot.toNat default).fi)), .ld ⟨b4x, 0, none⟩ (.int .i64 ((d.wks.getD wk.toNat default).kd)), .raw (do eqGuard .shr 3 (.tmp 23) (.tmp 25) (.int .i64 ((d.lots.getD lot.toNat default).fi)) (.int .i64 ((d.wks.getD wk.toNat default).kd)); Go.binOp .shr 3 (.int .i64 ((d.lots.getD lot.toNat default).fi)) (.int .i64 ((d.wks.getD wk.toNat default).kd))) (.int .i64 (Int.fdiv (d.lots.getD lot.toNat default).fi (2 ^ (min ((d.wks.getD wk.toNat default).kd).toNat 64)))), .raw (do eqGuard .and 3 (.tmp 26) (.const (.int .i64 1)) (.int .i64 (Int.fdiv (d.lots.getD lot.toNat default).fi (2 ^ (min ((d.wks.getD wk.toNat default).kd).toNat 64)))) (.int .i64 1); Go.binOp .and 3 (.int .i64 (Int.fdiv (d.lots.getD lot.toNat default).fi (2 ^ (min ((d.wks.getD wk.toNat default).kd).toNat 64)))) (.int .i64 1)) (.int .i64 (bits .and .i64 (Int.fdiv (d.lots.getD lot.toNat default).fi (2 ^ (min ((d.wks.getD wk.toNat default).kd).toNat 64))) 1)), .und ((bits .and .i64 (Int.fdiv (d.lots.getD lot.toNat default).fi (2 ^ (min ((d.wks.getD wk.toNat default).kd).toNat 64))) 1) == 1) (.ld ⟨b2, 1, none⟩ (.int .i64 hr)), .und ((bits .and .i64 (Int.fdiv (d.lots.getD lot.toNat default).fi (2 ^ (min ((d.wks.getD wk.toNat default).kd).toNat 64))) 1) == 1) (.ld ⟨b4x, 1, none⟩ (.int .i64 ((d.wks.getD wk.toNat default).fr))), .und ((bits .and .i64 (Int.fdiv (d.lots.getD lot.toNat default).fi (2 ^ (min ((d.wks.getD wk.toNat default).kd).toNat 64))) 1) == 1) (.ld ⟨b4x, 2, none⟩ (.int .i64 ((d.wks.getD wk.toNat default).to))), .und ((bits .and .i64 (Int.fdiv (d.lots.getD lot.toNat default).fi (2 ^ (min ((d.wks.getD wk.toNat default).kd).toNat 64))) 1) == 1) (.call 49 #[.int .i64 hr, .int .i64 ((d.wks.getD wk.toNat default).fr), .int .i64 ((d.wks.getD wk.toNat default).to)] (.bool (inB hr ((d.wks.getD wk.toNat default).fr) ((d.wks.getD wk.toNat default).to)))), .und (cond ((bits .and .i64 (Int.fdiv (d.lots.getD lot.toNat default).fi (2 ^ (min ((d.wks.getD wk.toNat default).kd).toNat 64))) 1) == 1) (inB hr ((d.wks.getD wk.toNat default).fr) ((d.wks.getD wk.toNat default).to)) false) (.ld ⟨b2, 1, none⟩ (.int .i64 hr)), .und (cond ((bits .and .i64 (Int.fdiv (d.lots.getD lot.toNat default).fi (2 ^ (min ((d.wks.getD wk.toNat default).kd).toNat 64))) 1) == 1) (inB hr ((d.wks.getD wk.toNat default).fr) ((d.wks.getD wk.toNat default).to)) false) (.ld ⟨b3x, 1, none⟩ (.int .i64 ((d.lots.getD lot.toNat default).la))), .und (cond ((bits .and .i64 (Int.fdiv (d.lots.getD lot.toNat default).fi (2 ^ (min ((d.wks.getD wk.toNat default).kd).toNat 64))) 1) == 1) (inB hr ((d.wks.getD wk.toNat default).fr) ((d.wks.getD wk.toNat default).to)) false) (.idx (some ⟨b1, 4, none⟩) 8 lot 1 ((⟨b1, 4, none⟩ : Addr).add (lot.toNat * 1))), .und (cond ((bits .and .i64 (Int.fdiv (d.lots.getD lot.toNat default).fi (2 ^ (min ((d.wks.getD wk.toNat default).kd).toNat 64))) 1) == 1) (inB hr ((d.wks.getD wk.toNat default).fr) ((d.wks.getD wk.toNat default).to)) false) (.ld ((⟨b1, 4, none⟩ : Addr).add (lot.toNat * 1)) (.int .i64 (f lot.toNat))), .und (cond ((bits .and .i64 (Int.fdiv (d.lots.getD lot.toNat default).fi (2 ^ (min ((d.wks.getD wk.toNat default).kd).toNat 64))) 1) == 1) (inB hr ((d.wks.getD wk.toNat default).fr) ((d.wks.getD wk.toNat default).to)) false) (.call 49 #[.int .i64 hr, .int .i64 ((d.lots.getD lot.toNat default).la), .int .i64 (f lot.toNat)] (.bool (inB hr ((d.lots.getD lot.toNat default).la) (f lot.toNat))))]) [6] (.cons (ldo hO.st 2 rfl 3 rfl) <| .cons (ldo hO.st 3 rfl 0 rfl) <| .cons (raw_shr (by have := wk_ok hv (i := wk.toNat) (by omega); omega)) <| .cons raw_and <| .cons (fun hg => (ldo hO.st 1 rfl 1 rfl)) <| .cons (fun hg => (ldo hO.st 3 rfl 1 rfl)) <| .cons (fun hg => (ldo hO.st 3 rfl 2 rfl)) <| .cons (fun hg => (fun w _ => within_calls _ _ _ w)) <| .cons (fun hg => (ldo hO.st 1 rfl 1 rfl)) <| .cons (fun hg => (ldo hO.st 2 rfl 1 rfl)) <| .cons (fun hg => (ixa (by omega) (by omega))) <| .cons (fun hg => (ldf (pre := (dayPre v d)) (n := 8) (f := f) (post := []) hO.st 0 rfl rfl (by omega) (by omega))) <| .cons (fun hg => (fun w _ => within_calls _ _ _ w)) <| .nil) (by kernel_rfl) (by kernel_rfl) fun a w hF hE => ?_)
  replace hO := hO.ext hE; clear hE
  refine W_ret ?_
  show bodyPostM (FW none) 0 _ _ _ Exit.ret a w
  exact leave_r TBok hF (.nil _) (vs := [.bool (cond (cond ((bits .and .i64 (Int.fdiv (d.lots.getD lot.toNat default).fi (2 ^ (min ((d.wks.getD wk.toNat default).kd).toNat 64))) 1) == 1) (inB hr ((d.wks.getD wk.toNat default).fr) ((d.wks.getD wk.toNat default).to)) false) (inB hr ((d.lots.getD lot.toNat default).la) (f lot.toNat)) false)]) (rs := []) .nil (by kernel_rfl) ⟨rfl, hO.kp⟩

end Go.Proofs.Ytioimdegbdkppaa.DK
