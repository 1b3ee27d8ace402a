/- Walks: the counts through each cell. Printed by my gen.py out of shoal/l.py. -/
import Derived.Test.YtgihgcclabodbaaSU
import Derived.Test.YtgihgcclabodbaaSThr2
namespace Go.Proofs.Ytgihgcclabodbaa.DK
open Go Go.Proofs
set_option linter.unusedVariables false
set_option linter.unusedSimpArgs false

set_option maxHeartbeats 4000000 in
set_option maxRecDepth 100000 in
theorem through_calls (s : Sea) (v : SV) (mb : Nat) (qa : Option Addr) (qn qc : Nat) (rs : List Rp) (w0 : World) (hg : LogR w0.heap.size w0 v mb qa qn s rs) (hv : seaB s = true) (hr : rpsB s rs = true) :
    Calls Try.prog 57 #[.agg (sS8 s v mb qa qn qc)] w0 (fun e w' => ∃ ba br, e = .returned (.tuple #[.slice (some ⟨ba, 0, none⟩) s.hours.toNat s.hours.toNat, .slice (some ⟨br, 0, none⟩) s.hours.toNat s.hours.toNat]) ∧ Own w0 none_ [cel ba (arrL (s.hours.toNat * 80) (flat (allR s rs s.hours.toNat))).toArray 99, cel br (arrL (s.hours.toNat * 80) (flat (bwdR s rs s.hours.toNat))).toArray 99] w') := by
  have hs := hg.sea; have hq1 := hg.reps.len; have hrl := rqs_len (s := s) (rs := rs); have hrp := rp_ok hr; have hl1 := hs.land.len; have hl2 := hs.drift.len; have hs1 := hs.land.size; have hs2 := hs.drift.size; have hr_ := hs.rg; unfold i64 at hr_; have hv1 := sea_ok hv
  refine calls_of_W Try.func57 rfl (by kernel_rfl) (args := [.agg (sS8 s v mb qa qn qc)]) fun a hF => ?_
  replace hF : Fr 99 [] [(0, .agg (sS8 s v mb qa qn qc))] a := hF
  have hO : Own w0 none_ [] w0 := Own.start w0 _
  refine W_seq (region_seq ?_)
  refine op_box (i := 0) (t := 80) (v := .agg (sS8 s v mb qa qn qc)) (d := 1) hF hO (by kernel_rfl) fun a w b1 hF hO _ => ?_
  refine op_alloc (i := 1) (t := 92) (d := 2) (z := .slice none 0 0) hF hO (by kernel_rfl) (by kernel_rfl) fun a w b2 hF hO _ => ?_
  refine op_alloc (i := 2) (t := 92) (d := 3) (z := .slice none 0 0) hF hO (by kernel_rfl) (by kernel_rfl) fun a w b3 hF hO _ => ?_
  replace hF := hF.sel [1, 2, 3]
  replace hF : Fr 99 [] [(1, pv b1), (2, pv b2), (3, pv b3)] a := hF
  refine W_seq (W_cut (fun a w => ∃ b4x : Nat, ∃ b5x : Nat, Fr 99 [] [(1, pv b1), (2, pv b2), (3, pv b3)] a ∧ Own w0 none_ [cel b1 (sS8 s v mb qa qn qc) 80, cel b2 #[.slice (some ⟨b4x, 0, none⟩) (s.hours.toNat) (s.hours.toNat)] 92, cel b3 #[.slice (some ⟨b5x, 0, none⟩) (s.hours.toNat) (s.hours.toNat)] 92, cel b4x (arrL ((s.hours.toNat) * 80) (flat (fun _ _ => 0))).toArray 99, cel b5x (arrL ((s.hours.toNat) * 80) (flat (fun _ _ => 0))).toArray 99] w) (draw_start (R := (selR [cel b1 (sS8 s v mb qa qn qc) 80, cel b2 #[.slice none 0 0] 92, cel b3 #[.slice none 0 0] 92] [1])) mixed [11] 12 (by kernel_rfl) fun w hS => ?_) ?_)
  · replace hO := hO.ext hS
    have hH := hO.butL [1]; replace hS := Ext.kp (M := (selR [cel b1 (sS8 s v mb qa qn qc) 80, cel b2 #[.slice none 0 0] 92, cel b3 #[.slice none 0 0] 92] [1])) hS
    refine draw_q {} TBok hF hS (F' := [(1, pv b1), (2, pv b2), (3, pv b3), (12, iv s.hours), (17, iv s.hours)]) (rs := [.ld ⟨b1, 3, none⟩ (iv s.hours), .ld ⟨b1, 3, none⟩ (iv s.hours)]) [0, 1, 2, 3, 5, 6, 7, 8] 12 4 (by kernel_rfl) #[true, true, true, true, false, true, true, true, true, false, false, false] [1, 2, 3, 12, 17] (.cons (ldo hH 0 rfl 3 rfl) <| .cons (ldo hH 0 rfl 3 rfl) <| .nil) (by kernel_rfl) (by kernel_rfl) fun a hF => ?_
    replace hS := Kp.refl (selR [cel b1 (sS8 s v mb qa qn qc) 80, cel b2 #[.slice none 0 0] 92, cel b3 #[.slice none 0 0] 92] [1]) w
    refine any_pick (rs := [4, 9]) (by kernel_rfl) (by simp) fun w hE => all2 ?_ ?_
    · replace hO := hO.ext hE; replace hS := hS.trans (Ext.kp hE)
      refine op_mslMh (m := s.hours) (k := 4) (t := 92) (e := 99) (N := (s.hours.toNat)) (d := 13) (by omega) hF hO (by kernel_rfl) (by kernel_rfl) (by kernel_rfl) (by kernel_rfl) (by omega) fun a w b104 hF hO hx => ⟨.inr (hS.trans (Ext.kp hx.1)), ?_⟩
      have hf_b104 := Nat.le_trans hS.size hx.2; replace hS := hS.trans (Ext.kp hx.1); clear hx
      replace hO : Own w0 none_ [cel b1 (sS8 s v mb qa qn qc) 80, cel b2 #[.slice none 0 0] 92, cel b3 #[.slice none 0 0] 92, cel b104 (arrL ((s.hours.toNat) * 80) (flat (fun _ _ => 0))).toArray 99] w := hO
      refine any_pick (rs := [9, 10]) (by kernel_rfl) (by simp) fun w hE => all2 ?_ ?_
      · replace hO := hO.ext hE; replace hS := hS.trans (Ext.kp hE)
        refine op_mslMh (m := s.hours) (k := 9) (t := 92) (e := 99) (N := (s.hours.toNat)) (d := 18) (by omega) hF hO (by kernel_rfl) (by kernel_rfl) (by kernel_rfl) (by kernel_rfl) (by omega) fun a w b105 hF hO hx => ⟨.inr (hS.trans (Ext.kp hx.1)), ?_⟩
        have hf_b105 := Nat.le_trans hS.size hx.2; replace hS := hS.trans (Ext.kp hx.1); clear hx
        refine any_pick (rs := [10]) (by kernel_rfl) (by simp) fun w hE => all1 ?_
        replace hO := hO.ext hE; replace hS := hS.trans (Ext.kp hE)
        refine op_store (i := 10) (t := 92) (p := ⟨b2, 0, none⟩) (v := .slice (some ⟨b104, 0, none⟩) (s.hours.toNat) (s.hours.toNat)) (off := 0) (sz := 1) (cs' := #[.slice (some ⟨b104, 0, none⟩) (s.hours.toNat) (s.hours.toNat)]) hF hO (by kernel_rfl) 1 rfl rfl (by kernel_rfl) (by kernel_rfl) (by kernel_rfl) fun a w hF hO hx => ⟨.inr (hS.trans (hx.mono fun _ _ h => ⟨1, rfl, _, rfl, h⟩)), ?_⟩
        replace hS := hS.trans (hx.mono fun _ _ h => ⟨1, rfl, _, rfl, h⟩); clear hx
        refine any_pick (rs := [11]) (by kernel_rfl) (by simp) fun w hE => all1 ?_
        replace hO := hO.ext hE; replace hS := hS.trans (Ext.kp hE)
        refine op_store (i := 11) (t := 92) (p := ⟨b3, 0, none⟩) (v := .slice (some ⟨b105, 0, none⟩) (s.hours.toNat) (s.hours.toNat)) (off := 0) (sz := 1) (cs' := #[.slice (some ⟨b105, 0, none⟩) (s.hours.toNat) (s.hours.toNat)]) hF hO (by kernel_rfl) 2 rfl rfl (by kernel_rfl) (by kernel_rfl) (by kernel_rfl) fun a w hF hO _ => ⟨.inl rfl, ?_⟩
        refine any_done (by kernel_rfl) (fun w hE => ?_) _
        replace hO := hO.ext hE
        replace hF := hF.sel [1, 2, 3]
        replace hF : Fr 99 [] [(1, pv b1), (2, pv b2), (3, pv b3)] a := hF
        exact ⟨rfl, b104, b105, hF, hO.sel [0, 1, 2, 3, 4] (by decide)⟩
      · replace hO := hO.ext hE; replace hS := hS.trans (Ext.kp hE)
        refine op_store (i := 10) (t := 92) (p := ⟨b2, 0, none⟩) (v := .slice (some ⟨b104, 0, none⟩) (s.hours.toNat) (s.hours.toNat)) (off := 0) (sz := 1) (cs' := #[.slice (some ⟨b104, 0, none⟩) (s.hours.toNat) (s.hours.toNat)]) hF hO (by kernel_rfl) 1 rfl rfl (by kernel_rfl) (by kernel_rfl) (by kernel_rfl) fun a w hF hO hx => ⟨.inr (hS.trans (hx.mono fun _ _ h => ⟨1, rfl, _, rfl, h⟩)), ?_⟩
        replace hS := hS.trans (hx.mono fun _ _ h => ⟨1, rfl, _, rfl, h⟩); clear hx
        refine any_pick (rs := [9]) (by kernel_rfl) (by simp) fun w hE => all1 ?_
        replace hO := hO.ext hE; replace hS := hS.trans (Ext.kp hE)
        refine op_mslMh (m := s.hours) (k := 9) (t := 92) (e := 99) (N := (s.hours.toNat)) (d := 18) (by omega) hF hO (by kernel_rfl) (by kernel_rfl) (by kernel_rfl) (by kernel_rfl) (by omega) fun a w b106 hF hO hx => ⟨.inr (hS.trans (Ext.kp hx.1)), ?_⟩
        have hf_b106 := Nat.le_trans hS.size hx.2; replace hS := hS.trans (Ext.kp hx.1); clear hx
        refine any_pick (rs := [11]) (by kernel_rfl) (by simp) fun w hE => all1 ?_
        replace hO := hO.ext hE; replace hS := hS.trans (Ext.kp hE)
        refine op_store (i := 11) (t := 92) (p := ⟨b3, 0, none⟩) (v := .slice (some ⟨b106, 0, none⟩) (s.hours.toNat) (s.hours.toNat)) (off := 0) (sz := 1) (cs' := #[.slice (some ⟨b106, 0, none⟩) (s.hours.toNat) (s.hours.toNat)]) hF hO (by kernel_rfl) 2 rfl rfl (by kernel_rfl) (by kernel_rfl) (by kernel_rfl) fun a w hF hO _ => ⟨.inl rfl, ?_⟩
        refine any_done (by kernel_rfl) (fun w hE => ?_) _
        replace hO := hO.ext hE
        replace hF := hF.sel [1, 2, 3]
        replace hF : Fr 99 [] [(1, pv b1), (2, pv b2), (3, pv b3)] a := hF
        exact ⟨rfl, b104, b106, hF, hO.sel [0, 1, 2, 3, 4] (by decide)⟩
    · replace hO := hO.ext hE; replace hS := hS.trans (Ext.kp hE)
      refine op_mslMh (m := s.hours) (k := 9) (t := 92) (e := 99) (N := (s.hours.toNat)) (d := 18) (by omega) hF hO (by kernel_rfl) (by kernel_rfl) (by kernel_rfl) (by kernel_rfl) (by omega) fun a w b107 hF hO hx => ⟨.inr (hS.trans (Ext.kp hx.1)), ?_⟩
      have hf_b107 := Nat.le_trans hS.size hx.2; replace hS := hS.trans (Ext.kp hx.1); clear hx
      replace hO : Own w0 none_ [cel b1 (sS8 s v mb qa qn qc) 80, cel b2 #[.slice none 0 0] 92, cel b3 #[.slice none 0 0] 92, cel b107 (arrL ((s.hours.toNat) * 80) (flat (fun _ _ => 0))).toArray 99] w := hO
      refine any_pick (rs := [4]) (by kernel_rfl) (by simp) fun w hE => all1 ?_
      replace hO := hO.ext hE; replace hS := hS.trans (Ext.kp hE)
      refine op_mslMh (m := s.hours) (k := 4) (t := 92) (e := 99) (N := (s.hours.toNat)) (d := 13) (by omega) hF hO (by kernel_rfl) (by kernel_rfl) (by kernel_rfl) (by kernel_rfl) (by omega) fun a w b108 hF hO hx => ⟨.inr (hS.trans (Ext.kp hx.1)), ?_⟩
      have hf_b108 := Nat.le_trans hS.size hx.2; replace hS := hS.trans (Ext.kp hx.1); clear hx
      refine any_pick (rs := [10]) (by kernel_rfl) (by simp) fun w hE => all1 ?_
      replace hO := hO.ext hE; replace hS := hS.trans (Ext.kp hE)
      refine op_store (i := 10) (t := 92) (p := ⟨b2, 0, none⟩) (v := .slice (some ⟨b108, 0, none⟩) (s.hours.toNat) (s.hours.toNat)) (off := 0) (sz := 1) (cs' := #[.slice (some ⟨b108, 0, none⟩) (s.hours.toNat) (s.hours.toNat)]) hF hO (by kernel_rfl) 1 rfl rfl (by kernel_rfl) (by kernel_rfl) (by kernel_rfl) fun a w hF hO hx => ⟨.inr (hS.trans (hx.mono fun _ _ h => ⟨1, rfl, _, rfl, h⟩)), ?_⟩
      replace hS := hS.trans (hx.mono fun _ _ h => ⟨1, rfl, _, rfl, h⟩); clear hx
      refine any_pick (rs := [11]) (by kernel_rfl) (by simp) fun w hE => all1 ?_
      replace hO := hO.ext hE; replace hS := hS.trans (Ext.kp hE)
      refine op_store (i := 11) (t := 92) (p := ⟨b3, 0, none⟩) (v := .slice (some ⟨b107, 0, none⟩) (s.hours.toNat) (s.hours.toNat)) (off := 0) (sz := 1) (cs' := #[.slice (some ⟨b107, 0, none⟩) (s.hours.toNat) (s.hours.toNat)]) hF hO (by kernel_rfl) 2 rfl rfl (by kernel_rfl) (by kernel_rfl) (by kernel_rfl) fun a w hF hO _ => ⟨.inl rfl, ?_⟩
      refine any_done (by kernel_rfl) (fun w hE => ?_) _
      replace hO := hO.ext hE
      replace hF := hF.sel [1, 2, 3]
      replace hF : Fr 99 [] [(1, pv b1), (2, pv b2), (3, pv b3)] a := hF
      exact ⟨rfl, b108, b107, hF, hO.sel [0, 1, 2, 4, 3] (by decide)⟩
  clear hF hO
  rintro a w ⟨b4x, b5x, hF, hO⟩
  refine W_seq (region_q {} TBok hF (F' := [(1, pv b1), (2, pv b2), (3, pv b3), (4, .pointer none)]) (rs := []) [1, 2, 3, 4] .nil (by kernel_rfl) fun a w hF hE => ?_)
  replace hO := hO.ext hE; clear hE
  refine W_seq ?_
  refine W_seq (region_q {} TBok hF (F' := [(1, pv b1), (2, pv b2), (3, pv b3), (4, .pointer none), (22, iv s.hours), (23, iv 0)]) (rs := [.ld ⟨b1, 3, none⟩ (iv s.hours)]) [1, 2, 3, 4, 22, 23] (.cons (ldo hO.st 0 rfl 3 rfl) <| .nil) (by kernel_rfl) fun a w hF hE => ?_)
  replace hO := hO.ext hE; clear hE
  refine (W_block ?_)
  replace hO : Own w0 none_ [cel b1 (sS8 s v mb qa qn qc) 80, cel b2 #[.slice (some ⟨b4x, 0, none⟩) (s.hours.toNat) (s.hours.toNat)] 92, cel b3 #[.slice (some ⟨b5x, 0, none⟩) (s.hours.toNat) (s.hours.toNat)] 92, cel b4x (arrL ((s.hours.toNat) * 80) (flat (fun _ _ => 0))).toArray 99, cel b5x (arrL ((s.hours.toNat) * 80) (flat (fun _ _ => 0))).toArray 99] w := hO
  replace hO : Own w0 none_ [cel b1 (sS8 s v mb qa qn qc) 80, cel b2 #[.slice (some ⟨b4x, 0, none⟩) (s.hours.toNat) (s.hours.toNat)] 92, cel b3 #[.slice (some ⟨b5x, 0, none⟩) (s.hours.toNat) (s.hours.toNat)] 92, cel b4x (arrL ((s.hours.toNat) * 80) (flat (fwdR s rs 0))).toArray 99, cel b5x (arrL ((s.hours.toNat) * 80) (flat (fun _ _ => 0))).toArray 99] w := hO.cast (by rw [fwdR_0])
  refine (W_loop (fun m a w => ∃ (k : Nat), m = s.hours.toNat - k ∧ k ≤ s.hours.toNat ∧ Fr 99 [] [(1, pv b1), (2, pv b2), (3, pv b3), (4, (PT b4x k)), (22, iv s.hours), (23, iv (k : Int))] a ∧ Own w0 none_ [cel b1 (sS8 s v mb qa qn qc) 80, cel b2 #[.slice (some ⟨b4x, 0, none⟩) (s.hours.toNat) (s.hours.toNat)] 92, cel b3 #[.slice (some ⟨b5x, 0, none⟩) (s.hours.toNat) (s.hours.toNat)] 92, cel b4x (arrL ((s.hours.toNat) * 80) (flat (fwdR s rs k))).toArray 99, cel b5x (arrL ((s.hours.toNat) * 80) (flat (fun _ _ => 0))).toArray 99] w) _ ⟨0, rfl, Nat.zero_le _, hF, hO⟩ ?_)
  clear hF hO
  rintro _ a w ⟨k, rfl, hk, hF, hO⟩
  refine W_seq (region_q {} TBok hF (F' := [(1, pv b1), (2, pv b2), (3, pv b3), (4, (PT b4x k)), (22, iv s.hours), (23, iv (k : Int)), (24, .bool (decide ((k : Int) < s.hours)))]) (rs := []) [1, 2, 3, 4, 22, 23, 24] .nil (by kernel_rfl) fun a w hF hE => ?_)
  replace hO := hO.ext hE; clear hE
  rcases Bool.eq_false_or_eq_true (decide ((k : Int) < s.hours)) with hc109 | hc109
  · refine W_seq (W_true ((evOp hF (by kernel_rfl)).trans (congrArg Value.bool hc109)) ?_)
    have hc109_ := of_decide_eq_true hc109
    refine (W_skip ?_)
    refine W_seq (W_block ?_)
    refine W_seq (region_q {} TBok hF (F' := [(1, pv b1), (2, pv b2), (3, pv b3), (4, (PT b4x k)), (5, iv (k : Int)), (22, iv s.hours), (23, iv (k : Int))]) (rs := []) [1, 2, 3, 4, 5, 22, 23] .nil (by kernel_rfl) fun a w hF hE => ?_)
    replace hO := hO.ext hE; clear hE
    refine W_seq (draw_start (R := none_) mixed [9] 10 (by kernel_rfl) fun w hS => ?_)
    replace hO := hO.ext hS
    refine draw_q {} TBok hF hS (F' := [(1, pv b1), (2, pv b2), (3, pv b3), (4, (PT b4x k)), (5, iv (k : Int)), (22, iv s.hours), (23, iv (k : Int)), (26, .slice (some ⟨b4x, 0, none⟩) (s.hours.toNat) (s.hours.toNat)), (27, iv (k : Int)), (28, .agg (sS8 s v mb qa qn qc)), (29, .agg (sS8 s v mb qa qn qc)), (31, iv (k : Int)), (32, (PT b4x k))]) (rs := [.ld ⟨b2, 0, none⟩ (.slice (some ⟨b4x, 0, none⟩) (s.hours.toNat) (s.hours.toNat)), .lds ⟨b1, 0, none⟩ (sL8 s v mb qa qn qc), .lds ⟨b1, 0, none⟩ (sL8 s v mb qa qn qc)]) [0, 1, 2, 3, 5, 6] 10 4 (by kernel_rfl) #[true, true, true, true, false, true, true, false, false, false] [1, 2, 3, 4, 5, 22, 23, 26, 27, 28, 29, 31, 32] (.cons (ldo hO.st 1 rfl 0 rfl) <| .cons (ldso hO.st 0 rfl 0 rfl) <| .cons (ldso hO.st 0 rfl 0 rfl) <| .nil) (by kernel_rfl) (by kernel_rfl) fun a hF => ?_
    replace hS := Kp.refl none_ w
    refine any_pick (rs := [4]) (by kernel_rfl) (by simp) fun w hE => all1 ?_
    replace hO := hO.ext hE; replace hS := hS.trans (Ext.kp hE)
    refine op_call (i := 4) (f := 81) (args := #[.agg (sS8 s v mb qa qn qc)]) (d := some 30) TBok (by kernel_rfl) hF (by kernel_rfl) (forth_calls s v mb qa qn qc _) fun e w hR => ?_
    obtain ⟨b110, he, hO2⟩ := hR
    refine ⟨_, he, fun a hF => ⟨.inr (hS.trans (Ext.kp hO2.kp)), ?_⟩⟩
    replace hS := hS.trans (Ext.kp hO2.kp)
    replace hO := hO.joinE hO2; clear hO2 he
    refine draw_q {} TBok hF hS (F' := [(1, pv b1), (2, pv b2), (3, pv b3), (4, (PT b4x k)), (5, iv (k : Int)), (22, iv s.hours), (23, iv (k : Int)), (33, .agg (arrL 80 (fwd s rs k)).toArray), (34, .pointer (some ((⟨b4x, 0, none⟩ : Addr).add ((k : Int).toNat * 80))))]) (rs := [.call 80 #[.agg (sS8 s v mb qa qn qc), .agg #[.func (.func 86) #[] #[pv b110]], iv (k : Int), (PT b4x k)] (.agg (arrL 80 (fwd s rs k)).toArray), .idx (some ⟨b4x, 0, none⟩) (s.hours.toNat) (k : Int) 80 ((⟨b4x, 0, none⟩ : Addr).add ((k : Int).toNat * 80))]) [7, 8] 3 1 (by kernel_rfl) #[true, true, true, true, true, true, true, true, true, false] [1, 2, 3, 4, 5, 22, 23, 33, 34] (.cons (fun w hE => gone_fwd s v mb qa qn qc rs b110 b4x k w (hg.upM (hO.st w hE).kp nom (Nat.le_refl _)) hv hr (Ro.of_ok (cs := (sL8 s v mb qa qn qc)) ((hO.st w hE).get 5 rfl)) (by omega) (fun i hi => by have h_ := rdM (fun x => rfl) (hO.st w hE) 3 rfl (h := (i : Int)) (by omega) (by omega); rw [show (i : Int).toNat = i from rfl, fwdR_at (by omega)] at h_; exact h_)) <| .cons (ixa (by omega) (by omega)) <| .nil) (by kernel_rfl) (by kernel_rfl) fun a hF => ?_
    replace hS := Kp.refl none_ w
    refine any_pick (rs := [9]) (by kernel_rfl) (by simp) fun w hE => all1 ?_
    replace hO := hO.ext hE; replace hS := hS.trans (Ext.kp hE)
    refine op_storeMR (k := 9) (t := 99) (g := (fwd s rs k)) (N := (s.hours.toNat)) (G := (fwdR s rs k)) (h := (k : Int)) hF hO (by kernel_rfl) 3 rfl (by omega) (by omega) (by kernel_rfl) fun a w hF hO _ => ⟨.inl rfl, ?_⟩
    refine any_done (by kernel_rfl) (fun w hE => ?_) _
    replace hO := hO.ext hE
    replace hF := hF.sel [1, 2, 3, 4, 5, 22, 23]
    replace hF : Fr 99 [] [(1, pv b1), (2, pv b2), (3, pv b3), (4, (PT b4x k)), (5, iv (k : Int)), (22, iv s.hours), (23, iv (k : Int))] a := hF
    refine (region_q {} TBok hF (F' := [(1, pv b1), (2, pv b2), (3, pv b3), (4, .pointer (some ((⟨b4x, 0, none⟩ : Addr).add ((k : Int).toNat * 80)))), (22, iv s.hours), (23, iv (k : Int))]) (rs := [.ld ⟨b2, 0, none⟩ (.slice (some ⟨b4x, 0, none⟩) (s.hours.toNat) (s.hours.toNat)), .idx (some ⟨b4x, 0, none⟩) (s.hours.toNat) (k : Int) 80 ((⟨b4x, 0, none⟩ : Addr).add ((k : Int).toNat * 80))]) [1, 2, 3, 4, 22, 23] (.cons (ldo hO.st 1 rfl 0 rfl) <| .cons (ixa (by omega) (by omega)) <| .nil) (by kernel_rfl) fun a w hF hE => ?_)
    replace hO := hO.ext hE; clear hE
    refine (region_q {} TBok hF (F' := [(1, pv b1), (2, pv b2), (3, pv b3), (4, .pointer (some ((⟨b4x, 0, none⟩ : Addr).add ((k : Int).toNat * 80)))), (22, iv s.hours), (23, iv ((k : Int) + 1))]) (rs := [.rng ((k : Int) + 1)]) [1, 2, 3, 4, 22, 23] (.cons (rg (by omega)) <| .nil) (by kernel_rfl) fun a w hF hE => ?_)
    replace hO := hO.ext hE; clear hE
    replace hO := hO.drop1 5
    replace hO : Own w0 none_ [cel b1 (sS8 s v mb qa qn qc) 80, cel b2 #[.slice (some ⟨b4x, 0, none⟩) (s.hours.toNat) (s.hours.toNat)] 92, cel b3 #[.slice (some ⟨b5x, 0, none⟩) (s.hours.toNat) (s.hours.toNat)] 92, cel b4x (arrL ((s.hours.toNat) * 80) (flat (updr (fwdR s rs k) k (fwd s rs k)))).toArray 99, cel b5x (arrL ((s.hours.toNat) * 80) (flat (fun _ _ => 0))).toArray 99] w := hO
    replace hO : Own w0 none_ [cel b1 (sS8 s v mb qa qn qc) 80, cel b2 #[.slice (some ⟨b4x, 0, none⟩) (s.hours.toNat) (s.hours.toNat)] 92, cel b3 #[.slice (some ⟨b5x, 0, none⟩) (s.hours.toNat) (s.hours.toNat)] 92, cel b4x (arrL ((s.hours.toNat) * 80) (flat (fwdR s rs (k + 1)))).toArray 99, cel b5x (arrL ((s.hours.toNat) * 80) (flat (fun _ _ => 0))).toArray 99] w := hO.cast (by rw [fwdR_step])
    exact ⟨_, by omega, k + 1, rfl, by omega, hF, hO⟩
  · refine W_seq (W_false ((evOp hF (by kernel_rfl)).trans (congrArg Value.bool hc109)) ?_)
    have hc109_ := of_decide_eq_false hc109
    refine (W_exit ?_)
    refine W_seq (region_q {} TBok hF (F' := [(1, pv b1), (2, pv b2), (3, pv b3), (4, .pointer none)]) (rs := []) [1, 2, 3, 4] .nil (by kernel_rfl) fun a w hF hE => ?_)
    replace hO := hO.ext hE; clear hE
    refine W_seq ?_
    refine W_seq (region_q {} TBok hF (F' := [(1, pv b1), (2, pv b2), (3, pv b3), (4, .pointer none), (6, iv (s.hours - 1))]) (rs := [.ld ⟨b1, 3, none⟩ (iv s.hours), .rng (s.hours - 1)]) [1, 2, 3, 4, 6] (.cons (ldo hO.st 0 rfl 3 rfl) <| .cons (rg (by omega)) <| .nil) (by kernel_rfl) fun a w hF hE => ?_)
    replace hO := hO.ext hE; clear hE
    refine (W_block ?_)
    have hkH : k = s.hours.toNat := by omega
    replace hO : Own w0 none_ [cel b1 (sS8 s v mb qa qn qc) 80, cel b2 #[.slice (some ⟨b4x, 0, none⟩) (s.hours.toNat) (s.hours.toNat)] 92, cel b3 #[.slice (some ⟨b5x, 0, none⟩) (s.hours.toNat) (s.hours.toNat)] 92, cel b4x (arrL ((s.hours.toNat) * 80) (flat (fwdR s rs (s.hours.toNat)))).toArray 99, cel b5x (arrL ((s.hours.toNat) * 80) (flat (bwdR s rs 0))).toArray 99] w := hO.cast (by rw [bwdR_0, hkH])
    refine (W_loop (fun m a w => ∃ (j : Nat), m = s.hours.toNat - j ∧ j ≤ s.hours.toNat ∧ Fr 99 [] [(1, pv b1), (2, pv b2), (3, pv b3), (4, (PB s b5x j)), (6, iv (s.hours - 1 - (j : Int)))] a ∧ Own w0 none_ [cel b1 (sS8 s v mb qa qn qc) 80, cel b2 #[.slice (some ⟨b4x, 0, none⟩) (s.hours.toNat) (s.hours.toNat)] 92, cel b3 #[.slice (some ⟨b5x, 0, none⟩) (s.hours.toNat) (s.hours.toNat)] 92, cel b4x (arrL ((s.hours.toNat) * 80) (flat (fwdR s rs (s.hours.toNat)))).toArray 99, cel b5x (arrL ((s.hours.toNat) * 80) (flat (bwdR s rs j))).toArray 99] w) _ ⟨0, rfl, Nat.zero_le _, (hF.cast (by rw [show s.hours - 1 - ((0 : Nat) : Int) = s.hours - 1 by omega] <;> rfl)), hO⟩ ?_)
    clear hF hO
    rintro _ a w ⟨j, rfl, hk, hF, hO⟩
    refine W_seq ?_
    refine W_seq (region_q {} TBok hF (F' := [(1, pv b1), (2, pv b2), (3, pv b3), (4, (PB s b5x j)), (6, iv (s.hours - 1 - (j : Int))), (45, .bool (decide ((s.hours - 1 - (j : Int)) ≥ 0)))]) (rs := []) [1, 2, 3, 4, 6, 45] .nil (by kernel_rfl) fun a w hF hE => ?_)
    replace hO := hO.ext hE; clear hE
    rcases Bool.eq_false_or_eq_true (decide ((s.hours - 1 - (j : Int)) ≥ 0)) with hc111 | hc111
    · refine (W_true ((evOp hF (by kernel_rfl)).trans (congrArg Value.bool hc111)) ?_)
      have hc111_ := of_decide_eq_true hc111
      refine (W_skip ?_)
      refine W_seq (W_block ?_)
      refine W_seq (draw_start (R := none_) mixed [9] 10 (by kernel_rfl) fun w hS => ?_)
      replace hO := hO.ext hS
      refine draw_q {} TBok hF hS (F' := [(1, pv b1), (2, pv b2), (3, pv b3), (4, (PB s b5x j)), (6, iv (s.hours - 1 - (j : Int))), (48, .slice (some ⟨b5x, 0, none⟩) (s.hours.toNat) (s.hours.toNat)), (49, iv (s.hours - 1 - (j : Int))), (50, .agg (sS8 s v mb qa qn qc)), (51, .agg (sS8 s v mb qa qn qc)), (53, iv (s.hours - 1 - (j : Int))), (54, (PB s b5x j))]) (rs := [.ld ⟨b3, 0, none⟩ (.slice (some ⟨b5x, 0, none⟩) (s.hours.toNat) (s.hours.toNat)), .lds ⟨b1, 0, none⟩ (sL8 s v mb qa qn qc), .lds ⟨b1, 0, none⟩ (sL8 s v mb qa qn qc)]) [0, 1, 2, 3, 5, 6] 10 4 (by kernel_rfl) #[true, true, true, true, false, true, true, false, false, false] [1, 2, 3, 4, 6, 48, 49, 50, 51, 53, 54] (.cons (ldo hO.st 2 rfl 0 rfl) <| .cons (ldso hO.st 0 rfl 0 rfl) <| .cons (ldso hO.st 0 rfl 0 rfl) <| .nil) (by kernel_rfl) (by kernel_rfl) fun a hF => ?_
      replace hS := Kp.refl none_ w
      refine any_pick (rs := [4]) (by kernel_rfl) (by simp) fun w hE => all1 ?_
      replace hO := hO.ext hE; replace hS := hS.trans (Ext.kp hE)
      refine op_call (i := 4) (f := 82) (args := #[.agg (sS8 s v mb qa qn qc)]) (d := some 52) TBok (by kernel_rfl) hF (by kernel_rfl) (back_calls s v mb qa qn qc _) fun e w hR => ?_
      obtain ⟨b112, he, hO2⟩ := hR
      refine ⟨_, he, fun a hF => ⟨.inr (hS.trans (Ext.kp hO2.kp)), ?_⟩⟩
      replace hS := hS.trans (Ext.kp hO2.kp)
      replace hO := hO.joinE hO2; clear hO2 he
      refine draw_q {} TBok hF hS (F' := [(1, pv b1), (2, pv b2), (3, pv b3), (4, (PB s b5x j)), (6, iv (s.hours - 1 - (j : Int))), (55, .agg (arrL 80 (bwd s rs j)).toArray), (56, .pointer (some ((⟨b5x, 0, none⟩ : Addr).add ((s.hours - 1 - (j : Int)).toNat * 80))))]) (rs := [.call 80 #[.agg (sS8 s v mb qa qn qc), .agg #[.func (.func 87) #[] #[pv b112]], iv (s.hours - 1 - (j : Int)), (PB s b5x j)] (.agg (arrL 80 (bwd s rs j)).toArray), .idx (some ⟨b5x, 0, none⟩) (s.hours.toNat) (s.hours - 1 - (j : Int)) 80 ((⟨b5x, 0, none⟩ : Addr).add ((s.hours - 1 - (j : Int)).toNat * 80))]) [7, 8] 3 1 (by kernel_rfl) #[true, true, true, true, true, true, true, true, true, false] [1, 2, 3, 4, 6, 55, 56] (.cons (fun w hE => gone_bwd s v mb qa qn qc rs b112 b5x j w (hg.upM (hO.st w hE).kp nom (Nat.le_refl _)) hv hr (Ro.of_ok (cs := (sL8 s v mb qa qn qc)) ((hO.st w hE).get 5 rfl)) (by omega) (fun i hi => by have h_ := rdM (fun x => rfl) (hO.st w hE) 4 rfl (h := s.hours - 1 - (i : Int)) (by omega) (by omega); rw [bwdR_at (by omega) (by omega)] at h_; exact h_)) <| .cons (ixa (by omega) (by omega)) <| .nil) (by kernel_rfl) (by kernel_rfl) fun a hF => ?_
      replace hS := Kp.refl none_ w
      refine any_pick (rs := [9]) (by kernel_rfl) (by simp) fun w hE => all1 ?_
      replace hO := hO.ext hE; replace hS := hS.trans (Ext.kp hE)
      refine op_storeMR (k := 9) (t := 99) (g := (bwd s rs j)) (N := (s.hours.toNat)) (G := (bwdR s rs j)) (h := (s.hours - 1 - (j : Int))) hF hO (by kernel_rfl) 4 rfl (by omega) (by omega) (by kernel_rfl) fun a w hF hO _ => ⟨.inl rfl, ?_⟩
      refine any_done (by kernel_rfl) (fun w hE => ?_) _
      replace hO := hO.ext hE
      replace hF := hF.sel [1, 2, 3, 4, 6]
      replace hF : Fr 99 [] [(1, pv b1), (2, pv b2), (3, pv b3), (4, (PB s b5x j)), (6, iv (s.hours - 1 - (j : Int)))] a := hF
      refine (region_q {} TBok hF (F' := [(1, pv b1), (2, pv b2), (3, pv b3), (4, .pointer (some ((⟨b5x, 0, none⟩ : Addr).add ((s.hours - 1 - (j : Int)).toNat * 80)))), (6, iv (s.hours - 1 - (j : Int)))]) (rs := [.ld ⟨b3, 0, none⟩ (.slice (some ⟨b5x, 0, none⟩) (s.hours.toNat) (s.hours.toNat)), .idx (some ⟨b5x, 0, none⟩) (s.hours.toNat) (s.hours - 1 - (j : Int)) 80 ((⟨b5x, 0, none⟩ : Addr).add ((s.hours - 1 - (j : Int)).toNat * 80))]) [1, 2, 3, 4, 6] (.cons (ldo hO.st 2 rfl 0 rfl) <| .cons (ixa (by omega) (by omega)) <| .nil) (by kernel_rfl) fun a w hF hE => ?_)
      replace hO := hO.ext hE; clear hE
      refine (region_q {} TBok hF (F' := [(1, pv b1), (2, pv b2), (3, pv b3), (4, .pointer (some ((⟨b5x, 0, none⟩ : Addr).add ((s.hours - 1 - (j : Int)).toNat * 80)))), (6, iv ((s.hours - 1 - (j : Int)) - 1))]) (rs := [.rng ((s.hours - 1 - (j : Int)) - 1)]) [1, 2, 3, 4, 6] (.cons (rg (by omega)) <| .nil) (by kernel_rfl) fun a w hF hE => ?_)
      replace hO := hO.ext hE; clear hE
      replace hO := hO.drop1 5
      replace hO : Own w0 none_ [cel b1 (sS8 s v mb qa qn qc) 80, cel b2 #[.slice (some ⟨b4x, 0, none⟩) (s.hours.toNat) (s.hours.toNat)] 92, cel b3 #[.slice (some ⟨b5x, 0, none⟩) (s.hours.toNat) (s.hours.toNat)] 92, cel b4x (arrL ((s.hours.toNat) * 80) (flat (fwdR s rs (s.hours.toNat)))).toArray 99, cel b5x (arrL ((s.hours.toNat) * 80) (flat (updr (bwdR s rs j) (s.hours - 1 - (j : Int)).toNat (bwd s rs j)))).toArray 99] w := hO
      replace hO : Own w0 none_ [cel b1 (sS8 s v mb qa qn qc) 80, cel b2 #[.slice (some ⟨b4x, 0, none⟩) (s.hours.toNat) (s.hours.toNat)] 92, cel b3 #[.slice (some ⟨b5x, 0, none⟩) (s.hours.toNat) (s.hours.toNat)] 92, cel b4x (arrL ((s.hours.toNat) * 80) (flat (fwdR s rs (s.hours.toNat)))).toArray 99, cel b5x (arrL ((s.hours.toNat) * 80) (flat (bwdR s rs (j + 1)))).toArray 99] w := hO.cast (by rw [bwdR_step rs (by omega)])
      have hj_ : s.hours - 1 - (j : Int) - 1 = s.hours - 1 - ((j + 1 : Nat) : Int) := by omega
      exact ⟨_, by omega, j + 1, rfl, by omega, hF.cast (by rw [hj_] <;> rfl), hO⟩
    · refine (W_false ((evOp hF (by kernel_rfl)).trans (congrArg Value.bool hc111)) ?_)
      have hc111_ := of_decide_eq_false hc111
      refine (W_exit ?_)
      refine W_seq ?_
      refine W_seq (region_q {} TBok hF (F' := [(1, pv b1), (2, pv b2), (3, pv b3), (63, iv s.hours), (64, iv 0)]) (rs := [.ld ⟨b1, 3, none⟩ (iv s.hours)]) [1, 2, 3, 63, 64] (.cons (ldo hO.st 0 rfl 3 rfl) <| .nil) (by kernel_rfl) fun a w hF hE => ?_)
      replace hO := hO.ext hE; clear hE
      refine (W_block ?_)
      have hjH : j = s.hours.toNat := by omega
      replace hO : Own w0 none_ [cel b1 (sS8 s v mb qa qn qc) 80, cel b2 #[.slice (some ⟨b4x, 0, none⟩) (s.hours.toNat) (s.hours.toNat)] 92, cel b3 #[.slice (some ⟨b5x, 0, none⟩) (s.hours.toNat) (s.hours.toNat)] 92, cel b4x (arrL ((s.hours.toNat) * 80) (flat (allR s rs 0))).toArray 99, cel b5x (arrL ((s.hours.toNat) * 80) (flat (bwdR s rs (s.hours.toNat)))).toArray 99] w := hO.cast (by rw [allR_0, hjH])
      replace hO := hO.dfs0
      refine (W_loop (fun m a w => ∃ (k : Nat), ∃ (Ds : List Nat), m = s.hours.toNat - k ∧ k ≤ s.hours.toNat ∧ Fr 99 (Ds.map mk) [(1, pv b1), (2, pv b2), (3, pv b3), (63, iv s.hours), (64, iv (k : Int))] a ∧ Own w0 none_ [cel b1 (sS8 s v mb qa qn qc) 80, cel b2 #[.slice (some ⟨b4x, 0, none⟩) (s.hours.toNat) (s.hours.toNat)] 92, cel b3 #[.slice (some ⟨b5x, 0, none⟩) (s.hours.toNat) (s.hours.toNat)] 92, cel b4x (arrL ((s.hours.toNat) * 80) (flat (allR s rs k))).toArray 99, cel b5x (arrL ((s.hours.toNat) * 80) (flat (bwdR s rs (s.hours.toNat)))).toArray 99, dfs Ds] w) _ ⟨0, [], rfl, Nat.zero_le _, hF, hO⟩ ?_)
      clear hF hO
      rintro _ a w ⟨k, Ds, rfl, hk, hF, hO⟩
      refine W_seq (region_q {} TBok hF (F' := [(1, pv b1), (2, pv b2), (3, pv b3), (63, iv s.hours), (64, iv (k : Int)), (65, .bool (decide ((k : Int) < s.hours)))]) (rs := []) [1, 2, 3, 63, 64, 65] .nil (by kernel_rfl) fun a w hF hE => ?_)
      replace hO := hO.ext hE; clear hE
      rcases Bool.eq_false_or_eq_true (decide ((k : Int) < s.hours)) with hc113 | hc113
      · refine W_seq (W_true ((evOp hF (by kernel_rfl)).trans (congrArg Value.bool hc113)) ?_)
        have hc113_ := of_decide_eq_true hc113
        refine (W_skip ?_)
        refine W_seq (W_block ?_)
        refine W_seq (region_seq ?_)
        refine seq_quiet {} TBok hF (F' := [(1, pv b1), (2, pv b2), (3, pv b3), (63, iv s.hours), (64, iv (k : Int)), (66, iv (k : Int))]) (rs := []) [0] [1, 2] [1, 2, 3, 63, 64, 66] .nil (by kernel_rfl) fun a w hF hE => ?_
        replace hO := hO.ext hE; clear hE
        refine op_alloc (i := 1) (t := 3) (d := 7) (z := iv 0) hF hO (by kernel_rfl) (by kernel_rfl) fun a w b114 hF hO _ => ?_
        refine op_store (i := 2) (t := 3) (p := ⟨b114, 0, none⟩) (v := iv (k : Int)) (off := 0) (sz := 1) (cs' := #[iv (k : Int)]) hF hO (by kernel_rfl) 6 rfl rfl (by kernel_rfl) (by kernel_rfl) (by kernel_rfl) fun a w hF hO _ => ?_
        replace hF := hF.sel [1, 2, 3, 7, 63, 64]
        replace hF : Fr 99 (Ds.map mk) [(1, pv b1), (2, pv b2), (3, pv b3), (7, pv b114), (63, iv s.hours), (64, iv (k : Int))] a := hF
        refine W_seq (region_seq ?_)
        refine seq_quiet {} TBok hF (F' := [(1, pv b1), (2, pv b2), (3, pv b3), (7, pv b114), (63, iv s.hours), (64, iv (k : Int)), (68, .agg (sS7 s v mb))]) (rs := [.lds ⟨b1, 0, none⟩ (sL7 s v mb)]) [0, 1] [2] [1, 2, 3, 7, 63, 64, 68] (.cons (ldso hO.st 0 rfl 0 rfl) <| .nil) (by kernel_rfl) fun a w hF hE => ?_
        replace hO := hO.ext hE; clear hE
        refine op_call (i := 2) (f := 59) (args := #[.agg (sS7 s v mb)]) (d := some 69) TBok (by kernel_rfl) hF (by kernel_rfl) (cells_calls s v mb _) fun e w hR => ?_
        obtain ⟨b115, he, hO2⟩ := hR
        refine ⟨_, he, fun a hF => ?_⟩
        replace hO := hO.joinE hO2; clear hO2 he
        replace hO : Own w0 none_ [cel b1 (sS8 s v mb qa qn qc) 80, cel b2 #[.slice (some ⟨b4x, 0, none⟩) (s.hours.toNat) (s.hours.toNat)] 92, cel b3 #[.slice (some ⟨b5x, 0, none⟩) (s.hours.toNat) (s.hours.toNat)] 92, cel b4x (arrL ((s.hours.toNat) * 80) (flat (allR s rs k))).toArray 99, cel b5x (arrL ((s.hours.toNat) * 80) (flat (bwdR s rs (s.hours.toNat)))).toArray 99, dfs Ds, cel b114 #[iv (k : Int)] 3, cel b115 (sS7 s v mb) 77] w := hO
        replace hF := hF.sel [1, 2, 3, 7, 63, 64, 69]
        replace hF : Fr 99 (Ds.map mk) [(1, pv b1), (2, pv b2), (3, pv b3), (7, pv b114), (63, iv s.hours), (64, iv (k : Int)), (69, .func (.func 84) #[] #[pv b115])] a := hF
        refine (W_block ?_)
        replace hO : Own w0 none_ [cel b1 (sS8 s v mb qa qn qc) 80, cel b2 #[.slice (some ⟨b4x, 0, none⟩) (s.hours.toNat) (s.hours.toNat)] 92, cel b3 #[.slice (some ⟨b5x, 0, none⟩) (s.hours.toNat) (s.hours.toNat)] 92, cel b4x (arrL ((s.hours.toNat) * 80) (flat (updr (allR s rs k) k (fwd s rs k)))).toArray 99, cel b5x (arrL ((s.hours.toNat) * 80) (flat (bwdR s rs (s.hours.toNat)))).toArray 99, dfs Ds, cel b114 #[iv (k : Int)] 3, cel b115 (sS7 s v mb) 77] w := hO.cast (by rw [← allR_at s rs (k := k) (by omega), updr_same])
        refine W_range (t := 70) (f := 84) (fst := #[]) (cap := #[pv b115]) TBok hF hO (by kernel_rfl) (by kernel_rfl) fun fn w D116 lr117 hlr hO hE => ?_
        clear hE; have hFo := hF
        refine (cells_run s v mb b115 (D116 + 1) (fun r w => ∃ (g1 : Nat → Int), (∀ i, i < 80 → g1 i = if (i : Int) ∈ r then fwd s rs k i else allF s rs k i) ∧ r.Nodup ∧ (∀ y ∈ r, y ∈ cellsA s 0) ∧ Own w0 none_ [cel b1 (sS8 s v mb qa qn qc) 80, cel b2 #[.slice (some ⟨b4x, 0, none⟩) (s.hours.toNat) (s.hours.toNat)] 92, cel b3 #[.slice (some ⟨b5x, 0, none⟩) (s.hours.toNat) (s.hours.toNat)] 92, cel b4x (arrL ((s.hours.toNat) * 80) (flat (updr (allR s rs k) k g1))).toArray 99, cel b5x (arrL ((s.hours.toNat) * 80) (flat (bwdR s rs (s.hours.toNat)))).toArray 99, dfs Ds, cel b114 #[iv (k : Int)] 3, cel b115 (sS7 s v mb) 77, pt D116 (.deferred (some [])), pt (D116 + 1) (.loop lr117)] w) (fun w => False) w hv ?_ ?_ ?_ ?_ ?_).mono ?_
        · rintro r w w2 ⟨g1, hgf, hnd, hmem, hO⟩ hE; exact ⟨g1, hgf, hnd, hmem, hO.ext hE⟩
        · exact fun _ _ h _ => h.elim
        · rintro r w ⟨g1, hgf, hnd, hmem, hO⟩
          exact ⟨Ro.of_ok (cs := (sL7 s v mb)) (hO.get 7 rfl), (hg.upM hO.kp nom (Nat.le_refl _)).land⟩
        · clear hO
          rintro x118 r w ⟨g1, hgf, hnd, hmem, hO⟩
          have hl1_ : w.heap[D116 + 1]? = some (.loop lr117) := hO.get 9 rfl
          rw [hlr] at hl1_
          refine yields_ofR hl1_ fun Rr hRr => ?_
          clear hl1_
          have hF := hFo.round (t := 70) (by kernel_rfl) (iv x118)
          replace hF : Fr 99 [] [(1, pv b1), (2, pv b2), (3, pv b3), (7, pv b114), (63, iv s.hours), (64, iv (k : Int)), (69, .func (.func 84) #[] #[pv b115]), (70, iv x118)] _ := hF.sel [1, 2, 3, 7, 63, 64, 69, 70]
          have hxm := mem_cellsA (hmem _ (List.mem_cons_self ..))
          have hu := untr_bd (s := s) (rs := rs) (k : Int) x118
          have hat := thr_at hgf hv (hmem _ (List.mem_cons_self ..))
          have hfb := fwd_bd hv hr k x118.toNat (by omega)
          have hbb := bwd_bd hv hr (s.hours.toNat - 1 - k) x118.toNat (by omega)
          rw [← bwdR_all s rs (by omega)] at hbb
          refine (region_q {} TBok hF (F' := [(1, pv b1), (2, pv b2), (3, pv b3), (7, pv b114), (8, iv x118), (63, iv s.hours), (64, iv (k : Int)), (69, .func (.func 84) #[] #[pv b115])]) (rs := []) [1, 2, 3, 7, 8, 63, 64, 69] .nil (by kernel_rfl) fun a w hF hE => ?_)
          replace hO := hO.ext hE; clear hE
          obtain ⟨w, hb, hO⟩ := begin_round (P := Try.prog) hO 9 rfl (by rw [hlr]; rfl)
          refine ⟨rfl, w, hb, ?_⟩
          clear hb
          refine (W_block ?_)
          refine (W_cut (fun a w => ∃ b119x : Nat, Fr 99 [] [(1, pv b1), (2, pv b2), (3, pv b3), (7, pv b114), (63, iv s.hours), (64, iv (k : Int)), (69, .func (.func 84) #[] #[pv b115])] a ∧ Own w0 none_ [cel b1 (sS8 s v mb qa qn qc) 80, cel b2 #[.slice (some ⟨b4x, 0, none⟩) (s.hours.toNat) (s.hours.toNat)] 92, cel b3 #[.slice (some ⟨b5x, 0, none⟩) (s.hours.toNat) (s.hours.toNat)] 92, cel b4x (arrL ((s.hours.toNat) * 80) (flat (upd2 (updr (allR s rs k) k g1) k x118.toNat (mn 1048576 ((((updr (allR s rs k) k g1) k x118.toNat) + ((bwdR s rs (s.hours.toNat)) k x118.toNat)) - (untr s rs (k : Int) x118)))))).toArray 99, cel b5x (arrL ((s.hours.toNat) * 80) (flat (bwdR s rs (s.hours.toNat)))).toArray 99, dfs Ds, cel b114 #[iv (k : Int)] 3, cel b115 (sS7 s v mb) 77, pt D116 (.deferred (some [])), pt (D116 + 1) (.loop { lr117 with state := .busy }), cel b119x #[iv ((((updr (allR s rs k) k g1) k x118.toNat) + ((bwdR s rs (s.hours.toNat)) k x118.toNat)) - (untr s rs (k : Int) x118))] 3] w) (draw_start (R := none_) mixed [25] 26 (by kernel_rfl) fun w hS => ?_) ?_)
          · replace hO := hO.ext hS
            refine draw_q {} TBok hF hS (F' := [(1, pv b1), (2, pv b2), (3, pv b3), (7, pv b114), (63, iv s.hours), (64, iv (k : Int)), (69, .func (.func 84) #[] #[pv b115]), (71, .slice (some ⟨b4x, 0, none⟩) (s.hours.toNat) (s.hours.toNat)), (72, iv (k : Int)), (73, iv x118), (91, iv ((((updr (allR s rs k) k g1) k x118.toNat) + ((bwdR s rs (s.hours.toNat)) k x118.toNat)) - (untr s rs (k : Int) x118)))]) (rs := [.ld ⟨b2, 0, none⟩ (.slice (some ⟨b4x, 0, none⟩) (s.hours.toNat) (s.hours.toNat)), .ld ⟨b114, 0, none⟩ (iv (k : Int)), .ld ⟨b2, 0, none⟩ (.slice (some ⟨b4x, 0, none⟩) (s.hours.toNat) (s.hours.toNat)), .ld ⟨b114, 0, none⟩ (iv (k : Int)), .idx (some ⟨b4x, 0, none⟩) (s.hours.toNat) (k : Int) 80 ((⟨b4x, 0, none⟩ : Addr).add ((k : Int).toNat * 80)), .idx (some ((⟨b4x, 0, none⟩ : Addr).add ((k : Int).toNat * 80))) 80 x118 1 (((⟨b4x, 0, none⟩ : Addr).add ((k : Int).toNat * 80)).add (x118.toNat * 1)), .ld (((⟨b4x, 0, none⟩ : Addr).add ((k : Int).toNat * 80)).add (x118.toNat * 1)) (iv ((updr (allR s rs k) k g1) k x118.toNat)), .ld ⟨b3, 0, none⟩ (.slice (some ⟨b5x, 0, none⟩) (s.hours.toNat) (s.hours.toNat)), .ld ⟨b114, 0, none⟩ (iv (k : Int)), .idx (some ⟨b5x, 0, none⟩) (s.hours.toNat) (k : Int) 80 ((⟨b5x, 0, none⟩ : Addr).add ((k : Int).toNat * 80)), .idx (some ((⟨b5x, 0, none⟩ : Addr).add ((k : Int).toNat * 80))) 80 x118 1 (((⟨b5x, 0, none⟩ : Addr).add ((k : Int).toNat * 80)).add (x118.toNat * 1)), .ld (((⟨b5x, 0, none⟩ : Addr).add ((k : Int).toNat * 80)).add (x118.toNat * 1)) (iv ((bwdR s rs (s.hours.toNat)) k x118.toNat)), .rng (((updr (allR s rs k) k g1) k x118.toNat) + ((bwdR s rs (s.hours.toNat)) k x118.toNat)), .lds ⟨b1, 0, none⟩ (sL8 s v mb qa qn qc), .ld ⟨b114, 0, none⟩ (iv (k : Int)), .call 52 #[.agg (sS8 s v mb qa qn qc), iv (k : Int), iv x118] (iv (untr s rs (k : Int) x118)), .rng ((((updr (allR s rs k) k g1) k x118.toNat) + ((bwdR s rs (s.hours.toNat)) k x118.toNat)) - (untr s rs (k : Int) x118))]) [0, 1, 2, 3, 4, 5, 6, 7, 8, 9, 10, 11, 12, 13, 14, 15, 16, 17, 18, 19, 20] 26 5 (by kernel_rfl) #[true, true, true, true, true, true, true, true, true, true, true, true, true, true, true, true, true, true, true, true, true, false, false, false, false, false] [1, 2, 3, 7, 63, 64, 69, 71, 72, 73, 91] (.cons (ldo hO.st 1 rfl 0 rfl) <| .cons (ldo hO.st 6 rfl 0 rfl) <| .cons (ldo hO.st 1 rfl 0 rfl) <| .cons (ldo hO.st 6 rfl 0 rfl) <| .cons (ixa (by omega) (by omega)) <| .cons (ixa (by omega) (by omega)) <| .cons (ldM (G := (updr (allR s rs k) k g1)) (h := (k : Int)) (c := x118) hO.st 3 rfl (by omega) (by omega) (by omega) (by omega)) <| .cons (ldo hO.st 2 rfl 0 rfl) <| .cons (ldo hO.st 6 rfl 0 rfl) <| .cons (ixa (by omega) (by omega)) <| .cons (ixa (by omega) (by omega)) <| .cons (ldM (G := (bwdR s rs (s.hours.toNat))) (h := (k : Int)) (c := x118) hO.st 4 rfl (by omega) (by omega) (by omega) (by omega)) <| .cons (rg (by omega)) <| .cons (ldso hO.st 0 rfl 0 rfl) <| .cons (ldo hO.st 6 rfl 0 rfl) <| .cons (fun w hE => untrue_calls s v mb qa qn qc rs (k : Int) x118 w (hg.upM (hO.st w hE).kp nom (Nat.le_refl _)) hv hr (by omega)) <| .cons (rg (by omega)) <| .nil) (by kernel_rfl) (by kernel_rfl) fun a hF => ?_
            replace hS := Kp.refl none_ w
            refine any_pick (rs := [21, 23]) (by kernel_rfl) (by simp) fun w hE => all2 ?_ ?_
            · replace hO := hO.ext hE; replace hS := hS.trans (Ext.kp hE)
              refine op_bsl (i := 21) (t := 22) (e := 3) (len := 1) (ps := [(0, iv ((((updr (allR s rs k) k g1) k x118.toNat) + ((bwdR s rs (s.hours.toNat)) k x118.toNat)) - (untr s rs (k : Int) x118)))]) (d := 92) (sz := 1) (cs := #[iv ((((updr (allR s rs k) k g1) k x118.toNat) + ((bwdR s rs (s.hours.toNat)) k x118.toNat)) - (untr s rs (k : Int) x118))]) (z := iv 0) hF hO (by kernel_rfl) (by kernel_rfl) (by kernel_rfl) (by kernel_rfl) (by kernel_rfl) fun a w b219 hF hO hx => ⟨.inr (hS.trans (Ext.kp hx.1)), ?_⟩
              have hf_b219 := Nat.le_trans hS.size hx.2; replace hS := hS.trans (Ext.kp hx.1); clear hx
              refine draw_q {} TBok hF hS (F' := [(1, pv b1), (2, pv b2), (3, pv b3), (7, pv b114), (63, iv s.hours), (64, iv (k : Int)), (69, .func (.func 84) #[] #[pv b115]), (71, .slice (some ⟨b4x, 0, none⟩) (s.hours.toNat) (s.hours.toNat)), (72, iv (k : Int)), (73, iv x118), (93, iv (mn 1048576 ((((updr (allR s rs k) k g1) k x118.toNat) + ((bwdR s rs (s.hours.toNat)) k x118.toNat)) - (untr s rs (k : Int) x118))))]) (rs := [.call 83 #[iv 1048576, .slice (some ⟨b219, 0, none⟩) 1 1] (iv (mn 1048576 ((((updr (allR s rs k) k g1) k x118.toNat) + ((bwdR s rs (s.hours.toNat)) k x118.toNat)) - (untr s rs (k : Int) x118))))]) [22] 4 3 (by kernel_rfl) #[true, true, true, true, true, true, true, true, true, true, true, true, true, true, true, true, true, true, true, true, true, true, true, false, false, false] [1, 2, 3, 7, 63, 64, 69, 71, 72, 73, 93] (.cons (fun w hE => calls_cast (v := iv (leastL 1048576 [((((updr (allR s rs k) k g1) k x118.toNat) + ((bwdR s rs (s.hours.toNat)) k x118.toNat)) - (untr s rs (k : Int) x118))])) (v' := iv (mn 1048576 ((((updr (allR s rs k) k g1) k x118.toNat) + ((bwdR s rs (s.hours.toNat)) k x118.toNat)) - (untr s rs (k : Int) x118)))) (least_calls 1048576 [((((updr (allR s rs k) k g1) k x118.toNat) + ((bwdR s rs (s.hours.toNat)) k x118.toNat)) - (untr s rs (k : Int) x118))] (some ⟨b219, 0, none⟩) 1 1 w (rd_cel (enc := encI) (ys := [((((updr (allR s rs k) k g1) k x118.toNat) + ((bwdR s rs (s.hours.toNat)) k x118.toNat)) - (untr s rs (k : Int) x118))]) (rest := []) (fun _ => rfl) (hO.st w hE) 10 rfl rfl rfl (by decide))) rfl) <| .nil) (by kernel_rfl) (by kernel_rfl) fun a hF => ?_
              replace hS := Kp.refl none_ w
              refine any_pick (rs := [23]) (by kernel_rfl) (by simp) fun w hE => all1 ?_
              replace hO := hO.ext hE; replace hS := hS.trans (Ext.kp hE)
              refine seq_quiet {} TBok hF (F' := [(1, pv b1), (2, pv b2), (3, pv b3), (7, pv b114), (63, iv s.hours), (64, iv (k : Int)), (69, .func (.func 84) #[] #[pv b115]), (73, iv x118), (93, iv (mn 1048576 ((((updr (allR s rs k) k g1) k x118.toNat) + ((bwdR s rs (s.hours.toNat)) k x118.toNat)) - (untr s rs (k : Int) x118)))), (94, .pointer (some ((⟨b4x, 0, none⟩ : Addr).add ((k : Int).toNat * 80))))]) (rs := [.idx (some ⟨b4x, 0, none⟩) (s.hours.toNat) (k : Int) 80 ((⟨b4x, 0, none⟩ : Addr).add ((k : Int).toNat * 80))]) [23] [] [1, 2, 3, 7, 63, 64, 69, 73, 93, 94] (.cons (ixa (by omega) (by omega)) <| .nil) (by kernel_rfl) fun a w hF hE => ?_
              refine ⟨.inr (hS.trans (Ext.kp hE)), ?_⟩
              replace hS := hS.trans (Ext.kp hE); replace hO := hO.ext hE; clear hE
              refine draw_q {} TBok hF hS (F' := [(1, pv b1), (2, pv b2), (3, pv b3), (7, pv b114), (63, iv s.hours), (64, iv (k : Int)), (69, .func (.func 84) #[] #[pv b115]), (93, iv (mn 1048576 ((((updr (allR s rs k) k g1) k x118.toNat) + ((bwdR s rs (s.hours.toNat)) k x118.toNat)) - (untr s rs (k : Int) x118)))), (95, .pointer (some (((⟨b4x, 0, none⟩ : Addr).add ((k : Int).toNat * 80)).add (x118.toNat * 1))))]) (rs := [.idx (some ((⟨b4x, 0, none⟩ : Addr).add ((k : Int).toNat * 80))) 80 x118 1 (((⟨b4x, 0, none⟩ : Addr).add ((k : Int).toNat * 80)).add (x118.toNat * 1))]) [24] 2 1 (by kernel_rfl) #[true, true, true, true, true, true, true, true, true, true, true, true, true, true, true, true, true, true, true, true, true, true, true, true, true, false] [1, 2, 3, 7, 63, 64, 69, 93, 95] (.cons (ixa (by omega) (by omega)) <| .nil) (by kernel_rfl) (by kernel_rfl) fun a hF => ?_
              replace hS := Kp.refl none_ w
              refine any_pick (rs := [25]) (by kernel_rfl) (by simp) fun w hE => all1 ?_
              replace hO := hO.ext hE; replace hS := hS.trans (Ext.kp hE)
              refine op_storeM (k := 25) (t := 3) (x := (mn 1048576 ((((updr (allR s rs k) k g1) k x118.toNat) + ((bwdR s rs (s.hours.toNat)) k x118.toNat)) - (untr s rs (k : Int) x118)))) (N := (s.hours.toNat)) (G := (updr (allR s rs k) k g1)) (h := (k : Int)) (c := x118) hF hO (by kernel_rfl) 3 rfl (by omega) (by omega) (by omega) (by omega) (by kernel_rfl) fun a w hF hO _ => ⟨.inl rfl, ?_⟩
              replace hO : Own w0 none_ [cel b1 (sS8 s v mb qa qn qc) 80, cel b2 #[.slice (some ⟨b4x, 0, none⟩) (s.hours.toNat) (s.hours.toNat)] 92, cel b3 #[.slice (some ⟨b5x, 0, none⟩) (s.hours.toNat) (s.hours.toNat)] 92, cel b4x (arrL ((s.hours.toNat) * 80) (flat (upd2 (updr (allR s rs k) k g1) k x118.toNat (mn 1048576 ((((updr (allR s rs k) k g1) k x118.toNat) + ((bwdR s rs (s.hours.toNat)) k x118.toNat)) - (untr s rs (k : Int) x118)))))).toArray 99, cel b5x (arrL ((s.hours.toNat) * 80) (flat (bwdR s rs (s.hours.toNat)))).toArray 99, dfs Ds, cel b114 #[iv (k : Int)] 3, cel b115 (sS7 s v mb) 77, pt D116 (.deferred (some [])), pt (D116 + 1) (.loop { lr117 with state := .busy }), cel b219 #[iv ((((updr (allR s rs k) k g1) k x118.toNat) + ((bwdR s rs (s.hours.toNat)) k x118.toNat)) - (untr s rs (k : Int) x118))] 3] w := hO
              refine any_done (by kernel_rfl) (fun w hE => ?_) _
              replace hO := hO.ext hE
              replace hF := hF.sel [1, 2, 3, 7, 63, 64, 69]
              replace hF : Fr 99 [] [(1, pv b1), (2, pv b2), (3, pv b3), (7, pv b114), (63, iv s.hours), (64, iv (k : Int)), (69, .func (.func 84) #[] #[pv b115])] a := hF
              exact ⟨rfl, b219, hF, hO.sel [0, 1, 2, 3, 4, 5, 6, 7, 8, 9, 10] (by decide)⟩
            · replace hO := hO.ext hE; replace hS := hS.trans (Ext.kp hE)
              refine seq_quiet {} TBok hF (F' := [(1, pv b1), (2, pv b2), (3, pv b3), (7, pv b114), (63, iv s.hours), (64, iv (k : Int)), (69, .func (.func 84) #[] #[pv b115]), (73, iv x118), (91, iv ((((updr (allR s rs k) k g1) k x118.toNat) + ((bwdR s rs (s.hours.toNat)) k x118.toNat)) - (untr s rs (k : Int) x118))), (94, .pointer (some ((⟨b4x, 0, none⟩ : Addr).add ((k : Int).toNat * 80))))]) (rs := [.idx (some ⟨b4x, 0, none⟩) (s.hours.toNat) (k : Int) 80 ((⟨b4x, 0, none⟩ : Addr).add ((k : Int).toNat * 80))]) [23] [] [1, 2, 3, 7, 63, 64, 69, 73, 91, 94] (.cons (ixa (by omega) (by omega)) <| .nil) (by kernel_rfl) fun a w hF hE => ?_
              refine ⟨.inr (hS.trans (Ext.kp hE)), ?_⟩
              replace hS := hS.trans (Ext.kp hE); replace hO := hO.ext hE; clear hE
              refine any_pick (rs := [21]) (by kernel_rfl) (by simp) fun w hE => all1 ?_
              replace hO := hO.ext hE; replace hS := hS.trans (Ext.kp hE)
              refine op_bsl (i := 21) (t := 22) (e := 3) (len := 1) (ps := [(0, iv ((((updr (allR s rs k) k g1) k x118.toNat) + ((bwdR s rs (s.hours.toNat)) k x118.toNat)) - (untr s rs (k : Int) x118)))]) (d := 92) (sz := 1) (cs := #[iv ((((updr (allR s rs k) k g1) k x118.toNat) + ((bwdR s rs (s.hours.toNat)) k x118.toNat)) - (untr s rs (k : Int) x118))]) (z := iv 0) hF hO (by kernel_rfl) (by kernel_rfl) (by kernel_rfl) (by kernel_rfl) (by kernel_rfl) fun a w b220 hF hO hx => ⟨.inr (hS.trans (Ext.kp hx.1)), ?_⟩
              have hf_b220 := Nat.le_trans hS.size hx.2; replace hS := hS.trans (Ext.kp hx.1); clear hx
              refine draw_q {} TBok hF hS (F' := [(1, pv b1), (2, pv b2), (3, pv b3), (7, pv b114), (63, iv s.hours), (64, iv (k : Int)), (69, .func (.func 84) #[] #[pv b115]), (93, iv (mn 1048576 ((((updr (allR s rs k) k g1) k x118.toNat) + ((bwdR s rs (s.hours.toNat)) k x118.toNat)) - (untr s rs (k : Int) x118)))), (95, .pointer (some (((⟨b4x, 0, none⟩ : Addr).add ((k : Int).toNat * 80)).add (x118.toNat * 1))))]) (rs := [.call 83 #[iv 1048576, .slice (some ⟨b220, 0, none⟩) 1 1] (iv (mn 1048576 ((((updr (allR s rs k) k g1) k x118.toNat) + ((bwdR s rs (s.hours.toNat)) k x118.toNat)) - (untr s rs (k : Int) x118)))), .idx (some ((⟨b4x, 0, none⟩ : Addr).add ((k : Int).toNat * 80))) 80 x118 1 (((⟨b4x, 0, none⟩ : Addr).add ((k : Int).toNat * 80)).add (x118.toNat * 1))]) [22, 24] 3 1 (by kernel_rfl) #[true, true, true, true, true, true, true, true, true, true, true, true, true, true, true, true, true, true, true, true, true, true, true, true, true, false] [1, 2, 3, 7, 63, 64, 69, 93, 95] (.cons (fun w hE => calls_cast (v := iv (leastL 1048576 [((((updr (allR s rs k) k g1) k x118.toNat) + ((bwdR s rs (s.hours.toNat)) k x118.toNat)) - (untr s rs (k : Int) x118))])) (v' := iv (mn 1048576 ((((updr (allR s rs k) k g1) k x118.toNat) + ((bwdR s rs (s.hours.toNat)) k x118.toNat)) - (untr s rs (k : Int) x118)))) (least_calls 1048576 [((((updr (allR s rs k) k g1) k x118.toNat) + ((bwdR s rs (s.hours.toNat)) k x118.toNat)) - (untr s rs (k : Int) x118))] (some ⟨b220, 0, none⟩) 1 1 w (rd_cel (enc := encI) (ys := [((((updr (allR s rs k) k g1) k x118.toNat) + ((bwdR s rs (s.hours.toNat)) k x118.toNat)) - (untr s rs (k : Int) x118))]) (rest := []) (fun _ => rfl) (hO.st w hE) 10 rfl rfl rfl (by decide))) rfl) <| .cons (ixa (by omega) (by omega)) <| .nil) (by kernel_rfl) (by kernel_rfl) fun a hF => ?_
              replace hS := Kp.refl none_ w
              refine any_pick (rs := [25]) (by kernel_rfl) (by simp) fun w hE => all1 ?_
              replace hO := hO.ext hE; replace hS := hS.trans (Ext.kp hE)
              refine op_storeM (k := 25) (t := 3) (x := (mn 1048576 ((((updr (allR s rs k) k g1) k x118.toNat) + ((bwdR s rs (s.hours.toNat)) k x118.toNat)) - (untr s rs (k : Int) x118)))) (N := (s.hours.toNat)) (G := (updr (allR s rs k) k g1)) (h := (k : Int)) (c := x118) hF hO (by kernel_rfl) 3 rfl (by omega) (by omega) (by omega) (by omega) (by kernel_rfl) fun a w hF hO _ => ⟨.inl rfl, ?_⟩
              replace hO : Own w0 none_ [cel b1 (sS8 s v mb qa qn qc) 80, cel b2 #[.slice (some ⟨b4x, 0, none⟩) (s.hours.toNat) (s.hours.toNat)] 92, cel b3 #[.slice (some ⟨b5x, 0, none⟩) (s.hours.toNat) (s.hours.toNat)] 92, cel b4x (arrL ((s.hours.toNat) * 80) (flat (upd2 (updr (allR s rs k) k g1) k x118.toNat (mn 1048576 ((((updr (allR s rs k) k g1) k x118.toNat) + ((bwdR s rs (s.hours.toNat)) k x118.toNat)) - (untr s rs (k : Int) x118)))))).toArray 99, cel b5x (arrL ((s.hours.toNat) * 80) (flat (bwdR s rs (s.hours.toNat)))).toArray 99, dfs Ds, cel b114 #[iv (k : Int)] 3, cel b115 (sS7 s v mb) 77, pt D116 (.deferred (some [])), pt (D116 + 1) (.loop { lr117 with state := .busy }), cel b220 #[iv ((((updr (allR s rs k) k g1) k x118.toNat) + ((bwdR s rs (s.hours.toNat)) k x118.toNat)) - (untr s rs (k : Int) x118))] 3] w := hO
              refine any_done (by kernel_rfl) (fun w hE => ?_) _
              replace hO := hO.ext hE
              replace hF := hF.sel [1, 2, 3, 7, 63, 64, 69]
              replace hF : Fr 99 [] [(1, pv b1), (2, pv b2), (3, pv b3), (7, pv b114), (63, iv s.hours), (64, iv (k : Int)), (69, .func (.func 84) #[] #[pv b115])] a := hF
              exact ⟨rfl, b220, hF, hO.sel [0, 1, 2, 3, 4, 5, 6, 7, 8, 9, 10] (by decide)⟩
          clear hF hO
          rintro a w ⟨b119x, hF, hO⟩
          show roundPost Try.prog (D116 + 1) (fun e w => ∃ b, e = .returned (.bool b) ∧ Rr b w) (Exit.normal) a w
          replace hO := hO.drop1 10
          replace hO : Own w0 none_ [cel b1 (sS8 s v mb qa qn qc) 80, cel b2 #[.slice (some ⟨b4x, 0, none⟩) (s.hours.toNat) (s.hours.toNat)] 92, cel b3 #[.slice (some ⟨b5x, 0, none⟩) (s.hours.toNat) (s.hours.toNat)] 92, cel b4x (arrL ((s.hours.toNat) * 80) (flat (upd2 (updr (allR s rs k) k g1) k x118.toNat (mn 1048576 ((((updr (allR s rs k) k g1) k x118.toNat) + ((bwdR s rs (s.hours.toNat)) k x118.toNat)) - (untr s rs (k : Int) x118)))))).toArray 99, cel b5x (arrL ((s.hours.toNat) * 80) (flat (bwdR s rs (s.hours.toNat)))).toArray 99, dfs Ds, cel b114 #[iv (k : Int)] 3, cel b115 (sS7 s v mb) 77, pt D116 (.deferred (some [])), pt (D116 + 1) (.loop { lr117 with state := .busy })] w := hO
          replace hO : Own w0 none_ [cel b1 (sS8 s v mb qa qn qc) 80, cel b2 #[.slice (some ⟨b4x, 0, none⟩) (s.hours.toNat) (s.hours.toNat)] 92, cel b3 #[.slice (some ⟨b5x, 0, none⟩) (s.hours.toNat) (s.hours.toNat)] 92, cel b4x (arrL ((s.hours.toNat) * 80) (flat (updr (allR s rs k) k (updf g1 x118.toNat (allF s rs k x118.toNat))))).toArray 99, cel b5x (arrL ((s.hours.toNat) * 80) (flat (bwdR s rs (s.hours.toNat)))).toArray 99, dfs Ds, cel b114 #[iv (k : Int)] 3, cel b115 (sS7 s v mb) 77, pt D116 (.deferred (some [])), pt (D116 + 1) (.loop { lr117 with state := .busy })] w := hO.cast (by rw [upd2_updr, thr_val hgf hv (hmem _ (List.mem_cons_self ..)) (by omega)])
          obtain ⟨w, he, hO⟩ := end_round (P := Try.prog) none hO 9 rfl
          refine round_next he ?_
          rw [hRr]
          exact ⟨_, thr_step hgf hnd (hmem _ (List.mem_cons_self ..)), (List.nodup_cons.1 hnd).2, fun y hy => hmem y (List.mem_cons_of_mem _ hy), hO.cast (by rw [hlr]; rfl)⟩
        · exact ⟨(fwd s rs k), thr_start, cellsA_nodup s 0, fun y hy => hy, hO⟩
        clear hO
        rintro e w ⟨he, hJ | hS⟩
        · obtain ⟨g1, hgf, hnd, hmem, hO⟩ := hJ
          subst he
          refine ⟨_, rfl, lr117, hO.get 9 rfl, by rw [hlr]; simp [loopR], .inl ⟨by rw [hlr]; rfl, fun a hF => ?_⟩⟩
          replace hO := hO.put 9 rfl (.loop { lr117 with state := .exhausted })
          generalize w.putObj (D116 + 1) (.loop { lr117 with state := .exhausted }) = w at hO ⊢
          replace hO := hO.drop1 9
          replace hO := hO.absorb 5 8 rfl rfl (by decide)
          replace hO : Own w0 none_ [cel b1 (sS8 s v mb qa qn qc) 80, cel b2 #[.slice (some ⟨b4x, 0, none⟩) (s.hours.toNat) (s.hours.toNat)] 92, cel b3 #[.slice (some ⟨b5x, 0, none⟩) (s.hours.toNat) (s.hours.toNat)] 92, cel b4x (arrL ((s.hours.toNat) * 80) (flat (updr (allR s rs k) k g1))).toArray 99, cel b5x (arrL ((s.hours.toNat) * 80) (flat (bwdR s rs (s.hours.toNat)))).toArray 99, dfs (D116 :: Ds), cel b114 #[iv (k : Int)] 3, cel b115 (sS7 s v mb) 77] w := hO
          replace hO : Own w0 none_ [cel b1 (sS8 s v mb qa qn qc) 80, cel b2 #[.slice (some ⟨b4x, 0, none⟩) (s.hours.toNat) (s.hours.toNat)] 92, cel b3 #[.slice (some ⟨b5x, 0, none⟩) (s.hours.toNat) (s.hours.toNat)] 92, cel b4x (arrL ((s.hours.toNat) * 80) (flat (allR s rs (k + 1)))).toArray 99, cel b5x (arrL ((s.hours.toNat) * 80) (flat (bwdR s rs (s.hours.toNat)))).toArray 99, dfs (D116 :: Ds), cel b114 #[iv (k : Int)] 3, cel b115 (sS7 s v mb) 77] w := hO.cast (by rw [thr_end hgf])
          replace hF : Fr 99 ((D116 :: Ds).map mk) [(1, pv b1), (2, pv b2), (3, pv b3), (7, pv b114), (63, iv s.hours), (64, iv (k : Int)), (69, .func (.func 84) #[] #[pv b115])] a := hF
          refine (region_q {} TBok hF (F' := [(1, pv b1), (2, pv b2), (3, pv b3), (63, iv s.hours), (64, iv ((k : Int) + 1))]) (rs := [.rng ((k : Int) + 1)]) [1, 2, 3, 63, 64] (.cons (rg (by omega)) <| .nil) (by kernel_rfl) fun a w hF hE => ?_)
          replace hO := hO.ext hE; clear hE
          replace hO := hO.drop1 7
          replace hO := hO.drop1 6
          exact ⟨_, by omega, k + 1, D116 :: Ds, rfl, by omega, hF, hO⟩
        · exact hS.elim
      · refine W_seq (W_false ((evOp hF (by kernel_rfl)).trans (congrArg Value.bool hc113)) ?_)
        have hc113_ := of_decide_eq_false hc113
        refine (W_exit ?_)
        refine W_seq (draw_startI (r := cel b2 #[.slice (some ⟨b4x, 0, none⟩) (s.hours.toNat) (s.hours.toNat)] 92) mixed [3] 4 (by kernel_rfl) fun w hS => ?_)
        replace hO := hO.ext hS
        have hH := hO.butI 1 rfl; replace hS := Ext.kp (M := (cel b2 #[.slice (some ⟨b4x, 0, none⟩) (s.hours.toNat) (s.hours.toNat)] 92).fp) hS
        replace hS : KpI (cel b2 #[.slice (some ⟨b4x, 0, none⟩) (s.hours.toNat) (s.hours.toNat)] 92) _ w := ⟨hS, hO.get 1 rfl⟩
        refine draw_qI {} TBok hF hS (F' := [(2, pv b2), (3, pv b3), (97, .slice (some ⟨b4x, 0, none⟩) (s.hours.toNat) (s.hours.toNat)), (98, .slice (some ⟨b5x, 0, none⟩) (s.hours.toNat) (s.hours.toNat))]) (rs := [.ld ⟨b2, 0, none⟩ (.slice (some ⟨b4x, 0, none⟩) (s.hours.toNat) (s.hours.toNat)), .ld ⟨b3, 0, none⟩ (.slice (some ⟨b5x, 0, none⟩) (s.hours.toNat) (s.hours.toNat))]) [0, 1] 4 2 (by kernel_rfl) #[true, true, false, false] [2, 3, 97, 98] (.cons (ldo hH 1 rfl 0 rfl) <| .cons (ldo hH 2 rfl 0 rfl) <| .nil) (by kernel_rfl) (by kernel_rfl) fun a hF => ?_
        replace hS : KpI (cel b2 #[.slice (some ⟨b4x, 0, none⟩) (s.hours.toNat) (s.hours.toNat)] 92) w w := ⟨Kp.refl _ _, hS.2⟩
        refine any_pick (rs := [2]) (by kernel_rfl) (by simp) fun w hE => all1 ?_
        replace hO := hO.ext hE; replace hS := KpI.ext _ _ _ hS hE
        refine op_store (i := 2) (t := 92) (p := ⟨b2, 0, none⟩) (v := .slice (some ⟨b4x, 0, none⟩) (s.hours.toNat) (s.hours.toNat)) (off := 0) (sz := 1) (cs' := #[.slice (some ⟨b4x, 0, none⟩) (s.hours.toNat) (s.hours.toNat)]) hF hO (by kernel_rfl) 1 rfl rfl (by kernel_rfl) (by kernel_rfl) (by kernel_rfl) fun a w hF hO hx => ⟨.inr ⟨hS.1.trans hx, hO.get 1 rfl⟩, ?_⟩
        replace hS : KpI (cel b2 #[.slice (some ⟨b4x, 0, none⟩) (s.hours.toNat) (s.hours.toNat)] 92) _ w := ⟨hS.1.trans hx, hO.get 1 rfl⟩; clear hx
        refine any_pick (rs := [3]) (by kernel_rfl) (by simp) fun w hE => all1 ?_
        replace hO := hO.ext hE; replace hS := KpI.ext _ _ _ hS hE
        refine op_store (i := 3) (t := 92) (p := ⟨b3, 0, none⟩) (v := .slice (some ⟨b5x, 0, none⟩) (s.hours.toNat) (s.hours.toNat)) (off := 0) (sz := 1) (cs' := #[.slice (some ⟨b5x, 0, none⟩) (s.hours.toNat) (s.hours.toNat)]) hF hO (by kernel_rfl) 2 rfl rfl (by kernel_rfl) (by kernel_rfl) (by kernel_rfl) fun a w hF hO _ => ⟨.inl rfl, ?_⟩
        refine any_done (by kernel_rfl) (fun w hE => ?_) _
        replace hO := hO.ext hE
        replace hF := hF.sel [2, 3]
        replace hF : Fr 99 (Ds.map mk) [(2, pv b2), (3, pv b3)] a := hF
        refine W_ret ?_
        show bodyPostM (FW none) 0 _ _ _ Exit.ret a w
        obtain ⟨w, hs, hO⟩ := shuts _ hO 5 rfl
        replace hO : Own w0 none_ [cel b1 (sS8 s v mb qa qn qc) 80, cel b2 #[.slice (some ⟨b4x, 0, none⟩) (s.hours.toNat) (s.hours.toNat)] 92, cel b3 #[.slice (some ⟨b5x, 0, none⟩) (s.hours.toNat) (s.hours.toNat)] 92, cel b4x (arrL ((s.hours.toNat) * 80) (flat (allR s rs k))).toArray 99, cel b5x (arrL ((s.hours.toNat) * 80) (flat (bwdR s rs (s.hours.toNat)))).toArray 99, dfs []] w := hO
        have hkk : k = s.hours.toNat := by omega
        exact leave_r TBok hF hs (vs := [.slice (some ⟨b4x, 0, none⟩) (s.hours.toNat) (s.hours.toNat), .slice (some ⟨b5x, 0, none⟩) (s.hours.toNat) (s.hours.toNat)]) (rs := [.ld ⟨b2, 0, none⟩ (.slice (some ⟨b4x, 0, none⟩) (s.hours.toNat) (s.hours.toNat)), .ld ⟨b3, 0, none⟩ (.slice (some ⟨b5x, 0, none⟩) (s.hours.toNat) (s.hours.toNat))]) (.cons (rdo hO 1 rfl 0 rfl) <| .cons (rdo hO 2 rfl 0 rfl) <| .nil) (by kernel_rfl) ⟨_, _, rfl, (hO.sel [3, 4] (by decide)).cast (by rw [hkk] <;> rfl)⟩

end Go.Proofs.Ytgihgcclabodbaa.DK
