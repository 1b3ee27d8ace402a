/- Walks: the laws' helpers. Printed by my gen.py out of shoal/y.py. -/
import Derived.Test.YtgihgcclabodbaaSP
import Derived.Test.YtgihgcclabodbaaSSwu
import Derived.Test.YtgihgcclabodbaaSX
namespace Go.Proofs.Ytgihgcclabodbaa.DK
open Go Go.Proofs
set_option linter.unusedVariables false
set_option linter.unusedSimpArgs false

theorem snd_g {s : Sea} {rs : List Rp} {r : Bool} (h : (((trackR s rs []).2.2 == 0) && r) = true) : err s rs = 0 := by
  rw [track_nil] at h; simp only [Bool.and_eq_true] at h; exact eq_of_beq h.1
set_option maxHeartbeats 4000000 in
set_option maxRecDepth 100000 in
theorem sound_calls (s : Sea) (v : SV) (rs : List Rp) (p : Option Addr) (n c : Nat) (w0 : World) (hs : SeaR w0.heap.size w0 v s) (hx : Rd encRp 4 w0.heap.size w0 p n rs) :
    Calls Try.prog 32 #[.agg #[iv s.wide, iv s.high, .slice v.la v.ln v.lc, iv s.hours, .slice v.da v.dn v.dc, iv s.speed, .slice p n c]] w0 (fun e w' => e = .returned (.bool (err s rs == 0)) ∧ Ext w0 w') := by
  have hl1 := hs.land.len; have hl2 := hs.drift.len; have hs1 := hs.land.size; have hs2 := hs.drift.size; have hr_ := hs.rg; unfold i64 at hr_; have hl3 := hx.len; have hs3 := hx.size
  refine calls_of_W Try.func32 rfl (by kernel_rfl) (args := [.agg #[iv s.wide, iv s.high, .slice v.la v.ln v.lc, iv s.hours, .slice v.da v.dn v.dc, iv s.speed, .slice p n c]]) fun a hF => ?_
  replace hF : Fr 99 [] [(0, .agg #[iv s.wide, iv s.high, .slice v.la v.ln v.lc, iv s.hours, .slice v.da v.dn v.dc, iv s.speed, .slice p n c])] a := hF
  have hO : Own w0 none_ [] w0 := Own.start w0 _
  refine W_seq (region_seq ?_)
  refine op_box (i := 0) (t := 28) (v := .agg #[iv s.wide, iv s.high, .slice v.la v.ln v.lc, iv s.hours, .slice v.da v.dn v.dc, iv s.speed, .slice p n c]) (d := 1) hF hO (by kernel_rfl) fun a w b1 hF hO _ => ?_
  refine seq_quiet {} TBok hF (F' := [(1, pv b1), (2, .bool false)]) (rs := []) [1] [] [1, 2] .nil (by kernel_rfl) fun a w hF hE => ?_
  replace hO := hO.ext hE; clear hE
  refine W_seq (region_q {} TBok hF (F' := [(1, pv b1), (2, .bool false), (5, iv ((trackR s rs ([] : List Int)).2.2))]) (rs := [.lds ⟨b1, 0, none⟩ (sL6 s v), .ld ⟨b1, 6, none⟩ (.slice p n c), .call 16 #[.agg (sS6 s v), .slice p n c, .slice none 0 0] (.tuple #[iv ((trackR s rs ([] : List Int)).1), .bool ((trackR s rs ([] : List Int)).2.1), iv ((trackR s rs ([] : List Int)).2.2)])]) [1, 2, 5] (.cons (ldso hO.st 0 rfl 0 rfl) <| .cons (ldo hO.st 0 rfl 6 rfl) <| .cons (fun w hE => IsTrack_calls s v rs p n c ([] : List Int) none 0 0 w (hs.upM (hO.st w hE).kp nom (Nat.le_refl _)) (hx.upM (hO.st w hE).kp nom (Nat.le_refl _)) (rd_nil _ _ _)) <| .nil) (by kernel_rfl) fun a w hF hE => ?_)
  replace hO := hO.ext hE; clear hE
  refine W_seq (region_q { sy := [2, 8, 14, 20, 31, 37] } TBok hF (F' := [(1, pv b1), (2, .bool false), (6, .bool (cond (cond (cond (cond (cond (cond ((trackR s rs ([] : List Int)).2.2 == 0) (inB s.wide 1 10) false) (inB s.high 1 8) false) (inB s.hours 1 12) false) ((v.dn : Int) == (s.hours - 1)) false) (decide ((n : Int) ≤ 24)) false) (inB s.speed 0 2) false))]) (rs := [.und ((trackR s rs ([] : List Int)).2.2 == 0) (.ld ⟨b1, 0, none⟩ (iv s.wide)), .und ((trackR s rs ([] : List Int)).2.2 == 0) (.call 40 #[iv s.wide, iv 1, iv 10] (.bool (inB s.wide 1 10))), .und (cond ((trackR s rs ([] : List Int)).2.2 == 0) (inB s.wide 1 10) false) (.ld ⟨b1, 1, none⟩ (iv s.high)), .und (cond ((trackR s rs ([] : List Int)).2.2 == 0) (inB s.wide 1 10) false) (.call 40 #[iv s.high, iv 1, iv 8] (.bool (inB s.high 1 8))), .und (cond (cond ((trackR s rs ([] : List Int)).2.2 == 0) (inB s.wide 1 10) false) (inB s.high 1 8) false) (.ld ⟨b1, 3, none⟩ (iv s.hours)), .und (cond (cond ((trackR s rs ([] : List Int)).2.2 == 0) (inB s.wide 1 10) false) (inB s.high 1 8) false) (.call 40 #[iv s.hours, iv 1, iv 12] (.bool (inB s.hours 1 12))), .und (cond (cond (cond ((trackR s rs ([] : List Int)).2.2 == 0) (inB s.wide 1 10) false) (inB s.high 1 8) false) (inB s.hours 1 12) false) (.ld ⟨b1, 4, none⟩ (.slice v.da v.dn v.dc)), .und (cond (cond (cond ((trackR s rs ([] : List Int)).2.2 == 0) (inB s.wide 1 10) false) (inB s.high 1 8) false) (inB s.hours 1 12) false) (.ld ⟨b1, 3, none⟩ (iv s.hours)), .und (cond (cond (cond ((trackR s rs ([] : List Int)).2.2 == 0) (inB s.wide 1 10) false) (inB s.high 1 8) false) (inB s.hours 1 12) false) (.rng (s.hours - 1)), .und (cond (cond (cond (cond ((trackR s rs ([] : List Int)).2.2 == 0) (inB s.wide 1 10) false) (inB s.high 1 8) false) (inB s.hours 1 12) false) ((v.dn : Int) == (s.hours - 1)) false) (.ld ⟨b1, 6, none⟩ (.slice p n c)), .und (cond (cond (cond (cond (cond ((trackR s rs ([] : List Int)).2.2 == 0) (inB s.wide 1 10) false) (inB s.high 1 8) false) (inB s.hours 1 12) false) ((v.dn : Int) == (s.hours - 1)) false) (decide ((n : Int) ≤ 24)) false) (.ld ⟨b1, 5, none⟩ (iv s.speed)), .und (cond (cond (cond (cond (cond ((trackR s rs ([] : List Int)).2.2 == 0) (inB s.wide 1 10) false) (inB s.high 1 8) false) (inB s.hours 1 12) false) ((v.dn : Int) == (s.hours - 1)) false) (decide ((n : Int) ≤ 24)) false) (.call 40 #[iv s.speed, iv 0, iv 2] (.bool (inB s.speed 0 2)))]) [1, 2, 6] (.cons (fun hg => (ldo hO.st 0 rfl 0 rfl)) <| .cons (fun hg => (fun w _ => In_calls _ _ _ w)) <| .cons (fun hg => (ldo hO.st 0 rfl 1 rfl)) <| .cons (fun hg => (fun w _ => In_calls _ _ _ w)) <| .cons (fun hg => (ldo hO.st 0 rfl 3 rfl)) <| .cons (fun hg => (fun w _ => In_calls _ _ _ w)) <| .cons (fun hg => (ldo hO.st 0 rfl 4 rfl)) <| .cons (fun hg => (ldo hO.st 0 rfl 3 rfl)) <| .cons (fun hg => rg (by have h_ := inB_iff.1 (andc hg).2; omega)) <| .cons (fun hg => (ldo hO.st 0 rfl 6 rfl)) <| .cons (fun hg => (ldo hO.st 0 rfl 5 rfl)) <| .cons (fun hg => (fun w _ => In_calls _ _ _ w)) <| .nil) (by kernel_rfl) fun a w hF hE => ?_)
  replace hO := hO.ext hE; clear hE
  refine W_seq ?_
  refine W_seq (region_q {} TBok hF (F' := [(1, pv b1), (2, .bool false), (6, .bool (cond (cond (cond (cond (cond (cond ((trackR s rs ([] : List Int)).2.2 == 0) (inB s.wide 1 10) false) (inB s.high 1 8) false) (inB s.hours 1 12) false) ((v.dn : Int) == (s.hours - 1)) false) (decide ((n : Int) ≤ 24)) false) (inB s.speed 0 2) false)), (7, iv 0)]) (rs := []) [1, 2, 6, 7] .nil (by kernel_rfl) fun a w hF hE => ?_)
  replace hO := hO.ext hE; clear hE
  refine (W_block ?_)
  refine (W_loop (fun m a w => ∃ (k : Nat), ∃ (ok : Bool), m = n - k ∧ k ≤ n ∧ ok = (err s rs == 0) ∧ Fr 99 [] [(1, pv b1), (2, .bool false), (6, .bool ok), (7, iv (k : Int))] a ∧ Own w0 none_ [cel b1 #[iv s.wide, iv s.high, .slice v.la v.ln v.lc, iv s.hours, .slice v.da v.dn v.dc, iv s.speed, .slice p n c] 28] w) _ ⟨0, _, rfl, Nat.zero_le _, (by rw [← sound_eq, hl2, hl3]), hF, hO⟩ ?_)
  clear hF hO
  rintro _ a w ⟨k, ok, rfl, hk, hok, hF, hO⟩
  refine W_seq ?_
  refine W_seq (region_q { sy := [1] } TBok hF (F' := [(1, pv b1), (2, .bool false), (6, .bool ok), (7, iv (k : Int)), (67, .bool (cond ok (decide ((k : Int) < (n : Int))) false))]) (rs := [.und ok (.ld ⟨b1, 6, none⟩ (.slice p n c))]) [1, 2, 6, 7, 67] (.cons (fun hg => (ldo hO.st 0 rfl 6 rfl)) <| .nil) (by kernel_rfl) fun a w hF hE => ?_)
  replace hO := hO.ext hE; clear hE
  rcases Bool.eq_false_or_eq_true (cond ok (decide ((k : Int) < (n : Int))) false) with hc2 | hc2
  · refine (W_true ((evOp hF (by kernel_rfl)).trans (congrArg Value.bool hc2)) ?_)
    have hoc := andc (by assumption : (cond ok (decide ((k : Int) < (n : Int))) false) = true)
    have hok1 := hoc.1
    have hkn := of_decide_eq_true hoc.2
    have her : err s rs = 0 := by rw [hok1] at hok; exact eq_of_beq hok.symm
    obtain ⟨hv, hr⟩ := err_hd her
    have hv1 := sea_ok hv; have hrp := rp_ok hr
    refine (W_skip ?_)
    refine W_seq (W_block ?_)
    refine (region_d { sy := [11] } mixed TBok hF (F' := [(1, pv b1), (2, .bool false), (6, .bool (cond (inB ((rs.getD k default).hr) 0 (s.hours - 1)) (inB ((rs.getD k default).cell) 0 ((s.wide * s.high) - 1)) false)), (7, iv (k : Int))]) (rs := [.ld ⟨b1, 6, none⟩ (.slice p n c), .idx p n (k : Int) 4 (adr p 4 (k : Int)), .ld (adr p 4 (k : Int)) (iv ((rs.getD k default).hr)), .ld ⟨b1, 3, none⟩ (iv s.hours), .rng (s.hours - 1), .call 40 #[iv ((rs.getD k default).hr), iv 0, iv (s.hours - 1)] (.bool (inB ((rs.getD k default).hr) 0 (s.hours - 1))), .und (inB ((rs.getD k default).hr) 0 (s.hours - 1)) (.ld ⟨b1, 6, none⟩ (.slice p n c)), .und (inB ((rs.getD k default).hr) 0 (s.hours - 1)) (.idx p n (k : Int) 4 (adr p 4 (k : Int))), .und (inB ((rs.getD k default).hr) 0 (s.hours - 1)) (.ld ((adr p 4 (k : Int)).add 1) (iv ((rs.getD k default).cell))), .und (inB ((rs.getD k default).hr) 0 (s.hours - 1)) (.ld ⟨b1, 0, none⟩ (iv s.wide)), .und (inB ((rs.getD k default).hr) 0 (s.hours - 1)) (.ld ⟨b1, 1, none⟩ (iv s.high)), .und (inB ((rs.getD k default).hr) 0 (s.hours - 1)) (.rng (s.wide * s.high)), .und (inB ((rs.getD k default).hr) 0 (s.hours - 1)) (.rng ((s.wide * s.high) - 1)), .und (inB ((rs.getD k default).hr) 0 (s.hours - 1)) (.call 40 #[iv ((rs.getD k default).cell), iv 0, iv ((s.wide * s.high) - 1)] (.bool (inB ((rs.getD k default).cell) 0 ((s.wide * s.high) - 1))))]) [1, 2, 6, 7] (.cons (ldo hO.st 0 rfl 6 rfl) <| .cons (ix hx (by omega) (by omega)) <| .cons (ldx hO.st nom hx (by omega) (by omega) 0 rfl) <| .cons (ldo hO.st 0 rfl 3 rfl) <| .cons (rg (by omega)) <| .cons (fun w _ => In_calls _ _ _ w) <| .cons (fun hg => (ldo hO.st 0 rfl 6 rfl)) <| .cons (fun hg => (ix hx (by omega) (by omega))) <| .cons (fun hg => (ldx hO.st nom hx (by omega) (by omega) 1 rfl)) <| .cons (fun hg => (ldo hO.st 0 rfl 0 rfl)) <| .cons (fun hg => (ldo hO.st 0 rfl 1 rfl)) <| .cons (fun hg => rg (by unfold nC at hv1; omega)) <| .cons (fun hg => rg (by unfold nC at hv1; omega)) <| .cons (fun hg => (fun w _ => In_calls _ _ _ w)) <| .nil) (by kernel_rfl) (by kernel_rfl) fun a w hF hE => ?_)
    replace hO := hO.ext hE; clear hE
    refine (region_q {} TBok hF (F' := [(1, pv b1), (2, .bool false), (6, .bool (cond (inB ((rs.getD k default).hr) 0 (s.hours - 1)) (inB ((rs.getD k default).cell) 0 ((s.wide * s.high) - 1)) false)), (7, iv ((k : Int) + 1))]) (rs := [.rng ((k : Int) + 1)]) [1, 2, 6, 7] (.cons (rg (by omega)) <| .nil) (by kernel_rfl) fun a w hF hE => ?_)
    replace hO := hO.ext hE; clear hE
    have hsr := sound_rp her (k := k) (by omega)
    exact ⟨_, by omega, k + 1, _, rfl, by omega, by rw [hsr, ← hok, hok1], hF, hO⟩
  · refine (W_false ((evOp hF (by kernel_rfl)).trans (congrArg Value.bool hc2)) ?_)
    refine (W_exit ?_)
    refine W_seq (region_q {} TBok hF (F' := [(2, .bool ok)]) (rs := []) [2] .nil (by kernel_rfl) fun a w hF hE => ?_)
    replace hO := hO.ext hE; clear hE
    refine W_ret ?_
    show bodyPostM (FW none) 0 _ _ _ Exit.ret a w
    exact leave_r TBok hF (.nil _) (vs := [.bool ok]) (rs := []) .nil (by kernel_rfl) ⟨by rw [hok]; rfl, hO.kp⟩

set_option maxHeartbeats 4000000 in
set_option maxRecDepth 100000 in
theorem told_calls (s : Sea) (v : SV) (x : Rp) (t : List Int) (tp : Option Addr) (tn tc : Nat) (w0 : World) (hv : seaB s = true) (hx : 0 ≤ x.cell ∧ x.cell < nC s) (ht : Rd encI 1 w0.heap.size w0 tp tn t) (hxh : 0 ≤ x.hr ∧ x.hr < tn) (htc : 0 ≤ t.getD x.hr.toNat default ∧ t.getD x.hr.toNat default < nC s) :
    Calls Try.prog 34 #[.agg (sS6 s v), .agg #[iv x.hr, iv x.cell, iv x.far, .bool x.th], .slice tp tn tc] w0 (fun e w' => e = .returned (.bool (toldB s x t)) ∧ Ext w0 w') := by
  have ht1 := ht.len; have ht2 := ht.size
  refine calls_of_W Try.func34 rfl (by kernel_rfl) (args := [.agg (sS6 s v), .agg #[iv x.hr, iv x.cell, iv x.far, .bool x.th], .slice tp tn tc]) fun a hF => ?_
  replace hF : Fr 22 [] [(0, .agg (sS6 s v)), (1, .agg #[iv x.hr, iv x.cell, iv x.far, .bool x.th]), (2, .slice tp tn tc)] a := hF
  have hO : Own w0 none_ [] w0 := Own.start w0 _
  refine W_seq (region_seq ?_)
  refine op_box (i := 0) (t := 25) (v := .agg (sS6 s v)) (d := 3) hF hO (by kernel_rfl) fun a w b1 hF hO _ => ?_
  refine op_box (i := 1) (t := 52) (v := .agg #[iv x.hr, iv x.cell, iv x.far, .bool x.th]) (d := 4) hF hO (by kernel_rfl) fun a w b2 hF hO _ => ?_
  refine seq_quiet {} TBok hF (F' := [(2, .slice tp tn tc), (3, pv b1), (4, pv b2), (6, .bool false)]) (rs := []) [2] [] [2, 3, 4, 6] .nil (by kernel_rfl) fun a w hF hE => ?_
  replace hO := hO.ext hE; clear hE
  refine W_seq (region_d { md := [(14, 3)] } mixed TBok hF (F' := [(6, .bool ((decide ((farP (pl s x.cell) (pl s (t.getD x.hr.toNat default))) ≤ x.far)) == x.th))]) (rs := [.lds ⟨b1, 0, none⟩ (sL6 s v), .ld ⟨b2, 1, none⟩ (iv x.cell), .ld ⟨b2, 0, none⟩ (iv x.hr), .idx tp tn x.hr 1 (adr tp 1 x.hr), .ld (adr tp 1 x.hr) (iv (t.getD x.hr.toNat default)), .call 41 #[.agg (sS6 s v), iv x.cell, iv (t.getD x.hr.toNat default)] (iv (farP (pl s x.cell) (pl s (t.getD x.hr.toNat default)))), .ld ⟨b2, 2, none⟩ (iv x.far), .ld ⟨b2, 3, none⟩ (.bool x.th), .raw (rb .eql 4 (.tmp 18) (.tmp 20) (.bool (decide ((farP (pl s x.cell) (pl s (t.getD x.hr.toNat default))) ≤ x.far))) (.bool x.th)) (.bool ((decide ((farP (pl s x.cell) (pl s (t.getD x.hr.toNat default))) ≤ x.far)) == x.th))]) [6] (.cons (ldso hO.st 0 rfl 0 rfl) <| .cons (ldo hO.st 1 rfl 1 rfl) <| .cons (ldo hO.st 1 rfl 0 rfl) <| .cons (ix ht (by omega) (by omega)) <| .cons (ldx hO.st nom ht (by omega) (by omega) 0 rfl) <| .cons (fun w hE => apart_calls s v x.cell (t.getD x.hr.toNat default) w hv hx htc) <| .cons (ldo hO.st 1 rfl 2 rfl) <| .cons (ldo hO.st 1 rfl 3 rfl) <| .cons (raw_eqB boolT4 _ _) <| .nil) (by kernel_rfl) (by kernel_rfl) fun a w hF hE => ?_)
  replace hO := hO.ext hE; clear hE
  refine W_ret ?_
  show bodyPostM (FW none) 0 _ _ _ Exit.ret a w
  exact leave_r TBok hF (.nil _) (vs := [.bool ((decide ((farP (pl s x.cell) (pl s (t.getD x.hr.toNat default))) ≤ x.far)) == x.th)]) (rs := []) .nil (by kernel_rfl) ⟨rfl, hO.kp⟩

set_option maxHeartbeats 4000000 in
set_option maxRecDepth 100000 in
theorem meets_calls (s : Sea) (v : SV) (cs : List Cs) (cp : Option Addr) (cn cc : Nat) (own : List Int) (op : Option Addr) (on oc : Nat) (cells : List Int) (ep : Option Addr) (en ec : Nat) (w0 : World) (hv : seaB s = true) (hcs : Rd encCs 2 w0.heap.size w0 cp cn cs) (how : Rd encI 1 w0.heap.size w0 op on own) (hce : Rd encI 1 w0.heap.size w0 ep en cells) (hin : ∀ i, i < own.length → 0 ≤ own.getD i default ∧ own.getD i default < cs.length) (hcv : ∀ i, i < cs.length → 0 ≤ (cs.getD i default).cell ∧ (cs.getD i default).cell < nC s) (hcc : ∀ i, i < cells.length → 0 ≤ cells.getD i default ∧ cells.getD i default < nC s) :
    Calls Try.prog 43 #[.agg (sS6 s v), .slice cp cn cc, .slice op on oc, .slice ep en ec] w0 (fun e w' => e = .returned (.bool (rallB s cs own cells)) ∧ Ext w0 w') := by
  have hl1 := how.len; have hs1 := how.size; have hl2 := hce.len; have hs2 := hce.size; have hl4 := hcs.len; have hs4 := hcs.size
  refine calls_of_W Try.func43 rfl (by kernel_rfl) (args := [.agg (sS6 s v), .slice cp cn cc, .slice op on oc, .slice ep en ec]) fun a hF => ?_
  replace hF : Fr 52 [] [(0, .agg (sS6 s v)), (1, .slice cp cn cc), (2, .slice op on oc), (3, .slice ep en ec)] a := hF
  have hO : Own w0 none_ [] w0 := Own.start w0 _
  refine W_seq (region_seq ?_)
  refine op_box (i := 0) (t := 25) (v := .agg (sS6 s v)) (d := 4) hF hO (by kernel_rfl) fun a w b1 hF hO _ => ?_
  refine seq_quiet {} TBok hF (F' := [(1, .slice cp cn cc), (2, .slice op on oc), (3, .slice ep en ec), (4, pv b1), (8, .bool false)]) (rs := []) [1] [] [1, 2, 3, 4, 8] .nil (by kernel_rfl) fun a w hF hE => ?_
  replace hO := hO.ext hE; clear hE
  refine W_seq ?_
  refine W_seq (region_q {} TBok hF (F' := [(1, .slice cp cn cc), (2, .slice op on oc), (3, .slice ep en ec), (4, pv b1), (8, .bool false), (9, iv 0)]) (rs := []) [1, 2, 3, 4, 8, 9] .nil (by kernel_rfl) fun a w hF hE => ?_)
  replace hO := hO.ext hE; clear hE
  refine (W_block ?_)
  replace hF := hF.sel [1, 2, 3, 4, 9]
  refine (W_loop (fun m a w => ∃ (k : Nat), m = en - k ∧ k ≤ en ∧ ((cells.take k).all fun c => own.any fun i => rcov s (cs.getD i.toNat default) c) = true ∧ Fr 52 [] [(1, .slice cp cn cc), (2, .slice op on oc), (3, .slice ep en ec), (4, pv b1), (9, iv (k : Int))] a ∧ Own w0 none_ [cel b1 (sS6 s v) 25] w) _ ⟨0, rfl, Nat.zero_le _, rfl, hF, hO⟩ ?_)
  clear hF hO
  rintro _ a w ⟨k, rfl, hk, hall, hF, hO⟩
  refine W_seq ?_
  refine W_seq (region_q {} TBok hF (F' := [(1, .slice cp cn cc), (2, .slice op on oc), (3, .slice ep en ec), (4, pv b1), (9, iv (k : Int)), (15, .bool (decide ((k : Int) < (en : Int))))]) (rs := []) [1, 2, 3, 4, 9, 15] .nil (by kernel_rfl) fun a w hF hE => ?_)
  replace hO := hO.ext hE; clear hE
  rcases Bool.eq_false_or_eq_true (decide ((k : Int) < (en : Int))) with hc2 | hc2
  · refine (W_true ((evOp hF (by kernel_rfl)).trans (congrArg Value.bool hc2)) ?_)
    have hc2_ := of_decide_eq_true hc2
    refine (W_skip ?_)
    refine W_seq (W_block ?_)
    refine W_seq (region_q {} TBok hF (F' := [(1, .slice cp cn cc), (2, .slice op on oc), (3, .slice ep en ec), (4, pv b1), (9, iv (k : Int)), (10, .bool false)]) (rs := []) [1, 2, 3, 4, 9, 10] .nil (by kernel_rfl) fun a w hF hE => ?_)
    replace hO := hO.ext hE; clear hE
    refine W_seq ?_
    refine W_seq (region_q {} TBok hF (F' := [(1, .slice cp cn cc), (2, .slice op on oc), (3, .slice ep en ec), (4, pv b1), (9, iv (k : Int)), (10, .bool false), (11, iv 0)]) (rs := []) [1, 2, 3, 4, 9, 10, 11] .nil (by kernel_rfl) fun a w hF hE => ?_)
    replace hO := hO.ext hE; clear hE
    refine (W_block ?_)
    refine (W_loop (fun m a w => ∃ (m_ : Nat), ∃ (mt_ : Bool), m = on - m_ ∧ m_ ≤ on ∧ mt_ = (own.take m_).any (fun i => rcov s (cs.getD i.toNat default) (cells.getD k default)) ∧ Fr 52 [] [(1, .slice cp cn cc), (2, .slice op on oc), (3, .slice ep en ec), (4, pv b1), (9, iv (k : Int)), (10, .bool mt_), (11, iv (m_ : Int))] a ∧ Own w0 none_ [cel b1 (sS6 s v) 25] w) _ ⟨0, false, rfl, Nat.zero_le _, rfl, hF, hO⟩ ?_)
    clear hF hO
    rintro _ a w ⟨m_, mt_, rfl, hm_, hmt, hF, hO⟩
    refine W_seq ?_
    refine W_seq (region_q {} TBok hF (F' := [(1, .slice cp cn cc), (2, .slice op on oc), (3, .slice ep en ec), (4, pv b1), (9, iv (k : Int)), (10, .bool mt_), (11, iv (m_ : Int)), (21, .bool (decide ((m_ : Int) < (on : Int))))]) (rs := []) [1, 2, 3, 4, 9, 10, 11, 21] .nil (by kernel_rfl) fun a w hF hE => ?_)
    replace hO := hO.ext hE; clear hE
    rcases Bool.eq_false_or_eq_true (decide ((m_ : Int) < (on : Int))) with hc3 | hc3
    · refine (W_true ((evOp hF (by kernel_rfl)).trans (congrArg Value.bool hc3)) ?_)
      have hc3_ := of_decide_eq_true hc3
      refine (W_skip ?_)
      refine W_seq (W_block ?_)
      refine (region_d { sy := [1] } mixed TBok hF (F' := [(1, .slice cp cn cc), (2, .slice op on oc), (3, .slice ep en ec), (4, pv b1), (9, iv (k : Int)), (10, .bool (cond mt_ true (decide ((farP (pl s ((cs.getD (own.getD m_ default).toNat default).cell)) (pl s (cells.getD k default))) ≤ (cs.getD (own.getD m_ default).toNat default).far)))), (11, iv (m_ : Int))]) (rs := [.und (!mt_) (.lds ⟨b1, 0, none⟩ (sL6 s v)), .und (!mt_) (.idx op on (m_ : Int) 1 (adr op 1 (m_ : Int))), .und (!mt_) (.ld (adr op 1 (m_ : Int)) (iv (own.getD m_ default))), .und (!mt_) (.idx cp cn (own.getD m_ default) 2 (adr cp 2 (own.getD m_ default))), .und (!mt_) (.ld (adr cp 2 (own.getD m_ default)) (iv ((cs.getD (own.getD m_ default).toNat default).cell))), .und (!mt_) (.idx ep en (k : Int) 1 (adr ep 1 (k : Int))), .und (!mt_) (.ld (adr ep 1 (k : Int)) (iv (cells.getD k default))), .und (!mt_) (.call 41 #[.agg (sS6 s v), iv ((cs.getD (own.getD m_ default).toNat default).cell), iv (cells.getD k default)] (iv (farP (pl s ((cs.getD (own.getD m_ default).toNat default).cell)) (pl s (cells.getD k default))))), .und (!mt_) (.idx op on (m_ : Int) 1 (adr op 1 (m_ : Int))), .und (!mt_) (.ld (adr op 1 (m_ : Int)) (iv (own.getD m_ default))), .und (!mt_) (.idx cp cn (own.getD m_ default) 2 (adr cp 2 (own.getD m_ default))), .und (!mt_) (.ld ((adr cp 2 (own.getD m_ default)).add 1) (iv ((cs.getD (own.getD m_ default).toNat default).far)))]) [1, 2, 3, 4, 9, 10, 11] (.cons (fun hg => (ldso hO.st 0 rfl 0 rfl)) <| .cons (fun hg => (ix how (by omega) (by omega))) <| .cons (fun hg => (ldx hO.st nom how (by omega) (by omega) 0 rfl)) <| .cons (fun hg => (ix hcs (hin m_ (by omega)).1 (by have h_ := hin m_ (by omega); omega))) <| .cons (fun hg => (ldx hO.st nom hcs (hin m_ (by omega)).1 (by have h_ := hin m_ (by omega); omega) 0 rfl)) <| .cons (fun hg => (ix hce (by omega) (by omega))) <| .cons (fun hg => (ldx hO.st nom hce (by omega) (by omega) 0 rfl)) <| .cons (fun hg => (fun w hE => apart_calls s v ((cs.getD (own.getD m_ default).toNat default).cell) (cells.getD k default) w hv (by have h2_ := hin m_ (by omega); have h_ := hcv ((own.getD m_ default).toNat) (by omega); omega) (hcc k (by omega)))) <| .cons (fun hg => (ix how (by omega) (by omega))) <| .cons (fun hg => (ldx hO.st nom how (by omega) (by omega) 0 rfl)) <| .cons (fun hg => (ix hcs (hin m_ (by omega)).1 (by have h_ := hin m_ (by omega); omega))) <| .cons (fun hg => (ldx hO.st nom hcs (hin m_ (by omega)).1 (by have h_ := hin m_ (by omega); omega) 1 rfl)) <| .nil) (by kernel_rfl) (by kernel_rfl) fun a w hF hE => ?_)
      replace hO := hO.ext hE; clear hE
      refine (region_q {} TBok hF (F' := [(1, .slice cp cn cc), (2, .slice op on oc), (3, .slice ep en ec), (4, pv b1), (9, iv (k : Int)), (10, .bool (cond mt_ true (decide ((farP (pl s ((cs.getD (own.getD m_ default).toNat default).cell)) (pl s (cells.getD k default))) ≤ (cs.getD (own.getD m_ default).toNat default).far)))), (11, iv ((m_ : Int) + 1))]) (rs := [.rng ((m_ : Int) + 1)]) [1, 2, 3, 4, 9, 10, 11] (.cons (rg (by omega)) <| .nil) (by kernel_rfl) fun a w hF hE => ?_)
      replace hO := hO.ext hE; clear hE
      exact ⟨_, by omega, m_ + 1, _, rfl, by omega, by rw [any_take _ (by omega), ← hmt]; cases mt_ <;> rfl, hF, hO⟩
    · refine (W_false ((evOp hF (by kernel_rfl)).trans (congrArg Value.bool hc3)) ?_)
      have hc3_ := of_decide_eq_false hc3
      refine (W_exit ?_)
      refine W_seq (region_q {} TBok hF (F' := [(1, .slice cp cn cc), (2, .slice op on oc), (3, .slice ep en ec), (4, pv b1), (9, iv (k : Int)), (51, .bool (!mt_))]) (rs := []) [1, 2, 3, 4, 9, 51] .nil (by kernel_rfl) fun a w hF hE => ?_)
      replace hO := hO.ext hE; clear hE
      rcases Bool.eq_false_or_eq_true (!mt_) with hc4 | hc4
      · refine (W_true ((evOp hF (by kernel_rfl)).trans (congrArg Value.bool hc4)) ?_)
        refine W_seq (region_q {} TBok hF (F' := [(1, .slice cp cn cc), (2, .slice op on oc), (3, .slice ep en ec), (4, pv b1), (8, .bool false), (9, iv (k : Int))]) (rs := []) [1, 2, 3, 4, 8, 9] .nil (by kernel_rfl) fun a w hF hE => ?_)
        replace hO := hO.ext hE; clear hE
        refine W_ret ?_
        show bodyPostM (FW none) 0 _ _ _ Exit.ret a w
        have hmt1 : mt_ = false := by have h_ := hc4; simpa using h_
        rw [hmt1, List.take_of_length_le (by omega)] at hmt
        have hna : rallB s cs own cells = false := List.all_eq_false.2 ⟨_, getD_mem (show k < cells.length by omega), by rw [← hmt]; simp⟩
        exact leave_r TBok hF (.nil _) (vs := [.bool false]) (rs := []) .nil (by kernel_rfl) ⟨by rw [hna]; rfl, hO.kp⟩
      · refine (W_false ((evOp hF (by kernel_rfl)).trans (congrArg Value.bool hc4)) ?_)
        refine (W_skip ?_)
        refine (region_q {} TBok hF (F' := [(1, .slice cp cn cc), (2, .slice op on oc), (3, .slice ep en ec), (4, pv b1), (9, iv ((k : Int) + 1))]) (rs := [.rng ((k : Int) + 1)]) [1, 2, 3, 4, 9] (.cons (rg (by omega)) <| .nil) (by kernel_rfl) fun a w hF hE => ?_)
        replace hO := hO.ext hE; clear hE
        have hmt1 : mt_ = true := by have h_ := hc4; simpa using h_
        rw [hmt1, List.take_of_length_le (by omega)] at hmt
        exact ⟨_, by omega, k + 1, rfl, by omega, by rw [take_all _ (by omega), hall, ← hmt]; rfl, hF, hO⟩
  · refine (W_false ((evOp hF (by kernel_rfl)).trans (congrArg Value.bool hc2)) ?_)
    have hc2_ := of_decide_eq_false hc2
    refine (W_exit ?_)
    refine W_seq (region_q {} TBok hF (F' := [(8, .bool true)]) (rs := []) [8] .nil (by kernel_rfl) fun a w hF hE => ?_)
    replace hO := hO.ext hE; clear hE
    refine W_ret ?_
    show bodyPostM (FW none) 0 _ _ _ Exit.ret a w
    rw [List.take_of_length_le (by omega)] at hall
    exact leave_r TBok hF (.nil _) (vs := [.bool true]) (rs := []) .nil (by kernel_rfl) ⟨by rw [rallB, hall]; rfl, hO.kp⟩

set_option maxHeartbeats 4000000 in
set_option maxRecDepth 100000 in
theorem swum_calls (s : Sea) (v : SV) (bits : List Int) (bp : Option Addr) (bn bc : Nat) (w0 : World) (hs : SeaR w0.heap.size w0 v s) (hv : seaB s = true) (hbi : Rd encI 1 w0.heap.size w0 bp bn bits) :
    Calls Try.prog 33 #[.agg (sS6 s v), .slice bp bn bc] w0 (fun e w' => ∃ p n c_, (swL s bits s.hours.toNat).length = n ∧ e = .returned (.slice p n c_) ∧ Own w0 none_ [rdR encI 1 p n (swL s bits s.hours.toNat)] w') := by
  have hl1 := hs.land.len; have hl2 := hs.drift.len; have hs1 := hs.land.size; have hs2 := hs.drift.size; have hr_ := hs.rg; unfold i64 at hr_; have hv1 := sea_ok hv; have hbl := hbi.len; have hbs := hbi.size
  refine calls_of_W Try.func33 rfl (by kernel_rfl) (args := [.agg (sS6 s v), .slice bp bn bc]) fun a hF => ?_
  replace hF : Fr 102 [] [(0, .agg (sS6 s v)), (1, .slice bp bn bc)] a := hF
  have hO : Own w0 none_ [] w0 := Own.start w0 _
  refine W_seq (region_seq ?_)
  refine op_box (i := 0) (t := 25) (v := .agg (sS6 s v)) (d := 2) hF hO (by kernel_rfl) fun a w b1 hF hO _ => ?_
  refine seq_quiet {} TBok hF (F' := [(1, .slice bp bn bc), (2, pv b1), (4, .slice none 0 0)]) (rs := []) [1] [] [1, 2, 4] .nil (by kernel_rfl) fun a w hF hE => ?_
  replace hO := hO.ext hE; clear hE
  refine W_seq (region_q {} TBok hF (F' := [(1, .slice bp bn bc), (2, pv b1), (4, .slice none 0 0), (5, .slice none 0 0)]) (rs := []) [1, 2, 4, 5] .nil (by kernel_rfl) fun a w hF hE => ?_)
  replace hO := hO.ext hE; clear hE
  refine W_seq ?_
  refine W_seq (region_q {} TBok hF (F' := [(1, .slice bp bn bc), (2, pv b1), (4, .slice none 0 0), (5, .slice none 0 0), (6, iv 0)]) (rs := []) [1, 2, 4, 5, 6] .nil (by kernel_rfl) fun a w hF hE => ?_)
  replace hO := hO.ext hE; clear hE
  refine (W_block ?_)
  replace hO := hO.nilRow 3 1
  replace hF := hF.sel [1, 2, 5, 6]
  refine (W_loop (fun m a w => ∃ (k : Nat), ∃ (p_ : Option Addr), ∃ (cc_ : Nat), m = s.hours.toNat - k ∧ (k ≤ s.hours.toNat ∧ (swL s bits k).length = k) ∧ Fr 102 [] [(1, .slice bp bn bc), (2, pv b1), (5, .slice p_ k cc_), (6, iv (k : Int))] a ∧ Own w0 none_ [cel b1 (sS6 s v) 25, rowR 3 1 (.slice p_ k cc_) k ((swL s bits k).flatMap encI)] w) _ ⟨0, none, 0, rfl, ⟨Nat.zero_le _, rfl⟩, hF, hO⟩ ?_)
  clear hF hO
  rintro _ a w ⟨k, p_, cc_, rfl, hk, hF, hO⟩
  refine W_seq ?_
  refine W_seq (region_q {} TBok hF (F' := [(1, .slice bp bn bc), (2, pv b1), (5, .slice p_ k cc_), (6, iv (k : Int)), (15, .bool (decide ((k : Int) < s.hours)))]) (rs := [.ld ⟨b1, 3, none⟩ (iv s.hours)]) [1, 2, 5, 6, 15] (.cons (ldo hO.st 0 rfl 3 rfl) <| .nil) (by kernel_rfl) fun a w hF hE => ?_)
  replace hO := hO.ext hE; clear hE
  rcases Bool.eq_false_or_eq_true (decide ((k : Int) < s.hours)) with hc2 | hc2
  · refine (W_true ((evOp hF (by kernel_rfl)).trans (congrArg Value.bool hc2)) ?_)
    have hc2_ := of_decide_eq_true hc2
    refine (W_skip ?_)
    refine W_seq (W_block ?_)
    refine W_seq (region_q {} TBok hF (F' := [(1, .slice bp bn bc), (2, pv b1), (5, .slice p_ k cc_), (6, iv (k : Int)), (7, .slice none 0 0)]) (rs := []) [1, 2, 5, 6, 7] .nil (by kernel_rfl) fun a w hF hE => ?_)
    replace hO := hO.ext hE; clear hE
    refine W_seq ?_
    refine W_seq (region_q {} TBok hF (F' := [(1, .slice bp bn bc), (2, pv b1), (5, .slice p_ k cc_), (6, iv (k : Int)), (7, .slice none 0 0), (8, iv 0)]) (rs := []) [1, 2, 5, 6, 7, 8] .nil (by kernel_rfl) fun a w hF hE => ?_)
    replace hO := hO.ext hE; clear hE
    refine (W_block ?_)
    replace hO := hO.nilRow 3 1
    have hok_ := swL_ok (s := s) (bits := bits) hk.2
    refine (W_loop (fun m a w => ∃ (c_ : Nat), ∃ (p2_ : Option Addr), ∃ (m_ : Nat), ∃ (c3_ : Nat), m = (nC s).toNat - c_ ∧ c_ ≤ (nC s).toNat ∧ (nxtK s k (swL s bits k) c_).length = m_ ∧ Fr 102 [] [(1, .slice bp bn bc), (2, pv b1), (5, .slice p_ k cc_), (6, iv (k : Int)), (7, .slice p2_ m_ c3_), (8, iv (c_ : Int))] a ∧ Own w0 none_ [cel b1 (sS6 s v) 25, rowR 3 1 (.slice p_ k cc_) k ((swL s bits k).flatMap encI), rowR 3 1 (.slice p2_ m_ c3_) m_ ((nxtK s k (swL s bits k) c_).flatMap encI)] w) _ ⟨0, none, 0, 0, rfl, Nat.zero_le _, rfl, hF, hO⟩ ?_)
    clear hF hO
    rintro _ a w ⟨c_, p2_, m_, c3_, rfl, hc_, hnl, hF, hO⟩
    have hnk := nxtK_len s k (swL s bits k) c_
    refine W_seq ?_
    refine W_seq (region_q {} TBok hF (F' := [(1, .slice bp bn bc), (2, pv b1), (5, .slice p_ k cc_), (6, iv (k : Int)), (7, .slice p2_ m_ c3_), (8, iv (c_ : Int)), (24, .bool (decide ((c_ : Int) < (s.wide * s.high))))]) (rs := [.ld ⟨b1, 0, none⟩ (iv s.wide), .ld ⟨b1, 1, none⟩ (iv s.high), .rng (s.wide * s.high)]) [1, 2, 5, 6, 7, 8, 24] (.cons (ldo hO.st 0 rfl 0 rfl) <| .cons (ldo hO.st 0 rfl 1 rfl) <| .cons (rg (by unfold nC at hv1; omega)) <| .nil) (by kernel_rfl) fun a w hF hE => ?_)
    replace hO := hO.ext hE; clear hE
    rcases Bool.eq_false_or_eq_true (decide ((c_ : Int) < (s.wide * s.high))) with hc3 | hc3
    · refine (W_true ((evOp hF (by kernel_rfl)).trans (congrArg Value.bool hc3)) ?_)
      have hlc : (c_ : Int) < nC s := of_decide_eq_true (by assumption : (decide ((c_ : Int) < (s.wide * s.high))) = true)
      have hpb := pl_bd (s := s) (c := (c_ : Int)) (by omega) (by omega) (by omega) (by omega)
      unfold pl at hpb; simp only [] at hpb
      refine (W_skip ?_)
      refine W_seq (W_block ?_)
      refine W_seq ?_
      refine W_seq (region_q {} TBok hF (F' := [(1, .slice bp bn bc), (2, pv b1), (5, .slice p_ k cc_), (6, iv (k : Int)), (7, .slice p2_ m_ c3_), (8, iv (c_ : Int)), (31, .bool (decide ((placeI s.land (c_ : Int)) ≥ 0)))]) (rs := [.ld ⟨b1, 2, none⟩ (.slice v.la v.ln v.lc), .call 35 #[.slice v.la v.ln v.lc, iv (c_ : Int)] (iv (placeI s.land (c_ : Int)))]) [1, 2, 5, 6, 7, 8, 31] (.cons (ldo hO.st 0 rfl 2 rfl) <| .cons (fun w hE => Place_calls s.land v.la v.ln v.lc (c_ : Int) w (hs.land.upM (hO.st w hE).kp nom (Nat.le_refl _))) <| .nil) (by kernel_rfl) fun a w hF hE => ?_)
      replace hO := hO.ext hE; clear hE
      rcases Bool.eq_false_or_eq_true (decide ((placeI s.land (c_ : Int)) ≥ 0)) with hc4 | hc4
      · refine (W_true ((evOp hF (by kernel_rfl)).trans (congrArg Value.bool hc4)) ?_)
        have hc4_ := of_decide_eq_true hc4
        refine (W_exit ?_)
        refine (region_q {} TBok hF (F' := [(1, .slice bp bn bc), (2, pv b1), (5, .slice p_ k cc_), (6, iv (k : Int)), (7, .slice p2_ m_ c3_), (8, iv ((c_ : Int) + 1))]) (rs := [.rng ((c_ : Int) + 1)]) [1, 2, 5, 6, 7, 8] (.cons (rg (by omega)) <| .nil) (by kernel_rfl) fun a w hF hE => ?_)
        replace hO := hO.ext hE; clear hE
        have hld : isLand s c_ = true := by have h_ := placeI_neg s.land (c_ : Int); have h2_ := hc4; rw [isLand, landF_pl]; by_cases h3_ : (c_ : Int) ∈ s.land; exact decide_eq_true h3_; rw [decide_eq_false h3_] at h_; simp at h_ h2_; omega
        have hnb : nxB s k (swL s bits k) c_ = false := by unfold nxB; rw [hld]; rfl
        replace hO : Own w0 none_ [cel b1 (sS6 s v) 25, rowR 3 1 (.slice p_ k cc_) k ((swL s bits k).flatMap encI), rowR 3 1 (.slice p2_ m_ c3_) m_ ((nxtK s k (swL s bits k) c_).flatMap encI)] w := hO
        replace hO : Own w0 none_ [cel b1 (sS6 s v) 25, rowR 3 1 (.slice p_ k cc_) k ((swL s bits k).flatMap encI), rowR 3 1 (.slice p2_ m_ c3_) m_ ((nxtK s k (swL s bits k) (c_ + 1)).flatMap encI)] w := hO.cast (by rw [nxtK, hnb, cond_false])
        exact ⟨_, by omega, c_ + 1, p2_, m_, c3_, rfl, by omega, by rw [nxtK, hnb, cond_false]; exact hnl, hF, hO⟩
      · refine (W_false ((evOp hF (by kernel_rfl)).trans (congrArg Value.bool hc4)) ?_)
        have hc4_ := of_decide_eq_false hc4
        refine (W_skip ?_)
        refine W_seq ?_
        refine W_seq (region_q {} TBok hF (F' := [(1, .slice bp bn bc), (2, pv b1), (5, .slice p_ k cc_), (6, iv (k : Int)), (7, .slice p2_ m_ c3_), (8, iv (c_ : Int)), (33, .bool (decide ((k : Int) > 0)))]) (rs := []) [1, 2, 5, 6, 7, 8, 33] .nil (by kernel_rfl) fun a w hF hE => ?_)
        replace hO := hO.ext hE; clear hE
        rcases Bool.eq_false_or_eq_true (decide ((k : Int) > 0)) with hc5 | hc5
        · refine (W_true ((evOp hF (by kernel_rfl)).trans (congrArg Value.bool hc5)) ?_)
          have hk0 := of_decide_eq_true (by assumption : (decide ((k : Int) > 0)) = true)
          have hfc := mem_cellsA (hok_.1 (k - 1) (by omega) (by omega))
          unfold tkF at hfc
          rw [show k - 1 = ((k : Int) - 1).toNat by omega] at hfc
          have hpf := pl_bd (s := s) (c := (swL s bits k).getD ((k : Int) - 1).toNat default) (by omega) (by omega) (by omega) (by omega)
          unfold pl at hpf; simp only [] at hpf
          have hst := st_ok hv (i := ((k : Int) - 1).toNat) (by omega)
          refine W_seq (region_q {} TBok hF (F' := [(1, .slice bp bn bc), (2, pv b1), (5, .slice p_ k cc_), (6, iv (k : Int)), (7, .slice p2_ m_ c3_), (8, iv (c_ : Int)), (9, iv ((swL s bits k).getD ((k : Int) - 1).toNat default))]) (rs := [.rng ((k : Int) - 1), .idx p_ k ((k : Int) - 1) 1 (adr p_ 1 ((k : Int) - 1)), .ld (adr p_ 1 ((k : Int) - 1)) (iv ((swL s bits k).getD ((k : Int) - 1).toNat default))]) [1, 2, 5, 6, 7, 8, 9] (.cons (rg (by omega)) <| .cons (ix (enc := encI) (xs := (swL s bits k)) ((rd_row (fun _ => rfl) (by decide) hO 1 rfl (by omega))) (by omega) (by omega)) <| .cons (ldR (enc := encI) (xs := (swL s bits k)) (a := p_) (i := ((k : Int) - 1)) (fun x_ hx_ => (rd_row (fun _ => rfl) (by decide) (hO.st x_ hx_) 1 rfl (by omega))) (by omega) (by omega) 0 rfl) <| .nil) (by kernel_rfl) fun a w hF hE => ?_)
          replace hO := hO.ext hE; clear hE
          refine W_seq (region_d { md := [(3, 3), (7, 3), (20, 3), (24, 3)] } mixed TBok hF (F' := [(1, .slice bp bn bc), (2, pv b1), (5, .slice p_ k cc_), (6, iv (k : Int)), (7, .slice p2_ m_ c3_), (8, iv (c_ : Int)), (10, iv (((Int.tmod (c_ : Int) s.wide) - (Int.tmod ((swL s bits k).getD ((k : Int) - 1).toNat default) s.wide)) - (s.drift.getD ((k : Int) - 1).toNat default).e)), (11, iv (((Int.tdiv (c_ : Int) s.wide) - (Int.tdiv ((swL s bits k).getD ((k : Int) - 1).toNat default) s.wide)) - (s.drift.getD ((k : Int) - 1).toNat default).n))]) (rs := [.ld ⟨b1, 0, none⟩ (iv s.wide), .raw (rb .rem 3 (.tmp 39) (.tmp 41) (iv (c_ : Int)) (iv s.wide)) (iv (Int.tmod (c_ : Int) s.wide)), .ld ⟨b1, 0, none⟩ (iv s.wide), .raw (rb .rem 3 (.tmp 43) (.tmp 45) (iv ((swL s bits k).getD ((k : Int) - 1).toNat default)) (iv s.wide)) (iv (Int.tmod ((swL s bits k).getD ((k : Int) - 1).toNat default) s.wide)), .rng ((Int.tmod (c_ : Int) s.wide) - (Int.tmod ((swL s bits k).getD ((k : Int) - 1).toNat default) s.wide)), .ld ⟨b1, 4, none⟩ (.slice v.da v.dn v.dc), .rng ((k : Int) - 1), .idx v.da v.dn ((k : Int) - 1) 2 (adr v.da 2 ((k : Int) - 1)), .ld (adr v.da 2 ((k : Int) - 1)) (iv ((s.drift.getD ((k : Int) - 1).toNat default).e)), .rng (((Int.tmod (c_ : Int) s.wide) - (Int.tmod ((swL s bits k).getD ((k : Int) - 1).toNat default) s.wide)) - (s.drift.getD ((k : Int) - 1).toNat default).e), .ld ⟨b1, 0, none⟩ (iv s.wide), .raw (rb .quo 3 (.tmp 56) (.tmp 58) (iv (c_ : Int)) (iv s.wide)) (iv (Int.tdiv (c_ : Int) s.wide)), .ld ⟨b1, 0, none⟩ (iv s.wide), .raw (rb .quo 3 (.tmp 60) (.tmp 62) (iv ((swL s bits k).getD ((k : Int) - 1).toNat default)) (iv s.wide)) (iv (Int.tdiv ((swL s bits k).getD ((k : Int) - 1).toNat default) s.wide)), .rng ((Int.tdiv (c_ : Int) s.wide) - (Int.tdiv ((swL s bits k).getD ((k : Int) - 1).toNat default) s.wide)), .ld ⟨b1, 4, none⟩ (.slice v.da v.dn v.dc), .rng ((k : Int) - 1), .idx v.da v.dn ((k : Int) - 1) 2 (adr v.da 2 ((k : Int) - 1)), .ld ((adr v.da 2 ((k : Int) - 1)).add 1) (iv ((s.drift.getD ((k : Int) - 1).toNat default).n)), .rng (((Int.tdiv (c_ : Int) s.wide) - (Int.tdiv ((swL s bits k).getD ((k : Int) - 1).toNat default) s.wide)) - (s.drift.getD ((k : Int) - 1).toNat default).n)]) [1, 2, 5, 6, 7, 8, 10, 11] (.cons (ldo hO.st 0 rfl 0 rfl) <| .cons (raw_tmod (by omega)) <| .cons (ldo hO.st 0 rfl 0 rfl) <| .cons (raw_tmod (by omega)) <| .cons (rg (by omega)) <| .cons (ldo hO.st 0 rfl 4 rfl) <| .cons (rg (by omega)) <| .cons (ix hs.drift (by omega) (by omega)) <| .cons (ldx hO.st nom hs.drift (by omega) (by omega) 0 rfl) <| .cons (rg (by omega)) <| .cons (ldo hO.st 0 rfl 0 rfl) <| .cons (raw_tquo (by omega)) <| .cons (ldo hO.st 0 rfl 0 rfl) <| .cons (raw_tquo (by omega)) <| .cons (rg (by omega)) <| .cons (ldo hO.st 0 rfl 4 rfl) <| .cons (rg (by omega)) <| .cons (ix hs.drift (by omega) (by omega)) <| .cons (ldx hO.st nom hs.drift (by omega) (by omega) 1 rfl) <| .cons (rg (by omega)) <| .nil) (by kernel_rfl) (by kernel_rfl) fun a w hF hE => ?_)
          replace hO := hO.ext hE; clear hE
          refine W_seq (region_d { sy := [5] } mixed TBok hF (F' := [(1, .slice bp bn bc), (2, pv b1), (5, .slice p_ k cc_), (6, iv (k : Int)), (7, .slice p2_ m_ c3_), (8, iv (c_ : Int)), (84, .bool (cond (decide ((absI (((Int.tmod (c_ : Int) s.wide) - (Int.tmod ((swL s bits k).getD ((k : Int) - 1).toNat default) s.wide)) - (s.drift.getD ((k : Int) - 1).toNat default).e)) > s.speed)) true (decide ((absI (((Int.tdiv (c_ : Int) s.wide) - (Int.tdiv ((swL s bits k).getD ((k : Int) - 1).toNat default) s.wide)) - (s.drift.getD ((k : Int) - 1).toNat default).n)) > s.speed))))]) (rs := [.call 74 #[iv (((Int.tmod (c_ : Int) s.wide) - (Int.tmod ((swL s bits k).getD ((k : Int) - 1).toNat default) s.wide)) - (s.drift.getD ((k : Int) - 1).toNat default).e)] (iv (absI (((Int.tmod (c_ : Int) s.wide) - (Int.tmod ((swL s bits k).getD ((k : Int) - 1).toNat default) s.wide)) - (s.drift.getD ((k : Int) - 1).toNat default).e))), .ld ⟨b1, 5, none⟩ (iv s.speed), .und (!(decide ((absI (((Int.tmod (c_ : Int) s.wide) - (Int.tmod ((swL s bits k).getD ((k : Int) - 1).toNat default) s.wide)) - (s.drift.getD ((k : Int) - 1).toNat default).e)) > s.speed))) (.call 74 #[iv (((Int.tdiv (c_ : Int) s.wide) - (Int.tdiv ((swL s bits k).getD ((k : Int) - 1).toNat default) s.wide)) - (s.drift.getD ((k : Int) - 1).toNat default).n)] (iv (absI (((Int.tdiv (c_ : Int) s.wide) - (Int.tdiv ((swL s bits k).getD ((k : Int) - 1).toNat default) s.wide)) - (s.drift.getD ((k : Int) - 1).toNat default).n)))), .und (!(decide ((absI (((Int.tmod (c_ : Int) s.wide) - (Int.tmod ((swL s bits k).getD ((k : Int) - 1).toNat default) s.wide)) - (s.drift.getD ((k : Int) - 1).toNat default).e)) > s.speed))) (.ld ⟨b1, 5, none⟩ (iv s.speed))]) [1, 2, 5, 6, 7, 8, 84] (.cons (fun w _ => Abs_calls _ w (by omega)) <| .cons (ldo hO.st 0 rfl 5 rfl) <| .cons (fun hg => (fun w _ => Abs_calls _ w (by omega))) <| .cons (fun hg => (ldo hO.st 0 rfl 5 rfl)) <| .nil) (by kernel_rfl) (by kernel_rfl) fun a w hF hE => ?_)
          replace hO := hO.ext hE; clear hE
          rcases Bool.eq_false_or_eq_true (cond (decide ((absI (((Int.tmod (c_ : Int) s.wide) - (Int.tmod ((swL s bits k).getD ((k : Int) - 1).toNat default) s.wide)) - (s.drift.getD ((k : Int) - 1).toNat default).e)) > s.speed)) true (decide ((absI (((Int.tdiv (c_ : Int) s.wide) - (Int.tdiv ((swL s bits k).getD ((k : Int) - 1).toNat default) s.wide)) - (s.drift.getD ((k : Int) - 1).toNat default).n)) > s.speed))) with hc6 | hc6
          · refine (W_true ((evOp hF (by kernel_rfl)).trans (congrArg Value.bool hc6)) ?_)
            refine (W_exit ?_)
            refine (region_q {} TBok hF (F' := [(1, .slice bp bn bc), (2, pv b1), (5, .slice p_ k cc_), (6, iv (k : Int)), (7, .slice p2_ m_ c3_), (8, iv ((c_ : Int) + 1))]) (rs := [.rng ((c_ : Int) + 1)]) [1, 2, 5, 6, 7, 8] (.cons (rg (by omega)) <| .nil) (by kernel_rfl) fun a w hF hE => ?_)
            replace hO := hO.ext hE; clear hE
            have hld : isLand s c_ = false := by have h_ := placeI_neg s.land (c_ : Int); have h2_ := hc4; rw [isLand, landF_pl]; by_cases h3_ : (c_ : Int) ∈ s.land; rw [decide_eq_true h3_] at h_; simp at h_ h2_; omega; exact decide_eq_false h3_
            have hsa := step_abs (s := s) (h := (k : Int) - 1) (pl s ((swL s bits k).getD ((k : Int) - 1).toNat default)) (pl s (c_ : Int)) (by omega)
            rw [show (cond (decide (absI ((pl s (c_ : Int)).1 - (pl s ((swL s bits k).getD ((k : Int) - 1).toNat default)).1 - (s.drift.getD ((k : Int) - 1).toNat default).e) > s.speed)) true (decide (absI ((pl s (c_ : Int)).2 - (pl s ((swL s bits k).getD ((k : Int) - 1).toNat default)).2 - (s.drift.getD ((k : Int) - 1).toNat default).n) > s.speed))) = true from hc6] at hsa
            have hnb : nxB s k (swL s bits k) c_ = false := by unfold nxB stepH; rw [hld, hc5, cond_false, cond_true]; simpa using hsa.symm
            replace hO : Own w0 none_ [cel b1 (sS6 s v) 25, rowR 3 1 (.slice p_ k cc_) k ((swL s bits k).flatMap encI), rowR 3 1 (.slice p2_ m_ c3_) m_ ((nxtK s k (swL s bits k) c_).flatMap encI)] w := hO
            replace hO : Own w0 none_ [cel b1 (sS6 s v) 25, rowR 3 1 (.slice p_ k cc_) k ((swL s bits k).flatMap encI), rowR 3 1 (.slice p2_ m_ c3_) m_ ((nxtK s k (swL s bits k) (c_ + 1)).flatMap encI)] w := hO.cast (by rw [nxtK, hnb, cond_false])
            exact ⟨_, by omega, c_ + 1, p2_, m_, c3_, rfl, by omega, by rw [nxtK, hnb, cond_false]; exact hnl, hF, hO⟩
          · refine (W_false ((evOp hF (by kernel_rfl)).trans (congrArg Value.bool hc6)) ?_)
            refine (W_skip ?_)
            refine (region_seq ?_)
            refine seq_quiet {} TBok hF (F' := [(1, .slice bp bn bc), (2, pv b1), (5, .slice p_ k cc_), (6, iv (k : Int)), (7, .slice p2_ m_ c3_), (8, iv (c_ : Int)), (85, .slice p2_ m_ c3_), (86, iv (c_ : Int))]) (rs := []) [0, 1] [2, 3, 4] [1, 2, 5, 6, 7, 8, 85, 86] .nil (by kernel_rfl) fun a w hF hE => ?_
            replace hO := hO.ext hE; clear hE
            refine op_bsl (i := 2) (t := 22) (e := 3) (len := 1) (ps := [(0, iv (c_ : Int))]) (d := 87) (sz := 1) (cs := #[iv (c_ : Int)]) (z := iv 0) hF hO (by kernel_rfl) (by kernel_rfl) (by kernel_rfl) (by kernel_rfl) (by kernel_rfl) fun a w b7 hF hO _ => ?_
            replace hO : Own w0 none_ [cel b1 (sS6 s v) 25, rowR 3 1 (.slice p_ k cc_) k ((swL s bits k).flatMap encI), rowR 3 1 (.slice p2_ m_ c3_) m_ ((nxtK s k (swL s bits k) c_).flatMap encI), cel b7 #[iv (c_ : Int)] 3] w := hO
            refine op_appR (i := 3) (t := 22) (ty := 22) (e := 3) (d := 88) rowT22 hF hO (by kernel_rfl) 2 rfl 3 rfl (by kernel_rfl) (by omega) fun a w p8 c9 hF hO hx => ?_
            clear hx
            refine seq_quiet {} TBok hF (F' := [(1, .slice bp bn bc), (2, pv b1), (5, .slice p_ k cc_), (6, iv (k : Int)), (7, .slice p8 (m_ + 1) c9), (8, iv (c_ : Int))]) (rs := []) [4] [] [1, 2, 5, 6, 7, 8] .nil (by kernel_rfl) fun a w hF hE => ?_
            replace hO := hO.ext hE; clear hE
            refine (region_q {} TBok hF (F' := [(1, .slice bp bn bc), (2, pv b1), (5, .slice p_ k cc_), (6, iv (k : Int)), (7, .slice p8 (m_ + 1) c9), (8, iv ((c_ : Int) + 1))]) (rs := [.rng ((c_ : Int) + 1)]) [1, 2, 5, 6, 7, 8] (.cons (rg (by omega)) <| .nil) (by kernel_rfl) fun a w hF hE => ?_)
            replace hO := hO.ext hE; clear hE
            have hld : isLand s c_ = false := by have h_ := placeI_neg s.land (c_ : Int); have h2_ := hc4; rw [isLand, landF_pl]; by_cases h3_ : (c_ : Int) ∈ s.land; rw [decide_eq_true h3_] at h_; simp at h_ h2_; omega; exact decide_eq_false h3_
            have hsa := step_abs (s := s) (h := (k : Int) - 1) (pl s ((swL s bits k).getD ((k : Int) - 1).toNat default)) (pl s (c_ : Int)) (by omega)
            rw [show (cond (decide (absI ((pl s (c_ : Int)).1 - (pl s ((swL s bits k).getD ((k : Int) - 1).toNat default)).1 - (s.drift.getD ((k : Int) - 1).toNat default).e) > s.speed)) true (decide (absI ((pl s (c_ : Int)).2 - (pl s ((swL s bits k).getD ((k : Int) - 1).toNat default)).2 - (s.drift.getD ((k : Int) - 1).toNat default).n) > s.speed))) = false from hc6] at hsa
            have hnb : nxB s k (swL s bits k) c_ = true := by unfold nxB stepH; rw [hld, hc5, cond_false, cond_true]; simpa using hsa.symm
            replace hO := hO.drop1 3
            replace hO : Own w0 none_ [cel b1 (sS6 s v) 25, rowR 3 1 (.slice p_ k cc_) k ((swL s bits k).flatMap encI), rowR 3 1 (.slice p8 (m_ + 1) c9) (m_ + 1) (((nxtK s k (swL s bits k) c_).flatMap encI) ++ (#[iv (c_ : Int)] : Array Value).toList)] w := hO
            replace hO : Own w0 none_ [cel b1 (sS6 s v) 25, rowR 3 1 (.slice p_ k cc_) k ((swL s bits k).flatMap encI), rowR 3 1 (.slice p8 (m_ + 1) c9) (m_ + 1) ((nxtK s k (swL s bits k) (c_ + 1)).flatMap encI)] w := hO.cast (by rw [nxtK, hnb, cond_true, List.flatMap_append] <;> rfl)
            exact ⟨_, by omega, c_ + 1, p8, (m_ + 1), c9, rfl, by omega, by rw [nxtK, hnb, cond_true]; rw [List.length_append, hnl]; rfl, hF, hO⟩
        · refine (W_false ((evOp hF (by kernel_rfl)).trans (congrArg Value.bool hc5)) ?_)
          have hc5_ := of_decide_eq_false hc5
          refine (W_skip ?_)
          refine (region_seq ?_)
          refine seq_quiet {} TBok hF (F' := [(1, .slice bp bn bc), (2, pv b1), (5, .slice p_ k cc_), (6, iv (k : Int)), (7, .slice p2_ m_ c3_), (8, iv (c_ : Int)), (85, .slice p2_ m_ c3_), (86, iv (c_ : Int))]) (rs := []) [0, 1] [2, 3, 4] [1, 2, 5, 6, 7, 8, 85, 86] .nil (by kernel_rfl) fun a w hF hE => ?_
          replace hO := hO.ext hE; clear hE
          refine op_bsl (i := 2) (t := 22) (e := 3) (len := 1) (ps := [(0, iv (c_ : Int))]) (d := 87) (sz := 1) (cs := #[iv (c_ : Int)]) (z := iv 0) hF hO (by kernel_rfl) (by kernel_rfl) (by kernel_rfl) (by kernel_rfl) (by kernel_rfl) fun a w b10 hF hO _ => ?_
          replace hO : Own w0 none_ [cel b1 (sS6 s v) 25, rowR 3 1 (.slice p_ k cc_) k ((swL s bits k).flatMap encI), rowR 3 1 (.slice p2_ m_ c3_) m_ ((nxtK s k (swL s bits k) c_).flatMap encI), cel b10 #[iv (c_ : Int)] 3] w := hO
          refine op_appR (i := 3) (t := 22) (ty := 22) (e := 3) (d := 88) rowT22 hF hO (by kernel_rfl) 2 rfl 3 rfl (by kernel_rfl) (by omega) fun a w p11 c12 hF hO hx => ?_
          clear hx
          refine seq_quiet {} TBok hF (F' := [(1, .slice bp bn bc), (2, pv b1), (5, .slice p_ k cc_), (6, iv (k : Int)), (7, .slice p11 (m_ + 1) c12), (8, iv (c_ : Int))]) (rs := []) [4] [] [1, 2, 5, 6, 7, 8] .nil (by kernel_rfl) fun a w hF hE => ?_
          replace hO := hO.ext hE; clear hE
          refine (region_q {} TBok hF (F' := [(1, .slice bp bn bc), (2, pv b1), (5, .slice p_ k cc_), (6, iv (k : Int)), (7, .slice p11 (m_ + 1) c12), (8, iv ((c_ : Int) + 1))]) (rs := [.rng ((c_ : Int) + 1)]) [1, 2, 5, 6, 7, 8] (.cons (rg (by omega)) <| .nil) (by kernel_rfl) fun a w hF hE => ?_)
          replace hO := hO.ext hE; clear hE
          have hld : isLand s c_ = false := by have h_ := placeI_neg s.land (c_ : Int); have h2_ := hc4; rw [isLand, landF_pl]; by_cases h3_ : (c_ : Int) ∈ s.land; rw [decide_eq_true h3_] at h_; simp at h_ h2_; omega; exact decide_eq_false h3_
          have hnb : nxB s k (swL s bits k) c_ = true := by unfold nxB stepH; rw [hld, hc5]; rfl
          replace hO := hO.drop1 3
          replace hO : Own w0 none_ [cel b1 (sS6 s v) 25, rowR 3 1 (.slice p_ k cc_) k ((swL s bits k).flatMap encI), rowR 3 1 (.slice p11 (m_ + 1) c12) (m_ + 1) (((nxtK s k (swL s bits k) c_).flatMap encI) ++ (#[iv (c_ : Int)] : Array Value).toList)] w := hO
          replace hO : Own w0 none_ [cel b1 (sS6 s v) 25, rowR 3 1 (.slice p_ k cc_) k ((swL s bits k).flatMap encI), rowR 3 1 (.slice p11 (m_ + 1) c12) (m_ + 1) ((nxtK s k (swL s bits k) (c_ + 1)).flatMap encI)] w := hO.cast (by rw [nxtK, hnb, cond_true, List.flatMap_append] <;> rfl)
          exact ⟨_, by omega, c_ + 1, p11, (m_ + 1), c12, rfl, by omega, by rw [nxtK, hnb, cond_true]; rw [List.length_append, hnl]; rfl, hF, hO⟩
    · refine (W_false ((evOp hF (by kernel_rfl)).trans (congrArg Value.bool hc3)) ?_)
      have hlc : ¬ (c_ : Int) < nC s := of_decide_eq_false (by assumption : (decide ((c_ : Int) < (s.wide * s.high))) = false)
      refine (W_exit ?_)
      refine W_seq ?_
      refine W_seq (region_q {} TBok hF (F' := [(1, .slice bp bn bc), (2, pv b1), (5, .slice p_ k cc_), (6, iv (k : Int)), (7, .slice p2_ m_ c3_), (91, .bool ((m_ : Int) == 0))]) (rs := []) [1, 2, 5, 6, 7, 91] .nil (by kernel_rfl) fun a w hF hE => ?_)
      replace hO := hO.ext hE; clear hE
      rcases Bool.eq_false_or_eq_true ((m_ : Int) == 0) with hc13 | hc13
      · refine (W_true ((evOp hF (by kernel_rfl)).trans (congrArg Value.bool hc13)) ?_)
        have hcc : c_ = (nC s).toNat := by omega
        have hnx := nxt_eq s k (swL s bits k)
        rw [← hcc] at hnx
        have hne : nextL s k (swL s bits k) = [] := by rw [← hnx]; exact List.length_eq_zero_iff.1 (by have h_ := (by assumption : ((m_ : Int) == 0) = true); simp at h_; omega)
        refine W_seq (region_q {} TBok hF (F' := [(1, .slice bp bn bc), (2, pv b1), (4, .slice p_ k cc_), (5, .slice p_ k cc_), (6, iv (k : Int)), (7, .slice p2_ m_ c3_)]) (rs := []) [1, 2, 4, 5, 6, 7] .nil (by kernel_rfl) fun a w hF hE => ?_)
        replace hO := hO.ext hE; clear hE
        refine W_ret ?_
        show bodyPostM (FW none) 0 _ _ _ Exit.ret a w
        have hst := swL_stop hk.2 hne (s.hours.toNat - 1 - k)
        rw [show k + 1 + (s.hours.toNat - 1 - k) = s.hours.toNat by omega] at hst
        replace hO := hO.row_rd (enc := encI) (fun _ => rfl) (by decide) 1 rfl (by omega)
        replace hO : Own w0 none_ [cel b1 (sS6 s v) 25, rdR encI 1 p_ k (swL s bits k), rowR 3 1 (.slice p2_ m_ c3_) m_ ((nxtK s k (swL s bits k) c_).flatMap encI)] w := hO
        exact leave_r TBok hF (.nil _) (vs := [.slice p_ k cc_]) (rs := []) .nil (by kernel_rfl) ⟨p_, k, cc_, by rw [hst]; exact hk.2, rfl, by rw [hst]; exact hO.sel [1] (by decide)⟩
      · refine (W_false ((evOp hF (by kernel_rfl)).trans (congrArg Value.bool hc13)) ?_)
        have hcc : c_ = (nC s).toNat := by omega
        have hnx := nxt_eq s k (swL s bits k)
        rw [← hcc] at hnx
        have hne : nextL s k (swL s bits k) ≠ [] := fun h_ => by rw [← hnx] at h_; rw [h_] at hnl; have h2_ := (by assumption : ((m_ : Int) == 0) = false); simp at h2_ hnl; omega
        have hgo := swL_go hk.2 hne
        rw [← hnx] at hgo
        refine (W_skip ?_)
        refine (region_seq ?_)
        refine seq_quiet {} TBok hF (F' := [(1, .slice bp bn bc), (2, pv b1), (5, .slice p_ k cc_), (6, iv (k : Int)), (93, .slice p_ k cc_), (98, iv (pickI (nxtK s k (swL s bits k) c_) (pickI bits (k : Int))))]) (rs := [.call 75 #[.slice bp bn bc, iv (k : Int)] (iv (pickI bits (k : Int))), .call 75 #[.slice p2_ m_ c3_, iv (pickI bits (k : Int))] (iv (pickI (nxtK s k (swL s bits k) c_) (pickI bits (k : Int))))]) [0, 1, 2, 3, 4, 5] [6, 7, 8] [1, 2, 5, 6, 93, 98] (.cons (fun w hE => Pick_calls bits bp bn bc (k : Int) w (hbi.upM (hO.st w hE).kp nom (Nat.le_refl _))) <| .cons (fun w hE => Pick_calls (nxtK s k (swL s bits k) c_) p2_ m_ c3_ (pickI bits (k : Int)) w (rd_row (fun _ => rfl) (by decide) (hO.st w hE) 2 rfl (by omega))) <| .nil) (by kernel_rfl) fun a w hF hE => ?_
        replace hO := hO.ext hE; clear hE
        refine op_bsl (i := 6) (t := 22) (e := 3) (len := 1) (ps := [(0, iv (pickI (nxtK s k (swL s bits k) c_) (pickI bits (k : Int))))]) (d := 99) (sz := 1) (cs := #[iv (pickI (nxtK s k (swL s bits k) c_) (pickI bits (k : Int)))]) (z := iv 0) hF hO (by kernel_rfl) (by kernel_rfl) (by kernel_rfl) (by kernel_rfl) (by kernel_rfl) fun a w b14 hF hO _ => ?_
        replace hO : Own w0 none_ [cel b1 (sS6 s v) 25, rowR 3 1 (.slice p_ k cc_) k ((swL s bits k).flatMap encI), rowR 3 1 (.slice p2_ m_ c3_) m_ ((nxtK s k (swL s bits k) c_).flatMap encI), cel b14 #[iv (pickI (nxtK s k (swL s bits k) c_) (pickI bits (k : Int)))] 3] w := hO
        refine op_appR (i := 7) (t := 22) (ty := 22) (e := 3) (d := 100) rowT22 hF hO (by kernel_rfl) 1 rfl 3 rfl (by kernel_rfl) (by omega) fun a w p15 c16 hF hO hx => ?_
        clear hx
        refine seq_quiet {} TBok hF (F' := [(1, .slice bp bn bc), (2, pv b1), (5, .slice p15 (k + 1) c16), (6, iv (k : Int))]) (rs := []) [8] [] [1, 2, 5, 6] .nil (by kernel_rfl) fun a w hF hE => ?_
        replace hO := hO.ext hE; clear hE
        refine (region_q {} TBok hF (F' := [(1, .slice bp bn bc), (2, pv b1), (5, .slice p15 (k + 1) c16), (6, iv ((k : Int) + 1))]) (rs := [.rng ((k : Int) + 1)]) [1, 2, 5, 6] (.cons (rg (by omega)) <| .nil) (by kernel_rfl) fun a w hF hE => ?_)
        replace hO := hO.ext hE; clear hE
        replace hO := hO.drop1 3
        replace hO := hO.drop1 2
        replace hO : Own w0 none_ [cel b1 (sS6 s v) 25, rowR 3 1 (.slice p15 (k + 1) c16) (k + 1) (((swL s bits k).flatMap encI) ++ (#[iv (pickI (nxtK s k (swL s bits k) c_) (pickI bits (k : Int)))] : Array Value).toList)] w := hO
        replace hO : Own w0 none_ [cel b1 (sS6 s v) 25, rowR 3 1 (.slice p15 (k + 1) c16) (k + 1) ((swL s bits (k + 1)).flatMap encI)] w := hO.cast (by rw [hgo, List.flatMap_append] <;> rfl)
        exact ⟨_, by omega, k + 1, p15, c16, rfl, ⟨by omega, by rw [hgo, List.length_append, hk.2]; rfl⟩, hF, hO⟩
  · refine (W_false ((evOp hF (by kernel_rfl)).trans (congrArg Value.bool hc2)) ?_)
    have hc2_ := of_decide_eq_false hc2
    refine (W_exit ?_)
    refine W_seq (region_q {} TBok hF (F' := [(4, .slice p_ k cc_)]) (rs := []) [4] .nil (by kernel_rfl) fun a w hF hE => ?_)
    replace hO := hO.ext hE; clear hE
    refine W_ret ?_
    show bodyPostM (FW none) 0 _ _ _ Exit.ret a w
    have hkk : k = s.hours.toNat := by omega
    replace hO := hO.row_rd (enc := encI) (fun _ => rfl) (by decide) 1 rfl (by omega)
    exact leave_r TBok hF (.nil _) (vs := [.slice p_ k cc_]) (rs := []) .nil (by kernel_rfl) ⟨p_, k, cc_, by rw [← hkk]; exact hk.2, rfl, by rw [← hkk]; exact hO.sel [1] (by decide)⟩

end Go.Proofs.Ytgihgcclabodbaa.DK
