/- Walks: all crans; until which hour a lot keeps. Printed by my gen.py out of gut/f.py. -/
import Derived.Test.YtioimdegbdkppaaGE
import Derived.Test.YtioimdegbdkppaaGQ
namespace Go.Proofs.Ytioimdegbdkppaa.DK
open Go Go.Proofs
set_option linter.unusedVariables false

set_option maxHeartbeats 4000000 in
set_option maxRecDepth 100000 in
theorem take_calls (d : Day) (v : DV) (f : Nat → Int) (bd bl : Nat) (lot : Int) (ld : LD) (w0 : World) (hv : dayV d = true) (hd : DayR bd w0 v d) (hb : bd ≤ w0.heap.size) (hbl : bd ≤ bl) (hm : (mapT bl zld (arrV 8) ld).ok w0) (hlot : 0 ≤ lot ∧ lot < v.ln) (hok : okL d.lots.length ld) :
    Calls Try.prog 71 #[.agg (workL v d f bl).toArray, .int .i64 lot] w0 (fun e w' => e = .returned (.bool (takeT d f lot ld).1) ∧ Own w0 (mo bl) [mapT bl zld (arrV 8) (takeT d f lot ld).2] w') := by
  have hnom : ∀ k, k < bd → ¬ mo bl k := fun k hk h => by simp only [mo] at h; omega
  refine calls_of_W Try.func71 rfl (by kernel_rfl) (args := [.agg (workL v d f bl).toArray, .int .i64 lot]) fun a hF => ?_
  replace hF : Fr 12 [] [(0, .agg (workL v d f bl).toArray), (1, .int .i64 lot)] a := hF
  have hO : Own w0 (mo bl) [mapT bl zld (arrV 8) ld] w0 := Own.of (by simpa using hm) (by simp) (by intro r hr k hk; simp at hr; subst hr; exact hk)
  refine W_seq (region_seq ?_)
  refine op_box (i := 0) (t := 99) (v := .agg (workL v d f bl).toArray) (d := 2) hF hO (by kernel_rfl) fun a w b1 hF hO _ => ?_
  replace hO : Own w0 (mo bl) [mapT bl zld (arrV 8) ld, cel b1 (workL v d f bl).toArray 99] w := hO
  refine seq_quiet {} TBok hF (F' := [(1, .int .i64 lot), (2, .pointer (some ⟨b1, 0, none⟩)), (4, .bool false)]) (rs := []) [1] [] [1, 2, 4] .nil (by kernel_rfl) fun a w hF hE => ?_
  replace hO := hO.ext hE; clear hE
  refine W_seq (region_seq ?_)
  refine op_mmapt (i := 0) (t := 113) (d := 7) (.bool false) Value.bool false (by kernel_rfl) hF hO (by kernel_rfl) fun a w b2 hF hO _ => ?_
  replace hO : Own w0 (mo bl) [mapT bl zld (arrV 8) ld, cel b1 (workL v d f bl).toArray 99, mapT b2 (.bool false) Value.bool (fun _ => false)] w := hO
  refine op_alloc (i := 1) (t := 113) (d := 5) (z := .map none) hF hO (by kernel_rfl) (by kernel_rfl) fun a w b3 hF hO _ => ?_
  replace hO : Own w0 (mo bl) [mapT bl zld (arrV 8) ld, cel b1 (workL v d f bl).toArray 99, mapT b2 (.bool false) Value.bool (fun _ => false), cel b3 #[.map none] 113] w := hO
  refine op_store (i := 2) (t := 113) (p := ⟨b3, 0, none⟩) (v := .map (some b2)) (off := 0) (sz := 1) (cs' := #[.map (some b2)]) hF hO (by kernel_rfl) 3 rfl rfl (by kernel_rfl) (by kernel_rfl) (by kernel_rfl) fun a w hF hO _ => ?_
  replace hO : Own w0 (mo bl) [mapT bl zld (arrV 8) ld, cel b1 (workL v d f bl).toArray 99, mapT b2 (.bool false) Value.bool (fun _ => false), cel b3 #[.map (some b2)] 113] w := hO
  replace hF := hF.sel [1, 2, 4, 5]
  replace hF : Fr 12 [] [(1, .int .i64 lot), (2, .pointer (some ⟨b1, 0, none⟩)), (4, .bool false), (5, .pointer (some ⟨b3, 0, none⟩))] a := hF
  refine W_seq (region_seq ?_)
  refine op_alloc (i := 0) (t := 111) (d := 6) (z := .nilFunc) hF hO (by kernel_rfl) (by kernel_rfl) fun a w b4 hF hO _ => ?_
  replace hO : Own w0 (mo bl) [mapT bl zld (arrV 8) ld, cel b1 (workL v d f bl).toArray 99, mapT b2 (.bool false) Value.bool (fun _ => false), cel b3 #[.map (some b2)] 113, cel b4 #[.nilFunc] 111] w := hO
  replace hF := hF.sel [1, 2, 4, 5, 6]
  replace hF : Fr 12 [] [(1, .int .i64 lot), (2, .pointer (some ⟨b1, 0, none⟩)), (4, .bool false), (5, .pointer (some ⟨b3, 0, none⟩)), (6, .pointer (some ⟨b4, 0, none⟩))] a := hF
  refine W_seq (region_seq ?_)
  refine seq_quiet {} TBok hF (F' := [(1, .int .i64 lot), (4, .bool false), (6, .pointer (some ⟨b4, 0, none⟩)), (8, .func (.func 73) #[] #[.pointer (some ⟨b1, 0, none⟩), .pointer (some ⟨b3, 0, none⟩), .pointer (some ⟨b4, 0, none⟩)])]) (rs := []) [0] [1] [1, 4, 6, 8] .nil (by kernel_rfl) fun a w hF hE => ?_
  replace hO := hO.ext hE; clear hE
  refine op_store (i := 1) (t := 111) (p := ⟨b4, 0, none⟩) (v := .func (.func 73) #[] #[.pointer (some ⟨b1, 0, none⟩), .pointer (some ⟨b3, 0, none⟩), .pointer (some ⟨b4, 0, none⟩)]) (off := 0) (sz := 1) (cs' := #[.func (.func 73) #[] #[.pointer (some ⟨b1, 0, none⟩), .pointer (some ⟨b3, 0, none⟩), .pointer (some ⟨b4, 0, none⟩)]]) hF hO (by kernel_rfl) 4 rfl rfl (by kernel_rfl) (by kernel_rfl) (by kernel_rfl) fun a w hF hO _ => ?_
  replace hO : Own w0 (mo bl) [mapT bl zld (arrV 8) ld, cel b1 (workL v d f bl).toArray 99, mapT b2 (.bool false) Value.bool (fun _ => false), cel b3 #[.map (some b2)] 113, cel b4 #[.func (.func 73) #[] #[.pointer (some ⟨b1, 0, none⟩), .pointer (some ⟨b3, 0, none⟩), .pointer (some ⟨b4, 0, none⟩)]] 111] w := hO
  replace hF := hF.sel [1, 4, 6]
  replace hF : Fr 12 [] [(1, .int .i64 lot), (4, .bool false), (6, .pointer (some ⟨b4, 0, none⟩))] a := hF
  refine W_seq (region_seq ?_)
  refine seq_quiet {} TBok hF (F' := [(4, .bool false), (9, .func (.func 73) #[] #[.pointer (some ⟨b1, 0, none⟩), .pointer (some ⟨b3, 0, none⟩), .pointer (some ⟨b4, 0, none⟩)]), (10, .int .i64 lot)]) (rs := [.ld ⟨b4, 0, none⟩ (.func (.func 73) #[] #[.pointer (some ⟨b1, 0, none⟩), .pointer (some ⟨b3, 0, none⟩), .pointer (some ⟨b4, 0, none⟩)])]) [0, 1] [2, 3] [4, 9, 10] (.cons (ldo hO.st 4 rfl 0 rfl) <| .nil) (by kernel_rfl) fun a w hF hE => ?_
  replace hO := hO.ext hE; clear hE
  have hpre := put_start (lot := lot) hd hb hbl hO 2 0 1 3 4 rfl rfl rfl rfl rfl (by decide) (by omega) hok
  replace hO := hO.sel [1, 3, 4, 2, 0] (by decide)
  refine op_call (i := 2) (f := 73) (args := #[.int .i64 lot, .pointer (some ⟨b1, 0, none⟩), .pointer (some ⟨b3, 0, none⟩), .pointer (some ⟨b4, 0, none⟩)]) (d := some 11) TBok (by kernel_rfl) hF (by kernel_rfl) (put_calls _ _ _ _ _ _ _ _ _ hv _ _ _ _ hpre) fun e w hR => ?_
  obtain ⟨he, hO2⟩ := hR
  refine ⟨_, he, fun a hF => ?_⟩
  replace hO := Own.join (L1 := [cel b1 (workL v d f bl).toArray 99, cel b3 #[.map (some b2)] 113, cel b4 #[.func (.func 73) #[] #[.pointer (some ⟨b1, 0, none⟩), .pointer (some ⟨b3, 0, none⟩), .pointer (some ⟨b4, 0, none⟩)]] 111]) (L2 := [mapT b2 (.bool false) Value.bool (fun _ => false), mapT bl zld (arrV 8) ld]) hO hO2 hmm; clear hO2 he hpre
  replace hO : Own w0 (mo bl) [cel b1 (workL v d f bl).toArray 99, cel b3 #[.map (some b2)] 113, cel b4 #[.func (.func 73) #[] #[.pointer (some ⟨b1, 0, none⟩), .pointer (some ⟨b3, 0, none⟩), .pointer (some ⟨b4, 0, none⟩)]] 111, mapT b2 (.bool false) Value.bool ((takeF d f (tn d) lot ⟨(fun _ => false), ld⟩).2.seen), mapT bl zld (arrV 8) ((takeF d f (tn d) lot ⟨(fun _ => false), ld⟩).2.ld)] w := hO
  refine seq_quiet {} TBok hF (F' := [(4, .bool ((takeF d f (tn d) lot ⟨(fun _ => false), ld⟩).1))]) (rs := []) [3] [] [4] .nil (by kernel_rfl) fun a w hF hE => ?_
  replace hO := hO.ext hE; clear hE
  refine W_ret ?_
  show bodyPostM (FW none) 0 _ _ _ Exit.ret a w
  exact leave_r TBok hF (.nil _) (vs := [.bool ((takeF d f (tn d) lot ⟨(fun _ => false), ld⟩).1)]) (rs := []) .nil (by kernel_rfl) ⟨rfl, hO.sel [4] (by decide)⟩

set_option maxHeartbeats 4000000 in
set_option maxRecDepth 100000 in
theorem done_calls (d : Day) (v : DV) (f : Nat → Int) (w0 : World) (hd : DayR w0.heap.size w0 v d) (hv : dayV d = true) :
    Calls Try.prog 62 #[.agg (dayL v d f).toArray] w0 (fun e w' => ∃ bl, e = .returned (.tuple #[.agg (workL v d f bl).toArray, .int .i64 (doneF d f d.lots.length).2]) ∧ Own w0 none_ [mapT bl zld (arrV 8) (doneF d f d.lots.length).1] w') := by
  have hl1 := hd.heat.len; have hl2 := hd.lots.len; have hl3 := hd.wks.len; have hs1 := hd.heat.size; have hs2 := hd.lots.size; have hs3 := hd.wks.size; have hv1 := day_ok hv
  refine calls_of_W Try.func62 rfl (by kernel_rfl) (args := [.agg (dayL v d f).toArray]) fun a hF => ?_
  replace hF : Fr 34 [] [(0, .agg (dayL v d f).toArray)] a := hF
  have hO : Own w0 none_ [] w0 := Own.start w0 _
  refine W_seq (region_seq ?_)
  refine op_box (i := 0) (t := 81) (v := .agg (dayL v d f).toArray) (d := 1) hF hO (by kernel_rfl) fun a w b1 hF hO _ => ?_
  replace hO : Own w0 none_ [cel b1 (dayL v d f).toArray 81] w := hO
  refine op_alloc (i := 1) (t := 99) (d := 2) (z := .agg #[.int .i64 0, .slice none 0 0, .slice none 0 0, .slice none 0 0, .int .i64 0, .int .i64 0, .int .i64 0, .int .i64 0, .int .i64 0, .int .i64 0, .int .i64 0, .int .i64 0, .map none]) hF hO (by kernel_rfl) (by kernel_rfl) fun a w b2 hF hO _ => ?_
  replace hO : Own w0 none_ [cel b1 (dayL v d f).toArray 81, cel b2 #[.int .i64 0, .slice none 0 0, .slice none 0 0, .slice none 0 0, .int .i64 0, .int .i64 0, .int .i64 0, .int .i64 0, .int .i64 0, .int .i64 0, .int .i64 0, .int .i64 0, .map none] 99] w := hO
  refine seq_quiet {} TBok hF (F' := [(1, .pointer (some ⟨b1, 0, none⟩)), (2, .pointer (some ⟨b2, 0, none⟩)), (3, .int .i64 0)]) (rs := []) [2] [] [1, 2, 3] .nil (by kernel_rfl) fun a w hF hE => ?_
  replace hO := hO.ext hE; clear hE
  refine W_seq (region_seq ?_)
  refine seq_quiet {} TBok hF (F' := [(1, .pointer (some ⟨b1, 0, none⟩)), (2, .pointer (some ⟨b2, 0, none⟩)), (3, .int .i64 0), (8, .agg (dayL v d f).toArray)]) (rs := [.lds ⟨b1, 0, none⟩ (dayL v d f)]) [0] [1, 2, 3, 4, 5] [1, 2, 3, 8] (.cons (ldso hO.st 0 rfl 0 (by kernel_rfl)) <| .nil) (by kernel_rfl) fun a w hF hE => ?_
  replace hO := hO.ext hE; clear hE
  refine op_mmapt (i := 1) (t := 97) (d := 9) (zld) (arrV 8) (fun _ => 0) (by kernel_rfl) hF hO (by kernel_rfl) fun a w b3 hF hO _ => ?_
  replace hO : Own w0 none_ [cel b1 (dayL v d f).toArray 81, cel b2 #[.int .i64 0, .slice none 0 0, .slice none 0 0, .slice none 0 0, .int .i64 0, .int .i64 0, .int .i64 0, .int .i64 0, .int .i64 0, .int .i64 0, .int .i64 0, .int .i64 0, .map none] 99, mapT b3 zld (arrV 8) (fun _ => (fun _ => 0))] w := hO
  refine seq_quiet { md := [(2, 3)] } TBok hF (F' := [(1, .pointer (some ⟨b1, 0, none⟩)), (2, .pointer (some ⟨b2, 0, none⟩)), (3, .int .i64 0), (10, .agg (workL v d f b3).toArray)]) (rs := [.raw (Instr.build 99 #[(0, .agg (dayL v d f).toArray), (1, .map (some b3))]) (.agg (workL v d f b3).toArray)]) [2] [3, 4, 5] [1, 2, 3, 10] (.cons (fun w _ => by kernel_rfl) <| .nil) (by kernel_rfl) fun a w hF hE => ?_
  replace hO := hO.ext hE; clear hE
  refine op_alloc (i := 3) (t := 99) (d := 4) (z := .agg #[.int .i64 0, .slice none 0 0, .slice none 0 0, .slice none 0 0, .int .i64 0, .int .i64 0, .int .i64 0, .int .i64 0, .int .i64 0, .int .i64 0, .int .i64 0, .int .i64 0, .map none]) hF hO (by kernel_rfl) (by kernel_rfl) fun a w b4 hF hO _ => ?_
  replace hO : Own w0 none_ [cel b1 (dayL v d f).toArray 81, cel b2 #[.int .i64 0, .slice none 0 0, .slice none 0 0, .slice none 0 0, .int .i64 0, .int .i64 0, .int .i64 0, .int .i64 0, .int .i64 0, .int .i64 0, .int .i64 0, .int .i64 0, .map none] 99, mapT b3 zld (arrV 8) (fun _ => (fun _ => 0)), cel b4 #[.int .i64 0, .slice none 0 0, .slice none 0 0, .slice none 0 0, .int .i64 0, .int .i64 0, .int .i64 0, .int .i64 0, .int .i64 0, .int .i64 0, .int .i64 0, .int .i64 0, .map none] 99] w := hO
  refine op_store (i := 4) (t := 99) (p := ⟨b4, 0, none⟩) (v := .agg (workL v d f b3).toArray) (off := 0) (sz := 13) (cs' := (workL v d f b3).toArray) hF hO (by kernel_rfl) 3 rfl rfl (by kernel_rfl) (by kernel_rfl) (by kernel_rfl) fun a w hF hO _ => ?_
  replace hO : Own w0 none_ [cel b1 (dayL v d f).toArray 81, cel b2 #[.int .i64 0, .slice none 0 0, .slice none 0 0, .slice none 0 0, .int .i64 0, .int .i64 0, .int .i64 0, .int .i64 0, .int .i64 0, .int .i64 0, .int .i64 0, .int .i64 0, .map none] 99, mapT b3 zld (arrV 8) (fun _ => (fun _ => 0)), cel b4 (workL v d f b3).toArray 99] w := hO
  refine seq_quiet {} TBok hF (F' := [(1, .pointer (some ⟨b1, 0, none⟩)), (2, .pointer (some ⟨b2, 0, none⟩)), (3, .int .i64 0), (4, .pointer (some ⟨b4, 0, none⟩)), (5, .int .i64 0)]) (rs := []) [5] [] [1, 2, 3, 4, 5] .nil (by kernel_rfl) fun a w hF hE => ?_
  replace hO := hO.ext hE; clear hE
  refine W_seq ?_
  refine W_seq (region_q {} TBok hF (F' := [(2, .pointer (some ⟨b2, 0, none⟩)), (3, .int .i64 0), (4, .pointer (some ⟨b4, 0, none⟩)), (5, .int .i64 0), (13, .slice v.la v.ln v.lc), (14, .int .i64 (v.ln : Int)), (15, .int .i64 0)]) (rs := [.ld ⟨b1, 2, none⟩ (.slice v.la v.ln v.lc)]) [2, 3, 4, 5, 13, 14, 15] (.cons (ldo hO.st 0 rfl 2 (by kernel_rfl)) <| .nil) (by kernel_rfl) fun a w hF hE => ?_)
  replace hO := hO.ext hE; clear hE
  refine (W_block ?_)
  refine (W_loop (fun m a w => ∃ (k : Nat), m = v.ln - k ∧ k ≤ v.ln ∧ Fr 34 [] [(2, .pointer (some ⟨b2, 0, none⟩)), (3, .int .i64 0), (4, .pointer (some ⟨b4, 0, none⟩)), (5, .int .i64 ((doneF d f k).2)), (13, .slice v.la v.ln v.lc), (14, .int .i64 (v.ln : Int)), (15, .int .i64 (k : Int))] a ∧ Own w0 none_ [cel b1 (dayL v d f).toArray 81, cel b2 #[.int .i64 0, .slice none 0 0, .slice none 0 0, .slice none 0 0, .int .i64 0, .int .i64 0, .int .i64 0, .int .i64 0, .int .i64 0, .int .i64 0, .int .i64 0, .int .i64 0, .map none] 99, mapT b3 zld (arrV 8) ((doneF d f k).1), cel b4 (workL v d f b3).toArray 99] w) _ ⟨0, rfl, Nat.zero_le _, hF, hO⟩ ?_)
  clear hF hO
  rintro _ a w ⟨k, rfl, hk, hF, hO⟩
  refine W_seq (region_q {} TBok hF (F' := [(2, .pointer (some ⟨b2, 0, none⟩)), (3, .int .i64 0), (4, .pointer (some ⟨b4, 0, none⟩)), (5, .int .i64 ((doneF d f k).2)), (13, .slice v.la v.ln v.lc), (14, .int .i64 (v.ln : Int)), (15, .int .i64 (k : Int)), (16, .bool (decide ((k : Int) < (v.ln : Int))))]) (rs := []) [2, 3, 4, 5, 13, 14, 15, 16] .nil (by kernel_rfl) fun a w hF hE => ?_)
  replace hO := hO.ext hE; clear hE
  rcases Bool.eq_false_or_eq_true (decide ((k : Int) < (v.ln : Int))) with hc5 | hc5
  · refine W_seq (W_true ((evOp hF (by kernel_rfl)).trans (congrArg Value.bool hc5)) ?_)
    have hc5_ := of_decide_eq_true hc5
    refine (W_skip ?_)
    refine W_seq (W_block ?_)
    refine W_seq (region_seq ?_)
    refine seq_quiet {} TBok hF (F' := [(2, .pointer (some ⟨b2, 0, none⟩)), (3, .int .i64 0), (4, .pointer (some ⟨b4, 0, none⟩)), (5, .int .i64 ((doneF d f k).2)), (13, .slice v.la v.ln v.lc), (14, .int .i64 (v.ln : Int)), (15, .int .i64 (k : Int)), (17, .int .i64 (k : Int)), (19, .agg #[.int .i64 ((d.lots.getD k default).cr), .int .i64 ((d.lots.getD k default).la), .int .i64 ((d.lots.getD k default).ke), .int .i64 ((d.lots.getD k default).fi)])]) (rs := [.idx v.la v.ln (k : Int) 4 (adr v.la 4 (k : Int)), .lds (adr v.la 4 (k : Int)) [.int .i64 ((d.lots.getD k default).cr), .int .i64 ((d.lots.getD k default).la), .int .i64 ((d.lots.getD k default).ke), .int .i64 ((d.lots.getD k default).fi)]]) [0, 1, 2] [3, 4, 5] [2, 3, 4, 5, 13, 14, 15, 17, 19] (.cons (ix hd.lots (by omega) (by omega)) <| .cons (ldsx hO.st nom hd.lots (by omega) (by omega) rfl) <| .nil) (by kernel_rfl) fun a w hF hE => ?_
    replace hO := hO.ext hE; clear hE
    refine op_alloc (i := 3) (t := 59) (d := 7) (z := .agg #[.int .i64 0, .int .i64 0, .int .i64 0, .int .i64 0]) hF hO (by kernel_rfl) (by kernel_rfl) fun a w b6 hF hO _ => ?_
    replace hO : Own w0 none_ [cel b1 (dayL v d f).toArray 81, cel b2 #[.int .i64 0, .slice none 0 0, .slice none 0 0, .slice none 0 0, .int .i64 0, .int .i64 0, .int .i64 0, .int .i64 0, .int .i64 0, .int .i64 0, .int .i64 0, .int .i64 0, .map none] 99, mapT b3 zld (arrV 8) ((doneF d f k).1), cel b4 (workL v d f b3).toArray 99, cel b6 #[.int .i64 0, .int .i64 0, .int .i64 0, .int .i64 0] 59] w := hO
    refine seq_quiet {} TBok hF (F' := [(2, .pointer (some ⟨b2, 0, none⟩)), (3, .int .i64 0), (4, .pointer (some ⟨b4, 0, none⟩)), (5, .int .i64 ((doneF d f k).2)), (6, .int .i64 (k : Int)), (7, .pointer (some ⟨b6, 0, none⟩)), (13, .slice v.la v.ln v.lc), (14, .int .i64 (v.ln : Int)), (15, .int .i64 (k : Int)), (19, .agg #[.int .i64 ((d.lots.getD k default).cr), .int .i64 ((d.lots.getD k default).la), .int .i64 ((d.lots.getD k default).ke), .int .i64 ((d.lots.getD k default).fi)])]) (rs := []) [4] [5] [2, 3, 4, 5, 6, 7, 13, 14, 15, 19] .nil (by kernel_rfl) fun a w hF hE => ?_
    replace hO := hO.ext hE; clear hE
    refine op_store (i := 5) (t := 59) (p := ⟨b6, 0, none⟩) (v := .agg #[.int .i64 ((d.lots.getD k default).cr), .int .i64 ((d.lots.getD k default).la), .int .i64 ((d.lots.getD k default).ke), .int .i64 ((d.lots.getD k default).fi)]) (off := 0) (sz := 4) (cs' := #[.int .i64 ((d.lots.getD k default).cr), .int .i64 ((d.lots.getD k default).la), .int .i64 ((d.lots.getD k default).ke), .int .i64 ((d.lots.getD k default).fi)]) hF hO (by kernel_rfl) 4 rfl rfl (by kernel_rfl) (by kernel_rfl) (by kernel_rfl) fun a w hF hO _ => ?_
    replace hO : Own w0 none_ [cel b1 (dayL v d f).toArray 81, cel b2 #[.int .i64 0, .slice none 0 0, .slice none 0 0, .slice none 0 0, .int .i64 0, .int .i64 0, .int .i64 0, .int .i64 0, .int .i64 0, .int .i64 0, .int .i64 0, .int .i64 0, .map none] 99, mapT b3 zld (arrV 8) ((doneF d f k).1), cel b4 (workL v d f b3).toArray 99, cel b6 #[.int .i64 ((d.lots.getD k default).cr), .int .i64 ((d.lots.getD k default).la), .int .i64 ((d.lots.getD k default).ke), .int .i64 ((d.lots.getD k default).fi)] 59] w := hO
    replace hF := hF.sel [2, 3, 4, 5, 6, 7, 13, 14, 15]
    replace hF : Fr 34 [] [(2, .pointer (some ⟨b2, 0, none⟩)), (3, .int .i64 0), (4, .pointer (some ⟨b4, 0, none⟩)), (5, .int .i64 ((doneF d f k).2)), (6, .int .i64 (k : Int)), (7, .pointer (some ⟨b6, 0, none⟩)), (13, .slice v.la v.ln v.lc), (14, .int .i64 (v.ln : Int)), (15, .int .i64 (k : Int))] a := hF
    refine W_seq (region_q {} TBok hF (F' := [(2, .pointer (some ⟨b2, 0, none⟩)), (3, .int .i64 0), (4, .pointer (some ⟨b4, 0, none⟩)), (5, .int .i64 ((doneF d f k).2)), (6, .int .i64 (k : Int)), (13, .slice v.la v.ln v.lc), (14, .int .i64 (v.ln : Int)), (15, .int .i64 (k : Int)), (21, .int .i64 ((d.lots.getD k default).cr)), (22, .int .i64 0)]) (rs := [.ld ⟨b6, 0, none⟩ (.int .i64 ((d.lots.getD k default).cr))]) [2, 3, 4, 5, 6, 13, 14, 15, 21, 22] (.cons (ldo hO.st 4 rfl 0 rfl) <| .nil) (by kernel_rfl) fun a w hF hE => ?_)
    replace hO := hO.ext hE; clear hE
    refine (W_block ?_)
    have hlk := lot_ok hv (i := k) (by omega)
    have hdk := doneF_ok (f := f) hv k (by omega)
    refine (W_loop (fun m a w => ∃ (j : Nat), m = (d.lots.getD k default).cr.toNat - j ∧ (j : Int) ≤ (d.lots.getD k default).cr ∧ Fr 34 [] [(2, .pointer (some ⟨b2, 0, none⟩)), (3, .int .i64 0), (4, .pointer (some ⟨b4, 0, none⟩)), (5, .int .i64 ((takeN d f (k : Int) j (doneF d f k)).2)), (6, .int .i64 (k : Int)), (13, .slice v.la v.ln v.lc), (14, .int .i64 (v.ln : Int)), (15, .int .i64 (k : Int)), (21, .int .i64 ((d.lots.getD k default).cr)), (22, .int .i64 (j : Int))] a ∧ Own w0 none_ [cel b1 (dayL v d f).toArray 81, cel b2 #[.int .i64 0, .slice none 0 0, .slice none 0 0, .slice none 0 0, .int .i64 0, .int .i64 0, .int .i64 0, .int .i64 0, .int .i64 0, .int .i64 0, .int .i64 0, .int .i64 0, .map none] 99, mapT b3 zld (arrV 8) ((takeN d f (k : Int) j (doneF d f k)).1), cel b4 (workL v d f b3).toArray 99, cel b6 #[.int .i64 ((d.lots.getD k default).cr), .int .i64 ((d.lots.getD k default).la), .int .i64 ((d.lots.getD k default).ke), .int .i64 ((d.lots.getD k default).fi)] 59] w) _ ⟨0, rfl, by omega, hF, hO⟩ ?_)
    clear hF hO
    rintro _ a w ⟨j, rfl, hj, hF, hO⟩
    have htk := takeN_ok (f := f) hv (lot := (k : Int)) ⟨by omega, by omega⟩ hdk.1 j
    refine W_seq (region_q {} TBok hF (F' := [(2, .pointer (some ⟨b2, 0, none⟩)), (3, .int .i64 0), (4, .pointer (some ⟨b4, 0, none⟩)), (5, .int .i64 ((takeN d f (k : Int) j (doneF d f k)).2)), (6, .int .i64 (k : Int)), (13, .slice v.la v.ln v.lc), (14, .int .i64 (v.ln : Int)), (15, .int .i64 (k : Int)), (21, .int .i64 ((d.lots.getD k default).cr)), (22, .int .i64 (j : Int)), (23, .bool (decide ((j : Int) < (d.lots.getD k default).cr)))]) (rs := []) [2, 3, 4, 5, 6, 13, 14, 15, 21, 22, 23] .nil (by kernel_rfl) fun a w hF hE => ?_)
    replace hO := hO.ext hE; clear hE
    rcases Bool.eq_false_or_eq_true (decide ((j : Int) < (d.lots.getD k default).cr)) with hc7 | hc7
    · refine W_seq (W_true ((evOp hF (by kernel_rfl)).trans (congrArg Value.bool hc7)) ?_)
      have hc7_ := of_decide_eq_true hc7
      refine (W_skip ?_)
      refine W_seq (W_block ?_)
      refine W_seq (region_seq ?_)
      refine seq_quiet {} TBok hF (F' := [(2, .pointer (some ⟨b2, 0, none⟩)), (3, .int .i64 0), (4, .pointer (some ⟨b4, 0, none⟩)), (5, .int .i64 ((takeN d f (k : Int) j (doneF d f k)).2)), (6, .int .i64 (k : Int)), (13, .slice v.la v.ln v.lc), (14, .int .i64 (v.ln : Int)), (15, .int .i64 (k : Int)), (21, .int .i64 ((d.lots.getD k default).cr)), (22, .int .i64 (j : Int)), (24, .agg (workL v d f b3).toArray), (25, .int .i64 (k : Int))]) (rs := [.lds ⟨b4, 0, none⟩ (workL v d f b3)]) [0, 1] [2, 3] [2, 3, 4, 5, 6, 13, 14, 15, 21, 22, 24, 25] (.cons (ldso hO.st 3 rfl 0 (by kernel_rfl)) <| .nil) (by kernel_rfl) fun a w hF hE => ?_
      replace hO := hO.ext hE; clear hE
      have hcall := take_calls d v f w0.heap.size b3 (k : Int) ((takeN d f (k : Int) j (doneF d f k)).1) _ hv (hd.own_ hO) hO.kp.size (own_fresh hO 2 rfl rfl) (hO.get 2 rfl) (by omega) htk.1
      replace hO := hO.sel [0, 1, 3, 4, 2] (by decide)
      refine op_call (i := 2) (f := 71) (args := #[.agg (workL v d f b3).toArray, .int .i64 (k : Int)]) (d := some 26) TBok (by kernel_rfl) hF (by kernel_rfl) hcall fun e w hR => ?_
      clear hcall; obtain ⟨he, hO2⟩ := hR
      refine ⟨_, he, fun a hF => ?_⟩
      replace hO := Own.join (L1 := [cel b1 (dayL v d f).toArray 81, cel b2 #[.int .i64 0, .slice none 0 0, .slice none 0 0, .slice none 0 0, .int .i64 0, .int .i64 0, .int .i64 0, .int .i64 0, .int .i64 0, .int .i64 0, .int .i64 0, .int .i64 0, .map none] 99, cel b4 (workL v d f b3).toArray 99, cel b6 #[.int .i64 ((d.lots.getD k default).cr), .int .i64 ((d.lots.getD k default).la), .int .i64 ((d.lots.getD k default).ke), .int .i64 ((d.lots.getD k default).fi)] 59]) (L2 := [mapT b3 zld (arrV 8) ((takeN d f (k : Int) j (doneF d f k)).1)]) hO hO2 (fun k hk => ⟨_, List.mem_singleton.2 rfl, hk⟩); clear hO2 he
      replace hO := hO.sel [0, 1, 4, 2, 3] (by decide)
      replace hO : Own w0 none_ [cel b1 (dayL v d f).toArray 81, cel b2 #[.int .i64 0, .slice none 0 0, .slice none 0 0, .slice none 0 0, .int .i64 0, .int .i64 0, .int .i64 0, .int .i64 0, .int .i64 0, .int .i64 0, .int .i64 0, .int .i64 0, .map none] 99, mapT b3 zld (arrV 8) ((takeT d f (k : Int) ((takeN d f (k : Int) j (doneF d f k)).1)).2), cel b4 (workL v d f b3).toArray 99, cel b6 #[.int .i64 ((d.lots.getD k default).cr), .int .i64 ((d.lots.getD k default).la), .int .i64 ((d.lots.getD k default).ke), .int .i64 ((d.lots.getD k default).fi)] 59] w := hO
      refine seq_quiet {} TBok hF (F' := [(2, .pointer (some ⟨b2, 0, none⟩)), (3, .int .i64 0), (4, .pointer (some ⟨b4, 0, none⟩)), (5, .int .i64 ((takeN d f (k : Int) j (doneF d f k)).2)), (6, .int .i64 (k : Int)), (13, .slice v.la v.ln v.lc), (14, .int .i64 (v.ln : Int)), (15, .int .i64 (k : Int)), (21, .int .i64 ((d.lots.getD k default).cr)), (22, .int .i64 (j : Int)), (27, .bool (!((takeT d f (k : Int) ((takeN d f (k : Int) j (doneF d f k)).1)).1)))]) (rs := []) [3] [] [2, 3, 4, 5, 6, 13, 14, 15, 21, 22, 27] .nil (by kernel_rfl) fun a w hF hE => ?_
      replace hO := hO.ext hE; clear hE
      rcases Bool.eq_false_or_eq_true (!((takeT d f (k : Int) ((takeN d f (k : Int) j (doneF d f k)).1)).1)) with hc8 | hc8
      · refine (W_true ((evOp hF (by kernel_rfl)).trans (congrArg Value.bool hc8)) ?_)
        refine (region_q {} TBok hF (F' := [(2, .pointer (some ⟨b2, 0, none⟩)), (3, .int .i64 0), (4, .pointer (some ⟨b4, 0, none⟩)), (5, .int .i64 ((takeN d f (k : Int) j (doneF d f k)).2 + 1)), (6, .int .i64 (k : Int)), (13, .slice v.la v.ln v.lc), (14, .int .i64 (v.ln : Int)), (15, .int .i64 (k : Int)), (21, .int .i64 ((d.lots.getD k default).cr)), (22, .int .i64 (j : Int))]) (rs := [.rng ((takeN d f (k : Int) j (doneF d f k)).2 + 1)]) [2, 3, 4, 5, 6, 13, 14, 15, 21, 22] (.cons (rg (by omega)) <| .nil) (by kernel_rfl) fun a w hF hE => ?_)
        replace hO := hO.ext hE; clear hE
        refine (region_q {} TBok hF (F' := [(2, .pointer (some ⟨b2, 0, none⟩)), (3, .int .i64 0), (4, .pointer (some ⟨b4, 0, none⟩)), (5, .int .i64 ((takeN d f (k : Int) j (doneF d f k)).2 + 1)), (6, .int .i64 (k : Int)), (13, .slice v.la v.ln v.lc), (14, .int .i64 (v.ln : Int)), (15, .int .i64 (k : Int)), (21, .int .i64 ((d.lots.getD k default).cr)), (22, .int .i64 ((j : Int) + 1))]) (rs := [.rng ((j : Int) + 1)]) [2, 3, 4, 5, 6, 13, 14, 15, 21, 22] (.cons (rg (by omega)) <| .nil) (by kernel_rfl) fun a w hF hE => ?_)
        replace hO := hO.ext hE; clear hE
        have ht : ((takeT d f (k : Int) ((takeN d f (k : Int) j (doneF d f k)).1)).1) = false := by simpa using hc8
        exact ⟨_, by omega, j + 1, rfl, by omega, hF.cast (by rw [takeN_succ_no ht]; rfl), hO.cast (by rw [takeN_succ_no ht])⟩
      · refine (W_false ((evOp hF (by kernel_rfl)).trans (congrArg Value.bool hc8)) ?_)
        refine (W_skip ?_)
        refine (region_q {} TBok hF (F' := [(2, .pointer (some ⟨b2, 0, none⟩)), (3, .int .i64 0), (4, .pointer (some ⟨b4, 0, none⟩)), (5, .int .i64 ((takeN d f (k : Int) j (doneF d f k)).2)), (6, .int .i64 (k : Int)), (13, .slice v.la v.ln v.lc), (14, .int .i64 (v.ln : Int)), (15, .int .i64 (k : Int)), (21, .int .i64 ((d.lots.getD k default).cr)), (22, .int .i64 ((j : Int) + 1))]) (rs := [.rng ((j : Int) + 1)]) [2, 3, 4, 5, 6, 13, 14, 15, 21, 22] (.cons (rg (by omega)) <| .nil) (by kernel_rfl) fun a w hF hE => ?_)
        replace hO := hO.ext hE; clear hE
        have ht : ((takeT d f (k : Int) ((takeN d f (k : Int) j (doneF d f k)).1)).1) = true := by simpa using hc8
        exact ⟨_, by omega, j + 1, rfl, by omega, hF.cast (by rw [takeN_succ_yes ht]; rfl), hO.cast (by rw [takeN_succ_yes ht])⟩
    · refine W_seq (W_false ((evOp hF (by kernel_rfl)).trans (congrArg Value.bool hc7)) ?_)
      have hc7_ := of_decide_eq_false hc7
      refine (W_exit ?_)
      refine (region_q {} TBok hF (F' := [(2, .pointer (some ⟨b2, 0, none⟩)), (3, .int .i64 0), (4, .pointer (some ⟨b4, 0, none⟩)), (5, .int .i64 ((takeN d f (k : Int) j (doneF d f k)).2)), (13, .slice v.la v.ln v.lc), (14, .int .i64 (v.ln : Int)), (15, .int .i64 ((k : Int) + 1))]) (rs := [.rng ((k : Int) + 1)]) [2, 3, 4, 5, 13, 14, 15] (.cons (rg (by omega)) <| .nil) (by kernel_rfl) fun a w hF hE => ?_)
      replace hO := hO.ext hE; clear hE
      have hj2 : j = (d.lots.getD k default).cr.toNat := by omega
      replace hO := hO.drop1 4
      replace hO : Own w0 none_ [cel b1 (dayL v d f).toArray 81, cel b2 #[.int .i64 0, .slice none 0 0, .slice none 0 0, .slice none 0 0, .int .i64 0, .int .i64 0, .int .i64 0, .int .i64 0, .int .i64 0, .int .i64 0, .int .i64 0, .int .i64 0, .map none] 99, mapT b3 zld (arrV 8) ((takeN d f (k : Int) j (doneF d f k)).1), cel b4 (workL v d f b3).toArray 99] w := hO
      exact ⟨_, by omega, k + 1, rfl, by omega, hF.cast (by rw [hj2]; rfl), hO.cast (by rw [hj2]; rfl)⟩
  · refine W_seq (W_false ((evOp hF (by kernel_rfl)).trans (congrArg Value.bool hc5)) ?_)
    have hc5_ := of_decide_eq_false hc5
    refine (W_exit ?_)
    refine W_seq (region_seq ?_)
    refine seq_quiet {} TBok hF (F' := [(2, .pointer (some ⟨b2, 0, none⟩)), (3, .int .i64 0), (32, .agg (workL v d f b3).toArray), (33, .int .i64 ((doneF d f k).2))]) (rs := [.lds ⟨b4, 0, none⟩ (workL v d f b3)]) [0, 1] [2, 3] [2, 3, 32, 33] (.cons (ldso hO.st 3 rfl 0 (by kernel_rfl)) <| .nil) (by kernel_rfl) fun a w hF hE => ?_
    replace hO := hO.ext hE; clear hE
    refine op_store (i := 2) (t := 99) (p := ⟨b2, 0, none⟩) (v := .agg (workL v d f b3).toArray) (off := 0) (sz := 13) (cs' := (workL v d f b3).toArray) hF hO (by kernel_rfl) 1 rfl rfl (by kernel_rfl) (by kernel_rfl) (by kernel_rfl) fun a w hF hO _ => ?_
    replace hO : Own w0 none_ [cel b1 (dayL v d f).toArray 81, cel b2 (workL v d f b3).toArray 99, mapT b3 zld (arrV 8) ((doneF d f k).1), cel b4 (workL v d f b3).toArray 99] w := hO
    refine seq_quiet {} TBok hF (F' := [(2, .pointer (some ⟨b2, 0, none⟩)), (3, .int .i64 ((doneF d f k).2))]) (rs := []) [3] [] [2, 3] .nil (by kernel_rfl) fun a w hF hE => ?_
    replace hO := hO.ext hE; clear hE
    refine W_ret ?_
    show bodyPostM (FW none) 0 _ _ _ Exit.ret a w
    have hkk : k = d.lots.length := by omega
    have hO3 := hO.sel [2] (by decide)
    exact leave_r TBok hF (.nil _) (vs := [.agg (workL v d f b3).toArray, .int .i64 ((doneF d f k).2)]) (rs := [.lds ⟨b2, 0, none⟩ (workL v d f b3)]) (.cons (rdso hO 1 rfl 0 (by kernel_rfl)) <| .nil) (by kernel_rfl) ⟨_, by rw [hkk]; rfl, hO3.cast (by rw [hkk]; rfl)⟩

set_option maxHeartbeats 4000000 in
set_option maxRecDepth 100000 in
theorem Until_calls (d : Day) (v : DV) (lot : Int) (w0 : World) (hd : DayR w0.heap.size w0 v d) :
    Calls Try.prog 16 #[.agg #[.int .i64 d.hours, .slice v.ha v.hn v.hc, .slice v.la v.ln v.lc, .slice v.wa v.wn v.wc], .int .i64 lot] w0 (fun e w' => e = .returned (.tuple #[.int .i64 (gutUntil d lot).1, .int .i64 (gutUntil d lot).2.1, .int .i64 (gutUntil d lot).2.2]) ∧ Ext w0 w') := by
  have hl1 := hd.heat.len; have hl2 := hd.lots.len; have hl3 := hd.wks.len; have hs1 := hd.heat.size; have hs2 := hd.lots.size; have hs3 := hd.wks.size
  refine calls_of_W Try.func16 rfl (by kernel_rfl) (args := [.agg #[.int .i64 d.hours, .slice v.ha v.hn v.hc, .slice v.la v.ln v.lc, .slice v.wa v.wn v.wc], .int .i64 lot]) fun a hF => ?_
  replace hF : Fr 32 [] [(0, .agg #[.int .i64 d.hours, .slice v.ha v.hn v.hc, .slice v.la v.ln v.lc, .slice v.wa v.wn v.wc]), (1, .int .i64 lot)] a := hF
  have hO : Own w0 none_ [] w0 := Own.start w0 _
  refine W_seq (region_seq ?_)
  refine op_box (i := 0) (t := 26) (v := .agg #[.int .i64 d.hours, .slice v.ha v.hn v.hc, .slice v.la v.ln v.lc, .slice v.wa v.wn v.wc]) (d := 2) hF hO (by kernel_rfl) fun a w b1 hF hO _ => ?_
  replace hO : Own w0 none_ [cel b1 #[.int .i64 d.hours, .slice v.ha v.hn v.hc, .slice v.la v.ln v.lc, .slice v.wa v.wn v.wc] 26] w := hO
  refine seq_quiet {} TBok hF (F' := [(1, .int .i64 lot), (2, .pointer (some ⟨b1, 0, none⟩)), (4, .int .i64 0), (5, .int .i64 0), (6, .int .i64 0)]) (rs := []) [1, 2, 3] [] [1, 2, 4, 5, 6] .nil (by kernel_rfl) fun a w hF hE => ?_
  replace hO := hO.ext hE; clear hE
  refine W_seq ?_
  refine W_seq (region_q {} TBok hF (F' := [(1, .int .i64 lot), (2, .pointer (some ⟨b1, 0, none⟩)), (4, .int .i64 0), (5, .int .i64 0), (6, .int .i64 0), (7, .int .i64 (chk d))]) (rs := [.lds ⟨b1, 0, none⟩ [.int .i64 d.hours, .slice v.ha v.hn v.hc, .slice v.la v.ln v.lc, .slice v.wa v.wn v.wc], .call 18 #[.agg #[.int .i64 d.hours, .slice v.ha v.hn v.hc, .slice v.la v.ln v.lc, .slice v.wa v.wn v.wc]] (.int .i64 (chk d))]) [1, 2, 4, 5, 6, 7] (.cons (ldso hO.st 0 rfl 0 rfl) <| .cons (fun w hE => Check_calls d v w (hd.upM (hO.st w hE).kp nom (Nat.le_refl _))) <| .nil) (by kernel_rfl) fun a w hF hE => ?_)
  replace hO := hO.ext hE; clear hE
  refine W_seq (region_q {} TBok hF (F' := [(1, .int .i64 lot), (2, .pointer (some ⟨b1, 0, none⟩)), (4, .int .i64 0), (5, .int .i64 0), (6, .int .i64 0), (7, .int .i64 (chk d)), (11, .bool ((chk d) != 0))]) (rs := []) [1, 2, 4, 5, 6, 7, 11] .nil (by kernel_rfl) fun a w hF hE => ?_)
  replace hO := hO.ext hE; clear hE
  rcases Bool.eq_false_or_eq_true ((chk d) != 0) with hc2 | hc2
  · refine (W_true ((evOp hF (by kernel_rfl)).trans (congrArg Value.bool hc2)) ?_)
    refine W_seq (region_q {} TBok hF (F' := [(1, .int .i64 lot), (2, .pointer (some ⟨b1, 0, none⟩)), (4, .int .i64 0), (5, .int .i64 0), (6, .int .i64 (chk d))]) (rs := []) [1, 2, 4, 5, 6] .nil (by kernel_rfl) fun a w hF hE => ?_)
    replace hO := hO.ext hE; clear hE
    refine W_ret ?_
    show bodyPostM (FW none) 0 _ _ _ Exit.ret a w
    exact leave_r TBok hF (.nil _) (vs := [.int .i64 0, .int .i64 0, .int .i64 (chk d)]) (rs := []) .nil (by kernel_rfl) ⟨by rw [gutUntil, if_pos (by simpa using hc2)]; rfl, hO.kp⟩
  · refine (W_false ((evOp hF (by kernel_rfl)).trans (congrArg Value.bool hc2)) ?_)
    have hv := chk_ok (by assumption)
    have hv1 := day_ok hv
    refine (W_skip ?_)
    refine W_seq ?_
    refine W_seq (region_q {} TBok hF (F' := [(1, .int .i64 lot), (2, .pointer (some ⟨b1, 0, none⟩)), (4, .int .i64 0), (5, .int .i64 0), (6, .int .i64 0), (19, .bool (!(inB lot 0 ((v.ln : Int) - 1))))]) (rs := [.ld ⟨b1, 2, none⟩ (.slice v.la v.ln v.lc), .rng ((v.ln : Int) - 1), .call 49 #[.int .i64 lot, .int .i64 0, .int .i64 ((v.ln : Int) - 1)] (.bool (inB lot 0 ((v.ln : Int) - 1)))]) [1, 2, 4, 5, 6, 19] (.cons (ldo hO.st 0 rfl 2 rfl) <| .cons (rg (by omega)) <| .cons (fun w _ => within_calls _ _ _ w) <| .nil) (by kernel_rfl) fun a w hF hE => ?_)
    replace hO := hO.ext hE; clear hE
    rcases Bool.eq_false_or_eq_true (!(inB lot 0 ((v.ln : Int) - 1))) with hc3 | hc3
    · refine (W_true ((evOp hF (by kernel_rfl)).trans (congrArg Value.bool hc3)) ?_)
      refine W_seq (region_q {} TBok hF (F' := [(1, .int .i64 lot), (2, .pointer (some ⟨b1, 0, none⟩)), (4, .int .i64 0), (5, .int .i64 0), (6, .int .i64 7)]) (rs := []) [1, 2, 4, 5, 6] .nil (by kernel_rfl) fun a w hF hE => ?_)
      replace hO := hO.ext hE; clear hE
      refine W_ret ?_
      show bodyPostM (FW none) 0 _ _ _ Exit.ret a w
      exact leave_r TBok hF (.nil _) (vs := [.int .i64 0, .int .i64 0, .int .i64 7]) (rs := []) .nil (by kernel_rfl) ⟨by rw [gutUntil, if_neg (by simpa using hc2), if_neg (by simpa [hl2] using hc3)]; rfl, hO.kp⟩
    · refine (W_false ((evOp hF (by kernel_rfl)).trans (congrArg Value.bool hc3)) ?_)
      have hin := inB_iff.1 (by simpa using (by assumption : (!(inB lot 0 ((v.ln : Int) - 1))) = false))
      refine (W_skip ?_)
      refine W_seq (region_d { md := [(3, 3), (5, 3), (9, 3), (11, 3)] } mixed TBok hF (F' := [(4, .int .i64 ((untils Sp.hi d) lot.toNat)), (5, .int .i64 ((untils Sp.lo d) lot.toNat)), (6, .int .i64 0)]) (rs := [.lds ⟨b1, 0, none⟩ [.int .i64 d.hours, .slice v.ha v.hn v.hc, .slice v.la v.ln v.lc, .slice v.wa v.wn v.wc], .call 51 #[] (.agg #[.func (.func 69) #[] #[]]), .call 50 #[.agg #[.int .i64 d.hours, .slice v.ha v.hn v.hc, .slice v.la v.ln v.lc, .slice v.wa v.wn v.wc], .agg #[.func (.func 69) #[] #[]]] (.agg (dayL v d (untils Sp.hi d)).toArray), .raw (Instr.field 81 (.agg (dayL v d (untils Sp.hi d)).toArray) 1) (.agg (arrL 8 (untils Sp.hi d)).toArray), .raw (Instr.index 79 (.agg (arrL 8 (untils Sp.hi d)).toArray) (.int .i64 lot)) (.int .i64 ((untils Sp.hi d) lot.toNat)), .lds ⟨b1, 0, none⟩ [.int .i64 d.hours, .slice v.ha v.hn v.hc, .slice v.la v.ln v.lc, .slice v.wa v.wn v.wc], .call 52 #[] (.agg #[.func (.func 70) #[] #[]]), .call 50 #[.agg #[.int .i64 d.hours, .slice v.ha v.hn v.hc, .slice v.la v.ln v.lc, .slice v.wa v.wn v.wc], .agg #[.func (.func 70) #[] #[]]] (.agg (dayL v d (untils Sp.lo d)).toArray), .raw (Instr.field 81 (.agg (dayL v d (untils Sp.lo d)).toArray) 1) (.agg (arrL 8 (untils Sp.lo d)).toArray), .raw (Instr.index 79 (.agg (arrL 8 (untils Sp.lo d)).toArray) (.int .i64 lot)) (.int .i64 ((untils Sp.lo d) lot.toNat))]) [4, 5, 6] (.cons (ldso hO.st 0 rfl 0 rfl) <| .cons (fun w _ => surely_calls w) <| .cons (fun w hE => opened_hi_calls d v w (hd.upM (hO.st w hE).kp nom (Nat.le_refl _)) hv) <| .cons (fun w _ => by kernel_rfl) <| .cons (raw_index arrT79 (untils Sp.hi d) (by omega) (by omega)) <| .cons (ldso hO.st 0 rfl 0 rfl) <| .cons (fun w _ => best_calls w) <| .cons (fun w hE => opened_lo_calls d v w (hd.upM (hO.st w hE).kp nom (Nat.le_refl _)) hv) <| .cons (fun w _ => by kernel_rfl) <| .cons (raw_index arrT79 (untils Sp.lo d) (by omega) (by omega)) <| .nil) (by kernel_rfl) (by kernel_rfl) fun a w hF hE => ?_)
      replace hO := hO.ext hE; clear hE
      refine W_ret ?_
      show bodyPostM (FW none) 0 _ _ _ Exit.ret a w
      exact leave_r TBok hF (.nil _) (vs := [.int .i64 ((untils Sp.hi d) lot.toNat), .int .i64 ((untils Sp.lo d) lot.toNat), .int .i64 0]) (rs := []) .nil (by kernel_rfl) ⟨by rw [gutUntil, if_neg (by simpa using hc2), if_pos (by simpa [hl2] using hc3)]; rfl, hO.kp⟩

end Go.Proofs.Ytioimdegbdkppaa.DK
