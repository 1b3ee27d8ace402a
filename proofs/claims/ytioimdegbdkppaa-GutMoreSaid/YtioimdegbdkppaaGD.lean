/- Walks: who can take a lot, one after the other. Printed by my gen.py out of gut/d.py. -/
import Derived.Test.YtioimdegbdkppaaGC
import Derived.Test.YtioimdegbdkppaaGM
namespace Go.Proofs.Ytioimdegbdkppaa.DK
open Go Go.Proofs
set_option linter.unusedVariables false

set_option maxRecDepth 100000 in
theorem slots_calls (d : Day) (v : DV) (f : Nat → Int) (lot : Int) (w0 : World) :
    Calls Try.prog 63 #[.agg (dayL v d f).toArray, .int .i64 lot] w0 (fun e w' => ∃ b1 b2, e = .returned (.func (.func 72) #[] #[.pointer (some ⟨b1, 0, none⟩), .pointer (some ⟨b2, 0, none⟩)]) ∧ Own w0 none_ [cel b1 (dayL v d f).toArray 81, cel b2 #[.int .i64 lot] 3] w') := by
  refine calls_of_W Try.func63 rfl (by kernel_rfl) (args := [.agg (dayL v d f).toArray, .int .i64 lot]) fun a hF => ?_
  replace hF : Fr 6 [] [(0, .agg (dayL v d f).toArray), (1, .int .i64 lot)] a := hF
  have hO : Own w0 none_ [] w0 := Own.start w0 _
  refine W_seq (region_seq ?_)
  refine op_box (i := 0) (t := 81) (v := .agg (dayL v d f).toArray) (d := 2) hF hO (by kernel_rfl) fun a w b1 hF hO _ => ?_
  replace hO : Own w0 none_ [cel b1 (dayL v d f).toArray 81] w := hO
  refine op_box (i := 1) (t := 3) (v := .int .i64 lot) (d := 3) hF hO (by kernel_rfl) fun a w b2 hF hO _ => ?_
  replace hO : Own w0 none_ [cel b1 (dayL v d f).toArray 81, cel b2 #[.int .i64 lot] 3] w := hO
  refine seq_quiet {} TBok hF (F' := [(2, .pointer (some ⟨b1, 0, none⟩)), (3, .pointer (some ⟨b2, 0, none⟩)), (4, .nilFunc)]) (rs := []) [2] [] [2, 3, 4] .nil (by kernel_rfl) fun a w hF hE => ?_
  replace hO := hO.ext hE; clear hE
  refine W_seq (region_q {} TBok hF (F' := [(4, .func (.func 72) #[] #[.pointer (some ⟨b1, 0, none⟩), .pointer (some ⟨b2, 0, none⟩)])]) (rs := []) [4] .nil (by kernel_rfl) fun a w hF hE => ?_)
  replace hO := hO.ext hE; clear hE
  refine W_ret ?_
  show bodyPostM (FW none) 0 _ _ _ Exit.ret a w
  exact leave_r TBok hF (.nil _) (vs := [.func (.func 72) #[] #[.pointer (some ⟨b1, 0, none⟩), .pointer (some ⟨b2, 0, none⟩)]]) (rs := []) .nil (by kernel_rfl) ⟨_, _, rfl, hO⟩

set_option maxRecDepth 100000 in
theorem slots_run (d : Day) (v : DV) (f : Nat → Int) (lot : Int) (b1 b2 l : Nat) (J : List (Int × Int) → World → Prop) (Stop : World → Prop) (w0 : World) (hv : dayV d = true) (hl : 0 ≤ lot ∧ lot < v.ln) (hJE : ∀ r w w', J r w → Ext w w' → J r w') (hSE : ∀ w w', Stop w → Ext w w' → Stop w')
    (hJR : ∀ r w, J r w → DayR w.heap.size w v d ∧ Ro b1 (dayL v d f) w ∧ Ro b2 [.int .i64 lot] w)
    (hy : ∀ x r w, J (x :: r) w → Yields Try.prog l (slv x) w (fun b w' => match b with | true => J r w' | false => Stop w'))
    (h0 : J (slotsA d f lot 0) w0) :
    Calls Try.prog 72 #[.func (.yield l) #[] #[], .pointer (some ⟨b1, 0, none⟩), .pointer (some ⟨b2, 0, none⟩)] w0 (fun e w' => e = .returned (.tuple #[]) ∧ (J [] w' ∨ Stop w')) := by
  obtain ⟨hd, hr1, hr2⟩ := hJR _ _ h0
  have hl1 := hd.heat.len; have hl2 := hd.lots.len; have hl3 := hd.wks.len; have hs1 := hd.heat.size; have hs2 := hd.lots.size; have hs3 := hd.wks.size; have hv1 := day_ok hv
  refine calls_of_W Try.func72 rfl (by kernel_rfl) (args := [.func (.yield l) #[] #[], .pointer (some ⟨b1, 0, none⟩), .pointer (some ⟨b2, 0, none⟩)]) fun a hF => ?_
  replace hF : Fr 35 [] [(0, .func (.yield l) #[] #[]), (1, .pointer (some ⟨b1, 0, none⟩)), (2, .pointer (some ⟨b2, 0, none⟩))] a := hF
  have hO : Own w0 none_ [] w0 := Own.start w0 _
  refine W_seq (region_q {} TBok hF (F' := [(0, .func (.yield l) #[] #[]), (1, .pointer (some ⟨b1, 0, none⟩)), (2, .pointer (some ⟨b2, 0, none⟩)), (10, .int .i64 (v.wn : Int)), (11, .int .i64 0)]) (rs := [.ld ⟨b1, 3, none⟩ (.slice v.wa v.wn v.wc)]) [0, 1, 2, 10, 11] (.cons (ldr hO.st hr1 (fun h => h) 3 (by kernel_rfl)) <| .nil) (by kernel_rfl) fun a w hF hE => ?_)
  replace hO := hO.ext hE; clear hE
  refine (W_block ?_)
  refine (W_loop (fun m a w => ∃ (k : Nat), m = v.wn - k ∧ k ≤ v.wn ∧ J (slotsA d f lot k) w ∧ Fr 35 [] [(0, .func (.yield l) #[] #[]), (1, .pointer (some ⟨b1, 0, none⟩)), (2, .pointer (some ⟨b2, 0, none⟩)), (10, .int .i64 (v.wn : Int)), (11, .int .i64 (k : Int))] a ∧ Own w none_ [] w) _ ⟨0, rfl, Nat.zero_le _, hJE _ _ _ h0 hO.kp, hF, Own.start _ _⟩ ?_)
  clear hF hO
  rintro _ a w0 ⟨k, rfl, hk, hJ, hF, hO⟩
  obtain ⟨hd, hr1, hr2⟩ := hJR _ _ hJ
  have hl1 := hd.heat.len; have hl2 := hd.lots.len; have hl3 := hd.wks.len; have hs1 := hd.heat.size; have hs2 := hd.lots.size; have hs3 := hd.wks.size; have hv1 := day_ok hv
  refine W_seq (region_q {} TBok hF (F' := [(0, .func (.yield l) #[] #[]), (1, .pointer (some ⟨b1, 0, none⟩)), (2, .pointer (some ⟨b2, 0, none⟩)), (10, .int .i64 (v.wn : Int)), (11, .int .i64 (k : Int)), (12, .bool (decide ((k : Int) < (v.wn : Int))))]) (rs := []) [0, 1, 2, 10, 11, 12] .nil (by kernel_rfl) fun a w hF hE => ?_)
  replace hO := hO.ext hE; clear hE
  rcases Bool.eq_false_or_eq_true (decide ((k : Int) < (v.wn : Int))) with hc1 | hc1
  · refine W_seq (W_true ((evOp hF (by kernel_rfl)).trans (congrArg Value.bool hc1)) ?_)
    have hc1_ := of_decide_eq_true hc1
    refine (W_skip ?_)
    refine W_seq (W_block ?_)
    refine W_seq (region_q {} TBok hF (F' := [(0, .func (.yield l) #[] #[]), (1, .pointer (some ⟨b1, 0, none⟩)), (2, .pointer (some ⟨b2, 0, none⟩)), (4, .int .i64 (k : Int)), (10, .int .i64 (v.wn : Int)), (11, .int .i64 (k : Int))]) (rs := []) [0, 1, 2, 4, 10, 11] .nil (by kernel_rfl) fun a w hF hE => ?_)
    replace hO := hO.ext hE; clear hE
    refine W_seq (region_q {} TBok hF (F' := [(0, .func (.yield l) #[] #[]), (1, .pointer (some ⟨b1, 0, none⟩)), (2, .pointer (some ⟨b2, 0, none⟩)), (4, .int .i64 (k : Int)), (10, .int .i64 (v.wn : Int)), (11, .int .i64 (k : Int)), (16, .int .i64 d.hours), (17, .int .i64 0)]) (rs := [.ld ⟨b1, 0, none⟩ (.int .i64 d.hours)]) [0, 1, 2, 4, 10, 11, 16, 17] (.cons (ldr hO.st hr1 (fun h => h) 0 (by kernel_rfl)) <| .nil) (by kernel_rfl) fun a w hF hE => ?_)
    replace hO := hO.ext hE; clear hE
    refine (W_block ?_)
    refine (W_loop (fun m a w => ∃ (h : Nat), m = d.hours.toNat - h ∧ (h : Int) ≤ d.hours ∧ J (slotsW d f lot k h ++ slotsA d f lot (k + 1)) w ∧ Fr 35 [] [(0, .func (.yield l) #[] #[]), (1, .pointer (some ⟨b1, 0, none⟩)), (2, .pointer (some ⟨b2, 0, none⟩)), (4, .int .i64 (k : Int)), (10, .int .i64 (v.wn : Int)), (11, .int .i64 (k : Int)), (16, .int .i64 d.hours), (17, .int .i64 (h : Int))] a ∧ Own w none_ [] w) _ ⟨0, rfl, (by omega), (by rw [← slotsA_step (by omega)]; exact hJE _ _ _ hJ hO.kp), hF, Own.start _ _⟩ ?_)
    clear hF hO
    rintro _ a w0 ⟨h, rfl, hh, hJ, hF, hO⟩
    obtain ⟨hd, hr1, hr2⟩ := hJR _ _ hJ
    have hl1 := hd.heat.len; have hl2 := hd.lots.len; have hl3 := hd.wks.len; have hs1 := hd.heat.size; have hs2 := hd.lots.size; have hs3 := hd.wks.size; have hv1 := day_ok hv
    refine W_seq (region_q {} TBok hF (F' := [(0, .func (.yield l) #[] #[]), (1, .pointer (some ⟨b1, 0, none⟩)), (2, .pointer (some ⟨b2, 0, none⟩)), (4, .int .i64 (k : Int)), (10, .int .i64 (v.wn : Int)), (11, .int .i64 (k : Int)), (16, .int .i64 d.hours), (17, .int .i64 (h : Int)), (18, .bool (decide ((h : Int) < d.hours)))]) (rs := []) [0, 1, 2, 4, 10, 11, 16, 17, 18] .nil (by kernel_rfl) fun a w hF hE => ?_)
    replace hO := hO.ext hE; clear hE
    rcases Bool.eq_false_or_eq_true (decide ((h : Int) < d.hours)) with hc2 | hc2
    · refine W_seq (W_true ((evOp hF (by kernel_rfl)).trans (congrArg Value.bool hc2)) ?_)
      have hc2_ := of_decide_eq_true hc2
      refine (W_skip ?_)
      refine W_seq (W_block ?_)
      refine W_seq (region_q {} TBok hF (F' := [(0, .func (.yield l) #[] #[]), (1, .pointer (some ⟨b1, 0, none⟩)), (2, .pointer (some ⟨b2, 0, none⟩)), (4, .int .i64 (k : Int)), (5, .int .i64 (h : Int)), (10, .int .i64 (v.wn : Int)), (11, .int .i64 (k : Int)), (16, .int .i64 d.hours), (17, .int .i64 (h : Int))]) (rs := []) [0, 1, 2, 4, 5, 10, 11, 16, 17] .nil (by kernel_rfl) fun a w hF hE => ?_)
      replace hO := hO.ext hE; clear hE
      refine W_seq (region_seq ?_)
      refine seq_quiet { md := [(2, 3)] } TBok hF (F' := [(0, .func (.yield l) #[] #[]), (1, .pointer (some ⟨b1, 0, none⟩)), (2, .pointer (some ⟨b2, 0, none⟩)), (4, .int .i64 (k : Int)), (10, .int .i64 (v.wn : Int)), (11, .int .i64 (k : Int)), (16, .int .i64 d.hours), (17, .int .i64 (h : Int)), (22, .agg #[.int .i64 (k : Int), .int .i64 (h : Int)])]) (rs := [.raw (Instr.build 93 #[(0, .int .i64 (k : Int)), (1, .int .i64 (h : Int))]) (.agg #[.int .i64 (k : Int), .int .i64 (h : Int)])]) [0, 1, 2] [3, 4] [0, 1, 2, 4, 10, 11, 16, 17, 22] (.cons (fun w _ => by kernel_rfl) <| .nil) (by kernel_rfl) fun a w hF hE => ?_
      replace hO := hO.ext hE; clear hE
      refine op_alloc (i := 3) (t := 93) (d := 6) (z := .agg #[.int .i64 0, .int .i64 0]) hF hO (by kernel_rfl) (by kernel_rfl) fun a w b3 hF hO _ => ?_
      replace hO : Own w0 none_ [cel b3 #[.int .i64 0, .int .i64 0] 93] w := hO
      refine op_store (i := 4) (t := 93) (p := ⟨b3, 0, none⟩) (v := .agg #[.int .i64 (k : Int), .int .i64 (h : Int)]) (off := 0) (sz := 2) (cs' := #[.int .i64 (k : Int), .int .i64 (h : Int)]) hF hO (by kernel_rfl) 0 rfl rfl (by kernel_rfl) (by kernel_rfl) (by kernel_rfl) fun a w hF hO _ => ?_
      replace hO : Own w0 none_ [cel b3 #[.int .i64 (k : Int), .int .i64 (h : Int)] 93] w := hO
      replace hF := hF.sel [0, 1, 2, 4, 6, 10, 11, 16, 17]
      replace hF : Fr 35 [] [(0, .func (.yield l) #[] #[]), (1, .pointer (some ⟨b1, 0, none⟩)), (2, .pointer (some ⟨b2, 0, none⟩)), (4, .int .i64 (k : Int)), (6, .pointer (some ⟨b3, 0, none⟩)), (10, .int .i64 (v.wn : Int)), (11, .int .i64 (k : Int)), (16, .int .i64 d.hours), (17, .int .i64 (h : Int))] a := hF
      refine W_seq (region_seq ?_)
      refine seq_quiet {} TBok hF (F' := [(0, .func (.yield l) #[] #[]), (1, .pointer (some ⟨b1, 0, none⟩)), (2, .pointer (some ⟨b2, 0, none⟩)), (4, .int .i64 (k : Int)), (6, .pointer (some ⟨b3, 0, none⟩)), (10, .int .i64 (v.wn : Int)), (11, .int .i64 (k : Int)), (16, .int .i64 d.hours), (17, .int .i64 (h : Int)), (27, .bool (canB d f lot ((k : Int), (h : Int))))]) (rs := [.lds ⟨b1, 0, none⟩ (dayL v d f), .ld ⟨b2, 0, none⟩ (.int .i64 lot), .lds ⟨b3, 0, none⟩ [.int .i64 (k : Int), .int .i64 (h : Int)], .call 57 #[.agg (dayL v d f).toArray, .int .i64 lot, .agg #[.int .i64 (k : Int), .int .i64 (h : Int)]] (.bool (canB d f lot ((k : Int), (h : Int))))]) [0, 1, 2, 3, 4] [5, 6, 7, 8, 9] [0, 1, 2, 4, 6, 10, 11, 16, 17, 27] (.cons (ldsr hO.st hr1 (fun h => h) 0 (by kernel_rfl)) <| .cons (ldr hO.st hr2 (fun h => h) 0 rfl) <| .cons (ldso hO.st 0 rfl 0 rfl) <| .cons (fun w hE => can_calls d v f lot (k : Int) (h : Int) w (hd.upM (hO.st w hE).kp nom (Nat.le_refl _)) hv (by omega) (by omega)) <| .nil) (by kernel_rfl) fun a w hF hE => ?_
      replace hO := hO.ext hE; clear hE
      rcases Bool.eq_false_or_eq_true (canB d f lot ((k : Int), (h : Int))) with hc4 | hc4
      · replace hF : Fr 35 [] [(0, .func (.yield l) #[] #[]), (1, .pointer (some ⟨b1, 0, none⟩)), (2, .pointer (some ⟨b2, 0, none⟩)), (4, .int .i64 (k : Int)), (6, .pointer (some ⟨b3, 0, none⟩)), (10, .int .i64 (v.wn : Int)), (11, .int .i64 (k : Int)), (16, .int .i64 d.hours), (17, .int .i64 (h : Int)), (27, .bool true)] a := hF.cast (by rw [hc4])
        refine seq_quiet {} TBok hF (F' := [(0, .func (.yield l) #[] #[]), (1, .pointer (some ⟨b1, 0, none⟩)), (2, .pointer (some ⟨b2, 0, none⟩)), (4, .int .i64 (k : Int)), (10, .int .i64 (v.wn : Int)), (11, .int .i64 (k : Int)), (16, .int .i64 d.hours), (17, .int .i64 (h : Int)), (27, .bool true), (28, .func (.yield l) #[] #[]), (29, .agg #[.int .i64 (k : Int), .int .i64 (h : Int)])]) (rs := [.lds ⟨b3, 0, none⟩ [.int .i64 (k : Int), .int .i64 (h : Int)]]) [5, 6] [7, 8, 9] [0, 1, 2, 4, 10, 11, 16, 17, 27, 28, 29] (.cons (ldso hO.st 0 rfl 0 rfl) <| .nil) (by kernel_rfl) fun a w hF hE => ?_
        replace hO := hO.ext hE; clear hE
        have hJ2 : J (((k : Int), (h : Int)) :: (slotsW d f lot k (h + 1) ++ slotsA d f lot (k + 1))) w := by rw [← List.cons_append, ← slotsW_yes (by omega) hc4]; exact hJE _ _ _ hJ hO.kp
        refine op_yield (i := 7) (l := l) (arg := slv ((k : Int), (h : Int))) (d := some 30) hF (by kernel_rfl) (hy _ _ _ hJ2) fun b a w0 hR hF => ?_
        have hO : Own w0 none_ [] w0 := Own.start w0 _
        cases b
        · have hJ3 : Stop w0 := hR
          refine seq_quiet {} TBok hF (F' := [(0, .func (.yield l) #[] #[]), (1, .pointer (some ⟨b1, 0, none⟩)), (2, .pointer (some ⟨b2, 0, none⟩)), (4, .int .i64 (k : Int)), (10, .int .i64 (v.wn : Int)), (11, .int .i64 (k : Int)), (16, .int .i64 d.hours), (17, .int .i64 (h : Int)), (32, .bool true)]) (rs := []) [8, 9] [] [0, 1, 2, 4, 10, 11, 16, 17, 32] .nil (by kernel_rfl) fun a w hF hE => ?_
          replace hO := hO.ext hE; clear hE
          refine (W_true (evOp hF (by kernel_rfl)) ?_)
          refine W_ret ?_
          show bodyPostM (FW none) 0 _ _ _ Exit.ret a w
          exact leave_r TBok hF (.nil _) (vs := []) (rs := []) .nil (by kernel_rfl) ⟨rfl, .inr (hSE _ _ hJ3 hO.kp)⟩
        · have hJ3 : J (slotsW d f lot k (h + 1) ++ slotsA d f lot (k + 1)) w0 := hR
          refine seq_quiet {} TBok hF (F' := [(0, .func (.yield l) #[] #[]), (1, .pointer (some ⟨b1, 0, none⟩)), (2, .pointer (some ⟨b2, 0, none⟩)), (4, .int .i64 (k : Int)), (10, .int .i64 (v.wn : Int)), (11, .int .i64 (k : Int)), (16, .int .i64 d.hours), (17, .int .i64 (h : Int)), (32, .bool false)]) (rs := []) [8, 9] [] [0, 1, 2, 4, 10, 11, 16, 17, 32] .nil (by kernel_rfl) fun a w hF hE => ?_
          replace hO := hO.ext hE; clear hE
          refine (W_false (evOp hF (by kernel_rfl)) ?_)
          refine (W_skip ?_)
          refine (region_q {} TBok hF (F' := [(0, .func (.yield l) #[] #[]), (1, .pointer (some ⟨b1, 0, none⟩)), (2, .pointer (some ⟨b2, 0, none⟩)), (4, .int .i64 (k : Int)), (10, .int .i64 (v.wn : Int)), (11, .int .i64 (k : Int)), (16, .int .i64 d.hours), (17, .int .i64 ((h : Int) + 1))]) (rs := [.rng ((h : Int) + 1)]) [0, 1, 2, 4, 10, 11, 16, 17] (.cons (rg (by omega)) <| .nil) (by kernel_rfl) fun a w hF hE => ?_)
          replace hO := hO.ext hE; clear hE
          exact ⟨_, by omega, h + 1, rfl, by omega, hJE _ _ _ hJ3 hO.kp, hF, Own.start _ _⟩
      · replace hF : Fr 35 [] [(0, .func (.yield l) #[] #[]), (1, .pointer (some ⟨b1, 0, none⟩)), (2, .pointer (some ⟨b2, 0, none⟩)), (4, .int .i64 (k : Int)), (6, .pointer (some ⟨b3, 0, none⟩)), (10, .int .i64 (v.wn : Int)), (11, .int .i64 (k : Int)), (16, .int .i64 d.hours), (17, .int .i64 (h : Int)), (27, .bool false)] a := hF.cast (by rw [hc4])
        refine seq_quiet {} TBok hF (F' := [(0, .func (.yield l) #[] #[]), (1, .pointer (some ⟨b1, 0, none⟩)), (2, .pointer (some ⟨b2, 0, none⟩)), (4, .int .i64 (k : Int)), (10, .int .i64 (v.wn : Int)), (11, .int .i64 (k : Int)), (16, .int .i64 d.hours), (17, .int .i64 (h : Int)), (32, .bool false)]) (rs := []) [5, 6, 7, 8, 9] [] [0, 1, 2, 4, 10, 11, 16, 17, 32] .nil (by kernel_rfl) fun a w hF hE => ?_
        replace hO := hO.ext hE; clear hE
        refine (W_false (evOp hF (by kernel_rfl)) ?_)
        refine (W_skip ?_)
        refine (region_q {} TBok hF (F' := [(0, .func (.yield l) #[] #[]), (1, .pointer (some ⟨b1, 0, none⟩)), (2, .pointer (some ⟨b2, 0, none⟩)), (4, .int .i64 (k : Int)), (10, .int .i64 (v.wn : Int)), (11, .int .i64 (k : Int)), (16, .int .i64 d.hours), (17, .int .i64 ((h : Int) + 1))]) (rs := [.rng ((h : Int) + 1)]) [0, 1, 2, 4, 10, 11, 16, 17] (.cons (rg (by omega)) <| .nil) (by kernel_rfl) fun a w hF hE => ?_)
        replace hO := hO.ext hE; clear hE
        have hJ3 := hJ
        rw [slotsW_no (by omega) hc4] at hJ3
        replace hO := hO.drop1 0
        replace hO : Own w0 none_ [] w := hO
        exact ⟨_, by omega, h + 1, rfl, by omega, hJE _ _ _ hJ3 hO.kp, hF, Own.start _ _⟩
    · refine W_seq (W_false ((evOp hF (by kernel_rfl)).trans (congrArg Value.bool hc2)) ?_)
      have hc2_ := of_decide_eq_false hc2
      refine (W_exit ?_)
      refine (region_q {} TBok hF (F' := [(0, .func (.yield l) #[] #[]), (1, .pointer (some ⟨b1, 0, none⟩)), (2, .pointer (some ⟨b2, 0, none⟩)), (10, .int .i64 (v.wn : Int)), (11, .int .i64 ((k : Int) + 1))]) (rs := [.rng ((k : Int) + 1)]) [0, 1, 2, 10, 11] (.cons (rg (by omega)) <| .nil) (by kernel_rfl) fun a w hF hE => ?_)
      replace hO := hO.ext hE; clear hE
      have e1 : slotsW d f lot k h = [] := slotsW_end (by omega)
      rw [e1, List.nil_append] at hJ
      exact ⟨_, by omega, k + 1, rfl, by omega, hJE _ _ _ hJ hO.kp, hF, Own.start _ _⟩
  · refine W_seq (W_false ((evOp hF (by kernel_rfl)).trans (congrArg Value.bool hc1)) ?_)
    have hc1_ := of_decide_eq_false hc1
    refine (W_exit ?_)
    show bodyPostM (FW none) 0 _ _ _ Exit.normal a w
    have e1 : slotsA d f lot k = [] := slotsA_end (by omega)
    rw [e1] at hJ
    exact leave_normal TBok hF (.nil _) (vs := []) (rs := []) .nil (by kernel_rfl) ⟨rfl, .inl (hJE _ _ _ hJ hO.kp)⟩

end Go.Proofs.Ytioimdegbdkppaa.DK
