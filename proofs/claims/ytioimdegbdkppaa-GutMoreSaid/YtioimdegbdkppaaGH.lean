/- Walks: deficits. Printed by my gen.py out of gut/h.py. -/
import Derived.Test.YtioimdegbdkppaaGG
namespace Go.Proofs.Ytioimdegbdkppaa.DK
open Go Go.Proofs
set_option linter.unusedVariables false

set_option maxRecDepth 100000 in
theorem deficit_calls (d : Day) (v : DV) (f : Nat → Int) (xs : List Int) (p : Option Addr) (n c : Nat) (w0 : World) (hd : DayR w0.heap.size w0 v d) (hv : dayV d = true) (hx : Rd encI 1 w0.heap.size w0 p n xs) (hn : n ≤ 1000) (hin : ∀ x ∈ xs, 0 ≤ x ∧ x < v.ln) :
    Calls Try.prog 65 #[.agg (dayL v d f).toArray, .slice p n c] w0 (fun e w' => e = .returned (.int .i64 (defF d f xs)) ∧ Ext w0 w') := by
  have hl1 := hd.heat.len; have hl2 := hd.lots.len; have hl3 := hd.wks.len; have hs1 := hd.heat.size; have hs2 := hd.lots.size; have hs3 := hd.wks.size; have hv1 := day_ok hv; have hx1 := hx.len
  refine calls_of_W Try.func65 rfl (by kernel_rfl) (args := [.agg (dayL v d f).toArray, .slice p n c]) fun a hF => ?_
  replace hF : Fr 55 [] [(0, .agg (dayL v d f).toArray), (1, .slice p n c)] a := hF
  have hO : Own w0 none_ [] w0 := Own.start w0 _
  refine W_seq (region_seq ?_)
  refine op_box (i := 0) (t := 81) (v := .agg (dayL v d f).toArray) (d := 2) hF hO (by kernel_rfl) fun a w b1 hF hO _ => ?_
  replace hO : Own w0 none_ [cel b1 (dayL v d f).toArray 81] w := hO
  refine seq_quiet {} TBok hF (F' := [(1, .slice p n c), (2, .pointer (some ⟨b1, 0, none⟩)), (4, .int .i64 0)]) (rs := []) [1] [] [1, 2, 4] .nil (by kernel_rfl) fun a w hF hE => ?_
  replace hO := hO.ext hE; clear hE
  refine W_seq (region_seq ?_)
  refine op_alloc (i := 0) (t := 3) (d := 5) (z := .int .i64 0) hF hO (by kernel_rfl) (by kernel_rfl) fun a w b2 hF hO _ => ?_
  replace hO : Own w0 none_ [cel b1 (dayL v d f).toArray 81, cel b2 #[.int .i64 0] 3] w := hO
  refine op_store (i := 1) (t := 3) (p := ⟨b2, 0, none⟩) (v := .int .i64 0) (off := 0) (sz := 1) (cs' := #[.int .i64 0]) hF hO (by kernel_rfl) 1 rfl rfl (by kernel_rfl) (by kernel_rfl) (by kernel_rfl) fun a w hF hO _ => ?_
  replace hO : Own w0 none_ [cel b1 (dayL v d f).toArray 81, cel b2 #[.int .i64 0] 3] w := hO
  replace hF := hF.sel [1, 2, 4, 5]
  replace hF : Fr 55 [] [(1, .slice p n c), (2, .pointer (some ⟨b1, 0, none⟩)), (4, .int .i64 0), (5, .pointer (some ⟨b2, 0, none⟩))] a := hF
  refine W_seq (region_seq ?_)
  refine op_mmapt (i := 0) (t := 113) (d := 11) (.bool false) Value.bool false (by kernel_rfl) hF hO (by kernel_rfl) fun a w b3 hF hO _ => ?_
  replace hO : Own w0 none_ [cel b1 (dayL v d f).toArray 81, cel b2 #[.int .i64 0] 3, mapT b3 (.bool false) Value.bool (fun _ => false)] w := hO
  refine op_alloc (i := 1) (t := 113) (d := 6) (z := .map none) hF hO (by kernel_rfl) (by kernel_rfl) fun a w b4 hF hO _ => ?_
  replace hO : Own w0 none_ [cel b1 (dayL v d f).toArray 81, cel b2 #[.int .i64 0] 3, mapT b3 (.bool false) Value.bool (fun _ => false), cel b4 #[.map none] 113] w := hO
  refine op_store (i := 2) (t := 113) (p := ⟨b4, 0, none⟩) (v := .map (some b3)) (off := 0) (sz := 1) (cs' := #[.map (some b3)]) hF hO (by kernel_rfl) 3 rfl rfl (by kernel_rfl) (by kernel_rfl) (by kernel_rfl) fun a w hF hO _ => ?_
  replace hO : Own w0 none_ [cel b1 (dayL v d f).toArray 81, cel b2 #[.int .i64 0] 3, mapT b3 (.bool false) Value.bool (fun _ => false), cel b4 #[.map (some b3)] 113] w := hO
  replace hF := hF.sel [1, 2, 4, 5, 6]
  replace hF : Fr 55 [] [(1, .slice p n c), (2, .pointer (some ⟨b1, 0, none⟩)), (4, .int .i64 0), (5, .pointer (some ⟨b2, 0, none⟩)), (6, .pointer (some ⟨b4, 0, none⟩))] a := hF
  refine W_seq ?_
  refine W_seq (region_q {} TBok hF (F' := [(2, .pointer (some ⟨b1, 0, none⟩)), (4, .int .i64 0), (5, .pointer (some ⟨b2, 0, none⟩)), (6, .pointer (some ⟨b4, 0, none⟩)), (12, .slice p n c), (13, .int .i64 (n : Int)), (14, .int .i64 0)]) (rs := []) [2, 4, 5, 6, 12, 13, 14] .nil (by kernel_rfl) fun a w hF hE => ?_)
  replace hO := hO.ext hE; clear hE
  refine (W_block ?_)
  replace hO := hO.dfs0
  refine (W_loop (fun m a w => ∃ (k : Nat), ∃ (Ds : List Nat), m = n - k ∧ k ≤ n ∧ -5000 * (k : Int) ≤ (defK d f xs k).1 ∧ (defK d f xs k).1 ≤ 50 * (k : Int) ∧ Fr 55 (Ds.map mk) [(2, .pointer (some ⟨b1, 0, none⟩)), (4, .int .i64 0), (5, .pointer (some ⟨b2, 0, none⟩)), (6, .pointer (some ⟨b4, 0, none⟩)), (12, .slice p n c), (13, .int .i64 (n : Int)), (14, .int .i64 (k : Int))] a ∧ Own w0 none_ [cel b1 (dayL v d f).toArray 81, cel b2 #[.int .i64 ((defK d f xs k).1)] 3, mapT b3 (.bool false) Value.bool ((defK d f xs k).2), cel b4 #[.map (some b3)] 113, dfs Ds] w) _ ⟨0, [], rfl, Nat.zero_le _, by simp [defK], by simp [defK], hF, hO⟩ ?_)
  clear hF hO
  rintro _ a w ⟨k, Ds, rfl, hk, hq0, hq1, hF, hO⟩
  refine W_seq (region_q {} TBok hF (F' := [(2, .pointer (some ⟨b1, 0, none⟩)), (4, .int .i64 0), (5, .pointer (some ⟨b2, 0, none⟩)), (6, .pointer (some ⟨b4, 0, none⟩)), (12, .slice p n c), (13, .int .i64 (n : Int)), (14, .int .i64 (k : Int)), (15, .bool (decide ((k : Int) < (n : Int))))]) (rs := []) [2, 4, 5, 6, 12, 13, 14, 15] .nil (by kernel_rfl) fun a w hF hE => ?_)
  replace hO := hO.ext hE; clear hE
  rcases Bool.eq_false_or_eq_true (decide ((k : Int) < (n : Int))) with hc5 | hc5
  · refine W_seq (W_true ((evOp hF (by kernel_rfl)).trans (congrArg Value.bool hc5)) ?_)
    have hkn : (k : Int) < n := of_decide_eq_true (by assumption)
    have hlot := hin (xs.getD k default) (getD_mem (by omega))
    have hlk := lot_ok hv (i := (xs.getD k default).toNat) (by omega)
    refine (W_skip ?_)
    refine W_seq (W_block ?_)
    refine W_seq (region_q {} TBok hF (F' := [(2, .pointer (some ⟨b1, 0, none⟩)), (4, .int .i64 0), (5, .pointer (some ⟨b2, 0, none⟩)), (6, .pointer (some ⟨b4, 0, none⟩)), (8, .int .i64 (xs.getD k default)), (12, .slice p n c), (13, .int .i64 (n : Int)), (14, .int .i64 (k : Int))]) (rs := [.idx p n (k : Int) 1 (adr p 1 (k : Int)), .ld (adr p 1 (k : Int)) (.int .i64 (xs.getD k default))]) [2, 4, 5, 6, 8, 12, 13, 14] (.cons (ix hx (by omega) (by omega)) <| .cons (ldx hO.st nom hx (by omega) (by omega) 0 rfl) <| .nil) (by kernel_rfl) fun a w hF hE => ?_)
    replace hO := hO.ext hE; clear hE
    refine W_seq (draw_start (R := none_) mixed [9] 10 (by kernel_rfl) fun w hS => ?_)
    replace hO := hO.ext hS
    refine draw_q {} TBok hF hS (F' := [(2, .pointer (some ⟨b1, 0, none⟩)), (4, .int .i64 0), (5, .pointer (some ⟨b2, 0, none⟩)), (6, .pointer (some ⟨b4, 0, none⟩)), (8, .int .i64 (xs.getD k default)), (12, .slice p n c), (13, .int .i64 (n : Int)), (14, .int .i64 (k : Int)), (26, .int .i64 ((defK d f xs k).1 + (d.lots.getD (xs.getD k default).toNat default).cr))]) (rs := [.ld ⟨b2, 0, none⟩ (.int .i64 ((defK d f xs k).1)), .ld ⟨b1, 2, none⟩ (.slice v.la v.ln v.lc), .idx v.la v.ln (xs.getD k default) 4 (adr v.la 4 (xs.getD k default)), .ld (adr v.la 4 (xs.getD k default)) (.int .i64 ((d.lots.getD (xs.getD k default).toNat default).cr)), .rng ((defK d f xs k).1 + (d.lots.getD (xs.getD k default).toNat default).cr)]) [0, 1, 2, 3, 4, 5, 6, 7, 8] 10 1 (by kernel_rfl) #[true, true, true, true, true, true, true, true, true, false] [2, 4, 5, 6, 8, 12, 13, 14, 26] (.cons (ldo hO.st 1 rfl 0 rfl) <| .cons (ldo hO.st 0 rfl 2 (by kernel_rfl)) <| .cons (ix hd.lots (by omega) (by omega)) <| .cons (ldx hO.st nom hd.lots (by omega) (by omega) 0 rfl) <| .cons (rg (by omega)) <| .nil) (by kernel_rfl) (by kernel_rfl) fun a hF => ?_
    replace hS := Kp.refl none_ w
    refine any_pick (rs := [9]) (by kernel_rfl) (by simp) fun w hE => all1 ?_
    replace hO := hO.ext hE; replace hS := hS.trans (Ext.kp hE)
    refine op_store (i := 9) (t := 3) (p := ⟨b2, 0, none⟩) (v := .int .i64 ((defK d f xs k).1 + (d.lots.getD (xs.getD k default).toNat default).cr)) (off := 0) (sz := 1) (cs' := #[.int .i64 ((defK d f xs k).1 + (d.lots.getD (xs.getD k default).toNat default).cr)]) hF hO (by kernel_rfl) 1 rfl rfl (by kernel_rfl) (by kernel_rfl) (by kernel_rfl) fun a w hF hO _ => ⟨.inl rfl, ?_⟩
    replace hO : Own w0 none_ [cel b1 (dayL v d f).toArray 81, cel b2 #[.int .i64 ((defK d f xs k).1 + (d.lots.getD (xs.getD k default).toNat default).cr)] 3, mapT b3 (.bool false) Value.bool ((defK d f xs k).2), cel b4 #[.map (some b3)] 113, dfs Ds] w := hO
    refine any_done (by kernel_rfl) (fun w hE => ?_) _
    replace hO := hO.ext hE
    replace hF := hF.sel [2, 4, 5, 6, 8, 12, 13, 14]
    replace hF : Fr 55 (Ds.map mk) [(2, .pointer (some ⟨b1, 0, none⟩)), (4, .int .i64 0), (5, .pointer (some ⟨b2, 0, none⟩)), (6, .pointer (some ⟨b4, 0, none⟩)), (8, .int .i64 (xs.getD k default)), (12, .slice p n c), (13, .int .i64 (n : Int)), (14, .int .i64 (k : Int))] a := hF
    refine W_seq (region_seq ?_)
    refine seq_quiet {} TBok hF (F' := [(2, .pointer (some ⟨b1, 0, none⟩)), (4, .int .i64 0), (5, .pointer (some ⟨b2, 0, none⟩)), (6, .pointer (some ⟨b4, 0, none⟩)), (12, .slice p n c), (13, .int .i64 (n : Int)), (14, .int .i64 (k : Int)), (27, .agg (dayL v d f).toArray), (28, .int .i64 (xs.getD k default))]) (rs := [.lds ⟨b1, 0, none⟩ (dayL v d f)]) [0, 1] [2] [2, 4, 5, 6, 12, 13, 14, 27, 28] (.cons (ldso hO.st 0 rfl 0 (by kernel_rfl)) <| .nil) (by kernel_rfl) fun a w hF hE => ?_
    replace hO := hO.ext hE; clear hE
    refine op_call (i := 2) (f := 63) (args := #[.agg (dayL v d f).toArray, .int .i64 (xs.getD k default)]) (d := some 29) TBok (by kernel_rfl) hF (by kernel_rfl) (slots_calls d v f (xs.getD k default) _) fun e w hR => ?_
    obtain ⟨b6, b7, he, hO2⟩ := hR
    refine ⟨_, he, fun a hF => ?_⟩
    replace hO := hO.joinE hO2; clear hO2 he
    replace hO : Own w0 none_ [cel b1 (dayL v d f).toArray 81, cel b2 #[.int .i64 ((defK d f xs k).1 + (d.lots.getD (xs.getD k default).toNat default).cr)] 3, mapT b3 (.bool false) Value.bool ((defK d f xs k).2), cel b4 #[.map (some b3)] 113, dfs Ds, cel b6 (dayL v d f).toArray 81, cel b7 #[.int .i64 (xs.getD k default)] 3] w := hO
    replace hF := hF.sel [2, 4, 5, 6, 12, 13, 14, 29]
    replace hF : Fr 55 (Ds.map mk) [(2, .pointer (some ⟨b1, 0, none⟩)), (4, .int .i64 0), (5, .pointer (some ⟨b2, 0, none⟩)), (6, .pointer (some ⟨b4, 0, none⟩)), (12, .slice p n c), (13, .int .i64 (n : Int)), (14, .int .i64 (k : Int)), (29, .func (.func 72) #[] #[.pointer (some ⟨b6, 0, none⟩), .pointer (some ⟨b7, 0, none⟩)])] a := hF
    refine (W_block ?_)
    refine W_range (t := 30) (f := 72) (fst := #[]) (cap := #[.pointer (some ⟨b6, 0, none⟩), .pointer (some ⟨b7, 0, none⟩)]) TBok hF hO (by kernel_rfl) (by kernel_rfl) fun fn w D8 lr9 hlr hO hE => ?_
    clear hE; have hFo := hF
    replace hO : Own w0 none_ [cel b1 (dayL v d f).toArray 81, cel b2 #[.int .i64 ((defK d f xs k).1 + (d.lots.getD (xs.getD k default).toNat default).cr)] 3, mapT b3 (.bool false) Value.bool ((defK d f xs k).2), cel b4 #[.map (some b3)] 113, dfs Ds, cel b6 (dayL v d f).toArray 81, cel b7 #[.int .i64 (xs.getD k default)] 3, pt D8 (.deferred (some [])), pt (D8 + 1) (.loop lr9)] w := hO
    refine (slots_run d v f (xs.getD k default) b6 b7 (D8 + 1) (fun r w => ∃ (q : Int), ∃ (S : Int × Int → Bool), defS d r (q, S) = defK d f xs (k + 1) ∧ -5000 * (k : Int) - 4000 + 20 * (r.length : Int) ≤ q ∧ q ≤ 50 * ((k : Int) + 1) ∧ (∀ y ∈ r, y ∈ slotsA d f (xs.getD k default) 0) ∧ Own w0 none_ [cel b1 (dayL v d f).toArray 81, cel b2 #[.int .i64 q] 3, mapT b3 (.bool false) Value.bool S, cel b4 #[.map (some b3)] 113, dfs Ds, cel b6 (dayL v d f).toArray 81, cel b7 #[.int .i64 (xs.getD k default)] 3, pt D8 (.deferred (some [])), pt (D8 + 1) (.loop lr9)] w) (fun w => False) w hv (by omega) ?_ ?_ ?_ ?_ ?_).mono ?_
    · rintro r w w2 ⟨q, S, heq, hlen, hq3, hmem, hO⟩ hE; exact ⟨q, S, heq, hlen, hq3, hmem, hO.ext hE⟩
    · exact fun _ _ h _ => h.elim
    · rintro r w ⟨q, S, heq, hlen, hq3, hmem, hO⟩
      exact ⟨hd.upM hO.kp nom (Nat.le_refl _), Ro.of_ok (hO.get 5 rfl), Ro.of_ok (cs := [.int .i64 (xs.getD k default)]) (hO.get 6 rfl)⟩
    · clear hO
      rintro ⟨xa10, xh11⟩ r w ⟨q, S, heq, hlen, hq3, hmem, hO⟩
      have hl1_ : w.heap[D8 + 1]? = some (.loop lr9) := hO.get 8 rfl
      rw [hlr] at hl1_
      refine yields_ofR hl1_ fun Rr hRr => ?_
      clear hl1_
      have hF := hFo.round (t := 30) (by kernel_rfl) (slv (xa10, xh11))
      replace hF : Fr 55 [] [(2, .pointer (some ⟨b1, 0, none⟩)), (4, .int .i64 0), (5, .pointer (some ⟨b2, 0, none⟩)), (6, .pointer (some ⟨b4, 0, none⟩)), (12, .slice p n c), (13, .int .i64 (n : Int)), (14, .int .i64 (k : Int)), (29, .func (.func 72) #[] #[.pointer (some ⟨b6, 0, none⟩), .pointer (some ⟨b7, 0, none⟩)]), (30, .agg #[.int .i64 xa10, .int .i64 xh11])] _ := hF.sel [2, 4, 5, 6, 12, 13, 14, 29, 30]
      have hxm := mem_slotsA (hmem _ (List.mem_cons_self ..))
      simp only [] at hxm
      have hwk := wk_ok hv (i := xa10.toNat) (by omega)
      have hlen0 := hlen; rw [List.length_cons] at hlen0
      refine (region_seq ?_)
      refine op_alloc (i := 0) (t := 93) (d := 9) (z := .agg #[.int .i64 0, .int .i64 0]) hF hO (by kernel_rfl) (by kernel_rfl) fun a w b12 hF hO _ => ?_
      replace hO : Own w0 none_ [cel b1 (dayL v d f).toArray 81, cel b2 #[.int .i64 q] 3, mapT b3 (.bool false) Value.bool S, cel b4 #[.map (some b3)] 113, dfs Ds, cel b6 (dayL v d f).toArray 81, cel b7 #[.int .i64 (xs.getD k default)] 3, pt D8 (.deferred (some [])), pt (D8 + 1) (.loop lr9), cel b12 #[.int .i64 0, .int .i64 0] 93] w := hO
      refine op_store (i := 1) (t := 93) (p := ⟨b12, 0, none⟩) (v := .agg #[.int .i64 xa10, .int .i64 xh11]) (off := 0) (sz := 2) (cs' := #[.int .i64 xa10, .int .i64 xh11]) hF hO (by kernel_rfl) 9 rfl rfl (by kernel_rfl) (by kernel_rfl) (by kernel_rfl) fun a w hF hO _ => ?_
      replace hO : Own w0 none_ [cel b1 (dayL v d f).toArray 81, cel b2 #[.int .i64 q] 3, mapT b3 (.bool false) Value.bool S, cel b4 #[.map (some b3)] 113, dfs Ds, cel b6 (dayL v d f).toArray 81, cel b7 #[.int .i64 (xs.getD k default)] 3, pt D8 (.deferred (some [])), pt (D8 + 1) (.loop lr9), cel b12 #[.int .i64 xa10, .int .i64 xh11] 93] w := hO
      replace hF := hF.sel [2, 4, 5, 6, 9, 12, 13, 14, 29]
      replace hF : Fr 55 [] [(2, .pointer (some ⟨b1, 0, none⟩)), (4, .int .i64 0), (5, .pointer (some ⟨b2, 0, none⟩)), (6, .pointer (some ⟨b4, 0, none⟩)), (9, .pointer (some ⟨b12, 0, none⟩)), (12, .slice p n c), (13, .int .i64 (n : Int)), (14, .int .i64 (k : Int)), (29, .func (.func 72) #[] #[.pointer (some ⟨b6, 0, none⟩), .pointer (some ⟨b7, 0, none⟩)])] a := hF
      obtain ⟨w, hb, hO⟩ := begin_round (P := Try.prog) hO 8 rfl (by rw [hlr]; rfl)
      refine ⟨rfl, w, hb, ?_⟩
      clear hb
      replace hO : Own w0 none_ [cel b1 (dayL v d f).toArray 81, cel b2 #[.int .i64 q] 3, mapT b3 (.bool false) Value.bool S, cel b4 #[.map (some b3)] 113, dfs Ds, cel b6 (dayL v d f).toArray 81, cel b7 #[.int .i64 (xs.getD k default)] 3, pt D8 (.deferred (some [])), pt (D8 + 1) (.loop { lr9 with state := .busy }), cel b12 #[.int .i64 xa10, .int .i64 xh11] 93] w := hO
      refine (W_block ?_)
      refine W_seq (region_seq ?_)
      refine seq_quiet { md := [(0, 3)] } TBok hF (F' := [(2, .pointer (some ⟨b1, 0, none⟩)), (4, .int .i64 0), (5, .pointer (some ⟨b2, 0, none⟩)), (6, .pointer (some ⟨b4, 0, none⟩)), (9, .pointer (some ⟨b12, 0, none⟩)), (12, .slice p n c), (13, .int .i64 (n : Int)), (14, .int .i64 (k : Int)), (29, .func (.func 72) #[] #[.pointer (some ⟨b6, 0, none⟩), .pointer (some ⟨b7, 0, none⟩)]), (31, .agg #[.int .i64 (-1), .int .i64 (-1)])]) (rs := [.raw (Instr.build 93 #[(0, .int .i64 (-1)), (1, .int .i64 (-1))]) (.agg #[.int .i64 (-1), .int .i64 (-1)])]) [0] [1, 2] [2, 4, 5, 6, 9, 12, 13, 14, 29, 31] (.cons (fun w _ => by kernel_rfl) <| .nil) (by kernel_rfl) fun a w hF hE => ?_
      replace hO := hO.ext hE; clear hE
      refine op_alloc (i := 1) (t := 93) (d := 10) (z := .agg #[.int .i64 0, .int .i64 0]) hF hO (by kernel_rfl) (by kernel_rfl) fun a w b13 hF hO _ => ?_
      replace hO : Own w0 none_ [cel b1 (dayL v d f).toArray 81, cel b2 #[.int .i64 q] 3, mapT b3 (.bool false) Value.bool S, cel b4 #[.map (some b3)] 113, dfs Ds, cel b6 (dayL v d f).toArray 81, cel b7 #[.int .i64 (xs.getD k default)] 3, pt D8 (.deferred (some [])), pt (D8 + 1) (.loop { lr9 with state := .busy }), cel b12 #[.int .i64 xa10, .int .i64 xh11] 93, cel b13 #[.int .i64 0, .int .i64 0] 93] w := hO
      refine op_store (i := 2) (t := 93) (p := ⟨b13, 0, none⟩) (v := .agg #[.int .i64 (-1), .int .i64 (-1)]) (off := 0) (sz := 2) (cs' := #[.int .i64 (-1), .int .i64 (-1)]) hF hO (by kernel_rfl) 10 rfl rfl (by kernel_rfl) (by kernel_rfl) (by kernel_rfl) fun a w hF hO _ => ?_
      replace hO : Own w0 none_ [cel b1 (dayL v d f).toArray 81, cel b2 #[.int .i64 q] 3, mapT b3 (.bool false) Value.bool S, cel b4 #[.map (some b3)] 113, dfs Ds, cel b6 (dayL v d f).toArray 81, cel b7 #[.int .i64 (xs.getD k default)] 3, pt D8 (.deferred (some [])), pt (D8 + 1) (.loop { lr9 with state := .busy }), cel b12 #[.int .i64 xa10, .int .i64 xh11] 93, cel b13 #[.int .i64 (-1), .int .i64 (-1)] 93] w := hO
      replace hF := hF.sel [2, 4, 5, 6, 9, 10, 12, 13, 14, 29]
      replace hF : Fr 55 [] [(2, .pointer (some ⟨b1, 0, none⟩)), (4, .int .i64 0), (5, .pointer (some ⟨b2, 0, none⟩)), (6, .pointer (some ⟨b4, 0, none⟩)), (9, .pointer (some ⟨b12, 0, none⟩)), (10, .pointer (some ⟨b13, 0, none⟩)), (12, .slice p n c), (13, .int .i64 (n : Int)), (14, .int .i64 (k : Int)), (29, .func (.func 72) #[] #[.pointer (some ⟨b6, 0, none⟩), .pointer (some ⟨b7, 0, none⟩)])] a := hF
      refine W_seq (region_q { sy := [3], md := [(2, 3), (6, 3)] } TBok hF (F' := [(2, .pointer (some ⟨b1, 0, none⟩)), (4, .int .i64 0), (5, .pointer (some ⟨b2, 0, none⟩)), (6, .pointer (some ⟨b4, 0, none⟩)), (9, .pointer (some ⟨b12, 0, none⟩)), (12, .slice p n c), (13, .int .i64 (n : Int)), (14, .int .i64 (k : Int)), (29, .func (.func 72) #[] #[.pointer (some ⟨b6, 0, none⟩), .pointer (some ⟨b7, 0, none⟩)]), (40, .bool (cond (!(xa10 == (-1) && xh11 == (-1))) (!(S (xa10, xh11))) false))]) (rs := [.lds ⟨b12, 0, none⟩ [.int .i64 xa10, .int .i64 xh11], .lds ⟨b13, 0, none⟩ [.int .i64 (-1), .int .i64 (-1)], .raw (do eqGuard .neq 93 (.tmp 32) (.tmp 33) (.agg #[.int .i64 xa10, .int .i64 xh11]) (.agg #[.int .i64 (-1), .int .i64 (-1)]); Go.binOp .neq 93 (.agg #[.int .i64 xa10, .int .i64 xh11]) (.agg #[.int .i64 (-1), .int .i64 (-1)])) (.bool (!(xa10 == (-1) && xh11 == (-1)))), .und (!(xa10 == (-1) && xh11 == (-1))) (.ld ⟨b4, 0, none⟩ (.map (some b3))), .und (!(xa10 == (-1) && xh11 == (-1))) (.lds ⟨b12, 0, none⟩ [.int .i64 xa10, .int .i64 xh11]), .und (!(xa10 == (-1) && xh11 == (-1))) (.raw (Instr.lookup 113 (.map (some b3)) (.agg #[.int .i64 xa10, .int .i64 xh11]) false) (.bool (S (xa10, xh11))))]) [2, 4, 5, 6, 9, 12, 13, 14, 29, 40] (.cons (ldso hO.st 9 rfl 0 rfl) <| .cons (ldso hO.st 10 rfl 0 rfl) <| .cons (raw_neP pairT93 pairG93 (xa10, xh11) ((-1), (-1))) <| .cons (fun hg => (ldo hO.st 3 rfl 0 rfl)) <| .cons (fun hg => (ldso hO.st 9 rfl 0 rfl)) <| .cons (fun hg => (lkt mt113 hO.st 2 rfl (xa10, xh11))) <| .nil) (by kernel_rfl) fun a w hF hE => ?_)
      replace hO := hO.ext hE; clear hE
      rcases Bool.eq_false_or_eq_true (cond (!(xa10 == (-1) && xh11 == (-1))) (!(S (xa10, xh11))) false) with hc14 | hc14
      · refine (W_true ((evOp hF (by kernel_rfl)).trans (congrArg Value.bool hc14)) ?_)
        refine W_seq (region_seq ?_)
        refine seq_quiet {} TBok hF (F' := [(2, .pointer (some ⟨b1, 0, none⟩)), (4, .int .i64 0), (5, .pointer (some ⟨b2, 0, none⟩)), (6, .pointer (some ⟨b4, 0, none⟩)), (9, .pointer (some ⟨b12, 0, none⟩)), (12, .slice p n c), (13, .int .i64 (n : Int)), (14, .int .i64 (k : Int)), (29, .func (.func 72) #[] #[.pointer (some ⟨b6, 0, none⟩), .pointer (some ⟨b7, 0, none⟩)]), (41, .map (some b3)), (42, .agg #[.int .i64 xa10, .int .i64 xh11])]) (rs := [.ld ⟨b4, 0, none⟩ (.map (some b3)), .lds ⟨b12, 0, none⟩ [.int .i64 xa10, .int .i64 xh11]]) [0, 1] [2] [2, 4, 5, 6, 9, 12, 13, 14, 29, 41, 42] (.cons (ldo hO.st 3 rfl 0 rfl) <| .cons (ldso hO.st 9 rfl 0 rfl) <| .nil) (by kernel_rfl) fun a w hF hE => ?_
        replace hO := hO.ext hE; clear hE
        refine op_updt (i := 2) (t := 113) (x := (xa10, xh11)) (v := .bool true) (enc := Value.bool) true (by kernel_rfl) mt113 hF hO (by kernel_rfl) 2 rfl fun a w hF hO _ => ?_
        replace hO : Own w0 none_ [cel b1 (dayL v d f).toArray 81, cel b2 #[.int .i64 q] 3, mapT b3 (.bool false) Value.bool (updt S (xa10, xh11) true), cel b4 #[.map (some b3)] 113, dfs Ds, cel b6 (dayL v d f).toArray 81, cel b7 #[.int .i64 (xs.getD k default)] 3, pt D8 (.deferred (some [])), pt (D8 + 1) (.loop { lr9 with state := .busy }), cel b12 #[.int .i64 xa10, .int .i64 xh11] 93, cel b13 #[.int .i64 (-1), .int .i64 (-1)] 93] w := hO
        replace hF := hF.sel [2, 4, 5, 6, 9, 12, 13, 14, 29]
        replace hF : Fr 55 [] [(2, .pointer (some ⟨b1, 0, none⟩)), (4, .int .i64 0), (5, .pointer (some ⟨b2, 0, none⟩)), (6, .pointer (some ⟨b4, 0, none⟩)), (9, .pointer (some ⟨b12, 0, none⟩)), (12, .slice p n c), (13, .int .i64 (n : Int)), (14, .int .i64 (k : Int)), (29, .func (.func 72) #[] #[.pointer (some ⟨b6, 0, none⟩), .pointer (some ⟨b7, 0, none⟩)])] a := hF
        refine (draw_start (R := none_) mixed [10] 11 (by kernel_rfl) fun w hS => ?_)
        replace hO := hO.ext hS
        refine draw_q {} TBok hF hS (F' := [(2, .pointer (some ⟨b1, 0, none⟩)), (4, .int .i64 0), (5, .pointer (some ⟨b2, 0, none⟩)), (6, .pointer (some ⟨b4, 0, none⟩)), (12, .slice p n c), (13, .int .i64 (n : Int)), (14, .int .i64 (k : Int)), (29, .func (.func 72) #[] #[.pointer (some ⟨b6, 0, none⟩), .pointer (some ⟨b7, 0, none⟩)]), (52, .int .i64 (q - (d.wks.getD xa10.toNat default).rt))]) (rs := [.ld ⟨b2, 0, none⟩ (.int .i64 q), .ld ⟨b1, 3, none⟩ (.slice v.wa v.wn v.wc), .ld ⟨b12, 0, none⟩ (.int .i64 xa10), .idx v.wa v.wn xa10 4 (adr v.wa 4 xa10), .ld ((adr v.wa 4 xa10).add 3) (.int .i64 ((d.wks.getD xa10.toNat default).rt)), .rng (q - (d.wks.getD xa10.toNat default).rt)]) [0, 1, 2, 3, 4, 5, 6, 7, 8, 9] 11 1 (by kernel_rfl) #[true, true, true, true, true, true, true, true, true, true, false] [2, 4, 5, 6, 12, 13, 14, 29, 52] (.cons (ldo hO.st 1 rfl 0 rfl) <| .cons (ldo hO.st 0 rfl 3 (by kernel_rfl)) <| .cons (ldo hO.st 9 rfl 0 rfl) <| .cons (ix hd.wks (by omega) (by omega)) <| .cons (ldx hO.st nom hd.wks (by omega) (by omega) 3 rfl) <| .cons (rg (by omega)) <| .nil) (by kernel_rfl) (by kernel_rfl) fun a hF => ?_
        replace hS := Kp.refl none_ w
        refine any_pick (rs := [10]) (by kernel_rfl) (by simp) fun w hE => all1 ?_
        replace hO := hO.ext hE; replace hS := hS.trans (Ext.kp hE)
        refine op_store (i := 10) (t := 3) (p := ⟨b2, 0, none⟩) (v := .int .i64 (q - (d.wks.getD xa10.toNat default).rt)) (off := 0) (sz := 1) (cs' := #[.int .i64 (q - (d.wks.getD xa10.toNat default).rt)]) hF hO (by kernel_rfl) 1 rfl rfl (by kernel_rfl) (by kernel_rfl) (by kernel_rfl) fun a w hF hO _ => ⟨.inl rfl, ?_⟩
        replace hO : Own w0 none_ [cel b1 (dayL v d f).toArray 81, cel b2 #[.int .i64 (q - (d.wks.getD xa10.toNat default).rt)] 3, mapT b3 (.bool false) Value.bool (updt S (xa10, xh11) true), cel b4 #[.map (some b3)] 113, dfs Ds, cel b6 (dayL v d f).toArray 81, cel b7 #[.int .i64 (xs.getD k default)] 3, pt D8 (.deferred (some [])), pt (D8 + 1) (.loop { lr9 with state := .busy }), cel b12 #[.int .i64 xa10, .int .i64 xh11] 93, cel b13 #[.int .i64 (-1), .int .i64 (-1)] 93] w := hO
        refine any_done (by kernel_rfl) (fun w hE => ?_) _
        replace hO := hO.ext hE
        replace hF := hF.sel [2, 4, 5, 6, 12, 13, 14, 29]
        replace hF : Fr 55 [] [(2, .pointer (some ⟨b1, 0, none⟩)), (4, .int .i64 0), (5, .pointer (some ⟨b2, 0, none⟩)), (6, .pointer (some ⟨b4, 0, none⟩)), (12, .slice p n c), (13, .int .i64 (n : Int)), (14, .int .i64 (k : Int)), (29, .func (.func 72) #[] #[.pointer (some ⟨b6, 0, none⟩), .pointer (some ⟨b7, 0, none⟩)])] a := hF
        show roundPost Try.prog (D8 + 1) (fun e w => ∃ b, e = .returned (.bool b) ∧ Rr b w) Exit.normal a w
        replace hO := hO.drop1 10
        replace hO := hO.drop1 9
        replace hO : Own w0 none_ [cel b1 (dayL v d f).toArray 81, cel b2 #[.int .i64 (q - (d.wks.getD xa10.toNat default).rt)] 3, mapT b3 (.bool false) Value.bool (updt S (xa10, xh11) true), cel b4 #[.map (some b3)] 113, dfs Ds, cel b6 (dayL v d f).toArray 81, cel b7 #[.int .i64 (xs.getD k default)] 3, pt D8 (.deferred (some [])), pt (D8 + 1) (.loop { lr9 with state := .busy })] w := hO
        obtain ⟨w, he, hO⟩ := end_round (P := Try.prog) none hO 8 rfl
        refine round_next he ?_
        rw [List.length_cons] at hlen
        rw [defS_yes hc14] at heq
        rw [hRr]
        exact ⟨_, _, heq, (by simp only []; omega), (by simp only []; omega), fun y hy => hmem y (List.mem_cons_of_mem _ hy), hO.cast (by rw [hlr]; rfl)⟩
      · refine (W_false ((evOp hF (by kernel_rfl)).trans (congrArg Value.bool hc14)) ?_)
        refine (W_skip ?_)
        show roundPost Try.prog (D8 + 1) (fun e w => ∃ b, e = .returned (.bool b) ∧ Rr b w) Exit.normal a w
        replace hO := hO.drop1 10
        replace hO := hO.drop1 9
        replace hO : Own w0 none_ [cel b1 (dayL v d f).toArray 81, cel b2 #[.int .i64 q] 3, mapT b3 (.bool false) Value.bool S, cel b4 #[.map (some b3)] 113, dfs Ds, cel b6 (dayL v d f).toArray 81, cel b7 #[.int .i64 (xs.getD k default)] 3, pt D8 (.deferred (some [])), pt (D8 + 1) (.loop { lr9 with state := .busy })] w := hO
        obtain ⟨w, he, hO⟩ := end_round (P := Try.prog) none hO 8 rfl
        refine round_next he ?_
        rw [List.length_cons] at hlen
        rw [defS_no hc14] at heq
        rw [hRr]
        exact ⟨q, S, heq, by omega, hq3, fun y hy => hmem y (List.mem_cons_of_mem _ hy), hO.cast (by rw [hlr]; rfl)⟩
    · exact ⟨_, _, rfl, by have := slotsA_len hv f (xs.getD k default); omega, by omega, fun y hy => hy, hO⟩
    clear hO
    rintro e w ⟨he, hJ | hS⟩
    · obtain ⟨q, S, heq, hlen, hq3, hmem, hO⟩ := hJ
      subst he
      refine ⟨_, rfl, lr9, hO.get 8 rfl, by rw [hlr]; simp [loopR], .inl ⟨by rw [hlr]; rfl, fun a hF => ?_⟩⟩
      replace hO := hO.put 8 rfl (.loop { lr9 with state := .exhausted })
      generalize w.putObj (D8 + 1) (.loop { lr9 with state := .exhausted }) = w at hO ⊢
      replace hO := hO.drop1 8
      replace hO : Own w0 none_ [cel b1 (dayL v d f).toArray 81, cel b2 #[.int .i64 q] 3, mapT b3 (.bool false) Value.bool S, cel b4 #[.map (some b3)] 113, dfs Ds, cel b6 (dayL v d f).toArray 81, cel b7 #[.int .i64 (xs.getD k default)] 3, pt D8 (.deferred (some []))] w := hO
      replace hO := hO.absorb 4 7 rfl rfl (by decide)
      replace hO : Own w0 none_ [cel b1 (dayL v d f).toArray 81, cel b2 #[.int .i64 q] 3, mapT b3 (.bool false) Value.bool S, cel b4 #[.map (some b3)] 113, dfs (D8 :: Ds), cel b6 (dayL v d f).toArray 81, cel b7 #[.int .i64 (xs.getD k default)] 3] w := hO
      have e1 : (defK d f xs (k + 1)) = (q, S) := heq.symm
      replace hO : Own w0 none_ [cel b1 (dayL v d f).toArray 81, cel b2 #[.int .i64 ((defK d f xs (k + 1)).1)] 3, mapT b3 (.bool false) Value.bool ((defK d f xs (k + 1)).2), cel b4 #[.map (some b3)] 113, dfs (D8 :: Ds), cel b6 (dayL v d f).toArray 81, cel b7 #[.int .i64 (xs.getD k default)] 3] w := hO.cast (by rw [e1])
      have e2 : (defK d f xs (k + 1)).1 = q := by rw [e1]
      simp only [List.length_nil] at hlen
      replace hF : Fr 55 ((D8 :: Ds).map mk) [(2, .pointer (some ⟨b1, 0, none⟩)), (4, .int .i64 0), (5, .pointer (some ⟨b2, 0, none⟩)), (6, .pointer (some ⟨b4, 0, none⟩)), (12, .slice p n c), (13, .int .i64 (n : Int)), (14, .int .i64 (k : Int)), (29, .func (.func 72) #[] #[.pointer (some ⟨b6, 0, none⟩), .pointer (some ⟨b7, 0, none⟩)])] a := hF
      refine (region_q {} TBok hF (F' := [(2, .pointer (some ⟨b1, 0, none⟩)), (4, .int .i64 0), (5, .pointer (some ⟨b2, 0, none⟩)), (6, .pointer (some ⟨b4, 0, none⟩)), (12, .slice p n c), (13, .int .i64 (n : Int)), (14, .int .i64 ((k : Int) + 1))]) (rs := [.rng ((k : Int) + 1)]) [2, 4, 5, 6, 12, 13, 14] (.cons (rg (by omega)) <| .nil) (by kernel_rfl) fun a w hF hE => ?_)
      replace hO := hO.ext hE; clear hE
      replace hO := hO.drop1 6
      replace hO := hO.drop1 5
      replace hO : Own w0 none_ [cel b1 (dayL v d f).toArray 81, cel b2 #[.int .i64 ((defK d f xs (k + 1)).1)] 3, mapT b3 (.bool false) Value.bool ((defK d f xs (k + 1)).2), cel b4 #[.map (some b3)] 113, dfs (D8 :: Ds)] w := hO
      exact ⟨_, by omega, k + 1, D8 :: Ds, rfl, by omega, by omega, by omega, hF, hO⟩
    · exact hS.elim
  · refine W_seq (W_false ((evOp hF (by kernel_rfl)).trans (congrArg Value.bool hc5)) ?_)
    have hkn : ¬ (k : Int) < n := of_decide_eq_false (by assumption)
    refine (W_exit ?_)
    refine W_seq (region_q {} TBok hF (F' := [(4, .int .i64 ((defK d f xs k).1))]) (rs := [.ld ⟨b2, 0, none⟩ (.int .i64 ((defK d f xs k).1))]) [4] (.cons (ldo hO.st 1 rfl 0 rfl) <| .nil) (by kernel_rfl) fun a w hF hE => ?_)
    replace hO := hO.ext hE; clear hE
    refine W_ret ?_
    show bodyPostM (FW none) 0 _ _ _ Exit.ret a w
    obtain ⟨w, hs, hO⟩ := shuts _ hO 4 rfl
    replace hO : Own w0 none_ [cel b1 (dayL v d f).toArray 81, cel b2 #[.int .i64 ((defK d f xs k).1)] 3, mapT b3 (.bool false) Value.bool ((defK d f xs k).2), cel b4 #[.map (some b3)] 113, dfs []] w := hO
    have hkk : k = xs.length := by omega
    exact leave_r TBok hF hs (vs := [.int .i64 ((defK d f xs k).1)]) (rs := []) .nil (by kernel_rfl) ⟨by rw [hkk]; rfl, hO.kp⟩

end Go.Proofs.Ytioimdegbdkppaa.DK
