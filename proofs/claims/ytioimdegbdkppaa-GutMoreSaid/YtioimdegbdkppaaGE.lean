/- Walks: taking a cran more. Printed by my gen.py out of gut/e.py. -/
import Derived.Test.YtioimdegbdkppaaGD
import Derived.Test.YtioimdegbdkppaaGP
namespace Go.Proofs.Ytioimdegbdkppaa.DK
open Go Go.Proofs
set_option linter.unusedVariables false

set_option maxRecDepth 100000 in
theorem put_step (d : Day) (v : DV) (f : Nat → Int) (bd bs bl bw bc bp n : Nat) (lot : Int) (st : TS) (w0 : World) (hv : dayV d = true) (hp : PutPre d v f bd bs bl bw bc bp (n + 1) lot st w0)
    (ih : ∀ lot st w, PutPre d v f bd bs bl bw bc bp n lot st w → Calls Try.prog 73 #[.int .i64 lot, .pointer (some ⟨bw, 0, none⟩), .pointer (some ⟨bc, 0, none⟩), .pointer (some ⟨bp, 0, none⟩)] w (PutPost d f bs bl n lot st w)) :
    Calls Try.prog 73 #[.int .i64 lot, .pointer (some ⟨bw, 0, none⟩), .pointer (some ⟨bc, 0, none⟩), .pointer (some ⟨bp, 0, none⟩)] w0 (PutPost d f bs bl (n + 1) lot st w0) := by
  have hd := hp.hd; have hb := hp.hb; have hlot := hp.lot; have hnom := hp.nom; have hok := hp.ok
  have hl1 := hd.heat.len; have hl2 := hd.lots.len; have hl3 := hd.wks.len; have hs1 := hd.heat.size; have hs2 := hd.lots.size; have hs3 := hd.wks.size; have hv1 := day_ok hv
  refine calls_of_W Try.func73 rfl (by kernel_rfl) (args := [.int .i64 lot, .pointer (some ⟨bw, 0, none⟩), .pointer (some ⟨bc, 0, none⟩), .pointer (some ⟨bp, 0, none⟩)]) fun a hF => ?_
  replace hF : Fr 77 [] [(0, .int .i64 lot), (1, .pointer (some ⟨bw, 0, none⟩)), (2, .pointer (some ⟨bc, 0, none⟩)), (3, .pointer (some ⟨bp, 0, none⟩))] a := hF
  have hO : Own w0 (mm bs bl) [mapT bs (.bool false) Value.bool st.seen, mapT bl zld (arrV 8) st.ld] w0 := hp.own
  refine W_seq (region_seq ?_)
  refine op_box (i := 0) (t := 3) (v := .int .i64 lot) (d := 4) hF hO (by kernel_rfl) fun a w b1 hF hO _ => ?_
  replace hO : Own w0 (mm bs bl) [mapT bs (.bool false) Value.bool st.seen, mapT bl zld (arrV 8) st.ld, cel b1 #[.int .i64 lot] 3] w := hO
  refine op_alloc (i := 1) (t := 4) (d := 5) (z := .bool false) hF hO (by kernel_rfl) (by kernel_rfl) fun a w b2 hF hO _ => ?_
  replace hO : Own w0 (mm bs bl) [mapT bs (.bool false) Value.bool st.seen, mapT bl zld (arrV 8) st.ld, cel b1 #[.int .i64 lot] 3, cel b2 #[.bool false] 4] w := hO
  replace hF := hF.sel [1, 2, 3, 4, 5]
  replace hF : Fr 77 [] [(1, .pointer (some ⟨bw, 0, none⟩)), (2, .pointer (some ⟨bc, 0, none⟩)), (3, .pointer (some ⟨bp, 0, none⟩)), (4, .pointer (some ⟨b1, 0, none⟩)), (5, .pointer (some ⟨b2, 0, none⟩))] a := hF
  refine W_seq ?_
  refine W_seq (region_seq ?_)
  refine seq_quiet {} TBok hF (F' := [(1, .pointer (some ⟨bw, 0, none⟩)), (2, .pointer (some ⟨bc, 0, none⟩)), (3, .pointer (some ⟨bp, 0, none⟩)), (4, .pointer (some ⟨b1, 0, none⟩)), (5, .pointer (some ⟨b2, 0, none⟩)), (11, .agg (dayL v d f).toArray), (12, .int .i64 lot)]) (rs := [.lds ⟨bw, 0, none⟩ (dayL v d f), .ld ⟨b1, 0, none⟩ (.int .i64 lot)]) [0, 1, 2] [3] [1, 2, 3, 4, 5, 11, 12] (.cons (ldsr hO.st hp.rw hp.nw 0 (by kernel_rfl)) <| .cons (ldo hO.st 2 rfl 0 rfl) <| .nil) (by kernel_rfl) fun a w hF hE => ?_
  replace hO := hO.ext hE; clear hE
  refine op_call (i := 3) (f := 63) (args := #[.agg (dayL v d f).toArray, .int .i64 lot]) (d := some 13) TBok (by kernel_rfl) hF (by kernel_rfl) (slots_calls d v f lot _) fun e w hR => ?_
  obtain ⟨b3, b4, he, hO2⟩ := hR
  refine ⟨_, he, fun a hF => ?_⟩
  replace hO := hO.joinE hO2; clear hO2 he
  replace hO : Own w0 (mm bs bl) [mapT bs (.bool false) Value.bool st.seen, mapT bl zld (arrV 8) st.ld, cel b1 #[.int .i64 lot] 3, cel b2 #[.bool false] 4, cel b3 (dayL v d f).toArray 81, cel b4 #[.int .i64 lot] 3] w := hO
  replace hF := hF.sel [1, 2, 3, 4, 5, 13]
  replace hF : Fr 77 [] [(1, .pointer (some ⟨bw, 0, none⟩)), (2, .pointer (some ⟨bc, 0, none⟩)), (3, .pointer (some ⟨bp, 0, none⟩)), (4, .pointer (some ⟨b1, 0, none⟩)), (5, .pointer (some ⟨b2, 0, none⟩)), (13, .func (.func 72) #[] #[.pointer (some ⟨b3, 0, none⟩), .pointer (some ⟨b4, 0, none⟩)])] a := hF
  refine (W_block ?_)
  refine W_range (t := 14) (f := 72) (fst := #[]) (cap := #[.pointer (some ⟨b3, 0, none⟩), .pointer (some ⟨b4, 0, none⟩)]) TBok hF hO (by kernel_rfl) (by kernel_rfl) fun fn w D5 lr6 hlr hO hE => ?_
  clear hE; have hFo := hF
  replace hO : Own w0 (mm bs bl) [mapT bs (.bool false) Value.bool st.seen, mapT bl zld (arrV 8) st.ld, cel b1 #[.int .i64 lot] 3, cel b2 #[.bool false] 4, cel b3 (dayL v d f).toArray 81, cel b4 #[.int .i64 lot] 3, pt D5 (.deferred (some [])), pt (D5 + 1) (.loop lr6)] w := hO
  refine (slots_run d v f lot b3 b4 (D5 + 1) (fun r w => ∃ (S : Int × Int → Bool), ∃ (Ld : Int × Int → Nat → Int), (∀ y ∈ r, y ∈ slotsA d f lot 0) ∧ tryS (takeF d f n) d lot r ⟨S, Ld⟩ = (takeF d f (n + 1) lot st) ∧ okL d.lots.length Ld ∧ (∀ x, st.seen x = true → S x = true) ∧ Own w0 (mm bs bl) [mapT bs (.bool false) Value.bool S, mapT bl zld (arrV 8) Ld, cel b1 #[.int .i64 lot] 3, cel b2 #[.bool false] 4, cel b3 (dayL v d f).toArray 81, cel b4 #[.int .i64 lot] 3, pt D5 (.deferred (some [])), pt (D5 + 1) (.loop lr6)] w) (fun w => ∃ (S : Int × Int → Bool), ∃ (Ld : Int × Int → Nat → Int), (takeF d f (n + 1) lot st) = (true, ⟨S, Ld⟩) ∧ Own w0 (mm bs bl) [mapT bs (.bool false) Value.bool S, mapT bl zld (arrV 8) Ld, cel b1 #[.int .i64 lot] 3, cel b2 #[.bool true] 4, cel b3 (dayL v d f).toArray 81, cel b4 #[.int .i64 lot] 3, pt D5 (.deferred (some [])), pt (D5 + 1) (.loop { lr6 with state := .done, pending := some .ret })] w) w hv (by omega) ?_ ?_ ?_ ?_ ?_).mono ?_
  · rintro r w w2 ⟨S, Ld, hmem, heq, hok, hun, hO⟩ hE; exact ⟨S, Ld, hmem, heq, hok, hun, hO.ext hE⟩
  · rintro w w2 ⟨S, Ld, hend, hO⟩ hE; exact ⟨S, Ld, hend, hO.ext hE⟩
  · rintro r w ⟨S, Ld, hmem, heq, hok, hun, hO⟩
    exact ⟨hp.hd.upM hO.kp hnom hp.hb, Ro.of_ok (hO.get 4 rfl), Ro.of_ok (cs := [.int .i64 lot]) (hO.get 5 rfl)⟩
  · clear hO
    rintro ⟨xa7, xh8⟩ r w ⟨S, Ld, hmem, heq, hok, hun, hO⟩
    have hl1_ : w.heap[D5 + 1]? = some (.loop lr6) := hO.get 7 rfl
    rw [hlr] at hl1_
    refine yields_ofR hl1_ fun Rr hRr => ?_
    clear hl1_
    have hF := hFo.round (t := 14) (by kernel_rfl) (slv (xa7, xh8))
    replace hF : Fr 77 [] [(1, .pointer (some ⟨bw, 0, none⟩)), (2, .pointer (some ⟨bc, 0, none⟩)), (3, .pointer (some ⟨bp, 0, none⟩)), (4, .pointer (some ⟨b1, 0, none⟩)), (5, .pointer (some ⟨b2, 0, none⟩)), (13, .func (.func 72) #[] #[.pointer (some ⟨b3, 0, none⟩), .pointer (some ⟨b4, 0, none⟩)]), (14, .agg #[.int .i64 xa7, .int .i64 xh8])] _ := hF.sel [1, 2, 3, 4, 5, 13, 14]
    have hxm := mem_slotsA (hmem _ (List.mem_cons_self ..))
    simp only [] at hxm
    have hwk := wk_ok hv (i := xa7.toNat) (by omega)
    have hle : ∀ i, i < 8 → 0 ≤ Ld (xa7, xh8) i ∧ Ld (xa7, xh8) i ≤ 20 := fun i hi => hok.le _ hi
    have hup : ∀ k, k < 8 → 0 ≤ updf (Ld (xa7, xh8)) lot.toNat (Ld (xa7, xh8) lot.toNat + 1) k ∧ updf (Ld (xa7, xh8)) lot.toNat (Ld (xa7, xh8) lot.toNat + 1) k ≤ 21 := fun k hk => by have h1 := hle lot.toNat (by omega); have h2 := hle k hk; rcases updf_or (Ld (xa7, xh8)) lot.toNat (Ld (xa7, xh8) lot.toNat + 1) k with h | h <;> omega
    refine (region_seq ?_)
    refine op_alloc (i := 0) (t := 93) (d := 6) (z := .agg #[.int .i64 0, .int .i64 0]) hF hO (by kernel_rfl) (by kernel_rfl) fun a w b9 hF hO _ => ?_
    replace hO : Own w0 (mm bs bl) [mapT bs (.bool false) Value.bool S, mapT bl zld (arrV 8) Ld, cel b1 #[.int .i64 lot] 3, cel b2 #[.bool false] 4, cel b3 (dayL v d f).toArray 81, cel b4 #[.int .i64 lot] 3, pt D5 (.deferred (some [])), pt (D5 + 1) (.loop lr6), cel b9 #[.int .i64 0, .int .i64 0] 93] w := hO
    refine op_store (i := 1) (t := 93) (p := ⟨b9, 0, none⟩) (v := .agg #[.int .i64 xa7, .int .i64 xh8]) (off := 0) (sz := 2) (cs' := #[.int .i64 xa7, .int .i64 xh8]) hF hO (by kernel_rfl) 8 rfl rfl (by kernel_rfl) (by kernel_rfl) (by kernel_rfl) fun a w hF hO _ => ?_
    replace hO : Own w0 (mm bs bl) [mapT bs (.bool false) Value.bool S, mapT bl zld (arrV 8) Ld, cel b1 #[.int .i64 lot] 3, cel b2 #[.bool false] 4, cel b3 (dayL v d f).toArray 81, cel b4 #[.int .i64 lot] 3, pt D5 (.deferred (some [])), pt (D5 + 1) (.loop lr6), cel b9 #[.int .i64 xa7, .int .i64 xh8] 93] w := hO
    replace hF := hF.sel [1, 2, 3, 4, 5, 6, 13]
    replace hF : Fr 77 [] [(1, .pointer (some ⟨bw, 0, none⟩)), (2, .pointer (some ⟨bc, 0, none⟩)), (3, .pointer (some ⟨bp, 0, none⟩)), (4, .pointer (some ⟨b1, 0, none⟩)), (5, .pointer (some ⟨b2, 0, none⟩)), (6, .pointer (some ⟨b9, 0, none⟩)), (13, .func (.func 72) #[] #[.pointer (some ⟨b3, 0, none⟩), .pointer (some ⟨b4, 0, none⟩)])] a := hF
    obtain ⟨w, hb, hO⟩ := begin_round (P := Try.prog) hO 7 rfl (by rw [hlr]; rfl)
    refine ⟨rfl, w, hb, ?_⟩
    clear hb
    replace hO : Own w0 (mm bs bl) [mapT bs (.bool false) Value.bool S, mapT bl zld (arrV 8) Ld, cel b1 #[.int .i64 lot] 3, cel b2 #[.bool false] 4, cel b3 (dayL v d f).toArray 81, cel b4 #[.int .i64 lot] 3, pt D5 (.deferred (some [])), pt (D5 + 1) (.loop { lr6 with state := .busy }), cel b9 #[.int .i64 xa7, .int .i64 xh8] 93] w := hO
    refine (W_block ?_)
    refine W_seq ?_
    refine W_seq (region_q { md := [(2, 3)] } TBok hF (F' := [(1, .pointer (some ⟨bw, 0, none⟩)), (2, .pointer (some ⟨bc, 0, none⟩)), (3, .pointer (some ⟨bp, 0, none⟩)), (4, .pointer (some ⟨b1, 0, none⟩)), (5, .pointer (some ⟨b2, 0, none⟩)), (6, .pointer (some ⟨b9, 0, none⟩)), (13, .func (.func 72) #[] #[.pointer (some ⟨b3, 0, none⟩), .pointer (some ⟨b4, 0, none⟩)]), (17, .bool (S (xa7, xh8)))]) (rs := [.ld ⟨bc, 0, none⟩ (.map (some bs)), .lds ⟨b9, 0, none⟩ [.int .i64 xa7, .int .i64 xh8], .raw (Instr.lookup 113 (.map (some bs)) (.agg #[.int .i64 xa7, .int .i64 xh8]) false) (.bool (S (xa7, xh8)))]) [1, 2, 3, 4, 5, 6, 13, 17] (.cons (ldr hO.st hp.rc hp.nc 0 rfl) <| .cons (ldso hO.st 8 rfl 0 rfl) <| .cons (lkt mt113 hO.st 0 rfl (xa7, xh8)) <| .nil) (by kernel_rfl) fun a w hF hE => ?_)
    replace hO := hO.ext hE; clear hE
    rcases Bool.eq_false_or_eq_true (S (xa7, xh8)) with hc10 | hc10
    · refine (W_true ((evOp hF (by kernel_rfl)).trans (congrArg Value.bool hc10)) ?_)
      refine (W_exit ?_)
      show roundPost Try.prog (D5 + 1) (fun e w => ∃ b, e = .returned (.bool b) ∧ Rr b w) Exit.normal a w
      replace hO := hO.drop1 8
      replace hO : Own w0 (mm bs bl) [mapT bs (.bool false) Value.bool S, mapT bl zld (arrV 8) Ld, cel b1 #[.int .i64 lot] 3, cel b2 #[.bool false] 4, cel b3 (dayL v d f).toArray 81, cel b4 #[.int .i64 lot] 3, pt D5 (.deferred (some [])), pt (D5 + 1) (.loop { lr6 with state := .busy })] w := hO
      obtain ⟨w, he, hO⟩ := end_round (P := Try.prog) none hO 7 rfl
      refine round_next he ?_
      rw [tryS_seen hc10] at heq
      rw [hRr]
      exact ⟨S, Ld, fun y hy => hmem y (List.mem_cons_of_mem _ hy), heq, hok, hun, hO.cast (by rw [hlr]; rfl)⟩
    · refine (W_false ((evOp hF (by kernel_rfl)).trans (congrArg Value.bool hc10)) ?_)
      refine (W_skip ?_)
      refine W_seq (region_seq ?_)
      refine seq_quiet {} TBok hF (F' := [(1, .pointer (some ⟨bw, 0, none⟩)), (2, .pointer (some ⟨bc, 0, none⟩)), (3, .pointer (some ⟨bp, 0, none⟩)), (4, .pointer (some ⟨b1, 0, none⟩)), (5, .pointer (some ⟨b2, 0, none⟩)), (6, .pointer (some ⟨b9, 0, none⟩)), (13, .func (.func 72) #[] #[.pointer (some ⟨b3, 0, none⟩), .pointer (some ⟨b4, 0, none⟩)]), (18, .map (some bs)), (19, .agg #[.int .i64 xa7, .int .i64 xh8])]) (rs := [.ld ⟨bc, 0, none⟩ (.map (some bs)), .lds ⟨b9, 0, none⟩ [.int .i64 xa7, .int .i64 xh8]]) [0, 1] [2] [1, 2, 3, 4, 5, 6, 13, 18, 19] (.cons (ldr hO.st hp.rc hp.nc 0 rfl) <| .cons (ldso hO.st 8 rfl 0 rfl) <| .nil) (by kernel_rfl) fun a w hF hE => ?_
      replace hO := hO.ext hE; clear hE
      refine op_updt (i := 2) (t := 113) (x := (xa7, xh8)) (v := .bool true) (enc := Value.bool) true (by kernel_rfl) mt113 hF hO (by kernel_rfl) 0 rfl fun a w hF hO _ => ?_
      replace hO : Own w0 (mm bs bl) [mapT bs (.bool false) Value.bool (updt S (xa7, xh8) true), mapT bl zld (arrV 8) Ld, cel b1 #[.int .i64 lot] 3, cel b2 #[.bool false] 4, cel b3 (dayL v d f).toArray 81, cel b4 #[.int .i64 lot] 3, pt D5 (.deferred (some [])), pt (D5 + 1) (.loop { lr6 with state := .busy }), cel b9 #[.int .i64 xa7, .int .i64 xh8] 93] w := hO
      replace hF := hF.sel [1, 2, 3, 4, 5, 6, 13]
      replace hF : Fr 77 [] [(1, .pointer (some ⟨bw, 0, none⟩)), (2, .pointer (some ⟨bc, 0, none⟩)), (3, .pointer (some ⟨bp, 0, none⟩)), (4, .pointer (some ⟨b1, 0, none⟩)), (5, .pointer (some ⟨b2, 0, none⟩)), (6, .pointer (some ⟨b9, 0, none⟩)), (13, .func (.func 72) #[] #[.pointer (some ⟨b3, 0, none⟩), .pointer (some ⟨b4, 0, none⟩)])] a := hF
      refine W_seq (region_seq ?_)
      refine seq_quiet { md := [(3, 3)] } TBok hF (F' := [(1, .pointer (some ⟨bw, 0, none⟩)), (2, .pointer (some ⟨bc, 0, none⟩)), (3, .pointer (some ⟨bp, 0, none⟩)), (4, .pointer (some ⟨b1, 0, none⟩)), (5, .pointer (some ⟨b2, 0, none⟩)), (6, .pointer (some ⟨b9, 0, none⟩)), (13, .func (.func 72) #[] #[.pointer (some ⟨b3, 0, none⟩), .pointer (some ⟨b4, 0, none⟩)]), (23, .agg (arrL 8 (Ld (xa7, xh8))).toArray)]) (rs := [.ld ⟨bw, 12, none⟩ (.map (some bl)), .lds ⟨b9, 0, none⟩ [.int .i64 xa7, .int .i64 xh8], .raw (Instr.lookup 97 (.map (some bl)) (.agg #[.int .i64 xa7, .int .i64 xh8]) false) (.agg (arrL 8 (Ld (xa7, xh8))).toArray)]) [0, 1, 2, 3] [4, 5] [1, 2, 3, 4, 5, 6, 13, 23] (.cons (ldr hO.st hp.rw hp.nw 12 (by kernel_rfl)) <| .cons (ldso hO.st 8 rfl 0 rfl) <| .cons (lkt mt97 hO.st 1 rfl (xa7, xh8)) <| .nil) (by kernel_rfl) fun a w hF hE => ?_
      replace hO := hO.ext hE; clear hE
      refine op_alloc (i := 4) (t := 104) (d := 7) (z := .agg #[.int .i64 0, .int .i64 0, .int .i64 0, .int .i64 0, .int .i64 0, .int .i64 0, .int .i64 0, .int .i64 0]) hF hO (by kernel_rfl) (by kernel_rfl) fun a w b11 hF hO _ => ?_
      replace hO : Own w0 (mm bs bl) [mapT bs (.bool false) Value.bool (updt S (xa7, xh8) true), mapT bl zld (arrV 8) Ld, cel b1 #[.int .i64 lot] 3, cel b2 #[.bool false] 4, cel b3 (dayL v d f).toArray 81, cel b4 #[.int .i64 lot] 3, pt D5 (.deferred (some [])), pt (D5 + 1) (.loop { lr6 with state := .busy }), cel b9 #[.int .i64 xa7, .int .i64 xh8] 93, cel b11 #[.int .i64 0, .int .i64 0, .int .i64 0, .int .i64 0, .int .i64 0, .int .i64 0, .int .i64 0, .int .i64 0] 104] w := hO
      refine op_store (i := 5) (t := 104) (p := ⟨b11, 0, none⟩) (v := .agg (arrL 8 (Ld (xa7, xh8))).toArray) (off := 0) (sz := 8) (cs' := (arrL 8 (Ld (xa7, xh8))).toArray) hF hO (by kernel_rfl) 9 rfl rfl (by kernel_rfl) (by kernel_rfl) (by kernel_rfl) fun a w hF hO _ => ?_
      replace hO : Own w0 (mm bs bl) [mapT bs (.bool false) Value.bool (updt S (xa7, xh8) true), mapT bl zld (arrV 8) Ld, cel b1 #[.int .i64 lot] 3, cel b2 #[.bool false] 4, cel b3 (dayL v d f).toArray 81, cel b4 #[.int .i64 lot] 3, pt D5 (.deferred (some [])), pt (D5 + 1) (.loop { lr6 with state := .busy }), cel b9 #[.int .i64 xa7, .int .i64 xh8] 93, cel b11 (arrL 8 (Ld (xa7, xh8))).toArray 104] w := hO
      replace hF := hF.sel [1, 2, 3, 4, 5, 6, 7, 13]
      replace hF : Fr 77 [] [(1, .pointer (some ⟨bw, 0, none⟩)), (2, .pointer (some ⟨bc, 0, none⟩)), (3, .pointer (some ⟨bp, 0, none⟩)), (4, .pointer (some ⟨b1, 0, none⟩)), (5, .pointer (some ⟨b2, 0, none⟩)), (6, .pointer (some ⟨b9, 0, none⟩)), (7, .pointer (some ⟨b11, 0, none⟩)), (13, .func (.func 72) #[] #[.pointer (some ⟨b3, 0, none⟩), .pointer (some ⟨b4, 0, none⟩)])] a := hF
      refine W_seq ?_
      refine W_seq (region_d { md := [(0, 3)] } mixed TBok hF (F' := [(1, .pointer (some ⟨bw, 0, none⟩)), (2, .pointer (some ⟨bc, 0, none⟩)), (3, .pointer (some ⟨bp, 0, none⟩)), (4, .pointer (some ⟨b1, 0, none⟩)), (5, .pointer (some ⟨b2, 0, none⟩)), (6, .pointer (some ⟨b9, 0, none⟩)), (7, .pointer (some ⟨b11, 0, none⟩)), (13, .func (.func 72) #[] #[.pointer (some ⟨b3, 0, none⟩), .pointer (some ⟨b4, 0, none⟩)]), (35, .bool (decide ((fsum 8 (Ld (xa7, xh8))) < (d.wks.getD xa7.toNat default).rt)))]) (rs := [.raw (Instr.sliceAt 104 (.pointer (some ⟨b11, 0, none⟩)) none none none) (.slice (some ⟨b11, 0, none⟩) 8 8), .call 59 #[.slice (some ⟨b11, 0, none⟩) 8 8] (.int .i64 (fsum 8 (Ld (xa7, xh8)))), .ld ⟨bw, 3, none⟩ (.slice v.wa v.wn v.wc), .ld ⟨b9, 0, none⟩ (.int .i64 xa7), .idx v.wa v.wn xa7 4 (adr v.wa 4 xa7), .ld ((adr v.wa 4 xa7).add 3) (.int .i64 ((d.wks.getD xa7.toNat default).rt))]) [1, 2, 3, 4, 5, 6, 7, 13, 35] (.cons (raw_slice arrT104) <| .cons (fun w hE => sum_calls ((List.range 8).map (Ld (xa7, xh8))) _ _ _ w (rd_own (fun _ => rfl) (hO.st w hE) 9 rfl (by omega)) (hok.bdd _)) <| .cons (ldr hO.st hp.rw hp.nw 3 (by kernel_rfl)) <| .cons (ldo hO.st 8 rfl 0 rfl) <| .cons (ix hd.wks (by omega) (by omega)) <| .cons (ldx hO.st hnom hd.wks (by omega) (by omega) 3 rfl) <| .nil) (by kernel_rfl) (by kernel_rfl) fun a w hF hE => ?_)
      replace hO := hO.ext hE; clear hE
      rcases Bool.eq_false_or_eq_true (decide ((fsum 8 (Ld (xa7, xh8))) < (d.wks.getD xa7.toNat default).rt)) with hc12 | hc12
      · refine (W_true ((evOp hF (by kernel_rfl)).trans (congrArg Value.bool hc12)) ?_)
        have hc12_ := of_decide_eq_true hc12
        refine W_seq (region_seq ?_)
        refine seq_quiet {} TBok hF (F' := [(1, .pointer (some ⟨bw, 0, none⟩)), (2, .pointer (some ⟨bc, 0, none⟩)), (3, .pointer (some ⟨bp, 0, none⟩)), (4, .pointer (some ⟨b1, 0, none⟩)), (5, .pointer (some ⟨b2, 0, none⟩)), (6, .pointer (some ⟨b9, 0, none⟩)), (7, .pointer (some ⟨b11, 0, none⟩)), (13, .func (.func 72) #[] #[.pointer (some ⟨b3, 0, none⟩), .pointer (some ⟨b4, 0, none⟩)]), (39, .int .i64 (((Ld (xa7, xh8)) lot.toNat) + 1)), (40, .pointer (some ((⟨b11, 0, none⟩ : Addr).add (lot.toNat * 1))))]) (rs := [.ld ⟨b1, 0, none⟩ (.int .i64 lot), .idx (some ⟨b11, 0, none⟩) 8 lot 1 ((⟨b11, 0, none⟩ : Addr).add (lot.toNat * 1)), .ld ((⟨b11, 0, none⟩ : Addr).add (lot.toNat * 1)) (.int .i64 ((Ld (xa7, xh8)) lot.toNat)), .rng (((Ld (xa7, xh8)) lot.toNat) + 1), .idx (some ⟨b11, 0, none⟩) 8 lot 1 ((⟨b11, 0, none⟩ : Addr).add (lot.toNat * 1))]) [0, 1, 2, 3, 4] [5] [1, 2, 3, 4, 5, 6, 7, 13, 39, 40] (.cons (ldo hO.st 2 rfl 0 rfl) <| .cons (ixa (by omega) (by omega)) <| .cons (ldf (pre := []) (n := 8) (f := (Ld (xa7, xh8))) (post := []) hO.st 9 rfl rfl (by omega) (by omega)) <| .cons (rg (by have := hle lot.toNat (by omega); omega)) <| .cons (ixa (by omega) (by omega)) <| .nil) (by kernel_rfl) fun a w hF hE => ?_
        replace hO := hO.ext hE; clear hE
        refine op_storef (k := 5) (t := 3) (x := (((Ld (xa7, xh8)) lot.toNat) + 1)) (n := 8) (pre := []) (post := []) (f := (Ld (xa7, xh8))) (i := lot) (off := 0) hF hO (by kernel_rfl) 9 rfl rfl (by omega) (by omega) (by kernel_rfl) fun a w hF hO _ => ?_
        replace hO : Own w0 (mm bs bl) [mapT bs (.bool false) Value.bool (updt S (xa7, xh8) true), mapT bl zld (arrV 8) Ld, cel b1 #[.int .i64 lot] 3, cel b2 #[.bool false] 4, cel b3 (dayL v d f).toArray 81, cel b4 #[.int .i64 lot] 3, pt D5 (.deferred (some [])), pt (D5 + 1) (.loop { lr6 with state := .busy }), cel b9 #[.int .i64 xa7, .int .i64 xh8] 93, cel b11 (arrL 8 (updf (Ld (xa7, xh8)) lot.toNat (((Ld (xa7, xh8)) lot.toNat) + 1))).toArray 104] w := hO
        replace hF := hF.sel [1, 2, 3, 4, 5, 6, 7, 13]
        replace hF : Fr 77 [] [(1, .pointer (some ⟨bw, 0, none⟩)), (2, .pointer (some ⟨bc, 0, none⟩)), (3, .pointer (some ⟨bp, 0, none⟩)), (4, .pointer (some ⟨b1, 0, none⟩)), (5, .pointer (some ⟨b2, 0, none⟩)), (6, .pointer (some ⟨b9, 0, none⟩)), (7, .pointer (some ⟨b11, 0, none⟩)), (13, .func (.func 72) #[] #[.pointer (some ⟨b3, 0, none⟩), .pointer (some ⟨b4, 0, none⟩)])] a := hF
        refine W_seq (region_seq ?_)
        refine seq_quiet {} TBok hF (F' := [(1, .pointer (some ⟨bw, 0, none⟩)), (2, .pointer (some ⟨bc, 0, none⟩)), (3, .pointer (some ⟨bp, 0, none⟩)), (4, .pointer (some ⟨b1, 0, none⟩)), (5, .pointer (some ⟨b2, 0, none⟩)), (6, .pointer (some ⟨b9, 0, none⟩)), (7, .pointer (some ⟨b11, 0, none⟩)), (13, .func (.func 72) #[] #[.pointer (some ⟨b3, 0, none⟩), .pointer (some ⟨b4, 0, none⟩)]), (42, .map (some bl)), (43, .agg #[.int .i64 xa7, .int .i64 xh8]), (44, .agg (arrL 8 (updf (Ld (xa7, xh8)) lot.toNat (((Ld (xa7, xh8)) lot.toNat) + 1))).toArray)]) (rs := [.ld ⟨bw, 12, none⟩ (.map (some bl)), .lds ⟨b9, 0, none⟩ [.int .i64 xa7, .int .i64 xh8], .lds ⟨b11, 0, none⟩ (arrL 8 (updf (Ld (xa7, xh8)) lot.toNat (((Ld (xa7, xh8)) lot.toNat) + 1)))]) [0, 1, 2, 3] [4] [1, 2, 3, 4, 5, 6, 7, 13, 42, 43, 44] (.cons (ldr hO.st hp.rw hp.nw 12 (by kernel_rfl)) <| .cons (ldso hO.st 8 rfl 0 rfl) <| .cons (ldso hO.st 9 rfl 0 (by kernel_rfl)) <| .nil) (by kernel_rfl) fun a w hF hE => ?_
        replace hO := hO.ext hE; clear hE
        refine op_updt (i := 4) (t := 97) (x := (xa7, xh8)) (v := .agg (arrL 8 (updf (Ld (xa7, xh8)) lot.toNat (((Ld (xa7, xh8)) lot.toNat) + 1))).toArray) (enc := (arrV 8)) (updf (Ld (xa7, xh8)) lot.toNat (((Ld (xa7, xh8)) lot.toNat) + 1)) (by kernel_rfl) mt97 hF hO (by kernel_rfl) 1 rfl fun a w hF hO _ => ?_
        replace hO : Own w0 (mm bs bl) [mapT bs (.bool false) Value.bool (updt S (xa7, xh8) true), mapT bl zld (arrV 8) (updt Ld (xa7, xh8) (updf (Ld (xa7, xh8)) lot.toNat (((Ld (xa7, xh8)) lot.toNat) + 1))), cel b1 #[.int .i64 lot] 3, cel b2 #[.bool false] 4, cel b3 (dayL v d f).toArray 81, cel b4 #[.int .i64 lot] 3, pt D5 (.deferred (some [])), pt (D5 + 1) (.loop { lr6 with state := .busy }), cel b9 #[.int .i64 xa7, .int .i64 xh8] 93, cel b11 (arrL 8 (updf (Ld (xa7, xh8)) lot.toNat (((Ld (xa7, xh8)) lot.toNat) + 1))).toArray 104] w := hO
        replace hF := hF.sel [1, 2, 3, 4, 5, 6, 7, 13]
        replace hF : Fr 77 [] [(1, .pointer (some ⟨bw, 0, none⟩)), (2, .pointer (some ⟨bc, 0, none⟩)), (3, .pointer (some ⟨bp, 0, none⟩)), (4, .pointer (some ⟨b1, 0, none⟩)), (5, .pointer (some ⟨b2, 0, none⟩)), (6, .pointer (some ⟨b9, 0, none⟩)), (7, .pointer (some ⟨b11, 0, none⟩)), (13, .func (.func 72) #[] #[.pointer (some ⟨b3, 0, none⟩), .pointer (some ⟨b4, 0, none⟩)])] a := hF
        refine W_seq (region_seq ?_)
        refine op_store (i := 0) (t := 4) (p := ⟨b2, 0, none⟩) (v := .bool true) (off := 0) (sz := 1) (cs' := #[.bool true]) hF hO (by kernel_rfl) 3 rfl rfl (by kernel_rfl) (by kernel_rfl) (by kernel_rfl) fun a w hF hO _ => ?_
        replace hO : Own w0 (mm bs bl) [mapT bs (.bool false) Value.bool (updt S (xa7, xh8) true), mapT bl zld (arrV 8) (updt Ld (xa7, xh8) (updf (Ld (xa7, xh8)) lot.toNat (((Ld (xa7, xh8)) lot.toNat) + 1))), cel b1 #[.int .i64 lot] 3, cel b2 #[.bool true] 4, cel b3 (dayL v d f).toArray 81, cel b4 #[.int .i64 lot] 3, pt D5 (.deferred (some [])), pt (D5 + 1) (.loop { lr6 with state := .busy }), cel b9 #[.int .i64 xa7, .int .i64 xh8] 93, cel b11 (arrL 8 (updf (Ld (xa7, xh8)) lot.toNat (((Ld (xa7, xh8)) lot.toNat) + 1))).toArray 104] w := hO
        replace hF := hF.sel [1, 2, 3, 4, 5, 6, 7, 13]
        replace hF : Fr 77 [] [(1, .pointer (some ⟨bw, 0, none⟩)), (2, .pointer (some ⟨bc, 0, none⟩)), (3, .pointer (some ⟨bp, 0, none⟩)), (4, .pointer (some ⟨b1, 0, none⟩)), (5, .pointer (some ⟨b2, 0, none⟩)), (6, .pointer (some ⟨b9, 0, none⟩)), (7, .pointer (some ⟨b11, 0, none⟩)), (13, .func (.func 72) #[] #[.pointer (some ⟨b3, 0, none⟩), .pointer (some ⟨b4, 0, none⟩)])] a := hF
        refine W_ret ?_
        show roundPost Try.prog (D5 + 1) (fun e w => ∃ b, e = .returned (.bool b) ∧ Rr b w) Exit.ret a w
        replace hO := hO.drop1 9
        replace hO := hO.drop1 8
        replace hO : Own w0 (mm bs bl) [mapT bs (.bool false) Value.bool (updt S (xa7, xh8) true), mapT bl zld (arrV 8) (updt Ld (xa7, xh8) (updf (Ld (xa7, xh8)) lot.toNat (((Ld (xa7, xh8)) lot.toNat) + 1))), cel b1 #[.int .i64 lot] 3, cel b2 #[.bool true] 4, cel b3 (dayL v d f).toArray 81, cel b4 #[.int .i64 lot] 3, pt D5 (.deferred (some [])), pt (D5 + 1) (.loop { lr6 with state := .busy })] w := hO
        obtain ⟨w, he, hO⟩ := end_round (P := Try.prog) (some .ret) hO 7 rfl
        refine round_stop he ?_
        rw [tryS_room hc10 (of_decide_eq_true hc12)] at heq
        rw [hRr]
        exact ⟨_, _, heq.symm, hO⟩
      · refine (W_false ((evOp hF (by kernel_rfl)).trans (congrArg Value.bool hc12)) ?_)
        have hc12_ := of_decide_eq_false hc12
        refine (W_skip ?_)
        refine W_seq (region_q {} TBok hF (F' := [(1, .pointer (some ⟨bw, 0, none⟩)), (2, .pointer (some ⟨bc, 0, none⟩)), (3, .pointer (some ⟨bp, 0, none⟩)), (4, .pointer (some ⟨b1, 0, none⟩)), (5, .pointer (some ⟨b2, 0, none⟩)), (6, .pointer (some ⟨b9, 0, none⟩)), (7, .pointer (some ⟨b11, 0, none⟩)), (13, .func (.func 72) #[] #[.pointer (some ⟨b3, 0, none⟩), .pointer (some ⟨b4, 0, none⟩)]), (45, .agg (arrL 8 (Ld (xa7, xh8))).toArray), (46, .int .i64 0)]) (rs := [.lds ⟨b11, 0, none⟩ (arrL 8 (Ld (xa7, xh8)))]) [1, 2, 3, 4, 5, 6, 7, 13, 45, 46] (.cons (ldso hO.st 9 rfl 0 (by kernel_rfl)) <| .nil) (by kernel_rfl) fun a w hF hE => ?_)
        replace hO := hO.ext hE; clear hE
        refine (W_block ?_)
        refine (W_loop (fun m a w => ∃ (o : Nat), ∃ (S2 : Int × Int → Bool), ∃ (Ld2 : Int × Int → Nat → Int), m = 8 - o ∧ o ≤ 8 ∧ tryO (takeF d f n) lot (Ld (xa7, xh8)) (List.range' o (8 - o)) ⟨S2, Ld2⟩ = tryO (takeF d f n) lot (Ld (xa7, xh8)) (List.range 8) ⟨updt S (xa7, xh8) true, Ld⟩ ∧ okL d.lots.length Ld2 ∧ (∀ x, updt S (xa7, xh8) true x = true → S2 x = true) ∧ Fr 77 [] [(1, .pointer (some ⟨bw, 0, none⟩)), (2, .pointer (some ⟨bc, 0, none⟩)), (3, .pointer (some ⟨bp, 0, none⟩)), (4, .pointer (some ⟨b1, 0, none⟩)), (5, .pointer (some ⟨b2, 0, none⟩)), (6, .pointer (some ⟨b9, 0, none⟩)), (7, .pointer (some ⟨b11, 0, none⟩)), (13, .func (.func 72) #[] #[.pointer (some ⟨b3, 0, none⟩), .pointer (some ⟨b4, 0, none⟩)]), (45, .agg (arrL 8 (Ld (xa7, xh8))).toArray), (46, .int .i64 (o : Int))] a ∧ Own w0 (mm bs bl) [mapT bs (.bool false) Value.bool S2, mapT bl zld (arrV 8) Ld2, cel b1 #[.int .i64 lot] 3, cel b2 #[.bool false] 4, cel b3 (dayL v d f).toArray 81, cel b4 #[.int .i64 lot] 3, pt D5 (.deferred (some [])), pt (D5 + 1) (.loop { lr6 with state := .busy }), cel b9 #[.int .i64 xa7, .int .i64 xh8] 93, cel b11 (arrL 8 (Ld (xa7, xh8))).toArray 104] w) _ ⟨0, _, _, rfl, Nat.zero_le _, by rw [List.range_eq_range'], hok, fun x hx => hx, hF, hO⟩ ?_)
        clear hF hO
        rintro _ a w ⟨o, S2, Ld2, rfl, ho, heo, hok2, hun2, hF, hO⟩
        refine W_seq (region_q {} TBok hF (F' := [(1, .pointer (some ⟨bw, 0, none⟩)), (2, .pointer (some ⟨bc, 0, none⟩)), (3, .pointer (some ⟨bp, 0, none⟩)), (4, .pointer (some ⟨b1, 0, none⟩)), (5, .pointer (some ⟨b2, 0, none⟩)), (6, .pointer (some ⟨b9, 0, none⟩)), (7, .pointer (some ⟨b11, 0, none⟩)), (13, .func (.func 72) #[] #[.pointer (some ⟨b3, 0, none⟩), .pointer (some ⟨b4, 0, none⟩)]), (45, .agg (arrL 8 (Ld (xa7, xh8))).toArray), (46, .int .i64 (o : Int)), (47, .bool (decide ((o : Int) < 8)))]) (rs := []) [1, 2, 3, 4, 5, 6, 7, 13, 45, 46, 47] .nil (by kernel_rfl) fun a w hF hE => ?_)
        replace hO := hO.ext hE; clear hE
        rcases Bool.eq_false_or_eq_true (decide ((o : Int) < 8)) with hc13 | hc13
        · refine W_seq (W_true ((evOp hF (by kernel_rfl)).trans (congrArg Value.bool hc13)) ?_)
          have hc13_ := of_decide_eq_true hc13
          refine (W_skip ?_)
          refine W_seq (W_block ?_)
          refine W_seq (region_q { md := [(1, 3)] } TBok hF (F' := [(1, .pointer (some ⟨bw, 0, none⟩)), (2, .pointer (some ⟨bc, 0, none⟩)), (3, .pointer (some ⟨bp, 0, none⟩)), (4, .pointer (some ⟨b1, 0, none⟩)), (5, .pointer (some ⟨b2, 0, none⟩)), (6, .pointer (some ⟨b9, 0, none⟩)), (7, .pointer (some ⟨b11, 0, none⟩)), (8, .int .i64 (o : Int)), (9, .int .i64 ((Ld (xa7, xh8)) o)), (13, .func (.func 72) #[] #[.pointer (some ⟨b3, 0, none⟩), .pointer (some ⟨b4, 0, none⟩)]), (45, .agg (arrL 8 (Ld (xa7, xh8))).toArray), (46, .int .i64 (o : Int))]) (rs := [.raw (Instr.index 104 (.agg (arrL 8 (Ld (xa7, xh8))).toArray) (.int .i64 (o : Int))) (.int .i64 ((Ld (xa7, xh8)) o))]) [1, 2, 3, 4, 5, 6, 7, 8, 9, 13, 45, 46] (.cons (raw_index arrT104 (Ld (xa7, xh8)) (by omega) (by omega)) <| .nil) (by kernel_rfl) fun a w hF hE => ?_)
          replace hO := hO.ext hE; clear hE
          refine W_seq (region_seq ?_)
          refine seq_quiet {} TBok hF (F' := [(1, .pointer (some ⟨bw, 0, none⟩)), (2, .pointer (some ⟨bc, 0, none⟩)), (3, .pointer (some ⟨bp, 0, none⟩)), (4, .pointer (some ⟨b1, 0, none⟩)), (5, .pointer (some ⟨b2, 0, none⟩)), (6, .pointer (some ⟨b9, 0, none⟩)), (7, .pointer (some ⟨b11, 0, none⟩)), (8, .int .i64 (o : Int)), (13, .func (.func 72) #[] #[.pointer (some ⟨b3, 0, none⟩), .pointer (some ⟨b4, 0, none⟩)]), (45, .agg (arrL 8 (Ld (xa7, xh8))).toArray), (46, .int .i64 (o : Int)), (52, .bool (decide (((Ld (xa7, xh8)) o) > 0)))]) (rs := []) [0, 1, 2] [3, 4, 5, 6, 7, 8, 9, 10, 11] [1, 2, 3, 4, 5, 6, 7, 8, 13, 45, 46, 52] .nil (by kernel_rfl) fun a w hF hE => ?_
          replace hO := hO.ext hE; clear hE
          rcases Bool.eq_false_or_eq_true (decide (((Ld (xa7, xh8)) o) > 0)) with hc14 | hc14
          · replace hF : Fr 77 [] [(1, .pointer (some ⟨bw, 0, none⟩)), (2, .pointer (some ⟨bc, 0, none⟩)), (3, .pointer (some ⟨bp, 0, none⟩)), (4, .pointer (some ⟨b1, 0, none⟩)), (5, .pointer (some ⟨b2, 0, none⟩)), (6, .pointer (some ⟨b9, 0, none⟩)), (7, .pointer (some ⟨b11, 0, none⟩)), (8, .int .i64 (o : Int)), (13, .func (.func 72) #[] #[.pointer (some ⟨b3, 0, none⟩), .pointer (some ⟨b4, 0, none⟩)]), (45, .agg (arrL 8 (Ld (xa7, xh8))).toArray), (46, .int .i64 (o : Int)), (52, .bool true)] a := hF.cast (by rw [hc14])
            have hc14_ := of_decide_eq_true hc14
            refine seq_quiet {} TBok hF (F' := [(1, .pointer (some ⟨bw, 0, none⟩)), (2, .pointer (some ⟨bc, 0, none⟩)), (3, .pointer (some ⟨bp, 0, none⟩)), (4, .pointer (some ⟨b1, 0, none⟩)), (5, .pointer (some ⟨b2, 0, none⟩)), (6, .pointer (some ⟨b9, 0, none⟩)), (7, .pointer (some ⟨b11, 0, none⟩)), (8, .int .i64 (o : Int)), (13, .func (.func 72) #[] #[.pointer (some ⟨b3, 0, none⟩), .pointer (some ⟨b4, 0, none⟩)]), (45, .agg (arrL 8 (Ld (xa7, xh8))).toArray), (46, .int .i64 (o : Int)), (57, .bool ((o : Int) != lot))]) (rs := [.ld ⟨b1, 0, none⟩ (.int .i64 lot)]) [3, 4, 5, 6, 7] [8, 9, 10, 11] [1, 2, 3, 4, 5, 6, 7, 8, 13, 45, 46, 57] (.cons (ldo hO.st 2 rfl 0 rfl) <| .nil) (by kernel_rfl) fun a w hF hE => ?_
            replace hO := hO.ext hE; clear hE
            rcases Bool.eq_false_or_eq_true ((o : Int) != lot) with hc15 | hc15
            · replace hF : Fr 77 [] [(1, .pointer (some ⟨bw, 0, none⟩)), (2, .pointer (some ⟨bc, 0, none⟩)), (3, .pointer (some ⟨bp, 0, none⟩)), (4, .pointer (some ⟨b1, 0, none⟩)), (5, .pointer (some ⟨b2, 0, none⟩)), (6, .pointer (some ⟨b9, 0, none⟩)), (7, .pointer (some ⟨b11, 0, none⟩)), (8, .int .i64 (o : Int)), (13, .func (.func 72) #[] #[.pointer (some ⟨b3, 0, none⟩), .pointer (some ⟨b4, 0, none⟩)]), (45, .agg (arrL 8 (Ld (xa7, xh8))).toArray), (46, .int .i64 (o : Int)), (57, .bool true)] a := hF.cast (by rw [hc15])
              refine seq_quiet {} TBok hF (F' := [(1, .pointer (some ⟨bw, 0, none⟩)), (2, .pointer (some ⟨bc, 0, none⟩)), (3, .pointer (some ⟨bp, 0, none⟩)), (4, .pointer (some ⟨b1, 0, none⟩)), (5, .pointer (some ⟨b2, 0, none⟩)), (6, .pointer (some ⟨b9, 0, none⟩)), (7, .pointer (some ⟨b11, 0, none⟩)), (8, .int .i64 (o : Int)), (13, .func (.func 72) #[] #[.pointer (some ⟨b3, 0, none⟩), .pointer (some ⟨b4, 0, none⟩)]), (45, .agg (arrL 8 (Ld (xa7, xh8))).toArray), (46, .int .i64 (o : Int)), (57, .bool true), (58, .func (.func 73) #[] #[.pointer (some ⟨bw, 0, none⟩), .pointer (some ⟨bc, 0, none⟩), .pointer (some ⟨bp, 0, none⟩)]), (59, .int .i64 (o : Int))]) (rs := [.ld ⟨bp, 0, none⟩ (.func (.func 73) #[] #[.pointer (some ⟨bw, 0, none⟩), .pointer (some ⟨bc, 0, none⟩), .pointer (some ⟨bp, 0, none⟩)])]) [8, 9] [10, 11] [1, 2, 3, 4, 5, 6, 7, 8, 13, 45, 46, 57, 58, 59] (.cons (ldr hO.st hp.rp hp.np 0 rfl) <| .nil) (by kernel_rfl) fun a w hF hE => ?_
              replace hO := hO.ext hE; clear hE
              have hol := ((hok (xa7, xh8)).1 o (by omega)).2 (of_decide_eq_true hc14)
              have hpre := hp.step hO 0 1 rfl rfl (o : Int) (by omega) hok2 (hp.less hun hun2 (mem_grid.2 ⟨by omega, by omega, by omega, by omega⟩) hc10)
              replace hO := hO.sel [2, 3, 4, 5, 6, 7, 8, 9, 0, 1] (by decide)
              refine op_call (i := 10) (f := 73) (args := #[.int .i64 (o : Int), .pointer (some ⟨bw, 0, none⟩), .pointer (some ⟨bc, 0, none⟩), .pointer (some ⟨bp, 0, none⟩)]) (d := some 60) TBok (by kernel_rfl) hF (by kernel_rfl) (ih _ _ _ hpre) fun e w hR => ?_
              obtain ⟨he, hO2⟩ := hR
              refine ⟨_, he, fun a hF => ?_⟩
              replace hO := Own.join (L1 := [cel b1 #[.int .i64 lot] 3, cel b2 #[.bool false] 4, cel b3 (dayL v d f).toArray 81, cel b4 #[.int .i64 lot] 3, pt D5 (.deferred (some [])), pt (D5 + 1) (.loop { lr6 with state := .busy }), cel b9 #[.int .i64 xa7, .int .i64 xh8] 93, cel b11 (arrL 8 (Ld (xa7, xh8))).toArray 104]) (L2 := [mapT bs (.bool false) Value.bool S2, mapT bl zld (arrV 8) Ld2]) hO hO2 hmm; clear hO2 he hpre
              replace hO := hO.sel [8, 9, 0, 1, 2, 3, 4, 5, 6, 7] (by decide)
              replace hO : Own w0 (mm bs bl) [mapT bs (.bool false) Value.bool ((takeF d f n (o : Int) ⟨S2, Ld2⟩).2.seen), mapT bl zld (arrV 8) ((takeF d f n (o : Int) ⟨S2, Ld2⟩).2.ld), cel b1 #[.int .i64 lot] 3, cel b2 #[.bool false] 4, cel b3 (dayL v d f).toArray 81, cel b4 #[.int .i64 lot] 3, pt D5 (.deferred (some [])), pt (D5 + 1) (.loop { lr6 with state := .busy }), cel b9 #[.int .i64 xa7, .int .i64 xh8] 93, cel b11 (arrL 8 (Ld (xa7, xh8))).toArray 104] w := hO
              refine seq_quiet {} TBok hF (F' := [(1, .pointer (some ⟨bw, 0, none⟩)), (2, .pointer (some ⟨bc, 0, none⟩)), (3, .pointer (some ⟨bp, 0, none⟩)), (4, .pointer (some ⟨b1, 0, none⟩)), (5, .pointer (some ⟨b2, 0, none⟩)), (6, .pointer (some ⟨b9, 0, none⟩)), (7, .pointer (some ⟨b11, 0, none⟩)), (8, .int .i64 (o : Int)), (13, .func (.func 72) #[] #[.pointer (some ⟨b3, 0, none⟩), .pointer (some ⟨b4, 0, none⟩)]), (45, .agg (arrL 8 (Ld (xa7, xh8))).toArray), (46, .int .i64 (o : Int)), (61, .bool ((takeF d f n (o : Int) ⟨S2, Ld2⟩).1))]) (rs := []) [11] [] [1, 2, 3, 4, 5, 6, 7, 8, 13, 45, 46, 61] .nil (by kernel_rfl) fun a w hF hE => ?_
              replace hO := hO.ext hE; clear hE
              rcases Bool.eq_false_or_eq_true ((takeF d f n (o : Int) ⟨S2, Ld2⟩).1) with hc16 | hc16
              · refine (W_true ((evOp hF (by kernel_rfl)).trans (congrArg Value.bool hc16)) ?_)
                refine W_seq (region_seq ?_)
                refine seq_quiet {} TBok hF (F' := [(1, .pointer (some ⟨bw, 0, none⟩)), (2, .pointer (some ⟨bc, 0, none⟩)), (3, .pointer (some ⟨bp, 0, none⟩)), (4, .pointer (some ⟨b1, 0, none⟩)), (5, .pointer (some ⟨b2, 0, none⟩)), (6, .pointer (some ⟨b9, 0, none⟩)), (7, .pointer (some ⟨b11, 0, none⟩)), (8, .int .i64 (o : Int)), (13, .func (.func 72) #[] #[.pointer (some ⟨b3, 0, none⟩), .pointer (some ⟨b4, 0, none⟩)]), (45, .agg (arrL 8 (Ld (xa7, xh8))).toArray), (46, .int .i64 (o : Int)), (65, .int .i64 (((Ld (xa7, xh8)) lot.toNat) + 1)), (66, .pointer (some ((⟨b11, 0, none⟩ : Addr).add (lot.toNat * 1))))]) (rs := [.ld ⟨b1, 0, none⟩ (.int .i64 lot), .idx (some ⟨b11, 0, none⟩) 8 lot 1 ((⟨b11, 0, none⟩ : Addr).add (lot.toNat * 1)), .ld ((⟨b11, 0, none⟩ : Addr).add (lot.toNat * 1)) (.int .i64 ((Ld (xa7, xh8)) lot.toNat)), .rng (((Ld (xa7, xh8)) lot.toNat) + 1), .idx (some ⟨b11, 0, none⟩) 8 lot 1 ((⟨b11, 0, none⟩ : Addr).add (lot.toNat * 1))]) [0, 1, 2, 3, 4] [5] [1, 2, 3, 4, 5, 6, 7, 8, 13, 45, 46, 65, 66] (.cons (ldo hO.st 2 rfl 0 rfl) <| .cons (ixa (by omega) (by omega)) <| .cons (ldf (pre := []) (n := 8) (f := (Ld (xa7, xh8))) (post := []) hO.st 9 rfl rfl (by omega) (by omega)) <| .cons (rg (by have := hle lot.toNat (by omega); omega)) <| .cons (ixa (by omega) (by omega)) <| .nil) (by kernel_rfl) fun a w hF hE => ?_
                replace hO := hO.ext hE; clear hE
                refine op_storef (k := 5) (t := 3) (x := (((Ld (xa7, xh8)) lot.toNat) + 1)) (n := 8) (pre := []) (post := []) (f := (Ld (xa7, xh8))) (i := lot) (off := 0) hF hO (by kernel_rfl) 9 rfl rfl (by omega) (by omega) (by kernel_rfl) fun a w hF hO _ => ?_
                replace hO : Own w0 (mm bs bl) [mapT bs (.bool false) Value.bool ((takeF d f n (o : Int) ⟨S2, Ld2⟩).2.seen), mapT bl zld (arrV 8) ((takeF d f n (o : Int) ⟨S2, Ld2⟩).2.ld), cel b1 #[.int .i64 lot] 3, cel b2 #[.bool false] 4, cel b3 (dayL v d f).toArray 81, cel b4 #[.int .i64 lot] 3, pt D5 (.deferred (some [])), pt (D5 + 1) (.loop { lr6 with state := .busy }), cel b9 #[.int .i64 xa7, .int .i64 xh8] 93, cel b11 (arrL 8 (updf (Ld (xa7, xh8)) lot.toNat (((Ld (xa7, xh8)) lot.toNat) + 1))).toArray 104] w := hO
                replace hF := hF.sel [1, 2, 3, 4, 5, 6, 7, 8, 13, 45, 46]
                replace hF : Fr 77 [] [(1, .pointer (some ⟨bw, 0, none⟩)), (2, .pointer (some ⟨bc, 0, none⟩)), (3, .pointer (some ⟨bp, 0, none⟩)), (4, .pointer (some ⟨b1, 0, none⟩)), (5, .pointer (some ⟨b2, 0, none⟩)), (6, .pointer (some ⟨b9, 0, none⟩)), (7, .pointer (some ⟨b11, 0, none⟩)), (8, .int .i64 (o : Int)), (13, .func (.func 72) #[] #[.pointer (some ⟨b3, 0, none⟩), .pointer (some ⟨b4, 0, none⟩)]), (45, .agg (arrL 8 (Ld (xa7, xh8))).toArray), (46, .int .i64 (o : Int))] a := hF
                refine W_seq (region_seq ?_)
                refine seq_quiet {} TBok hF (F' := [(1, .pointer (some ⟨bw, 0, none⟩)), (2, .pointer (some ⟨bc, 0, none⟩)), (3, .pointer (some ⟨bp, 0, none⟩)), (4, .pointer (some ⟨b1, 0, none⟩)), (5, .pointer (some ⟨b2, 0, none⟩)), (6, .pointer (some ⟨b9, 0, none⟩)), (7, .pointer (some ⟨b11, 0, none⟩)), (13, .func (.func 72) #[] #[.pointer (some ⟨b3, 0, none⟩), .pointer (some ⟨b4, 0, none⟩)]), (45, .agg (arrL 8 (Ld (xa7, xh8))).toArray), (46, .int .i64 (o : Int)), (70, .int .i64 (((updf (Ld (xa7, xh8)) lot.toNat (((Ld (xa7, xh8)) lot.toNat) + 1)) o) - 1)), (71, .pointer (some ((⟨b11, 0, none⟩ : Addr).add ((o : Int).toNat * 1))))]) (rs := [.idx (some ⟨b11, 0, none⟩) 8 (o : Int) 1 ((⟨b11, 0, none⟩ : Addr).add ((o : Int).toNat * 1)), .ld ((⟨b11, 0, none⟩ : Addr).add ((o : Int).toNat * 1)) (.int .i64 ((updf (Ld (xa7, xh8)) lot.toNat (((Ld (xa7, xh8)) lot.toNat) + 1)) o)), .rng (((updf (Ld (xa7, xh8)) lot.toNat (((Ld (xa7, xh8)) lot.toNat) + 1)) o) - 1), .idx (some ⟨b11, 0, none⟩) 8 (o : Int) 1 ((⟨b11, 0, none⟩ : Addr).add ((o : Int).toNat * 1))]) [0, 1, 2, 3, 4] [5] [1, 2, 3, 4, 5, 6, 7, 13, 45, 46, 70, 71] (.cons (ixa (by omega) (by omega)) <| .cons (ldf (pre := []) (n := 8) (f := (updf (Ld (xa7, xh8)) lot.toNat (((Ld (xa7, xh8)) lot.toNat) + 1))) (post := []) hO.st 9 rfl rfl (by omega) (by omega)) <| .cons (rg (by have := hup o (by omega); omega)) <| .cons (ixa (by omega) (by omega)) <| .nil) (by kernel_rfl) fun a w hF hE => ?_
                replace hO := hO.ext hE; clear hE
                refine op_storef (k := 5) (t := 3) (x := (((updf (Ld (xa7, xh8)) lot.toNat (((Ld (xa7, xh8)) lot.toNat) + 1)) o) - 1)) (n := 8) (pre := []) (post := []) (f := (updf (Ld (xa7, xh8)) lot.toNat (((Ld (xa7, xh8)) lot.toNat) + 1))) (i := (o : Int)) (off := 0) hF hO (by kernel_rfl) 9 rfl rfl (by omega) (by omega) (by kernel_rfl) fun a w hF hO _ => ?_
                replace hO : Own w0 (mm bs bl) [mapT bs (.bool false) Value.bool ((takeF d f n (o : Int) ⟨S2, Ld2⟩).2.seen), mapT bl zld (arrV 8) ((takeF d f n (o : Int) ⟨S2, Ld2⟩).2.ld), cel b1 #[.int .i64 lot] 3, cel b2 #[.bool false] 4, cel b3 (dayL v d f).toArray 81, cel b4 #[.int .i64 lot] 3, pt D5 (.deferred (some [])), pt (D5 + 1) (.loop { lr6 with state := .busy }), cel b9 #[.int .i64 xa7, .int .i64 xh8] 93, cel b11 (arrL 8 (updf (updf (Ld (xa7, xh8)) lot.toNat (((Ld (xa7, xh8)) lot.toNat) + 1)) o (((updf (Ld (xa7, xh8)) lot.toNat (((Ld (xa7, xh8)) lot.toNat) + 1)) o) - 1))).toArray 104] w := hO
                replace hF := hF.sel [1, 2, 3, 4, 5, 6, 7, 13, 45, 46]
                replace hF : Fr 77 [] [(1, .pointer (some ⟨bw, 0, none⟩)), (2, .pointer (some ⟨bc, 0, none⟩)), (3, .pointer (some ⟨bp, 0, none⟩)), (4, .pointer (some ⟨b1, 0, none⟩)), (5, .pointer (some ⟨b2, 0, none⟩)), (6, .pointer (some ⟨b9, 0, none⟩)), (7, .pointer (some ⟨b11, 0, none⟩)), (13, .func (.func 72) #[] #[.pointer (some ⟨b3, 0, none⟩), .pointer (some ⟨b4, 0, none⟩)]), (45, .agg (arrL 8 (Ld (xa7, xh8))).toArray), (46, .int .i64 (o : Int))] a := hF
                refine W_seq (region_seq ?_)
                refine seq_quiet {} TBok hF (F' := [(1, .pointer (some ⟨bw, 0, none⟩)), (2, .pointer (some ⟨bc, 0, none⟩)), (3, .pointer (some ⟨bp, 0, none⟩)), (4, .pointer (some ⟨b1, 0, none⟩)), (5, .pointer (some ⟨b2, 0, none⟩)), (6, .pointer (some ⟨b9, 0, none⟩)), (7, .pointer (some ⟨b11, 0, none⟩)), (13, .func (.func 72) #[] #[.pointer (some ⟨b3, 0, none⟩), .pointer (some ⟨b4, 0, none⟩)]), (45, .agg (arrL 8 (Ld (xa7, xh8))).toArray), (46, .int .i64 (o : Int)), (73, .map (some bl)), (74, .agg #[.int .i64 xa7, .int .i64 xh8]), (75, .agg (arrL 8 (updf (updf (Ld (xa7, xh8)) lot.toNat (((Ld (xa7, xh8)) lot.toNat) + 1)) o (((updf (Ld (xa7, xh8)) lot.toNat (((Ld (xa7, xh8)) lot.toNat) + 1)) o) - 1))).toArray)]) (rs := [.ld ⟨bw, 12, none⟩ (.map (some bl)), .lds ⟨b9, 0, none⟩ [.int .i64 xa7, .int .i64 xh8], .lds ⟨b11, 0, none⟩ (arrL 8 (updf (updf (Ld (xa7, xh8)) lot.toNat (((Ld (xa7, xh8)) lot.toNat) + 1)) o (((updf (Ld (xa7, xh8)) lot.toNat (((Ld (xa7, xh8)) lot.toNat) + 1)) o) - 1)))]) [0, 1, 2, 3] [4] [1, 2, 3, 4, 5, 6, 7, 13, 45, 46, 73, 74, 75] (.cons (ldr hO.st hp.rw hp.nw 12 (by kernel_rfl)) <| .cons (ldso hO.st 8 rfl 0 rfl) <| .cons (ldso hO.st 9 rfl 0 (by kernel_rfl)) <| .nil) (by kernel_rfl) fun a w hF hE => ?_
                replace hO := hO.ext hE; clear hE
                refine op_updt (i := 4) (t := 97) (x := (xa7, xh8)) (v := .agg (arrL 8 (updf (updf (Ld (xa7, xh8)) lot.toNat (((Ld (xa7, xh8)) lot.toNat) + 1)) o (((updf (Ld (xa7, xh8)) lot.toNat (((Ld (xa7, xh8)) lot.toNat) + 1)) o) - 1))).toArray) (enc := (arrV 8)) (updf (updf (Ld (xa7, xh8)) lot.toNat (((Ld (xa7, xh8)) lot.toNat) + 1)) o (((updf (Ld (xa7, xh8)) lot.toNat (((Ld (xa7, xh8)) lot.toNat) + 1)) o) - 1)) (by kernel_rfl) mt97 hF hO (by kernel_rfl) 1 rfl fun a w hF hO _ => ?_
                replace hO : Own w0 (mm bs bl) [mapT bs (.bool false) Value.bool ((takeF d f n (o : Int) ⟨S2, Ld2⟩).2.seen), mapT bl zld (arrV 8) (updt ((takeF d f n (o : Int) ⟨S2, Ld2⟩).2.ld) (xa7, xh8) (updf (updf (Ld (xa7, xh8)) lot.toNat (((Ld (xa7, xh8)) lot.toNat) + 1)) o (((updf (Ld (xa7, xh8)) lot.toNat (((Ld (xa7, xh8)) lot.toNat) + 1)) o) - 1))), cel b1 #[.int .i64 lot] 3, cel b2 #[.bool false] 4, cel b3 (dayL v d f).toArray 81, cel b4 #[.int .i64 lot] 3, pt D5 (.deferred (some [])), pt (D5 + 1) (.loop { lr6 with state := .busy }), cel b9 #[.int .i64 xa7, .int .i64 xh8] 93, cel b11 (arrL 8 (updf (updf (Ld (xa7, xh8)) lot.toNat (((Ld (xa7, xh8)) lot.toNat) + 1)) o (((updf (Ld (xa7, xh8)) lot.toNat (((Ld (xa7, xh8)) lot.toNat) + 1)) o) - 1))).toArray 104] w := hO
                replace hF := hF.sel [1, 2, 3, 4, 5, 6, 7, 13, 45, 46]
                replace hF : Fr 77 [] [(1, .pointer (some ⟨bw, 0, none⟩)), (2, .pointer (some ⟨bc, 0, none⟩)), (3, .pointer (some ⟨bp, 0, none⟩)), (4, .pointer (some ⟨b1, 0, none⟩)), (5, .pointer (some ⟨b2, 0, none⟩)), (6, .pointer (some ⟨b9, 0, none⟩)), (7, .pointer (some ⟨b11, 0, none⟩)), (13, .func (.func 72) #[] #[.pointer (some ⟨b3, 0, none⟩), .pointer (some ⟨b4, 0, none⟩)]), (45, .agg (arrL 8 (Ld (xa7, xh8))).toArray), (46, .int .i64 (o : Int))] a := hF
                refine W_seq (region_seq ?_)
                refine op_store (i := 0) (t := 4) (p := ⟨b2, 0, none⟩) (v := .bool true) (off := 0) (sz := 1) (cs' := #[.bool true]) hF hO (by kernel_rfl) 3 rfl rfl (by kernel_rfl) (by kernel_rfl) (by kernel_rfl) fun a w hF hO _ => ?_
                replace hO : Own w0 (mm bs bl) [mapT bs (.bool false) Value.bool ((takeF d f n (o : Int) ⟨S2, Ld2⟩).2.seen), mapT bl zld (arrV 8) (updt ((takeF d f n (o : Int) ⟨S2, Ld2⟩).2.ld) (xa7, xh8) (updf (updf (Ld (xa7, xh8)) lot.toNat (((Ld (xa7, xh8)) lot.toNat) + 1)) o (((updf (Ld (xa7, xh8)) lot.toNat (((Ld (xa7, xh8)) lot.toNat) + 1)) o) - 1))), cel b1 #[.int .i64 lot] 3, cel b2 #[.bool true] 4, cel b3 (dayL v d f).toArray 81, cel b4 #[.int .i64 lot] 3, pt D5 (.deferred (some [])), pt (D5 + 1) (.loop { lr6 with state := .busy }), cel b9 #[.int .i64 xa7, .int .i64 xh8] 93, cel b11 (arrL 8 (updf (updf (Ld (xa7, xh8)) lot.toNat (((Ld (xa7, xh8)) lot.toNat) + 1)) o (((updf (Ld (xa7, xh8)) lot.toNat (((Ld (xa7, xh8)) lot.toNat) + 1)) o) - 1))).toArray 104] w := hO
                replace hF := hF.sel [1, 2, 3, 4, 5, 6, 7, 13, 45, 46]
                replace hF : Fr 77 [] [(1, .pointer (some ⟨bw, 0, none⟩)), (2, .pointer (some ⟨bc, 0, none⟩)), (3, .pointer (some ⟨bp, 0, none⟩)), (4, .pointer (some ⟨b1, 0, none⟩)), (5, .pointer (some ⟨b2, 0, none⟩)), (6, .pointer (some ⟨b9, 0, none⟩)), (7, .pointer (some ⟨b11, 0, none⟩)), (13, .func (.func 72) #[] #[.pointer (some ⟨b3, 0, none⟩), .pointer (some ⟨b4, 0, none⟩)]), (45, .agg (arrL 8 (Ld (xa7, xh8))).toArray), (46, .int .i64 (o : Int))] a := hF
                refine W_ret ?_
                show roundPost Try.prog (D5 + 1) (fun e w => ∃ b, e = .returned (.bool b) ∧ Rr b w) Exit.ret a w
                replace hO := hO.drop1 9
                replace hO := hO.drop1 8
                replace hO : Own w0 (mm bs bl) [mapT bs (.bool false) Value.bool ((takeF d f n (o : Int) ⟨S2, Ld2⟩).2.seen), mapT bl zld (arrV 8) (updt ((takeF d f n (o : Int) ⟨S2, Ld2⟩).2.ld) (xa7, xh8) (updf (updf (Ld (xa7, xh8)) lot.toNat (((Ld (xa7, xh8)) lot.toNat) + 1)) o (((updf (Ld (xa7, xh8)) lot.toNat (((Ld (xa7, xh8)) lot.toNat) + 1)) o) - 1))), cel b1 #[.int .i64 lot] 3, cel b2 #[.bool true] 4, cel b3 (dayL v d f).toArray 81, cel b4 #[.int .i64 lot] 3, pt D5 (.deferred (some [])), pt (D5 + 1) (.loop { lr6 with state := .busy })] w := hO
                obtain ⟨w, he, hO⟩ := end_round (P := Try.prog) (some .ret) hO 7 rfl
                refine round_stop he ?_
                rw [range'_cons (by omega), tryO_hit (of_decide_eq_true hc14) (by simpa using hc15) hc16] at heo
                rw [tryS_swap hc10 (of_decide_eq_false hc12) heo.symm] at heq
                rw [hRr]
                exact ⟨_, _, heq.symm, hO⟩
              · refine (W_false ((evOp hF (by kernel_rfl)).trans (congrArg Value.bool hc16)) ?_)
                refine (W_skip ?_)
                refine (region_q {} TBok hF (F' := [(1, .pointer (some ⟨bw, 0, none⟩)), (2, .pointer (some ⟨bc, 0, none⟩)), (3, .pointer (some ⟨bp, 0, none⟩)), (4, .pointer (some ⟨b1, 0, none⟩)), (5, .pointer (some ⟨b2, 0, none⟩)), (6, .pointer (some ⟨b9, 0, none⟩)), (7, .pointer (some ⟨b11, 0, none⟩)), (13, .func (.func 72) #[] #[.pointer (some ⟨b3, 0, none⟩), .pointer (some ⟨b4, 0, none⟩)]), (45, .agg (arrL 8 (Ld (xa7, xh8))).toArray), (46, .int .i64 ((o : Int) + 1))]) (rs := [.rng ((o : Int) + 1)]) [1, 2, 3, 4, 5, 6, 7, 13, 45, 46] (.cons (rg (by omega)) <| .nil) (by kernel_rfl) fun a w hF hE => ?_)
                replace hO := hO.ext hE; clear hE
                rw [range'_cons (by omega)] at heo
                have hol := ((hok (xa7, xh8)).1 o (by omega)).2 (of_decide_eq_true hc14)
                rw [tryO_fail (of_decide_eq_true hc14) (by simpa using hc15) hc16] at heo
                exact ⟨_, by omega, o + 1, _, _, rfl, by omega, heo, (keeps_take hv n).okL _ _ (by omega) hok2, fun x hx => (keeps_take hv n).seen _ _ x (hun2 x hx), hF, hO⟩
            · replace hF : Fr 77 [] [(1, .pointer (some ⟨bw, 0, none⟩)), (2, .pointer (some ⟨bc, 0, none⟩)), (3, .pointer (some ⟨bp, 0, none⟩)), (4, .pointer (some ⟨b1, 0, none⟩)), (5, .pointer (some ⟨b2, 0, none⟩)), (6, .pointer (some ⟨b9, 0, none⟩)), (7, .pointer (some ⟨b11, 0, none⟩)), (8, .int .i64 (o : Int)), (13, .func (.func 72) #[] #[.pointer (some ⟨b3, 0, none⟩), .pointer (some ⟨b4, 0, none⟩)]), (45, .agg (arrL 8 (Ld (xa7, xh8))).toArray), (46, .int .i64 (o : Int)), (57, .bool false)] a := hF.cast (by rw [hc15])
              refine seq_quiet {} TBok hF (F' := [(1, .pointer (some ⟨bw, 0, none⟩)), (2, .pointer (some ⟨bc, 0, none⟩)), (3, .pointer (some ⟨bp, 0, none⟩)), (4, .pointer (some ⟨b1, 0, none⟩)), (5, .pointer (some ⟨b2, 0, none⟩)), (6, .pointer (some ⟨b9, 0, none⟩)), (7, .pointer (some ⟨b11, 0, none⟩)), (8, .int .i64 (o : Int)), (13, .func (.func 72) #[] #[.pointer (some ⟨b3, 0, none⟩), .pointer (some ⟨b4, 0, none⟩)]), (45, .agg (arrL 8 (Ld (xa7, xh8))).toArray), (46, .int .i64 (o : Int)), (61, .bool false)]) (rs := []) [8, 9, 10, 11] [] [1, 2, 3, 4, 5, 6, 7, 8, 13, 45, 46, 61] .nil (by kernel_rfl) fun a w hF hE => ?_
              replace hO := hO.ext hE; clear hE
              refine (W_false (evOp hF (by kernel_rfl)) ?_)
              refine (W_skip ?_)
              refine (region_q {} TBok hF (F' := [(1, .pointer (some ⟨bw, 0, none⟩)), (2, .pointer (some ⟨bc, 0, none⟩)), (3, .pointer (some ⟨bp, 0, none⟩)), (4, .pointer (some ⟨b1, 0, none⟩)), (5, .pointer (some ⟨b2, 0, none⟩)), (6, .pointer (some ⟨b9, 0, none⟩)), (7, .pointer (some ⟨b11, 0, none⟩)), (13, .func (.func 72) #[] #[.pointer (some ⟨b3, 0, none⟩), .pointer (some ⟨b4, 0, none⟩)]), (45, .agg (arrL 8 (Ld (xa7, xh8))).toArray), (46, .int .i64 ((o : Int) + 1))]) (rs := [.rng ((o : Int) + 1)]) [1, 2, 3, 4, 5, 6, 7, 13, 45, 46] (.cons (rg (by omega)) <| .nil) (by kernel_rfl) fun a w hF hE => ?_)
              replace hO := hO.ext hE; clear hE
              rw [range'_cons (by omega)] at heo
              rw [tryO_skip (fun hc => hc.2 (by simpa using hc15))] at heo
              exact ⟨_, by omega, o + 1, S2, Ld2, rfl, by omega, heo, hok2, hun2, hF, hO⟩
          · replace hF : Fr 77 [] [(1, .pointer (some ⟨bw, 0, none⟩)), (2, .pointer (some ⟨bc, 0, none⟩)), (3, .pointer (some ⟨bp, 0, none⟩)), (4, .pointer (some ⟨b1, 0, none⟩)), (5, .pointer (some ⟨b2, 0, none⟩)), (6, .pointer (some ⟨b9, 0, none⟩)), (7, .pointer (some ⟨b11, 0, none⟩)), (8, .int .i64 (o : Int)), (13, .func (.func 72) #[] #[.pointer (some ⟨b3, 0, none⟩), .pointer (some ⟨b4, 0, none⟩)]), (45, .agg (arrL 8 (Ld (xa7, xh8))).toArray), (46, .int .i64 (o : Int)), (52, .bool false)] a := hF.cast (by rw [hc14])
            have hc14_ := of_decide_eq_false hc14
            refine seq_quiet {} TBok hF (F' := [(1, .pointer (some ⟨bw, 0, none⟩)), (2, .pointer (some ⟨bc, 0, none⟩)), (3, .pointer (some ⟨bp, 0, none⟩)), (4, .pointer (some ⟨b1, 0, none⟩)), (5, .pointer (some ⟨b2, 0, none⟩)), (6, .pointer (some ⟨b9, 0, none⟩)), (7, .pointer (some ⟨b11, 0, none⟩)), (8, .int .i64 (o : Int)), (13, .func (.func 72) #[] #[.pointer (some ⟨b3, 0, none⟩), .pointer (some ⟨b4, 0, none⟩)]), (45, .agg (arrL 8 (Ld (xa7, xh8))).toArray), (46, .int .i64 (o : Int)), (61, .bool false)]) (rs := []) [3, 4, 5, 6, 7, 8, 9, 10, 11] [] [1, 2, 3, 4, 5, 6, 7, 8, 13, 45, 46, 61] .nil (by kernel_rfl) fun a w hF hE => ?_
            replace hO := hO.ext hE; clear hE
            refine (W_false (evOp hF (by kernel_rfl)) ?_)
            refine (W_skip ?_)
            refine (region_q {} TBok hF (F' := [(1, .pointer (some ⟨bw, 0, none⟩)), (2, .pointer (some ⟨bc, 0, none⟩)), (3, .pointer (some ⟨bp, 0, none⟩)), (4, .pointer (some ⟨b1, 0, none⟩)), (5, .pointer (some ⟨b2, 0, none⟩)), (6, .pointer (some ⟨b9, 0, none⟩)), (7, .pointer (some ⟨b11, 0, none⟩)), (13, .func (.func 72) #[] #[.pointer (some ⟨b3, 0, none⟩), .pointer (some ⟨b4, 0, none⟩)]), (45, .agg (arrL 8 (Ld (xa7, xh8))).toArray), (46, .int .i64 ((o : Int) + 1))]) (rs := [.rng ((o : Int) + 1)]) [1, 2, 3, 4, 5, 6, 7, 13, 45, 46] (.cons (rg (by omega)) <| .nil) (by kernel_rfl) fun a w hF hE => ?_)
            replace hO := hO.ext hE; clear hE
            rw [range'_cons (by omega)] at heo
            rw [tryO_skip (fun hc => absurd hc.1 (of_decide_eq_false hc14))] at heo
            exact ⟨_, by omega, o + 1, S2, Ld2, rfl, by omega, heo, hok2, hun2, hF, hO⟩
        · refine W_seq (W_false ((evOp hF (by kernel_rfl)).trans (congrArg Value.bool hc13)) ?_)
          have hc13_ := of_decide_eq_false hc13
          refine (W_exit ?_)
          show roundPost Try.prog (D5 + 1) (fun e w => ∃ b, e = .returned (.bool b) ∧ Rr b w) Exit.normal a w
          replace hO := hO.drop1 9
          replace hO := hO.drop1 8
          replace hO : Own w0 (mm bs bl) [mapT bs (.bool false) Value.bool S2, mapT bl zld (arrV 8) Ld2, cel b1 #[.int .i64 lot] 3, cel b2 #[.bool false] 4, cel b3 (dayL v d f).toArray 81, cel b4 #[.int .i64 lot] 3, pt D5 (.deferred (some [])), pt (D5 + 1) (.loop { lr6 with state := .busy })] w := hO
          obtain ⟨w, he, hO⟩ := end_round (P := Try.prog) none hO 7 rfl
          refine round_next he ?_
          rw [show List.range' o (8 - o) = [] from by rw [show 8 - o = 0 from by omega]; rfl] at heo
          rw [tryS_none hc10 (of_decide_eq_false hc12) heo.symm] at heq
          rw [hRr]
          exact ⟨S2, Ld2, fun y hy => hmem y (List.mem_cons_of_mem _ hy), heq, hok2, fun x hx => hun2 x (updt_le (hun x hx)), hO.cast (by rw [hlr]; rfl)⟩
  · exact ⟨st.seen, st.ld, fun y hy => hy, rfl, hp.ok, fun x hx => hx, hO⟩
  clear hO
  rintro e w ⟨he, hJ | hS⟩
  · obtain ⟨S, Ld, hmem, heq, hok, hun, hO⟩ := hJ
    subst he
    refine ⟨_, rfl, lr6, hO.get 7 rfl, by rw [hlr]; simp [loopR], .inl ⟨by rw [hlr]; rfl, fun a hF => ?_⟩⟩
    replace hO := hO.put 7 rfl (.loop { lr6 with state := .exhausted })
    generalize w.putObj (D5 + 1) (.loop { lr6 with state := .exhausted }) = w at hO ⊢
    replace hO := hO.drop1 7
    replace hO : Own w0 (mm bs bl) [mapT bs (.bool false) Value.bool S, mapT bl zld (arrV 8) Ld, cel b1 #[.int .i64 lot] 3, cel b2 #[.bool false] 4, cel b3 (dayL v d f).toArray 81, cel b4 #[.int .i64 lot] 3, pt D5 (.deferred (some []))] w := hO
    refine W_seq (region_seq ?_)
    refine op_store (i := 0) (t := 4) (p := ⟨b2, 0, none⟩) (v := .bool false) (off := 0) (sz := 1) (cs' := #[.bool false]) hF hO (by kernel_rfl) 3 rfl rfl (by kernel_rfl) (by kernel_rfl) (by kernel_rfl) fun a w hF hO _ => ?_
    replace hO : Own w0 (mm bs bl) [mapT bs (.bool false) Value.bool S, mapT bl zld (arrV 8) Ld, cel b1 #[.int .i64 lot] 3, cel b2 #[.bool false] 4, cel b3 (dayL v d f).toArray 81, cel b4 #[.int .i64 lot] 3, pt D5 (.deferred (some []))] w := hO
    replace hF := hF.sel [5]
    replace hF : Fr 77 [mk D5] [(5, .pointer (some ⟨b2, 0, none⟩))] a := hF
    refine W_ret ?_
    show bodyPostM (FW none) 0 _ _ _ Exit.ret a w
    obtain ⟨w, hs, hO⟩ := shut1 hO 6 rfl
    replace hO : Own w0 (mm bs bl) [mapT bs (.bool false) Value.bool S, mapT bl zld (arrV 8) Ld, cel b1 #[.int .i64 lot] 3, cel b2 #[.bool false] 4, cel b3 (dayL v d f).toArray 81, cel b4 #[.int .i64 lot] 3, pt D5 (.deferred none)] w := hO
    have hO3 := hO.sel [0, 1] (by decide)
    exact leave_r TBok hF hs (vs := [.bool false]) (rs := [.ld ⟨b2, 0, none⟩ (.bool false)]) (.cons (rdo hO 3 rfl 0 rfl) <| .nil) (by kernel_rfl) ⟨by rw [← heq] <;> rfl, hO3.cast (by rw [← heq] <;> rfl)⟩
  · obtain ⟨S, Ld, hend, hO⟩ := hS
    subst he
    refine ⟨_, rfl, { lr6 with state := .done, pending := some .ret }, hO.get 7 rfl, by rw [hlr]; simp [loopR], .inr ⟨rfl, fun a hF => ?_⟩⟩
    replace hO := hO.put 7 rfl (.loop { { lr6 with state := .done, pending := some .ret } with state := .exhausted })
    generalize w.putObj (D5 + 1) (.loop { { lr6 with state := .done, pending := some .ret } with state := .exhausted }) = w at hO ⊢
    replace hO := hO.drop1 7
    replace hO : Own w0 (mm bs bl) [mapT bs (.bool false) Value.bool S, mapT bl zld (arrV 8) Ld, cel b1 #[.int .i64 lot] 3, cel b2 #[.bool true] 4, cel b3 (dayL v d f).toArray 81, cel b4 #[.int .i64 lot] 3, pt D5 (.deferred (some []))] w := hO
    show bodyPostM (FW none) 0 _ _ _ Exit.ret a w
    obtain ⟨w, hs, hO⟩ := shut1 hO 6 rfl
    replace hO : Own w0 (mm bs bl) [mapT bs (.bool false) Value.bool S, mapT bl zld (arrV 8) Ld, cel b1 #[.int .i64 lot] 3, cel b2 #[.bool true] 4, cel b3 (dayL v d f).toArray 81, cel b4 #[.int .i64 lot] 3, pt D5 (.deferred none)] w := hO
    have hO3 := hO.sel [0, 1] (by decide)
    exact leave_r TBok hF hs (vs := [.bool true]) (rs := [.ld ⟨b2, 0, none⟩ (.bool true)]) (.cons (rdo hO 3 rfl 0 rfl) <| .nil) (by kernel_rfl) ⟨by rw [hend] <;> rfl, hO3.cast (by rw [hend] <;> rfl)⟩

theorem put_calls (d : Day) (v : DV) (f : Nat → Int) (bd bs bl bw bc bp : Nat) (hv : dayV d = true) : ∀ (n : Nat) (lot : Int) (st : TS) (w : World), PutPre d v f bd bs bl bw bc bp n lot st w → Calls Try.prog 73 #[.int .i64 lot, .pointer (some ⟨bw, 0, none⟩), .pointer (some ⟨bc, 0, none⟩), .pointer (some ⟨bp, 0, none⟩)] w (PutPost d f bs bl n lot st w)
  | 0, lot, st, w, hp => absurd hp.hn (Nat.not_lt_zero _)
  | n + 1, lot, st, w, hp => put_step d v f bd bs bl bw bc bp n lot st w hv hp (put_calls d v f bd bs bl bw bc bp hv n)

end Go.Proofs.Ytioimdegbdkppaa.DK
